/- SwpP HexP HexW RefFil -/
import Derived.Test.YtmbbhdebddbhoaaGreatR21
set_option maxHeartbeats 2000000
set_option maxRecDepth 100000
set_option linter.all false
namespace Go.Proofs.YtmbbhdebddbhoaaGreat
open Tryz
namespace Cm
open Go.Lib Fil Man Wal Prs Kp
structure Lp where
 m:Kind
 d:Kind
structure Lp.BM(P:Lp):Prop where
 m:P.m.BM
 d:P.d.BM
 apart:∀ x,P.m.ours x=true→P.d.ours x=true→False
structure May(n:Nat)(A:M):Prop where
 up:Up A
 good:Fil.Good A
 room:used A≤C8 n
section
variable {P:Lp}{n:Nat}{A:M}{roots:List T}
def mV(P:Lp)(A:M)(k:T):Option T:=Dk P.m A k
def dV(P:Lp)(A:M)(r:T):Option T:=Dk P.d A r
def VJ(P:Lp)(A:M):List T:=Bj P.m A
def N9(P:Lp)(A:M):List T:=Bj P.d A
def Oj(P:Lp)(A:M)(r:T):List T:=((dV P A r).bind CW).getD []
def Gs(P:Lp)(A:M)(roots:List T)(k:T):Prop:=∃ r∈N9 P A,r∈roots∧k∈Oj P A r
instance (P:Lp) (A:M) (roots:List T) (k:T):Decidable (Gs P A roots k):=inferInstanceAs (Decidable (∃ r∈N9 P A,_))
def Nc(P:Lp)(A:M)(roots:List T):List T:=(N9 P A).filter fun r=>decide (r∉roots)
def I6(P:Lp)(A:M)(roots:List T):List T:=(VJ P A).filter fun k=>decide (¬ Gs P A roots k)
def LU(P:Lp)(A:M)(roots:List T):M:=made A (EM P.d A (Nc P A roots))
def Iu(P:Lp)(A:M)(roots:List T):M:=made (LU P A roots) (EM P.m (LU P A roots) (I6 P A roots))
def Used(P:Lp)(A:M)(k:T):Prop:=∃ r∈N9 P A,k∈Oj P A r
instance (P:Lp) (A:M) (k:T):Decidable (Used P A k):=inferInstanceAs (Decidable (∃ r∈N9 P A,_))
def Xz(P:Lp)(A:M):List T:=(VJ P A).filter fun k=>decide (¬ Used P A k)
theorem akW{K:Kind}(hK:K.BM)(h:May n A){ks:List T}(ht:There K A ks):May n (made A (EM K A ks)):=by
 obtain⟨_,_,h3,h4⟩:=oo hK h.up h.good h.room ht;exact⟨h.up.made _,h.good.made h.up h4,Ap h3 h.room⟩
theorem pF(hP:P.BM)(h:May n A):There P.d A (Nc P A roots):=fun r hr=>(Qs hP.d h.up r).1 ((Et.1 hr).1)
theorem XM(hP:P.BM)(h:May n A):May n (LU P A roots):=akW hP.d h (pF hP h)
theorem ad4(hP:P.BM)(h:May n A)(k:T):mV P (LU P A roots) k=mV P A k:=ag1 hP.d hP.m (fun x h1 h2=>hP.apart x h2 h1) h.up _ k
theorem lD(hP:P.BM)(h:May n A)(r:T):dV P (LU P A roots) r=if r∈roots then dV P A r else none:=by
 unfold dV LU;rw[ag2 h.up h.good (pF hP h)];by_cases hr:r∈roots
 ·rw[Ab hr,Aa (fun e=>by have:=(Et.1 e).2;simp[hr] at this)]
 ·rw[Aa hr];split
  ·rfl
  ·rename_i e
   cases hv:Dk P.d A r with
   |none=>rfl
   |some v=>exact absurd (Et.2 ⟨(Qs hP.d h.up r).2 (by rw[hv];rfl),by simpa using hr⟩) e
theorem zI(hP:P.BM)(h:May n A):There P.m (LU P A roots) (I6 P A roots):=fun k hk=>by
 have:=(Qs hP.m h.up k).1 ((Et.1 hk).1)
 show(mV P (LU P A roots) k).isSome=true
 rw[ad4 hP h];exact this
theorem uz(hP:P.BM)(h:May n A):May n (Iu P A roots):=akW hP.m (XM hP h) (zI hP h)
theorem ad5(hP:P.BM)(h:May n A)(r:T):dV P (Iu P A roots) r=if r∈roots then dV P A r else none:=by
 rw[←lD hP h];exact ag1 hP.m hP.d (fun x h1 h2=>hP.apart x h1 h2) (XM hP h).up _ r
theorem al1(hP:P.BM)(h:May n A)(k:T):k∈I6 P A roots↔((mV P A k).isSome=true∧¬ Gs P A roots k):=by
 unfold I6 VJ;rw[Et,Qs hP.m h.up];simp[mV]
theorem uy(hP:P.BM)(h:May n A)(k:T):mV P (Iu P A roots) k=if Gs P A roots k then mV P A k else none:=by
 unfold mV Iu;rw[ag2 (XM hP h).up (XM hP h).good (zI hP h)];have h1:=ad4 (roots:=roots) hP h k;unfold mV at h1;rw[h1];by_cases hm:Gs P A roots k
 ·rw[Ab hm,Aa (fun e=>((al1 hP h k).1 e).2 hm)]
 ·rw[Aa hm];split
  ·rfl
  ·rename_i e
   cases hv:Dk P.m A k with
   |none=>rfl
   |some v=>exact absurd ((al1 hP h k).2 ⟨by unfold mV;rw[hv];rfl,hm⟩) e
theorem dF(hP:P.BM)(h:May n A)(r:T):r∈N9 P A↔(dV P A r).isSome=true:=Qs hP.d h.up r
theorem mem_keys(hP:P.BM)(h:May n A)(k:T):k∈VJ P A↔(mV P A k).isSome=true:=Qs hP.m h.up k
theorem uI{A':M}{r:T}(h:dV P A' r=dV P A r):Oj P A' r=Oj P A r:=by unfold Oj;rw[h]
theorem an5(hP:P.BM)(h:May n A):N9 P (Iu P A roots)=(N9 P A).filter fun r=>decide (r∈roots):=by
 refine Qw (Iq _) ((Iq _).filter _) fun r=>?_
 show r∈N9 P (Iu P A roots)↔_
 rw[dF hP (uz hP h),ad5 hP h,Et]
 show _↔r∈N9 P A∧_
 rw[dF hP h];by_cases hr:r∈roots<;>simp[hr]
theorem an4(hP:P.BM)(h:May n A)(k:T):Gs P (Iu P A roots) roots k↔Gs P A roots k:=by
 unfold Gs;constructor
 ·rintro⟨r,h1,h2,h3⟩;rw[an5 hP h] at h1;rw[uI (P:=P) (A:=A) (A':=Iu P A roots) (r:=r) (by rw[ad5 hP h,Ab h2])] at h3;exact⟨r,(Et.1 h1).1,h2,h3⟩
 ·rintro⟨r,h1,h2,h3⟩;refine⟨r,?_,h2,?_⟩
  ·rw[an5 hP h];exact Et.2 ⟨h1,by simpa using h2⟩
  ·rw[uI (P:=P) (A:=A) (A':=Iu P A roots) (r:=r) (by rw[ad5 hP h,Ab h2])];exact h3
theorem azk(hP:P.BM)(h:May n A):Xz P (Iu P A roots)=[]:=by
 unfold Xz;rw[List.filter_eq_nil_iff];intro k hk;rw[mem_keys hP (uz hP h),uy hP h] at hk;by_cases hm:Gs P A roots k
 ·obtain⟨r,h1,_,h3⟩:=(an4 hP h k).2 hm;have:Used P (Iu P A roots) k:=⟨r,h1,h3⟩;simpa using this
 ·rw[Aa hm] at hk;cases hk
theorem azj(hP:P.BM)(h:May n A)(k:T):Gs P (LU P A roots) roots k↔Gs P A roots k:=by
 unfold Gs;constructor
 ·rintro⟨r,h1,h2,h3⟩;rw[dF hP (XM hP h),lD hP h,Ab h2] at h1;rw[uI (P:=P) (A:=A) (A':=LU P A roots) (r:=r) (by rw[lD hP h,Ab h2])] at h3;exact⟨r,(dF hP h r).2 h1,h2,h3⟩
 ·rintro⟨r,h1,h2,h3⟩;refine⟨r,?_,h2,?_⟩
  ·rw[dF hP (XM hP h),lD hP h,Ab h2];exact(dF hP h r).1 h1
  ·rw[uI (P:=P) (A:=A) (A':=LU P A roots) (r:=r) (by rw[lD hP h,Ab h2])];exact h3
end
end Cm
namespace Hex
open Go.Lib Fil Man Wal Prs Kp Cm
def Gv(k:Nat):UInt8:=UInt8.ofNat (if k < 10 then 48+k else 87+k)
def EA(s:T):T:=s.flatMap fun b=>[Gv (b.toNat / 16),Gv (b.toNat % 16)]
def val(c:UInt8):Option Nat:=if 48≤c.toNat∧c.toNat≤57 then some (c.toNat -48) else if 97≤c.toNat∧c.toNat≤102 then some (c.toNat -87) else none
def unhexT:T→Option T
 |[]=>some []
 |a :: b :: s=>match val a,val b with
  |some x,some y=>(unhexT s).map (UInt8.ofNat (16*x+y) :: ·)
  |_,_=>none
 |_=>none
theorem ar3{k:Nat}(h:k < 16):(Gv k).toNat=if k < 10 then 48+k else 87+k:=by
 unfold Gv;have:∀ n,n < 256→(UInt8.ofNat n).toNat=n:=fun n hn=>by rw[UInt8.toNat_ofNat'];exact Nat.mod_eq_of_lt hn
 split
 ·exact this _ (by omega)
 ·exact this _ (by omega)
theorem anO{k:Nat}(h:k < 16):val (Gv k)=some k:=by
 unfold val;rw[ar3 h];by_cases e:k < 10
 ·rw[Ab e,Ab ⟨by omega,by omega⟩];congr 1;omega
 ·rw[Aa e,Aa (by omega),Ab ⟨by omega,by omega⟩];congr 1;omega
theorem ain(b:UInt8)(s:T):EA (b :: s)=Gv (b.toNat / 16) :: Gv (b.toNat % 16) :: EA s:=rfl
theorem aim(a b:T):EA (a++b)=EA a++EA b:=by unfold EA;rw[NA]
theorem YR(s:T):(EA s).length=2*s.length:=by
 induction s with
 |nil=>rfl
 |cons b s ih=>rw[ain,Br,Br,ih,Br];omega
theorem anA:∀ s:T,unhexT (EA s)=some s
 |[]=>rfl
 |b :: s=>by
  have hb:=b.toNat_lt;rw[ain,unhexT,anO (by omega),anO (by omega)];simp only;rw[anA s,Ej]
  congr 2
  have:16*(b.toNat / 16)+b.toNat % 16=b.toNat:=by omega
  rw[this];exact UInt8.ofNat_toNat
def MJ(c:UInt8)(name:T):Bool:=name.length == 17 && (name.head? == some c) && (unhexT (name.drop 1)).isSome
def kN(c:UInt8)(k:T):T:=c :: EA ((Sha.Eh k).take 8)
theorem aca(c:UInt8)(k:T):(kN c k).length=17:=by
 unfold kN;rw[Br,YR,AL,Sha.T9];rfl
theorem alj(c:UInt8)(k:T):MJ c (kN c k)=true:=by
 unfold MJ;rw[aca]
 show(true && (some c == some c) && (unhexT (EA ((Sha.Eh k).take 8))).isSome)=true
 rw[anA];simp
def rowOk(p:T×T):Bool:=match CW p.2 with
 |none=>false
 |some l=>decide (AX l=l)
def Ae:Kind:=⟨kN 109,MJ 109,fun _=>true⟩
def A9:Kind:=⟨kN 117,MJ 117,rowOk⟩
def both:Cm.Lp:=⟨Ae,A9⟩
theorem MI:Ae.BM:=⟨alj 109,aca 109⟩
theorem I5:A9.BM:=⟨alj 117,aca 117⟩
theorem Mf:both.BM:=⟨MI,I5,fun x h1 h2=>by
 have a:MJ 109 x=true:=h1;have b:MJ 117 x=true:=h2;unfold MJ at a b;simp only[Bool.and_eq_true,beq_iff_eq] at a b;have:=a.1.2.symm.trans b.1.2;simp at this⟩
end Hex
namespace Hex
open Go.RowKit Go.Maps
open Fil Man
theorem yx{w:World}{b:Nat}{l:List UInt8}{fp:Nat→Prop}(h:DL w b l fp)(x:UInt8)(hlen:l.length+1≤1099511627776):
  Calls prog 189 #[.pointer (some ⟨b,0,none⟩),.int .u8 (x.toNat:Int)] w fun e w'=>e=.returned .nilIface∧∃ fp',DL w' b (l++[x]) fp'∧A7 fp w w'∧D6 fp fp' w:=by
 obtain⟨p,v,hb,hp,hown,hne,Xi,rfl⟩:=h;have mO:=Hi Xi;clear Xi;obtain⟨i0,hi,AQ,AU,AV⟩:=Du aU;go_enter func189,ntmps189;go_wp2_with fail;refine(yO b p v _ hb hp).mono ?_;rintro e w1⟨rfl,Ad,F8⟩;have jb:b < w.heap.size:=(CR.1 hb).1;have atD:b < w1.heap.size:=DK jb F8.size;have Kj:w1.ownsRow 0 5 1 v l.length (BV l):=Bh hown F8 (fun q hq e=>hne (by rw[hq,e]));have c1:w1.cell? ⟨b,1,none⟩=some v:=by rw[Lib.cell_of_heap Ad];rfl
 have DN:=Hi Kj;have HB1:=Hi Ad;have ha:=Aw w1 (.cells #[.int .u8 (x.toNat:Int)] 5);have Ao:=Hi ha;have FE:=DF w1 #[.int .u8 (x.toNat:Int)] 5 0;have Wi:=Hi FE;clear Kj ha FE
 go_wp2_with (at_builtin;refine wpList_append_own_at _ rfl _ _ 232 rfl 0 5 i0 (.int .u8 0) 1 1 underlying232 hi AQ AU AV rfl (by decide) _ _ _ rfl (DN.alloc _) ⟨w1.heap.size,0,none⟩ 1 1 (BV [x]) rfl (by rw[ML];rfl) (by
   intro j u hj;rw[lJ,eG] at hj
   match j,hj with
   |0,hj=>
    rw[add_plain,Wi.out];simpa using hj
   |j+1,hj=>simp at hj) (lL [x]) (by unfold maxLen;omega) (by omega) (by omega) ?_;intro v' w2 BB Az Vs hat;have A8:w2.heap[b]?=some (.cells #[.pointer (some ⟨b,0,none⟩),v] 234):=(Az.block b (by rw[Aq];omega) (fun e=>hne e.symm)).trans ((Ao.block b atD).trans HB1);have d1:w2.cell? ⟨b,1,none⟩=some v:=(by rw[Lib.cell_of_heap A8];rfl);have f1:w2.frozen? ⟨b,1,none⟩=false:=Lib.frozen_of_heap A8 1;obtain⟨ao,cap,rfl⟩:=ownsRow_succ BB;have Ou:=Hi BB;have CS:=Hi Az;have IZ:=Hi hat;have Ag:=Hi A8;clear BB Az Vs hat A8)
 go_ret;have Jd:(Value.slice (some ⟨ao,0,none⟩) (l.length+1) cap).ownBlock≠some b:=by
  rcases IZ.out with hat|hat
  ·rw[hat];exact hne
  ·rw[hat];intro e;have:=G7 e;rw[Aq] at this;omega
 have Ep:A7 (fun k=>k=b∨v.ownBlock=some k) w w2:=((F8.mono (fun i e=>Or.inl e)).trans (A7.of_below (F:=fun k=>k=b∨v.ownBlock=some k) Ao) (fun i e=>.inl e)).trans (A7.of_grownBy (F:=fun k=>k=b∨v.ownBlock=some k) CS (fun q e=>.inr e)) (fun i e=>.inl e);have CP:=Ep.setCell (p:=⟨b,1,none⟩) (.inl (.inl rfl)) (.slice (some ⟨ao,0,none⟩) (l.length+1) cap);refine⟨rfl,fun q=>q=b∨(Value.slice (some ⟨ao,0,none⟩) (l.length+1) cap).ownBlock=some q,⟨some ⟨b,0,none⟩,.slice (some ⟨ao,0,none⟩) (l.length+1) cap,BU w2 b 1 _ _ _ Ag,.inr rfl,?_,Jd,fun e=>by simp at e,rfl⟩,CP,?_⟩
 ·rw[Au,ZP];exact Bh Ou ((A7.refl (fun q=>q=b) w2).setCell (p:=⟨b,1,none⟩) (.inl rfl) _) (fun q hq e=>Jd (by rw[hq,e]))
 ·rintro q (rfl|hq)
  ·exact .inl (.inl rfl)
  ·rcases IZ.out with hat|hat
   ·exact .inl (.inr ((show _=v.ownBlock from hat).symm.trans hq))
   ·rw[hat] at hq;have:=G7 hq;rw[Aq] at this;exact .inr (by have:=F8.size;omega)
def digits:T:=[48,49,50,51,52,53,54,55,56,57,97,98,99,100,101,102]
theorem ar4:∀ k:Fin 16,digits[k.val]'k.isLt=Gv k.val:=by decide
theorem yY(k:Nat)(hk:k < 16)(h:k < ({ data:=#[48,49,50,51,52,53,54,55,56,57,97,98,99,100,101,102] }:ByteArray).size):({ data:=#[48,49,50,51,52,53,54,55,56,57,97,98,99,100,101,102] }:ByteArray)[k]'h=Gv k:=ar4 ⟨k,hk⟩
theorem aio(s:T)(w:World)(hs:s.length≤1000000000):Calls prog 141 #[.string (bs s)] w fun e w'=>e=.returned (.string (bs (EA s)))∧Bw w w':=by
 have Bc:=Hi ((Af w.heap.size w).alloc (Ac _) (.cells #[.pointer none,.slice none 0 0] 234));have D8:=Hi (DL.made w);go_enter func141,ntmps141;go_wp2_with fail
 go_loopw [7] (fun i wr=>∃ (k:Nat) (fp:Nat→Prop),k≤s.length∧i=.int .i64 (k:Int)∧DL wr w.heap.size (EA (s.take k)) fp∧(∀ q,fp q→w.heap.size≤q)∧Bw w wr) (fun i _=>s.length -(intOf i).toNat)
 case atStart=>exact⟨0,_,AB _,rfl,by rw[GZ];exact D8.out,fun q hq=>by
  rcases hq with h|h
  ·omega
  ·simp[Value.ownBlock] at h,Bc⟩
 case round=>
  clear D8 Bc;obtain⟨k,fp,hk,rfl,EO,FU,hb⟩:=hrel;have D8:=Hi EO;have EK:=Hi FU;have HB:=Hi hb;clear EO FU hb;by_cases hlt:k < s.length
  ·have HT:=Hi (show EA (s.take (k+1))=EA (s.take k)++[Gv (s[k].toNat / 16)]++[Gv (s[k].toNat % 16)] from by rw[Cw hlt,aim];simp[EA]);have hlen:(EA (s.take k)).length≤2000000000:=(by rw[YR,AL];omega);have O7:=s[k].toNat_lt;have V8:s[k].toNat / 16 < 16:=(by omega);have zM:s[k].toNat % 16 < 16:=(by omega);go_wp2_with fail;refine(yx D8 _ (by omega)).mono ?_;rintro e w1⟨rfl,Eo,h1,h2,h3⟩;rw[yY _ V8] at h1;have Ps:=Hi h1;have adZ:=Hi (show ∀ q,Eo q→w.heap.size≤q from fun q hq=>(h3 q hq).elim (EK q) (fun e=>Ap HB.size e));have HB1:=Hi (Ca HB h2 EK HB.size);clear h1 h2 h3;go_wp2_with fail;refine(yx Ps _ (by simp;omega)).mono ?_;rintro e w2⟨rfl,fp2,h1,h2,h3⟩;rw[yY _ zM] at h1;have Oo:=Hi h1;have fM:=Hi (show ∀ q,fp2 q→w.heap.size≤q from fun q hq=>(h3 q hq).elim (adZ q) (fun e=>Ap HB1.size e));have Ag:=Hi (Ca HB1 h2 adZ HB1.size);clear h1 h2 h3;go_wp2_with fail;go_roundw
   case rel=>exact⟨k+1,fp2,by omega,by go_num,by rw[HT.out];exact Oo.out,fM,Ag⟩
   case measure=>simp[intOf];omega
  ·obtain rfl:k=s.length:=(by omega);rw[CY] at D8;go_wp2_with fail;refine(WG D8).mono ?_;rintro e w1⟨rfl,hu⟩;have HB1:=Hi (Ca HB hu EK HB.size);clear hu;go_wp2_with fail;go_ret;exact⟨rfl,HB1⟩
theorem afT(c:UInt8)(w:World):Calls prog 216 #[.int .u8 (c.toNat:Int)] w fun e w'=>e=.returned (.tuple #[.int .u8 (((val c).getD 0:Nat):Int),.bool (val c).isSome])∧w=w':=by
 have hc:=c.toNat_lt;by_cases h1:48≤c.toNat∧c.toNat≤57
 ·have hv:Hid (val c=some (c.toNat -48)):=Hi (by unfold val;rw[Ab h1]);have a1:(48:Int)≤(c.toNat:Int):=by omega
  have a2:(c.toNat:Int)≤57:=by omega
  have a3:IntKind.u8.wrap ((c.toNat:Int) -48)=((c.toNat -48:Nat):Int):=by rw[show IntKind.u8.wrap ((c.toNat:Int) -48)=((c.toNat:Int) -48) % 256 by simp[IntKind.wrap,IntKind.bits,IntKind.signed]];omega
  rw[hv.out];clear h1;go_enter func216,ntmps216;go_wp2_with fail;go_ret2;exact⟨rfl,rfl⟩
 ·by_cases h2:97≤c.toNat∧c.toNat≤102
  ·have hv:Hid (val c=some (c.toNat -87)):=Hi (by unfold val;rw[Aa h1,Ab h2]);have a1:(48:Int)≤(c.toNat:Int):=(by omega);have a2:¬ (c.toNat:Int)≤57:=(by omega);have a4:(97:Int)≤(c.toNat:Int):=(by omega);have a5:(c.toNat:Int)≤102:=(by omega);rw[hv.out];clear h1 h2;go_enter func216,ntmps216;go_wp2_with fail;go_ret2;refine⟨?_,rfl⟩
   show Ending.returned (.tuple #[.int .u8 ((c.toNat:Int) -97+10),.bool true])=_
   rw[show((c.toNat:Int) -97+10)=((c.toNat -87:Nat):Int) by omega];try rfl
  ·have hv:Hid (val c=none):=Hi (by unfold val;rw[Aa h1,Aa h2]);rw[hv.out];by_cases b1:48≤c.toNat
   ·have a1:(48:Int)≤(c.toNat:Int):=(by omega);have a2:¬ (c.toNat:Int)≤57:=(by omega);by_cases b2:97≤c.toNat
    ·have a4:(97:Int)≤(c.toNat:Int):=(by omega);have a5:¬ (c.toNat:Int)≤102:=(by omega);clear h1 h2 b1 b2;go_enter func216,ntmps216;go_wp2_with fail;go_ret2;exact⟨rfl,rfl⟩
    ·have a4:¬ (97:Int)≤(c.toNat:Int):=(by omega);clear h1 h2 b1 b2;go_enter func216,ntmps216;go_wp2_with fail;go_ret2;exact⟨rfl,rfl⟩
   ·have a1:¬ (48:Int)≤(c.toNat:Int):=(by omega);have a4:¬ (97:Int)≤(c.toNat:Int):=(by omega);clear h1 h2 b1;go_enter func216,ntmps216;go_wp2_with fail;go_ret2;exact⟨rfl,rfl⟩
theorem anB:∀ (n:Nat) (s:T),s.length≤n→s.length % 2=1→unhexT s=none
 |_,[],_,h=>by simp at h
 |_,[a],_,_=>rfl
 |0,_ :: _ :: _,h,_=>by simp at h
 |n+1,a :: b :: s,h,h2=>by
  rw[unhexT,anB n s (by simp at h;omega) (by simp at h2 ⊢;omega)];cases val a<;>cases val b<;>rfl
theorem azL{s:T}{k:Nat}{S:T}(h:k+1 < s.length)(hS:unhexT s=(unhexT (s.drop k)).map (S++ ·)):unhexT s=match val (s[k]'(by omega)),val s[k+1] with
  |some x,some y=>(unhexT (s.drop (k+2))).map ((S++[UInt8.ofNat (16*x+y)])++ ·)
  |_,_=>none:=by
 have e1:s.drop k=(s[k]'(by omega)) :: s[k+1] :: s.drop (k+2):=by
  rw[Qz (by omega),Qz h]
 rw[hS,e1,unhexT];cases val (s[k]'(by omega)) with
 |none=>rfl
 |some x=>
  cases val s[k+1] with
  |none=>rfl
  |some y=>
   simp only[Option.map_map]
   congr 1
   funext z
   simp
theorem Ji{c:UInt8}{x:Nat}(h:val c=some x):x < 16:=by
 unfold val at h;split at h
 ·simp only[BX] at h;omega
 ·split at h
  ·simp only[BX] at h;omega
  ·cases h
theorem au6:∀ x:Fin 16,∀ y:Fin 16,bits BinOp.or IntKind.u8 ((x.val:Int)*16) (y.val:Int)=((UInt8.ofNat (16*x.val+y.val)).toNat:Int):=by decide+kernel
theorem au5(x y:Nat)(hx:x < 16)(hy:y < 16):bits BinOp.or IntKind.u8 ((x:Int)*16) (y:Int)=((UInt8.ofNat (16*x+y)).toNat:Int):=au6 ⟨x,hx⟩ ⟨y,hy⟩
def Pm(s:T):T×Int:=match unhexT s with|none=>([],7)|some t=>(t,0)
theorem anC(s:T)(w:World)(hs:s.length≤1000000000):Calls prog 180 #[.string (bs s)] w fun e w'=>e=.returned (.tuple #[.string (bs (Pm s).1),.int .i64 (Pm s).2])∧Bw w w':=by
 by_cases Xk:s.length % 2=1
 ·have hR:Hid (Pm s=([],7)):=Hi (by unfold Pm;rw[anB _ s (Ac _) Xk]);have hm:(s.length:Int).tmod 2=1:=by rw[Int.tmod_eq_emod_of_nonneg (by omega)];omega
  have Mr:(s.length:Int) % 2=1:=by omega
  rw[hR.out];clear Xk;go_enter func180,ntmps180;go_wp2_with fail;go_ret2;exact⟨rfl,Af _ _⟩
 ·have hm:(s.length:Int).tmod 2=0:=by rw[Int.tmod_eq_emod_of_nonneg (by omega)];omega
  have Mr:(s.length:Int) % 2=0:=by omega
  have Bc:=Hi ((Af w.heap.size w).alloc (Ac _) (.cells #[.pointer none,.slice none 0 0] 234));have D8:=Hi (DL.made w);have HEV:=Hi Xk;clear Xk;go_enter func180,ntmps180;go_wp2_with fail
  go_loopw [5] (fun i wr=>∃ (m:Nat) (S:T) (fp:Nat→Prop),m % 2=0∧m≤s.length∧i=.int .i64 (m:Int)∧2*S.length=m∧unhexT s=(unhexT (s.drop m)).map (S++ ·)∧DL wr w.heap.size S fp∧(∀ q,fp q→w.heap.size≤q)∧Bw w wr) (fun i _=>s.length -(intOf i).toNat)
  case atStart=>exact⟨0,[],_,rfl,AB _,rfl,rfl,by simp,D8,fun q hq=>by
   rcases hq with h|h
   ·omega
   ·simp[Value.ownBlock] at h,Bc⟩
  case round=>
   clear D8 Bc;obtain⟨m,S,fp,Z4,hk,rfl,YK,TT,EO,FU,hb⟩:=hrel;have D8:=Hi EO;have EK:=Hi FU;have HB:=Hi hb;have NQ:=Hi YK;have HM:=Hi Z4;clear EO FU hb YK Z4;by_cases hlt:m+1 < s.length
   ·have AP:=azL hlt TT;have jF:(m:Int)+1 < (s.length:Int):=(by omega);have LD:m < s.length:=(by omega);have jJ:(0:Int)≤(m:Int)+1:=(by omega);have Pt:=Hi (fun(W:World)=>afT (s[m]'LD) W);have MP:=Hi (fun(W:World)=>afT (s[m+1]'hlt) W);have AR:=Hi AP;clear AP TT;cases P9:val (s[m]'LD) with
    |none=>
     have hR:Hid (Pm s=([],7)):=Hi (by unfold Pm;rw[AR.out,P9]);rw[P9] at Pt;clear P9 AR;go_wp2_with fail;refine(Pt _).mono ?_;rintro e w1⟨rfl,rfl⟩;go_wp2_with fail;refine(MP _).mono ?_;rintro e w2⟨rfl,rfl⟩;go_wp2_with fail;go_ret2;rw[hR.out];exact⟨rfl,HB⟩
    |some x=>
     cases Je:val (s[m+1]'hlt) with
     |none=>
      have hR:Hid (Pm s=([],7)):=Hi (by unfold Pm;rw[AR.out,P9,Je]);rw[P9] at Pt;rw[Je] at MP;clear P9 Je AR;go_wp2_with fail;refine(Pt _).mono ?_;rintro e w1⟨rfl,rfl⟩;go_wp2_with fail;refine(MP _).mono ?_;rintro e w2⟨rfl,rfl⟩;go_wp2_with fail;go_ret2;rw[hR.out];exact⟨rfl,HB⟩
     |some y=>
      have hx:x < 16:=Ji P9;have hy:y < 16:=Ji Je;have BJ:=Hi (show unhexT s=(unhexT (s.drop (m+2))).map ((S++[UInt8.ofNat (16*x+y)])++ ·) from by rw[AR.out,P9,Je]);have Za:bits BinOp.or IntKind.u8 ((x:Int)*16) (y:Int)=((UInt8.ofNat (16*x+y)).toNat:Int):=au5 x y hx hy;have Cz:S.length+1≤1099511627776:=(by have:=NQ.out;omega);rw[P9] at Pt;rw[Je] at MP;clear P9 Je AR;go_wp2_with fail;refine(Pt _).mono ?_;rintro e w1⟨rfl,rfl⟩;go_wp2_with fail;refine(MP _).mono ?_;rintro e w2⟨rfl,rfl⟩;go_wp2_with fail;refine(yx D8 (UInt8.ofNat (16*x+y)) Cz).mono ?_;rintro e w3⟨rfl,bn,h1,h2,h3⟩;have Tk:=Hi h1;have aov:=Hi (show ∀ q,bn q→w.heap.size≤q from fun q hq=>(h3 q hq).elim (EK q) (fun e=>Ap HB.size e));have Am:=Hi (Ca HB h2 EK HB.size);clear h1 h2 h3;go_wp2_with fail;go_roundw
      case rel=>exact⟨m+2,S++[UInt8.ofNat (16*x+y)],bn,by have:=HM.out;omega,by omega,by go_num,by have:=NQ.out;simp;omega,BJ,Tk,aov,Am⟩
      case measure=>simp[intOf];omega
   ·obtain rfl:m=s.length:=(by have:=HM.out;have:=HEV.out;omega);have hR:Hid (Pm s=(S,0)):=Hi (by unfold Pm;rw[TT,List.drop_length];simp[unhexT]);have jF:¬ (s.length:Int)+1 < (s.length:Int):=(by omega);clear TT hlt;go_wp2_with fail;refine(WG D8).mono ?_;rintro e w1⟨rfl,hu⟩;have HB1:=Hi (Ca HB hu EK HB.size);clear hu;go_wp2_with fail;go_ret2;rw[hR.out];exact⟨rfl,HB1⟩
end Hex
section
open Go.RowKit Go.Maps
open Fil Man
@[irreducible] def Da (A:M):List Value:=A.flatMap fun p=>[.string (bs p.1),.string (bs p.2)]
theorem PV:Da []=[]:=by unfold Da;rfl
theorem RY(A:M)(p:T×T):Da (A++[p])=Da A++[.string (bs p.1),.string (bs p.2)]:=by unfold Da;simp
theorem oL(A:M)(k:Nat)(hk:k < A.length)(j:Nat)(hj:j < 2):(Da A)[k*2+j]?=([.string (bs A[k].1),.string (bs A[k].2)]:List Value)[j]? :=by
 unfold Da
 induction A generalizing k with
 |nil=>simp at hk
 |cons c l ih=>
  rw[List.flatMap_cons];cases k with
  |zero=>
   rw[Nat.zero_mul,GJ,List.getElem?_append_left (by simp;omega)];rfl
  |succ k=>
   rw[List.getElem?_append_right (by simp;omega),show(k+1)*2+j -([Value.string (bs c.1),.string (bs c.2)]:List Value).length=k*2+j by simp;omega];exact ih k (by simpa using hk)
abbrev Le(w:World)(base:Nat)(v:Value)(A:M):Prop:=w.ownsRow base 249 2 v A.length (Da A)
theorem arY:(prog.info? 249).map (fun i=>(i.zero,i.size,i.bytes))=some (some (.agg #[.string ByteArray.empty,.string ByteArray.empty]),2,32):=by kernel_rfl
theorem Le.index{w:World}{base cap k:Nat}{q:Option Addr}{A:M}(h:Le w base (.slice q A.length cap) A)(hk:k < A.length):
  ∃ p:Addr,(∀ W,(Instr.indexAt 142 (.slice q A.length cap) (.int .i64 (k:Int))).run prog W=.ok (.pointer (some p)) W)∧w.cell? p=some (.string (bs A[k].1))∧w.cell? ⟨p.block,p.off+1,none⟩=some (.string (bs A[k].2)):=by
 rcases h.2 with⟨e1,e2⟩|⟨g,cap',cur,e1,_⟩
 ·omega
 ·have e2:q=some ⟨g,0,none⟩:=by injection e1
  subst e2;have hc:∀ j,j < 2→∀ v,([.string (bs A[k].1),.string (bs A[k].2)]:List Value)[j]?=some v→w.cell? (((⟨g,0,none⟩:Addr).add (k*2)).add j)=some v:=fun j hj v hv=>by
   rw[←oL A k hk j hj] at hv;have:=h.cells (g:=g) rfl _ _ hv;rw[add_plain] at this ⊢;rw[WC];exact this
  refine⟨_,fun W=>Hr prog _ 249 underlying142 2 (by kernel_rfl) ⟨g,0,none⟩ A.length cap k hk W,?_,?_⟩
  ·have:=hc 0 (by omega) _ rfl;rwa[add_zero'] at this
  ·exact hc 1 (by omega) _ rfl
def GL(w:World)(r:Nat)(v:Value)(A:M)(most:Int):Prop:=w.heap[r]?=some (.cells #[v,.int .i64 most] 144)∧Le w 0 v A
theorem GL.below{w w':World}{r:Nat}{v:Value}{A:M}{most:Int}(h:GL w r v A most)(hb:Bw w w'):GL w' r v A most:=
 ⟨(hb.block r (Ai h.1)).trans h.1,Bh h.2 (ub hb) (fun _ _ f=>f)⟩
theorem GL.noS{w w':World}{r:Nat}{v:Value}{A:M}{most:Int}{bl:Nat→Prop}(h:GL w r v A most)(hu:A7 (Gt w bl) w w'):GL w' r v A most:=
 ⟨hu.noS h.1 (by decide),Bh h.2 hu (fun _ hg e=>e.not (BQ h.2 hg) (by decide))⟩
def putL(c:Aj):Bool→M→M
 |d,[]=>if d then[] else[(c.name,c.data)]
 |d,p :: l=>(if d=false∧¬ p.1 < c.name then[(c.name,c.data)] else[])++((if p.1=c.name then[] else[p])++putL c (d || !decide (p.1 < c.name)) l)
theorem alH(c:Aj)(l:M):putL c true l=l.filter fun p=>!(p.1 == c.name):=by
 induction l with
 |nil=>rfl
 |cons p l ih=>
  unfold putL;rw[Aa (by simp),Bool.true_or,ih,Eu];by_cases h:p.1=c.name
  ·rw[Ab h,QA (by simpa using h)];rfl
  ·rw[Aa h,Uv (by simpa using h)];rfl
theorem alI{c:Aj}{A:M}(h:Up A):putL c c.gone A=Aj.on A c:=by
 unfold Aj.on;cases c.gone with
 |true=>rw[Ab rfl,alH];rfl
 |false=>
  rw[Aa (by simp)];unfold Fil.put
  induction A with
  |nil=>rfl
  |cons p l ih=>
   have hl:=Iw.1 h;unfold putL;by_cases h1:p.1 < c.name
   ·have h2:=Qr h1;rw[Aa (by simp[h1]),Aa (L6 h1),Uv (by simpa using h1),QA (by simpa using h2)];simp only[h1,decide_true,Bool.not_true,Bool.or_self,Eu,GI];rw[ih hl.2]
   ·have AY:∀ q∈l,c.name < q.1:=fun q hq=>by
     rcases kG c.name p.1 with e|e|e
     ·exact XA e (hl.1 q hq)
     ·rw[e];exact hl.1 q hq
     ·exact absurd e h1
    rw[Ab ⟨rfl,h1⟩,QA (by simpa using h1),filter_none (fun q hq=>by simpa using Qr (AY q hq)),Eu];simp only[h1,decide_false,Bool.not_false,Bool.or_true];rw[alH,filter_all (F:=l) (p:=fun p=>!(p.1 == c.name)) (fun q hq=>by simpa using(L6 (AY q hq)).symm)];by_cases h2:p.1=c.name
    ·rw[Ab h2,QA (by rw[h2];simp),filter_all (fun q hq=>by simpa using AY q hq)];rfl
    ·have h3:c.name < p.1:=by
      rcases kG c.name p.1 with e|e|e
      ·exact e
      ·exact absurd e.symm h2
      ·exact absurd e h1
     rw[Aa h2,Uv (by simpa using h3),filter_all (fun q hq=>by simpa using AY q hq)];rfl
section
variable {w w':World}
theorem ay6(n:Nat)(hn:n≤16384)(w:World):Calls prog 139 #[.int .i64 (n:Int)] w fun e w'=>e=.returned (.int .i64 (lg n:Nat))∧w=w':=by
 have hq:(n:Int).tdiv 8=((n / 8:Nat):Int):=by rw[Int.tdiv_eq_ediv_of_nonneg (by omega)];omega
 have hl:lg n=max (n / 8) 2:=rfl;have HL:=Hi hl;clear hl;obtain⟨k,hk⟩:=ex (n / 8);rw[hk] at hq HL;have Kg:k≤16384:=by omega
 clear hk;go_enter func139,ntmps139;go_wp2_with fail;go_ret;refine⟨?_,rfl⟩;rw[HL.out,show((max k 2:Nat):Int)=max (k:Int) 2 by omega];rfl
theorem axI(n:Nat)(h8:8≤n)(hn:n≤16384)(w:World):Calls prog 63 #[.int .i64 (n:Int)] w fun e w'=>e=.returned (.int .i64 (sz n:Nat))∧w=w':=by
 obtain⟨l1,l2,l3⟩:=Zt h8;have hs:Hid (sz n=(n -1 -lg n) / 2):=Hi rfl;have HLG:=Hi (ay6 n hn w);obtain⟨k,hk⟩:=ex (lg n);rw[hk] at hs HLG l1 l3;have hq:((n:Int) -1 -(k:Int)).tdiv 2=(((n -1 -k) / 2:Nat):Int):=by rw[Int.tdiv_eq_ediv_of_nonneg (by omega)];omega
 clear hk l2;go_enter func63,ntmps63;go_wp2_with fail;refine HLG.mono ?_;rintro e w1⟨rfl,rfl⟩;go_wp2_with fail;go_ret;rw[hs.out];exact⟨rfl,rfl⟩
theorem aya{n:Nat}(h8:8≤n):(64*(sz n:Int) -4:Int)=(C8 n:Int):=by
 obtain⟨l1,l2,l3⟩:=Zt h8;unfold C8;omega
theorem ay7(n:Nat)(h8:8≤n)(hn:n≤16384)(w:World):Calls prog 27 #[.int .i64 (n:Int)] w fun e w'=>∃ r,e=.returned (.pointer (some ⟨r,0,none⟩))∧GL w' r (.slice none 0 0) [] (C8 n)∧w.heap.size≤r∧Bw w w':=by
 have HA:=Hi (axI n h8 hn w);have HR:=Hi (aya h8);have hb:sz n≤16384:=by unfold sz;omega
 generalize sz n=k at*;go_enter func27,ntmps27;go_wp2_with fail;refine HA.mono ?_;rintro e w1⟨rfl,rfl⟩;go_wp2_with fail;go_ret;refine⟨w.heap.size,rfl,⟨?_,by show World.ownsRow _ 0 _ 2 _ 0 (Da []);rw[PV];exact EI _ _ _ _⟩,Ac _,Aw _ _⟩;rw[←HR.out];exact AJ _ _
theorem amf(nm dt:T)(g:Bool)(w:World)(h1:nm.length≤maxLen)(h2:dt.length≤maxLen):
  Calls prog 104 #[.agg #[.string (bs nm),.string (bs dt),.bool g]] w fun e w'=>e=.returned (.bool (Aj.may ⟨nm,dt,g⟩))∧Bw w w':=by
 have HB:=Hi (Aw w (.cells #[.string (bs nm),.string (bs dt),.bool g] 65));unfold maxLen at h1 h2;have hn:nm≠[]↔1≤nm.length:=by cases nm<;>simp
 by_cases c1:1≤nm.length∧nm.length≤32∧dt.length≤65535
 ·obtain⟨c1,c2,c3⟩:=c1;have i1:(1:Int)≤(nm.length:Int):=by omega
  have i2:(nm.length:Int)≤32:=by omega
  have i3:(dt.length:Int)≤65535:=by omega
  cases g with
  |false=>
   have hv:Hid (Aj.may ⟨nm,dt,false⟩=true):=Hi (by unfold Aj.may Fw;rw[Kr (show nm≠[]∧nm.length≤32∧dt.length≤65535 from⟨hn.2 c1,c2,c3⟩)];rfl);rw[hv.out];clear hn;go_enter func104,ntmps104;go_wp2_with fail;go_ret;exact⟨by simp,HB⟩
  |true=>
   by_cases h4:dt=[]
   ·have hv:Hid (Aj.may ⟨nm,dt,true⟩=true):=Hi (by unfold Aj.may Fw;rw[Kr (show nm≠[]∧nm.length≤32∧dt.length≤65535 from⟨hn.2 c1,c2,c3⟩),h4];rfl);have hf:dt.isEmpty=true:=(by simpa using h4);rw[hv.out];clear hn h4;go_enter func104,ntmps104;go_wp2_with fail;go_ret;exact⟨by simp,HB⟩
   ·have hf:dt.isEmpty=false:=(by simpa using h4);have hv:Hid (Aj.may ⟨nm,dt,true⟩=false):=Hi (by unfold Aj.may;simp only;rw[hf];simp);rw[hv.out];clear hn h4;go_enter func104,ntmps104;go_wp2_with fail;go_ret;exact⟨by simp,HB⟩
 ·have hv:Hid (Aj.may ⟨nm,dt,g⟩=false):=Hi (by
   unfold Aj.may Fw;rw[Pp (show ¬ (nm≠[]∧nm.length≤32∧dt.length≤65535) from fun e=>c1 ⟨hn.1 e.1,e.2⟩)];rfl)
  rw[hv.out];clear hn;by_cases d1:1≤nm.length
  ·by_cases d2:nm.length≤32
   ·have i1:(1:Int)≤(nm.length:Int):=(by omega);have i2:(nm.length:Int)≤32:=(by omega);have i3:¬ (dt.length:Int)≤65535:=(by omega);clear c1;go_enter func104,ntmps104;go_wp2_with fail;go_ret;exact⟨by simp,HB⟩
   ·have i1:(1:Int)≤(nm.length:Int):=(by omega);have i2:¬ (nm.length:Int)≤32:=(by omega);clear c1;go_enter func104,ntmps104;go_wp2_with fail;go_ret;exact⟨by simp,HB⟩
  ·have i1:¬ (1:Int)≤(nm.length:Int):=(by omega);clear c1;go_enter func104,ntmps104;go_wp2_with fail;go_ret;exact⟨by simp,HB⟩
theorem Le.abZ{base TJ n:Nat}{v:Value}{xs:List Value}(h:w.ownsRow base 249 2 v n xs)(hb:TJ≤base):w.ownsRow TJ 249 2 v n xs:=by
 refine⟨h.1,?_⟩;rcases h.2 with h2|⟨g,cap,cur,e0,GR,h3⟩
 ·exact .inl h2
 ·exact .inr ⟨g,cap,cur,e0,Ap hb GR,h3⟩
end
end
end Go.Proofs.YtmbbhdebddbhoaaGreat
