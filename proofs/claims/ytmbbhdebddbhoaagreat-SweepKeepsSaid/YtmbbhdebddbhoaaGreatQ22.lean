/- SwpP HexP HexW RefFil -/
import Derived.Test.YtmbbhdebddbhoaaGreatQ21
set_option maxHeartbeats 2000000
set_option maxRecDepth 100000
set_option linter.all false
namespace Go.Proofs.YtmbbhdebddbhoaaGreat
open Tryz
namespace BH
open Go.Lib Fil Man Wal Prs Kp
structure Iw where
 m:Kind
 d:Kind
structure Iw.Bf(P:Iw):Prop where
 m:P.m.Bf
 d:P.d.Bf
 apart:∀ x,P.m.ours x=true→P.d.ours x=true→False
structure May(n:Nat)(A:M):Prop where
 up:Up A
 good:Fil.Good A
 room:used A≤Br n
section
variable {P:Iw}{n:Nat}{A:M}{roots:List T}
def mV(P:Iw)(A:M)(k:T):Option T:=Ct P.m A k
def dV(P:Iw)(A:M)(r:T):Option T:=Ct P.d A r
def Jn(P:Iw)(A:M):List T:=Au P.m A
def FD(P:Iw)(A:M):List T:=Au P.d A
def JX(P:Iw)(A:M)(r:T):List T:=((dV P A r).bind C9).getD []
def FE(P:Iw)(A:M)(roots:List T)(k:T):Prop:=∃ r∈FD P A,r∈roots∧k∈JX P A r
instance (P:Iw) (A:M) (roots:List T) (k:T):Decidable (FE P A roots k):=inferInstanceAs (Decidable (∃ r∈FD P A,_))
def F7(P:Iw)(A:M)(roots:List T):List T:=(FD P A).filter fun r=>decide (r∉roots)
def DY(P:Iw)(A:M)(roots:List T):List T:=(Jn P A).filter fun k=>decide (¬ FE P A roots k)
def MF(P:Iw)(A:M)(roots:List T):M:=made A (DC P.d A (F7 P A roots))
def CY(P:Iw)(A:M)(roots:List T):M:=made (MF P A roots) (DC P.m (MF P A roots) (DY P A roots))
def Used(P:Iw)(A:M)(k:T):Prop:=∃ r∈FD P A,k∈JX P A r
instance (P:Iw) (A:M) (k:T):Decidable (Used P A k):=inferInstanceAs (Decidable (∃ r∈FD P A,_))
def Ra(P:Iw)(A:M):List T:=(Jn P A).filter fun k=>decide (¬ Used P A k)
theorem aa5{K:Kind}(hK:K.Bf)(h:May n A){ks:List T}(ht:There K A ks):May n (made A (DC K A ks)):=by
 obtain⟨_,_,h3,h4⟩:=aJ hK h.up h.good h.room ht;exact⟨h.up.made _,h.good.made h.up h4,Ah h3 h.room⟩
theorem aK(hP:P.Bf)(h:May n A):There P.d A (F7 P A roots):=fun r hr=>(LP hP.d h.up r).1 ((CU.1 hr).1)
theorem Xo(hP:P.Bf)(h:May n A):May n (MF P A roots):=aa5 hP.d h (aK hP h)
theorem aa6(hP:P.Bf)(h:May n A)(k:T):mV P (MF P A roots) k=mV P A k:=aa4 hP.d hP.m (fun x h1 h2=>hP.apart x h2 h1) h.up _ k
theorem akp(hP:P.Bf)(h:May n A)(r:T):dV P (MF P A roots) r=if r∈roots then dV P A r else none:=by
 unfold dV MF;rw[aa3 h.up h.good (aK hP h)];by_cases hr:r∈roots
 ·rw[Ac hr,Aa (fun e=>by have:=(CU.1 e).2;simp[hr] at this)]
 ·rw[Aa hr];split
  ·rfl
  ·rename_i e
   cases hv:Ct P.d A r with
   |none=>rfl
   |some v=>exact absurd (CU.2 ⟨(LP hP.d h.up r).2 (by rw[hv];rfl),by simpa using hr⟩) e
theorem l9(hP:P.Bf)(h:May n A):There P.m (MF P A roots) (DY P A roots):=fun k hk=>by
 have:=(LP hP.m h.up k).1 ((CU.1 hk).1)
 show(mV P (MF P A roots) k).isSome=true
 rw[aa6 hP h];exact this
theorem MG(hP:P.Bf)(h:May n A):May n (CY P A roots):=aa5 hP.m (Xo hP h) (l9 hP h)
theorem aL(hP:P.Bf)(h:May n A)(r:T):dV P (CY P A roots) r=if r∈roots then dV P A r else none:=by
 rw[←akp hP h];exact aa4 hP.m hP.d (fun x h1 h2=>hP.apart x h1 h2) (Xo hP h).up _ r
theorem Xp(hP:P.Bf)(h:May n A)(k:T):k∈DY P A roots↔((mV P A k).isSome=true∧¬ FE P A roots k):=by
 unfold DY Jn;rw[CU,LP hP.m h.up];simp[mV]
theorem Rb(hP:P.Bf)(h:May n A)(k:T):mV P (CY P A roots) k=if FE P A roots k then mV P A k else none:=by
 unfold mV CY;rw[aa3 (Xo hP h).up (Xo hP h).good (l9 hP h)];have h1:=aa6 (roots:=roots) hP h k;unfold mV at h1;rw[h1];by_cases hm:FE P A roots k
 ·rw[Ac hm,Aa (fun e=>((Xp hP h k).1 e).2 hm)]
 ·rw[Aa hm];split
  ·rfl
  ·rename_i e
   cases hv:Ct P.m A k with
   |none=>rfl
   |some v=>exact absurd ((Xp hP h k).2 ⟨by unfold mV;rw[hv];rfl,hm⟩) e
theorem aM(hP:P.Bf)(h:May n A)(r:T):r∈FD P A↔(dV P A r).isSome=true:=LP hP.d h.up r
theorem mem_keys(hP:P.Bf)(h:May n A)(k:T):k∈Jn P A↔(mV P A k).isSome=true:=LP hP.m h.up k
theorem lh{A':M}{r:T}(h:dV P A' r=dV P A r):JX P A' r=JX P A r:=by unfold JX;rw[h]
theorem Vd(hP:P.Bf)(h:May n A):FD P (CY P A roots)=(FD P A).filter fun r=>decide (r∈roots):=by
 refine LK (Ew _) ((Ew _).filter _) fun r=>?_
 show r∈FD P (CY P A roots)↔_
 rw[aM hP (MG hP h),aL hP h,CU]
 show _↔r∈FD P A∧_
 rw[aM hP h];by_cases hr:r∈roots<;>simp[hr]
theorem ll(hP:P.Bf)(h:May n A)(k:T):FE P (CY P A roots) roots k↔FE P A roots k:=by
 unfold FE;constructor
 ·rintro⟨r,h1,h2,h3⟩;rw[Vd hP h] at h1;rw[lh (P:=P) (A:=A) (A':=CY P A roots) (r:=r) (by rw[aL hP h,Ac h2])] at h3;exact⟨r,(CU.1 h1).1,h2,h3⟩
 ·rintro⟨r,h1,h2,h3⟩;refine⟨r,?_,h2,?_⟩
  ·rw[Vd hP h];exact CU.2 ⟨h1,by simpa using h2⟩
  ·rw[lh (P:=P) (A:=A) (A':=CY P A roots) (r:=r) (by rw[aL hP h,Ac h2])];exact h3
theorem akq(hP:P.Bf)(h:May n A):F7 P (CY P A roots) roots=[]∧DY P (CY P A roots) roots=[]:=by
 constructor
 ·unfold F7;rw[List.filter_eq_nil_iff,Vd hP h];intro r hr;have:=(CU.1 hr).2;simpa using this
 ·rw[List.eq_nil_iff_forall_not_mem];intro k hk;obtain⟨h1,h2⟩:=(Xp hP (MG hP h) k).1 hk;rw[ll hP h] at h2;rw[Rb hP h,Aa h2] at h1;cases h1
theorem akr(hP:P.Bf)(h:May n A):Ra P (CY P A roots)=[]:=by
 unfold Ra;rw[List.filter_eq_nil_iff];intro k hk;rw[mem_keys hP (MG hP h),Rb hP h] at hk;by_cases hm:FE P A roots k
 ·obtain⟨r,h1,_,h3⟩:=(ll hP h k).2 hm;have:Used P (CY P A roots) k:=⟨r,h1,h3⟩;simpa using this
 ·rw[Aa hm] at hk;cases hk
theorem aks(A:M):F7 P A (FD P A)=[]:=by
 unfold F7;rw[List.filter_eq_nil_iff];intro r hr;simpa using hr
theorem lu(hP:P.Bf)(h:May n A):(FD P A).length=(FD P (CY P A roots)).length+(F7 P A roots).length:=by
 refine kZ (Ew _) (Ew _) ((Ew _).filter _) (fun r=>?_) (fun r h1 h2=>?_)
 ·show r∈FD P A↔r∈FD P (CY P A roots)∨r∈F7 P A roots
  rw[Vd hP h];unfold F7;rw[CU,CU];by_cases hr:r∈roots<;>simp[hr]
 ·have h1':r∈FD P (CY P A roots):=h1;rw[Vd hP h] at h1';have a:=(CU.1 h1').2;have b:=(CU.1 h2).2;simp at a b;exact b a
theorem lC(hP:P.Bf)(h:May n A):(Jn P A).length=(Jn P (CY P A roots)).length+(DY P A roots).length:=by
 refine kZ (Ew _) (Ew _) ((Ew _).filter _) (fun k=>?_) (fun k h1 h2=>?_)
 ·show k∈Jn P A↔k∈Jn P (CY P A roots)∨k∈DY P A roots
  rw[mem_keys hP h,mem_keys hP (MG hP h),Rb hP h,Xp hP h];by_cases hm:FE P A roots k<;>simp[hm]
 ·have h1':k∈Jn P (CY P A roots):=h1;rw[mem_keys hP (MG hP h),Rb hP h,Aa ((Xp hP h k).1 h2).2] at h1';cases h1'
end
end BH
namespace Hex
open Go.Lib Fil Man Wal Prs Kp BH
def EN(k:Nat):UInt8:=UInt8.ofNat (if k < 10 then 48+k else 87+k)
def Dq(s:T):T:=s.flatMap fun b=>[EN (b.toNat / 16),EN (b.toNat % 16)]
def val(c:UInt8):Option Nat:=if 48≤c.toNat∧c.toNat≤57 then some (c.toNat -48) else if 97≤c.toNat∧c.toNat≤102 then some (c.toNat -87) else none
def unhexT:T→Option T
 |[]=>some []
 |a :: b :: s=>match val a,val b with
  |some x,some y=>(unhexT s).map (UInt8.ofNat (16*x+y) :: ·)
  |_,_=>none
 |_=>none
theorem akt{k:Nat}(h:k < 16):(EN k).toNat=if k < 10 then 48+k else 87+k:=by
 unfold EN;have:∀ n,n < 256→(UInt8.ofNat n).toNat=n:=fun n hn=>by rw[UInt8.toNat_ofNat'];exact Nat.mod_eq_of_lt hn
 split
 ·exact this _ (by omega)
 ·exact this _ (by omega)
theorem aa7{k:Nat}(h:k < 16):val (EN k)=some k:=by
 unfold val;rw[akt h];by_cases e:k < 10
 ·rw[Ac e,Ac ⟨by omega,by omega⟩];congr 1;omega
 ·rw[Aa e,Aa (by omega),Ac ⟨by omega,by omega⟩];congr 1;omega
theorem aa8(b:UInt8)(s:T):Dq (b :: s)=EN (b.toNat / 16) :: EN (b.toNat % 16) :: Dq s:=rfl
theorem aa9(a b:T):Dq (a++b)=Dq a++Dq b:=by unfold Dq;rw[Kk]
theorem SY(s:T):(Dq s).length=2*s.length:=by
 induction s with
 |nil=>rfl
 |cons b s ih=>rw[aa8,AX,AX,ih,AX];omega
theorem aac:∀ s:T,unhexT (Dq s)=some s
 |[]=>rfl
 |b :: s=>by
  have hb:=b.toNat_lt;rw[aa8,unhexT,aa7 (by omega),aa7 (by omega)];simp only;rw[aac s,Dm]
  congr 2
  have:16*(b.toNat / 16)+b.toNat % 16=b.toNat:=by omega
  rw[this];exact UInt8.ofNat_toNat
def J2(c:UInt8)(name:T):Bool:=name.length == 17 && (name.head? == some c) && (unhexT (name.drop 1)).isSome
def Xq(c:UInt8)(k:T):T:=c :: Dq ((Sha.De k).take 8)
theorem lD(c:UInt8)(k:T):(Xq c k).length=17:=by
 unfold Xq;rw[AX,SY,Aw,Sha.NI];rfl
theorem aad(c:UInt8)(k:T):J2 c (Xq c k)=true:=by
 unfold J2;rw[lD]
 show(true && (some c == some c) && (unhexT (Dq ((Sha.De k).take 8))).isSome)=true
 rw[aac];simp
def rowOk(p:T×T):Bool:=match C9 p.2 with
 |none=>false
 |some l=>decide (Az l=l)
def A9:Kind:=⟨Xq 109,J2 109,fun _=>true⟩
def A8:Kind:=⟨Xq 117,J2 117,rowOk⟩
def both:BH.Iw:=⟨A9,A8⟩
theorem J3:A9.Bf:=⟨aad 109,lD 109⟩
theorem FH:A8.Bf:=⟨aad 117,lD 117⟩
theorem Ep:both.Bf:=⟨J3,FH,fun x h1 h2=>by
 have a:J2 109 x=true:=h1;have b:J2 117 x=true:=h2;unfold J2 at a b;simp only[Bool.and_eq_true,beq_iff_eq] at a b;have:=a.1.2.symm.trans b.1.2;simp at this⟩
end Hex
namespace Hex
open Go.RowKit Go.Maps
open Fil Man
theorem lF{w:World}{b:Nat}{l:List UInt8}{fp:Nat→Prop}(h:CW w b l fp)(x:UInt8)(hlen:l.length+1≤1099511627776):
  Calls prog 189 #[.pointer (some ⟨b,0,none⟩),.int .u8 (x.toNat:Int)] w fun e w'=>e=.returned .nilIface∧∃ fp',CW w' b (l++[x]) fp'∧A7 fp w w'∧Cg fp fp' w:=by
 obtain⟨p,v,hb,hp,hown,hne,axb,rfl⟩:=h;have Z7:=Hi axb;clear axb;obtain⟨i0,hi,hz0,hz1,hz2⟩:=Cz Ui;go_enter func189,ntmps189;go_wp2_with fail;refine(gy b p v _ hb hp).mono ?_;rintro e w1⟨rfl,hb1,hu1⟩;have ayp:b < w.heap.size:=(BZ.1 hb).1;have aku:b < w1.heap.size:=Di ayp hu1.size;have aut:w1.ownsRow 0 5 1 v l.length (Bn l):=AL hown hu1 (fun q hq e=>hne (by rw[hq,e]));have c1:w1.cell? ⟨b,1,none⟩=some v:=by rw[Lib.cell_of_heap hb1];rfl
 have Cq:=Hi aut;have HB1:=Hi hb1;have ha:=Am w1 (.cells #[.int .u8 (x.toNat:Int)] 5);have Ag:=Hi ha;have atE:=CV w1 #[.int .u8 (x.toNat:Int)] 5 0;have Rc:=Hi atE;clear aut ha atE
 go_wp2_with (at_builtin;refine wpList_append_own_at _ rfl _ _ 232 rfl 0 5 i0 (.int .u8 0) 1 1 underlying232 hi hz0 hz1 hz2 rfl (by decide) _ _ _ rfl (Cq.alloc _) ⟨w1.heap.size,0,none⟩ 1 1 (Bn [x]) rfl (by rw[IP];rfl) (by
   intro j u hj;rw[Wo,Uh] at hj
   match j,hj with
   |0,hj=>
    rw[add_plain,Rc.out];simpa using hj
   |j+1,hj=>simp at hj) (Wn [x]) (by unfold maxLen;omega) (by omega) (by omega) ?_;intro v' w2 asJ asx awR hat;have hb2:w2.heap[b]?=some (.cells #[.pointer (some ⟨b,0,none⟩),v] 234):=(asx.block b (by rw[Ai];omega) (fun e=>hne e.symm)).trans ((Ag.block b aku).trans HB1);have d1:w2.cell? ⟨b,1,none⟩=some v:=(by rw[Lib.cell_of_heap hb2];rfl);have f1:w2.frozen? ⟨b,1,none⟩=false:=Lib.frozen_of_heap hb2 1;obtain⟨ao,cap,rfl⟩:=ownsRow_succ asJ;have KT:=Hi asJ;have HG2:=Hi asx;have HAT:=Hi hat;have HB2:=Hi hb2;clear asJ asx awR hat hb2)
 go_ret;have hv':(Value.slice (some ⟨ao,0,none⟩) (l.length+1) cap).ownBlock≠some b:=by
  rcases HAT.out with hat|hat
  ·rw[hat];exact hne
  ·rw[hat];intro e;have:=EH e;rw[Ai] at this;omega
 have hu2:A7 (fun k=>k=b∨v.ownBlock=some k) w w2:=((hu1.mono (fun i e=>Or.inl e)).trans (A7.of_below (F:=fun k=>k=b∨v.ownBlock=some k) Ag) (fun i e=>.inl e)).trans (A7.of_grownBy (F:=fun k=>k=b∨v.ownBlock=some k) HG2 (fun q e=>.inr e)) (fun i e=>.inl e);have hu3:=hu2.setCell (p:=⟨b,1,none⟩) (.inl (.inl rfl)) (.slice (some ⟨ao,0,none⟩) (l.length+1) cap);refine⟨rfl,fun q=>q=b∨(Value.slice (some ⟨ao,0,none⟩) (l.length+1) cap).ownBlock=some q,⟨some ⟨b,0,none⟩,.slice (some ⟨ao,0,none⟩) (l.length+1) cap,Bh w2 b 1 _ _ _ HB2,.inr rfl,?_,hv',fun e=>by simp at e,rfl⟩,hu3,?_⟩
 ·rw[Aj,RP];exact AL KT ((A7.refl (fun q=>q=b) w2).setCell (p:=⟨b,1,none⟩) (.inl rfl) _) (fun q hq e=>hv' (by rw[hq,e]))
 ·rintro q (rfl|hq)
  ·exact .inl (.inl rfl)
  ·rcases HAT.out with hat|hat
   ·exact .inl (.inr ((show _=v.ownBlock from hat).symm.trans hq))
   ·rw[hat] at hq;have:=EH hq;rw[Ai] at this;exact .inr (by have:=hu1.size;omega)
def digits:T:=[48,49,50,51,52,53,54,55,56,57,97,98,99,100,101,102]
theorem akv:∀ k:Fin 16,digits[k.val]'k.isLt=EN k.val:=by decide
theorem lG(k:Nat)(hk:k < 16)(h:k < ({ data:=#[48,49,50,51,52,53,54,55,56,57,97,98,99,100,101,102] }:ByteArray).size):({ data:=#[48,49,50,51,52,53,54,55,56,57,97,98,99,100,101,102] }:ByteArray)[k]'h=EN k:=akv ⟨k,hk⟩
theorem aae(s:T)(w:World)(hs:s.length≤1000000000):Calls prog 141 #[.string (bs s)] w fun e w'=>e=.returned (.string (bs (Dq s)))∧Bw w w':=by
 have HB0:=Hi ((Ad w.heap.size w).alloc (Ab _) (.cells #[.pointer none,.slice none 0 0] 234));have Ch:=Hi (CW.made w);go_enter func141,ntmps141;go_wp2_with fail
 go_loopw [7] (fun i wr=>∃ (k:Nat) (fp:Nat→Prop),k≤s.length∧i=.int .i64 (k:Int)∧CW wr w.heap.size (Dq (s.take k)) fp∧(∀ q,fp q→w.heap.size≤q)∧Bw w wr) (fun i _=>s.length -(intOf i).toNat)
 case atStart=>exact⟨0,_,Ar _,rfl,by rw[FJ];exact Ch.out,fun q hq=>by
  rcases hq with h|h
  ·omega
  ·simp[Value.ownBlock] at h,HB0⟩
 case round=>
  clear Ch HB0;obtain⟨k,fp,hk,rfl,hbu,hfp,hb⟩:=hrel;have Ch:=Hi hbu;have Dw:=Hi hfp;have HB:=Hi hb;clear hbu hfp hb;by_cases hlt:k < s.length
  ·have HT:=Hi (show Dq (s.take (k+1))=Dq (s.take k)++[EN (s[k].toNat / 16)]++[EN (s[k].toNat % 16)] from by rw[BS hlt,aa9];simp[Dq]);have hlen:(Dq (s.take k)).length≤2000000000:=(by rw[SY,Aw];omega);have hlb:=s[k].toNat_lt;have h16:s[k].toNat / 16 < 16:=(by omega);have lH:s[k].toNat % 16 < 16:=(by omega);go_wp2_with fail;refine(lF Ch _ (by omega)).mono ?_;rintro e w1⟨rfl,Dk,h1,h2,h3⟩;rw[lG _ h16] at h1;have Li:=Hi h1;have aaf:=Hi (show ∀ q,Dk q→w.heap.size≤q from fun q hq=>(h3 q hq).elim (Dw q) (fun e=>Ah HB.size e));have HB1:=Hi (Bu HB h2 Dw HB.size);clear h1 h2 h3;go_wp2_with fail;refine(lF Li _ (by simp;omega)).mono ?_;rintro e w2⟨rfl,fp2,h1,h2,h3⟩;rw[lG _ lH] at h1;have Kr:=Hi h1;have Wx:=Hi (show ∀ q,fp2 q→w.heap.size≤q from fun q hq=>(h3 q hq).elim (aaf q) (fun e=>Ah HB1.size e));have HB2:=Hi (Bu HB1 h2 aaf HB1.size);clear h1 h2 h3;go_wp2_with fail;go_roundw
   case rel=>exact⟨k+1,fp2,by omega,by go_num,by rw[HT.out];exact Kr.out,Wx,HB2⟩
   case measure=>simp[intOf];omega
  ·obtain rfl:k=s.length:=(by omega);rw[Ck] at Ch;go_wp2_with fail;refine(Qs Ch).mono ?_;rintro e w1⟨rfl,hu⟩;have HB1:=Hi (Bu HB hu Dw HB.size);clear hu;go_wp2_with fail;go_ret;exact⟨rfl,HB1⟩
theorem aag(c:UInt8)(w:World):Calls prog 216 #[.int .u8 (c.toNat:Int)] w fun e w'=>e=.returned (.tuple #[.int .u8 (((val c).getD 0:Nat):Int),.bool (val c).isSome])∧w=w':=by
 have hc:=c.toNat_lt;by_cases h1:48≤c.toNat∧c.toNat≤57
 ·have hv:Hid (val c=some (c.toNat -48)):=Hi (by unfold val;rw[Ac h1]);have a1:(48:Int)≤(c.toNat:Int):=by omega
  have a2:(c.toNat:Int)≤57:=by omega
  have a3:IntKind.u8.wrap ((c.toNat:Int) -48)=((c.toNat -48:Nat):Int):=by rw[show IntKind.u8.wrap ((c.toNat:Int) -48)=((c.toNat:Int) -48) % 256 by simp[IntKind.wrap,IntKind.bits,IntKind.signed]];omega
  rw[hv.out];clear h1;go_enter func216,ntmps216;go_wp2_with fail;go_ret2;exact⟨rfl,rfl⟩
 ·by_cases h2:97≤c.toNat∧c.toNat≤102
  ·have hv:Hid (val c=some (c.toNat -87)):=Hi (by unfold val;rw[Aa h1,Ac h2]);have a1:(48:Int)≤(c.toNat:Int):=(by omega);have a2:¬ (c.toNat:Int)≤57:=(by omega);have a4:(97:Int)≤(c.toNat:Int):=(by omega);have a5:(c.toNat:Int)≤102:=(by omega);rw[hv.out];clear h1 h2;go_enter func216,ntmps216;go_wp2_with fail;go_ret2;refine⟨?_,rfl⟩
   show Ending.returned (.tuple #[.int .u8 ((c.toNat:Int) -97+10),.bool true])=_
   rw[show((c.toNat:Int) -97+10)=((c.toNat -87:Nat):Int) by omega];try rfl
  ·have hv:Hid (val c=none):=Hi (by unfold val;rw[Aa h1,Aa h2]);rw[hv.out];by_cases b1:48≤c.toNat
   ·have a1:(48:Int)≤(c.toNat:Int):=(by omega);have a2:¬ (c.toNat:Int)≤57:=(by omega);by_cases b2:97≤c.toNat
    ·have a4:(97:Int)≤(c.toNat:Int):=(by omega);have a5:¬ (c.toNat:Int)≤102:=(by omega);clear h1 h2 b1 b2;go_enter func216,ntmps216;go_wp2_with fail;go_ret2;exact⟨rfl,rfl⟩
    ·have a4:¬ (97:Int)≤(c.toNat:Int):=(by omega);clear h1 h2 b1 b2;go_enter func216,ntmps216;go_wp2_with fail;go_ret2;exact⟨rfl,rfl⟩
   ·have a1:¬ (48:Int)≤(c.toNat:Int):=(by omega);have a4:¬ (97:Int)≤(c.toNat:Int):=(by omega);clear h1 h2 b1;go_enter func216,ntmps216;go_wp2_with fail;go_ret2;exact⟨rfl,rfl⟩
theorem aah:∀ (n:Nat) (s:T),s.length≤n→s.length % 2=1→unhexT s=none
 |_,[],_,h=>by simp at h
 |_,[a],_,_=>rfl
 |0,_ :: _ :: _,h,_=>by simp at h
 |n+1,a :: b :: s,h,h2=>by
  rw[unhexT,aah n s (by simp at h;omega) (by simp at h2 ⊢;omega)];cases val a<;>cases val b<;>rfl
theorem akw{s:T}{k:Nat}{S:T}(h:k+1 < s.length)(hS:unhexT s=(unhexT (s.drop k)).map (S++ ·)):unhexT s=match val (s[k]'(by omega)),val s[k+1] with
  |some x,some y=>(unhexT (s.drop (k+2))).map ((S++[UInt8.ofNat (16*x+y)])++ ·)
  |_,_=>none:=by
 have e1:s.drop k=(s[k]'(by omega)) :: s[k+1] :: s.drop (k+2):=by
  rw[Na (by omega),Na h]
 rw[hS,e1,unhexT];cases val (s[k]'(by omega)) with
 |none=>rfl
 |some x=>
  cases val s[k+1] with
  |none=>rfl
  |some y=>
   simp only[Option.map_map]
   congr 1
   funext z
   simp
theorem Gg{c:UInt8}{x:Nat}(h:val c=some x):x < 16:=by
 unfold val at h;split at h
 ·simp only[Bt] at h;omega
 ·split at h
  ·simp only[Bt] at h;omega
  ·cases h
theorem akx:∀ x:Fin 16,∀ y:Fin 16,bits BinOp.or IntKind.u8 ((x.val:Int)*16) (y.val:Int)=((UInt8.ofNat (16*x.val+y.val)).toNat:Int):=by decide+kernel
theorem aky(x y:Nat)(hx:x < 16)(hy:y < 16):bits BinOp.or IntKind.u8 ((x:Int)*16) (y:Int)=((UInt8.ofNat (16*x+y)).toNat:Int):=akx ⟨x,hx⟩ ⟨y,hy⟩
def KU(s:T):T×Int:=match unhexT s with|none=>([],7)|some t=>(t,0)
theorem aai(s:T)(w:World)(hs:s.length≤1000000000):Calls prog 180 #[.string (bs s)] w fun e w'=>e=.returned (.tuple #[.string (bs (KU s).1),.int .i64 (KU s).2])∧Bw w w':=by
 by_cases axd:s.length % 2=1
 ·have hR:Hid (KU s=([],7)):=Hi (by unfold KU;rw[aah _ s (Ab _) axd]);have hm:(s.length:Int).tmod 2=1:=by rw[Int.tmod_eq_emod_of_nonneg (by omega)];omega
  have hm2:(s.length:Int) % 2=1:=by omega
  rw[hR.out];clear axd;go_enter func180,ntmps180;go_wp2_with fail;go_ret2;exact⟨rfl,Ad _ _⟩
 ·have hm:(s.length:Int).tmod 2=0:=by rw[Int.tmod_eq_emod_of_nonneg (by omega)];omega
  have hm2:(s.length:Int) % 2=0:=by omega
  have HB0:=Hi ((Ad w.heap.size w).alloc (Ab _) (.cells #[.pointer none,.slice none 0 0] 234));have Ch:=Hi (CW.made w);have HEV:=Hi axd;clear axd;go_enter func180,ntmps180;go_wp2_with fail
  go_loopw [5] (fun i wr=>∃ (m:Nat) (S:T) (fp:Nat→Prop),m % 2=0∧m≤s.length∧i=.int .i64 (m:Int)∧2*S.length=m∧unhexT s=(unhexT (s.drop m)).map (S++ ·)∧CW wr w.heap.size S fp∧(∀ q,fp q→w.heap.size≤q)∧Bw w wr) (fun i _=>s.length -(intOf i).toNat)
  case atStart=>exact⟨0,[],_,rfl,Ar _,rfl,rfl,by simp,Ch,fun q hq=>by
   rcases hq with h|h
   ·omega
   ·simp[Value.ownBlock] at h,HB0⟩
  case round=>
   clear Ch HB0;obtain⟨m,S,fp,hm0,hk,rfl,RX,OG,hbu,hfp,hb⟩:=hrel;have Ch:=Hi hbu;have Dw:=Hi hfp;have HB:=Hi hb;have JJ:=Hi RX;have HM:=Hi hm0;clear hbu hfp hb RX hm0;by_cases hlt:m+1 < s.length
   ·have hst:=akw hlt OG;have Xr:(m:Int)+1 < (s.length:Int):=(by omega);have hl0:m < s.length:=(by omega);have hnn:(0:Int)≤(m:Int)+1:=(by omega);have HD1:=Hi (fun(W:World)=>aag (s[m]'hl0) W);have HD2:=Hi (fun(W:World)=>aag (s[m+1]'hlt) W);have HST:=Hi hst;clear hst OG;cases hv1:val (s[m]'hl0) with
    |none=>
     have hR:Hid (KU s=([],7)):=Hi (by unfold KU;rw[HST.out,hv1]);rw[hv1] at HD1;clear hv1 HST;go_wp2_with fail;refine(HD1 _).mono ?_;rintro e w1⟨rfl,rfl⟩;go_wp2_with fail;refine(HD2 _).mono ?_;rintro e w2⟨rfl,rfl⟩;go_wp2_with fail;go_ret2;rw[hR.out];exact⟨rfl,HB⟩
    |some x=>
     cases hv2:val (s[m+1]'hlt) with
     |none=>
      have hR:Hid (KU s=([],7)):=Hi (by unfold KU;rw[HST.out,hv1,hv2]);rw[hv1] at HD1;rw[hv2] at HD2;clear hv1 hv2 HST;go_wp2_with fail;refine(HD1 _).mono ?_;rintro e w1⟨rfl,rfl⟩;go_wp2_with fail;refine(HD2 _).mono ?_;rintro e w2⟨rfl,rfl⟩;go_wp2_with fail;go_ret2;rw[hR.out];exact⟨rfl,HB⟩
     |some y=>
      have hx:x < 16:=Gg hv1;have hy:y < 16:=Gg hv2;have HS2:=Hi (show unhexT s=(unhexT (s.drop (m+2))).map ((S++[UInt8.ofNat (16*x+y)])++ ·) from by rw[HST.out,hv1,hv2]);have hor:bits BinOp.or IntKind.u8 ((x:Int)*16) (y:Int)=((UInt8.ofNat (16*x+y)).toNat:Int):=aky x y hx hy;have hsl:S.length+1≤1099511627776:=(by have:=JJ.out;omega);rw[hv1] at HD1;rw[hv2] at HD2;clear hv1 hv2 HST;go_wp2_with fail;refine(HD1 _).mono ?_;rintro e w1⟨rfl,rfl⟩;go_wp2_with fail;refine(HD2 _).mono ?_;rintro e w2⟨rfl,rfl⟩;go_wp2_with fail;refine(lF Ch (UInt8.ofNat (16*x+y)) hsl).mono ?_;rintro e w3⟨rfl,UI,h1,h2,h3⟩;have O8:=Hi h1;have akA:=Hi (show ∀ q,UI q→w.heap.size≤q from fun q hq=>(h3 q hq).elim (Dw q) (fun e=>Ah HB.size e));have HB3:=Hi (Bu HB h2 Dw HB.size);clear h1 h2 h3;go_wp2_with fail;go_roundw
      case rel=>exact⟨m+2,S++[UInt8.ofNat (16*x+y)],UI,by have:=HM.out;omega,by omega,by go_num,by have:=JJ.out;simp;omega,HS2,O8,akA,HB3⟩
      case measure=>simp[intOf];omega
   ·obtain rfl:m=s.length:=(by have:=HM.out;have:=HEV.out;omega);have hR:Hid (KU s=(S,0)):=Hi (by unfold KU;rw[OG,List.drop_length];simp[unhexT]);have Xr:¬ (s.length:Int)+1 < (s.length:Int):=(by omega);clear OG hlt;go_wp2_with fail;refine(Qs Ch).mono ?_;rintro e w1⟨rfl,hu⟩;have HB1:=Hi (Bu HB hu Dw HB.size);clear hu;go_wp2_with fail;go_ret2;rw[hR.out];exact⟨rfl,HB1⟩
end Hex
section
open Go.RowKit Go.Maps
open Fil Man
@[irreducible] def Cj (A:M):List Value:=A.flatMap fun p=>[.string (bs p.1),.string (bs p.2)]
theorem LQ:Cj []=[]:=by unfold Cj;rfl
theorem NJ(A:M)(p:T×T):Cj (A++[p])=Cj A++[.string (bs p.1),.string (bs p.2)]:=by unfold Cj;simp
theorem aN(A:M)(k:Nat)(hk:k < A.length)(j:Nat)(hj:j < 2):(Cj A)[k*2+j]?=([.string (bs A[k].1),.string (bs A[k].2)]:List Value)[j]? :=by
 unfold Cj
 induction A generalizing k with
 |nil=>simp at hk
 |cons c l ih=>
  rw[List.flatMap_cons];cases k with
  |zero=>
   rw[Nat.zero_mul,Fs,List.getElem?_append_left (by simp;omega)];rfl
  |succ k=>
   rw[List.getElem?_append_right (by simp;omega),show(k+1)*2+j -([Value.string (bs c.1),.string (bs c.2)]:List Value).length=k*2+j by simp;omega];exact ih k (by simpa using hk)
abbrev Iz(w:World)(base:Nat)(v:Value)(A:M):Prop:=w.ownsRow base 249 2 v A.length (Cj A)
theorem akB:(prog.info? 249).map (fun i=>(i.zero,i.size,i.bytes))=some (some (.agg #[.string ByteArray.empty,.string ByteArray.empty]),2,32):=by kernel_rfl
theorem Iz.index{w:World}{base cap k:Nat}{q:Option Addr}{A:M}(h:Iz w base (.slice q A.length cap) A)(hk:k < A.length):
  ∃ p:Addr,(∀ W,(Instr.indexAt 142 (.slice q A.length cap) (.int .i64 (k:Int))).run prog W=.ok (.pointer (some p)) W)∧w.cell? p=some (.string (bs A[k].1))∧w.cell? ⟨p.block,p.off+1,none⟩=some (.string (bs A[k].2)):=by
 rcases h.2 with⟨e1,e2⟩|⟨g,cap',cur,e1,_⟩
 ·omega
 ·have e2:q=some ⟨g,0,none⟩:=by injection e1
  subst e2;have hc:∀ j,j < 2→∀ v,([.string (bs A[k].1),.string (bs A[k].2)]:List Value)[j]?=some v→w.cell? (((⟨g,0,none⟩:Addr).add (k*2)).add j)=some v:=fun j hj v hv=>by
   rw[←aN A k hk j hj] at hv;have:=h.cells (g:=g) rfl _ _ hv;rw[add_plain] at this ⊢;rw[Qr];exact this
  refine⟨_,fun W=>Fw prog _ 249 underlying142 2 (by kernel_rfl) ⟨g,0,none⟩ A.length cap k hk W,?_,?_⟩
  ·have:=hc 0 (by omega) _ rfl;rwa[add_zero'] at this
  ·exact hc 1 (by omega) _ rfl
def F8(w:World)(r:Nat)(v:Value)(A:M)(most:Int):Prop:=w.heap[r]?=some (.cells #[v,.int .i64 most] 144)∧Iz w 0 v A
theorem F8.below{w w':World}{r:Nat}{v:Value}{A:M}{most:Int}(h:F8 w r v A most)(hb:Bw w w'):F8 w' r v A most:=
 ⟨(hb.block r (Ae h.1)).trans h.1,AL h.2 (ub hb) (fun _ _ f=>f)⟩
theorem F8.ko{w w':World}{r:Nat}{v:Value}{A:M}{most:Int}{bl:Nat→Prop}(h:F8 w r v A most)(hu:A7 (FB w bl) w w'):F8 w' r v A most:=
 ⟨hu.ko h.1 (by decide),AL h.2 hu (fun _ hg e=>e.not (Bi h.2 hg) (by decide))⟩
def putL(c:Af):Bool→M→M
 |d,[]=>if d then[] else[(c.name,c.data)]
 |d,p :: l=>(if d=false∧¬ p.1 < c.name then[(c.name,c.data)] else[])++((if p.1=c.name then[] else[p])++putL c (d || !decide (p.1 < c.name)) l)
theorem aaj(c:Af)(l:M):putL c true l=l.filter fun p=>!(p.1 == c.name):=by
 induction l with
 |nil=>rfl
 |cons p l ih=>
  unfold putL;rw[Aa (by simp),Bool.true_or,ih,DI];by_cases h:p.1=c.name
  ·rw[Ac h,N9 (by simpa using h)];rfl
  ·rw[Aa h,Qn (by simpa using h)];rfl
theorem aak{c:Af}{A:M}(h:Up A):putL c c.gone A=Af.on A c:=by
 unfold Af.on;cases c.gone with
 |true=>rw[Ac rfl,aaj];rfl
 |false=>
  rw[Aa (by simp)];unfold Fil.put
  induction A with
  |nil=>rfl
  |cons p l ih=>
   have hl:=Gd.1 h;unfold putL;by_cases h1:p.1 < c.name
   ·have h2:=Lp h1;rw[Aa (by simp[h1]),Aa (I1 h1),Qn (by simpa using h1),N9 (by simpa using h2)];simp only[h1,decide_true,Bool.not_true,Bool.or_self,DI,FL];rw[ih hl.2]
   ·have asD:∀ q∈l,c.name < q.1:=fun q hq=>by
     rcases WI c.name p.1 with e|e|e
     ·exact QE e (hl.1 q hq)
     ·rw[e];exact hl.1 q hq
     ·exact absurd e h1
    rw[Ac ⟨rfl,h1⟩,N9 (by simpa using h1),filter_none (fun q hq=>by simpa using Lp (asD q hq)),DI];simp only[h1,decide_false,Bool.not_false,Bool.or_true];rw[aaj,filter_all (F:=l) (p:=fun p=>!(p.1 == c.name)) (fun q hq=>by simpa using(I1 (asD q hq)).symm)];by_cases h2:p.1=c.name
    ·rw[Ac h2,N9 (by rw[h2];simp),filter_all (fun q hq=>by simpa using asD q hq)];rfl
    ·have h3:c.name < p.1:=by
      rcases WI c.name p.1 with e|e|e
      ·exact e
      ·exact absurd e.symm h2
      ·exact absurd e h1
     rw[Aa h2,Qn (by simpa using h3),filter_all (fun q hq=>by simpa using asD q hq)];rfl
section
variable {w w':World}
theorem akC(n:Nat)(hn:n≤16384)(w:World):Calls prog 139 #[.int .i64 (n:Int)] w fun e w'=>e=.returned (.int .i64 (lg n:Nat))∧w=w':=by
 have hq:(n:Int).tdiv 8=((n / 8:Nat):Int):=by rw[Int.tdiv_eq_ediv_of_nonneg (by omega)];omega
 have hl:lg n=max (n / 8) 2:=rfl;have HL:=Hi hl;clear hl;obtain⟨k,hk⟩:=ex (n / 8);rw[hk] at hq HL;have hkb:k≤16384:=by omega
 clear hk;go_enter func139,ntmps139;go_wp2_with fail;go_ret;refine⟨?_,rfl⟩;rw[HL.out,show((max k 2:Nat):Int)=max (k:Int) 2 by omega];rfl
theorem akD(n:Nat)(h8:8≤n)(hn:n≤16384)(w:World):Calls prog 63 #[.int .i64 (n:Int)] w fun e w'=>e=.returned (.int .i64 (sz n:Nat))∧w=w':=by
 obtain⟨l1,l2,l3⟩:=Sg h8;have hs:Hid (sz n=(n -1 -lg n) / 2):=Hi rfl;have HLG:=Hi (akC n hn w);obtain⟨k,hk⟩:=ex (lg n);rw[hk] at hs HLG l1 l3;have hq:((n:Int) -1 -(k:Int)).tdiv 2=(((n -1 -k) / 2:Nat):Int):=by rw[Int.tdiv_eq_ediv_of_nonneg (by omega)];omega
 clear hk l2;go_enter func63,ntmps63;go_wp2_with fail;refine HLG.mono ?_;rintro e w1⟨rfl,rfl⟩;go_wp2_with fail;go_ret;rw[hs.out];exact⟨rfl,rfl⟩
theorem akE{n:Nat}(h8:8≤n):(64*(sz n:Int) -4:Int)=(Br n:Int):=by
 obtain⟨l1,l2,l3⟩:=Sg h8;unfold Br;omega
theorem akF(n:Nat)(h8:8≤n)(hn:n≤16384)(w:World):Calls prog 27 #[.int .i64 (n:Int)] w fun e w'=>∃ r,e=.returned (.pointer (some ⟨r,0,none⟩))∧F8 w' r (.slice none 0 0) [] (Br n)∧w.heap.size≤r∧Bw w w':=by
 have HA:=Hi (akD n h8 hn w);have HR:=Hi (akE h8);have hb:sz n≤16384:=by unfold sz;omega
 generalize sz n=k at*;go_enter func27,ntmps27;go_wp2_with fail;refine HA.mono ?_;rintro e w1⟨rfl,rfl⟩;go_wp2_with fail;go_ret;refine⟨w.heap.size,rfl,⟨?_,by show World.ownsRow _ 0 _ 2 _ 0 (Cj []);rw[LQ];exact DJ _ _ _ _⟩,Ab _,Am _ _⟩;rw[←HR.out];exact Aq _ _
theorem aam(nm dt:T)(g:Bool)(w:World)(h1:nm.length≤maxLen)(h2:dt.length≤maxLen):
  Calls prog 104 #[.agg #[.string (bs nm),.string (bs dt),.bool g]] w fun e w'=>e=.returned (.bool (Af.may ⟨nm,dt,g⟩))∧Bw w w':=by
 have HB:=Hi (Am w (.cells #[.string (bs nm),.string (bs dt),.bool g] 65));unfold maxLen at h1 h2;have hn:nm≠[]↔1≤nm.length:=by cases nm<;>simp
 by_cases c1:1≤nm.length∧nm.length≤32∧dt.length≤65535
 ·obtain⟨c1,c2,c3⟩:=c1;have i1:(1:Int)≤(nm.length:Int):=by omega
  have i2:(nm.length:Int)≤32:=by omega
  have i3:(dt.length:Int)≤65535:=by omega
  cases g with
  |false=>
   have hv:Hid (Af.may ⟨nm,dt,false⟩=true):=Hi (by unfold Af.may E9;rw[Gs (show nm≠[]∧nm.length≤32∧dt.length≤65535 from⟨hn.2 c1,c2,c3⟩)];rfl);rw[hv.out];clear hn;go_enter func104,ntmps104;go_wp2_with fail;go_ret;exact⟨by simp,HB⟩
  |true=>
   by_cases h4:dt=[]
   ·have hv:Hid (Af.may ⟨nm,dt,true⟩=true):=Hi (by unfold Af.may E9;rw[Gs (show nm≠[]∧nm.length≤32∧dt.length≤65535 from⟨hn.2 c1,c2,c3⟩),h4];rfl);have hf:dt.isEmpty=true:=(by simpa using h4);rw[hv.out];clear hn h4;go_enter func104,ntmps104;go_wp2_with fail;go_ret;exact⟨by simp,HB⟩
   ·have hf:dt.isEmpty=false:=(by simpa using h4);have hv:Hid (Af.may ⟨nm,dt,true⟩=false):=Hi (by unfold Af.may;simp only;rw[hf];simp);rw[hv.out];clear hn h4;go_enter func104,ntmps104;go_wp2_with fail;go_ret;exact⟨by simp,HB⟩
 ·have hv:Hid (Af.may ⟨nm,dt,g⟩=false):=Hi (by
   unfold Af.may E9;rw[Ma (show ¬ (nm≠[]∧nm.length≤32∧dt.length≤65535) from fun e=>c1 ⟨hn.1 e.1,e.2⟩)];rfl)
  rw[hv.out];clear hn;by_cases d1:1≤nm.length
  ·by_cases d2:nm.length≤32
   ·have i1:(1:Int)≤(nm.length:Int):=(by omega);have i2:(nm.length:Int)≤32:=(by omega);have i3:¬ (dt.length:Int)≤65535:=(by omega);clear c1;go_enter func104,ntmps104;go_wp2_with fail;go_ret;exact⟨by simp,HB⟩
   ·have i1:(1:Int)≤(nm.length:Int):=(by omega);have i2:¬ (nm.length:Int)≤32:=(by omega);clear c1;go_enter func104,ntmps104;go_wp2_with fail;go_ret;exact⟨by simp,HB⟩
  ·have i1:¬ (1:Int)≤(nm.length:Int):=(by omega);clear c1;go_enter func104,ntmps104;go_wp2_with fail;go_ret;exact⟨by simp,HB⟩
theorem Iz.lI{base Oy n:Nat}{v:Value}{xs:List Value}(h:w.ownsRow base 249 2 v n xs)(hb:Oy≤base):w.ownsRow Oy 249 2 v n xs:=by
 refine⟨h.1,?_⟩;rcases h.2 with h2|⟨g,cap,cur,e0,hbb,h3⟩
 ·exact .inl h2
 ·exact .inr ⟨g,cap,cur,e0,Ah hb hbb,h3⟩
end
end
end Go.Proofs.YtmbbhdebddbhoaaGreat
