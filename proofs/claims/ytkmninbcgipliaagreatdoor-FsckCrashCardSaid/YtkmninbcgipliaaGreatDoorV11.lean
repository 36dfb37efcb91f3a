/- ManD MemE RMem TxtW DepW DepR DepO AllD DepG PrsDel MemD -/
import Derived.Test.YtkmninbcgipliaaGreatDoorV10
import Derived.Lib.SliceRun
set_option maxHeartbeats 4000000
set_option maxRecDepth 100000
set_option linter.all false
namespace Go.Proofs.YtkmninbcgipliaaGreatDoor
open Tryz
namespace Ar
open Go.RowKit Go.Maps Av Ag
attribute [local go_sem] O8
def aqE(ats:Array TypeId)(ty:TypeId)(args:Array Value):Sem Value:=Builtin.append_ ats ty args
theorem aqI(ats:Array TypeId)(ty:TypeId)(args:Array Value):Builtin.append_ ats ty args=aqE ats ty args:=rfl
attribute [local go_sem ↓] aqI
def Yt(Q:Exit→Act→World→Prop):Exit→Act→World→Prop
 | .panic _,_,_=>False
 |e,a,w=>Q e a w
theorem aW{P:Program}{c:Code}{Q:Exit→Act→World→Prop}{a:Act}{w:World}(h:c.wp P (Yt Q) a w):c.wp P Q a w:=
 Code.wp_mono (fun e a w h=>by cases e<;>first|exact h|exact h.elim) h
section
variable {w:World}{b y n N:Nat}{bl:Nat→Prop}{A:M}
end
end Ar
namespace Ar
open Av Ag
end Ar
namespace Ar
open Av Ag
end Ar
namespace Ar
open Av Ag
end Ar
namespace Ar
open Av Ag
end Ar
namespace Mem
open Go.RowKit Go.Maps
open Av Ag Ar Bt Kp BI Hex BH Al
def VN(w:World)(base b:Nat)(l:M):Prop:=∃ v,w.heap[b]?=some (.cells #[v] 179)∧BJ w base v l∧base≤b
theorem VN.upd{F:Nat→Prop}{w w':World}{base b:Nat}{l:M}(h:VN w base b l)(hu:A7 F w w')(h1:∀ k,F k→¬ Bb w k 179)(h2:∀ k,F k→¬ Bb w k 51):VN w' base b l:=by
 obtain⟨v,e,hr,hb⟩:=h;exact⟨v,(hu.block b (Ao e) (fun f=>h1 b f ⟨_,_,e⟩)).trans e,Bv hr hu (fun k hk f=>h2 k f (Cn hr hk)),hb⟩
theorem VN.below{w w':World}{base b:Nat}{l:M}(h:VN w base b l)(hb:Bw w w'):VN w' base b l:=by
 obtain⟨v,e,hr,hl⟩:=h;exact⟨v,(hb.block b (Ao e)).trans e,Cg hr hb,hl⟩
structure EW(w:World)(base m:Nat)(L:List (T×M))(f:T→Nat):Prop where
 map:∃ kv:List (T×Value),kv.Perm (L.map fun x=>(x.1,Value.pointer (some ⟨f x.1,0,none⟩)))∧G9 prog 9 w m kv
 nodup:(L.map (·.1)).Nodup
 Xv:∀ x∈L,VN w base (f x.1) x.2
 inj:∀ x∈L,∀ y∈L,f x.1=f y.1→x.1=y.1
 low:base≤m
theorem asy:(prog.info? 176).map (fun i=>(i.zero,i.size))=some (some (.pointer none),1):=by kernel_rfl
theorem zS(w:World):(zeroValue 176).run prog w=.ok (.pointer none) w:=(zero_of_info asy).1 w
section
variable {w w':World}{base m:Nat}{L:List (T×M)}{f:T→Nat}
theorem EW.below(h:EW w base m L f)(hb:Bw w w'):EW w' base m L f:=by
 obtain⟨⟨kv,h1,h2⟩,h3,h4,h5,h6⟩:=h;exact⟨⟨kv,h1,h2.kept (hb.block m h2.lt)⟩,h3,fun x hx=>(h4 x hx).below hb,h5,h6⟩
theorem EW.WI(h:EW w base m L f):((L.map fun x=>(x.1,Value.pointer (some ⟨f x.1,0,none⟩))).map (·.1)).Nodup:=by
 rw[Kq];exact h.nodup
theorem EW.keys{kv:List (T×Value)}(h:kv.Perm (L.map fun x=>(x.1,Value.pointer (some ⟨f x.1,0,none⟩)))):(kv.map (·.1)).Perm (L.map (·.1)):=by
 have:=h.map (·.1);rwa[Kq] at this
theorem EW.aae(h:EW w base m L f){x:T×M}(hx:x∈L)(hn:x.1.length≤maxLen):
  (Instr.lookup 175 (.map (some m)) (.string (bs x.1)) false).run prog w=.ok (.pointer (some ⟨f x.1,0,none⟩)) w:=by
 obtain⟨kv,h1,h2⟩:=h.map;rw[h2.lookup underlying9 underlying175 (zS w) x.1 hn,aQ (h1.map (·.1) |>.nodup_iff.2 h.WI) h1,(Yz h.WI).2 (Bz.2 ⟨x,hx,rfl⟩)];rfl
end
def bU(w:World)(L:List (T×M))(e:Ending)(w':World):Prop:=
 if PG L=true then ∃ q c,e=.returned (.tuple #[.slice q (KR L).length c,.int .i64 0])∧w'.ownsRow w.heap.size 57 3 (.slice q (KR L).length c) (KR L).length (LA (KR L))∧Bw w w'
 else e=.returned (.tuple #[.slice none 0 0,.int .i64 5])∧Bw w w'
def yK(w:World)(nv:Value)(N:List T)(ch:T→Am)(fit:T→Bool)(s i:Value)(wr:World):Prop:=
 ∃ (k:Nat) (q:Option Addr) (c:Nat),k≤N.length∧i=.int .i64 (k:Int)∧s=.slice q ((N.take k).map ch).length c∧wr.ownsRow w.heap.size 57 3 (.slice q ((N.take k).map ch).length c) ((N.take k).map ch).length (LA ((N.take k).map ch))∧Bw w wr∧(N.take k).all fit=true∧Ar.Bq wr (w.heap.size+1) nv N
theorem mY:∀ {L:List T} {a:T},BK L=some a→a.length+2=rowLen L
 |[],a,h=>by simp only[BK,Ci] at h;subst h;rfl
 |x :: L,a,h=>by
  simp only[BK] at h;cases h1:Eg x with
  |none=>rw[h1] at h;cases h
  |some u=>
   cases h2:BK L with
   |none=>rw[h1,h2] at h;cases h
   |some c=>
    rw[h1,h2] at h;simp only[CL,EK,Ci] at h;subst h;have ih:=mY h2;unfold Eg at h1;split at h1
    ·injection h1 with h1
     subst h1;unfold rowLen at ih ⊢;simp only[AA,A9.C9,Ca,DR];omega
    ·cases h1
theorem uW(l:M)(h:(Ed l).2=0)(hs:rowLen (flat l)≤1000000000):(Ed l).1.length≤1000000000:=by
 unfold Ed at*;cases hp:FO l with
 |none=>simp
 |some s=>
  unfold FO at hp;split at hp
  ·cases ht:BK (flat l) with
   |none=>rw[ht] at hp;cases hp
   |some a=>
    rw[ht] at hp;simp only[EK,Ci] at hp;have:=mY ht;subst hp;simp only[AA,A9.C9];omega
  ·cases hp
theorem Xr{l:M}:(BV l).isSome=true↔(Ed l).2=0∧(Ed l).1.length+4≤65535:=by
 unfold BV Ed;cases FO l with
 |none=>simp
 |some s=>
  by_cases h:s.length+4≤65535
  ·simp only[CL];rw[Ad h];exact⟨fun _=>⟨trivial,h⟩,fun _=>rfl⟩
  ·simp only[CL];rw[Ab h];exact⟨fun e=>by simp at e,fun e=>absurd e.2 h⟩
theorem pW{l:M}(h:(BV l).isSome=true):(BV l).getD []=A9.Fx (Ed l).1:=by
 unfold BV Ed at*;cases hp:FO l with
 |none=>rw[hp] at h;simp at h
 |some s=>
  rw[hp] at h;simp only[CL] at h ⊢;by_cases hs:s.length+4≤65535
  ·rw[Ad hs];rfl
  ·rw[Ab hs] at h;simp at h
theorem ayn{W W2:World}{base b2:Nat}{nv ov:Value}{N:List T}{n:Nat}{cs:List Value}(h:Ar.Bq W base nv N)(ho:W.ownsRow b2 57 3 ov n cs)(hg:W.grownBy W2 ov.ownBlock):Ar.Bq W2 base nv N:=
 Bv h (A7.of_grownBy (F:=fun k=>ov.ownBlock=some k) hg (fun k e=>e)) (fun g QL f=>by
  obtain⟨c1,f1,e1⟩:=Cn h QL;obtain⟨c2,f2,e2⟩:=Cn ho f;rw[e1] at e2;injection e2 with e2
  injection e2 with _ e2
  exact absurd e2 (by decide))
theorem ui{w wr W2 w1:World}{nv:Value}{N:List T}{ch:T→Am}{fit:T→Bool}{k:Nat}{cl:List Am}{ov:Value}{q':Option Addr}{cap':Nat}(c:Am)(hk:k < N.length)(hb:Bw w wr)(Af:wr.ownsRow w.heap.size 57 3 ov cl.length (LA cl))(hW:Bw wr W2)(hg:W2.grownBy w1 ov.ownBlock)
  (ho:w1.ownsRow w.heap.size 57 3 (.slice q' (cl.length+1) cap') (cl.length+1) (LA cl++[.string (bs c.name),.string (bs c.data),.bool c.gone]))(UW:(N.take (k+1)).map ch=cl++[c])(hall:(N.take (k+1)).all fit=true)(hn:Ar.Bq wr (w.heap.size+1) nv N):
  yK w nv N ch fit (.slice q' (cl.length+1) cap') (.int .i64 ((k:Int)+1)) w1:=by
 have e:cl.length+1=((N.take (k+1)).map ch).length:=by rw[UW,AA];rfl
 refine⟨k+1,q',cap',by omega,by go_num,by rw[e],?_,?_,hall,?_⟩
 ·rw[←e,UW,pQ];exact ho
 ·exact(bT hb hW).grown hg (Aw hb.size hW.size) (fun j hj=>E9 Af hj)
 ·exact ayn (Cg hn hW) (Cg Af hW) hg
theorem alG{w:World}{base m:Nat}{L:List (T×M)}{f:T→Nat}(h:EW w base m L f)(hs:∀ x∈L,CU x.2∧x.2.length≤1000000∧rowLen (flat x.2)≤1000000000)(hn:∀ x∈L,x.1.length≤1000)(hl:L.length≤100000):
  Calls prog 98 #[.map (some m)] w fun e w'=>bU w L e w':=by
 obtain⟨i0,Bl,AY,Ba,Be⟩:=DC pR;have HK:=Hi (show Calls prog 180 #[.map (some m)] w fun e w'=>e=.returned (.func (.func 236) #[] #[.pointer (some ⟨w.heap.size,0,none⟩)])∧w'=w.alloc (.cells #[.map (some m)] 175) from axY (some m) w);obtain⟨kv,Ke,Y2⟩:=h.map;have Dw:kv.length=L.length:=by rw[Ke.length_eq,BP]
 have Z7:=Hi (ay3 Y2 (by omega));have RP:(kv.map (·.1)).mergeSort (fun x y=>decide (x≤y))=Df L:=mergeSort_of_perm (EW.keys Ke);rw[Dw,RP] at Z7;have HH:=Hi h;have HS:=Hi hs;have HN:=Hi hn;have EI:(Df L).length=L.length:=uE L
 have xS:=Hi (fun t (ht:t∈Df L)=>show ∃ x∈L,x.1=t∧rowOf L t=x.2 from by
  obtain⟨x,hx,rfl⟩:=Bz.1 (lY.1 ht);exact⟨x,hx,rfl,mI h.nodup hx⟩)
 clear h hs hn Ke Y2 Dw RP
 go_in
 go_wp2_with fail;refine HK.mono ?_;rintro e w1⟨rfl,Kk⟩;subst Kk;go_wp2_with fail;refine Z7.mono ?_;rintro e w2⟨v,rfl,Af,Ac⟩;have Ni:Ar.Bq w2 (w.heap.size+1) v (Df L):=by
  unfold Ar.Bq;rw[M5,EI];exact Af
 obtain⟨q,c,rfl⟩:=Bo Ni;have BX:=Hi Ni;have Ak:=Hi Ac;clear Af Ni Ac HK Z7;have hnI:((Df L).length:Int)=(L.length:Int):=by rw[EI]
 go_wp2
 go_loopw [2,13] (fun s i wr=>yK w (.slice q (Df L).length c) (Df L) (fun t=>Mk t (rowOf L t)) (fun t=>N8 (rowOf L t)) s i wr) (fun _ i _=>(Df L).length -(intOf i).toNat)
 case atStart=>exact⟨0,none,0,AV _,rfl,rfl,by rw[Gg,Kr,pO];exact DZ _ _ _ _,Ak,rfl,BX⟩
 case round=>
  obtain⟨k,cq,cc,hk,rfl,rfl,Af,hb,hall,Gn⟩:=hrel;have Oi:=Hi Gn;have Ck:=Hi Af;have HB:=Hi hb;have Fb:=Hi hall;clear Af hall Gn Ak BX;by_cases hlt:k < (Df L).length
  ·obtain⟨x,hx,aj,FN⟩:=xS _ (CQ hlt);obtain⟨a,Cs,c0⟩:=(Hr (c:=c) (Oi.out)).index c k hlt;simp only[EI] at Cs;have Tz:k < L.length:=by omega
   have MQ:=Hi (show(N8 x.2=true→((Df L).take (k+1)).all (fun t=>N8 (rowOf L t))=true)∧((Df L).take (k+1)).map (fun t=>Mk t (rowOf L t))=((Df L).take k).map (fun t=>Mk t (rowOf L t))++[Mk x.1 x.2] from by
    rw[Cx hlt,CK,List.all_append,Fb.out];constructor
    ·intro e;simp[FN,e]
    ·simp[FN,aj])
   have Od:=Hi (show N8 x.2=false→¬ PG L=true from fun e h=>by
    have:=MH.1 h _ (CQ hlt);rw[FN,e] at this;cases this)
   obtain⟨cl,BN⟩:∃ cl,((Df L).take k).map (fun t=>Mk t (rowOf L t))=cl:=⟨_,rfl⟩;have ku:cl.length=k:=(by rw[←BN,BP,AZ];omega);have EE:=Hi ku;rw[BN] at Ck MQ ⊢;have NU:=((HH.below HB).aae hx (by have:=HN x hx;unfold maxLen;omega));obtain⟨v,LF,Af,I5⟩:=(HH.below HB).Xv x hx;obtain⟨q2,c2,rfl,DJ,GY⟩:=FH Af;have c1:wr.cell? ⟨f x.1,0,none⟩=some (.slice q2 x.2.length c2):=cr LF;obtain⟨QU,CG,Wt⟩:=HS x hx;rw[←aj] at c0;clear BN hb FN I5 aj;have ava:cl.length≤100000:=(by omega);clear ku;have SS:=Hi (Bf.CX Af);obtain⟨t,l⟩:=x;simp only at*;generalize f t=ft at*;by_cases hz:l=[]
   ·have Yl:((l.length:Int) == 0)=true:=(by rw[hz];rfl);have Me:=Hi (show Mk t l=⟨t,[],true⟩ from Ad hz);have U9:=Hi (MQ.1 (by rw[hz];rfl));go_wp2_with (at_builtin;refine wpList_append_own_at _ rfl _ _ 32 rfl w.heap.size 57 i0 _ 3 40 underlying32 Bl AY Ba Be rfl (by decide) _ cl.length _ rfl (Ck.alloc _) ⟨wr.heap.size,0,none⟩ 1 1 [.string (bs t),.string { data:=#[] },.bool true] rfl rfl (by intro j u hj;rw[add_plain,E5];exact(Dy▸hj)) (by simp[Value.oneCell']) (by unfold maxLen;omega) (by omega) (by have:=HB.size;simp;omega) ?_;intro v' w1 Cb AJ _ hat;obtain⟨g',cap',rfl⟩:=ownsRow_succ Cb;have HO:=Hi Cb;have HG:=Hi AJ;clear Cb AJ hat);have CF:=Hi (ui ⟨t,[],true⟩ hlt HB Ck (AU wr _) HG HO (by rw[←Me.out];exact MQ.2) U9 Oi);go_roundw
    case rel=>exact CF.out
    case measure=>
     show(Df L).length -((k:Int)+1).toNat < (Df L).length -((k:Int)).toNat
     omega
   ·have Yl:((l.length:Int) == 0)=false:=FQ.2 (fun e=>hz (Ld.1 (by omega)));have Gh:=Hi (amn (cap:=c2) SS QU CG Wt);have iG:=Hi (show N8 l=(BV l).isSome from by unfold N8;simp[hz]);have Me:=Hi (show Mk t l=⟨t,(BV l).getD [],false⟩ from Ab hz);by_cases Cf:(BV l).isSome=true
    ·have U9:=Hi (MQ.1 (by rw[iG.out];exact Cf));obtain⟨he,hlen⟩:=Xr.1 Cf;have U8:=Hi (pW Cf);rw[he] at Gh;generalize (Ed l).1=s at*;have Tw:decide (65535 < (s.length:Int)+4)=false:=decide_eq_false (by omega);have IP:IntKind.i64.wrap ((s.length:Int)+4)=(s.length:Int)+4:=ET _ (by omega);have Z6:=Hi (fun W=>gF s W (by omega));clear he Cf hlen;go_wp2_with fail;refine Gh.mono ?_;rintro e w3⟨rfl,Ap⟩;have Au:=Hi Ap;clear Ap;go_wp2_with fail;refine(Z6 _).mono ?_;rintro e w4⟨rfl,AB⟩;have AX:=bH Au AB;have Xa:=Hi (Cg Ck AX);have abU:=AX.size;have tK:=HB.size;clear AB;go_wp2_with (at_builtin;refine wpList_append_own_at _ rfl _ _ 32 rfl w.heap.size 57 i0 _ 3 40 underlying32 Bl AY Ba Be rfl (by decide) _ cl.length _ rfl (Xa.alloc _) ⟨w4.heap.size,0,none⟩ 1 1 [.string (bs t),.string (bs (A9.Fx s)),.bool false] rfl rfl (by intro j u hj;rw[add_plain,E5];exact(Dy▸hj)) (by simp[Value.oneCell']) (by unfold maxLen;omega) (by omega) (by simp;omega) ?_;intro v' w1 Cb AJ _ hat;obtain⟨g',cap',rfl⟩:=ownsRow_succ Cb;have HO:=Hi Cb;have HG:=Hi AJ;clear Cb AJ hat);have CF:=Hi (ui ⟨t,A9.Fx s,false⟩ hlt HB Ck (AX.trans ((AU w4 _).mono AX.size)) HG HO (by rw[←U8.out,←Me.out];exact MQ.2) U9 Oi);go_roundw
     case rel=>exact CF.out
     case measure=>
      show(Df L).length -((k:Int)+1).toNat < (Df L).length -((k:Int)).toNat
      omega
    ·have DW:=Hi (Od (by rw[iG.out];simpa using Cf));by_cases he:(Ed l).2=0
     ·have hlen:¬ (Ed l).1.length+4≤65535:=fun h=>Cf (Xr.2 ⟨he,h⟩)
      rw[he] at Gh;have RV:=uW l he Wt;generalize (Ed l).1=s at*;have Tw:65535 < (s.length:Int)+4:=(by omega);have IP:IntKind.i64.wrap ((s.length:Int)+4)=(s.length:Int)+4:=ET _ (by omega);clear he Cf;go_wp2_with fail;refine Gh.mono ?_;rintro e w3⟨rfl,Ap⟩;have Au:=bH HB Ap;clear Ap;go_wp2;go_ret2;unfold bU;rw[Ab DW.out];exact⟨rfl,Au⟩
     ·have Bg:((Ed l).2 == 0)=false:=FQ.2 he;generalize Ed l=V at*;clear Cf;go_wp2_with fail;refine Gh.mono ?_;rintro e w3⟨rfl,Ap⟩;have Au:=bH HB Ap;clear Ap;go_wp2;go_ret2;unfold bU;rw[Ab DW.out];exact⟨rfl,Au⟩
  ·obtain rfl:k=(Df L).length:=(by omega);have Ji:PG L=true:=by
    have:=Fb.out;rw[Gu (Ae _)] at this;exact this
   have hE:=Ck.out;rw[Gu (Ae _)] at hE;have HE:=Hi (show wr.ownsRow w.heap.size 57 3 (.slice cq (KR L).length cc) (KR L).length (LA (KR L)) from hE);have BN:(((Df L).take (Df L).length).map fun t=>Mk t (rowOf L t)).length=(KR L).length:=(by rw[Gu (Ae _)];rfl);rw[BN];clear hE hb BN;go_wp2;go_ret2;unfold bU;rw[Ad Ji];exact⟨cq,cc,rfl,HE,HB⟩
end Mem
namespace Hex
open Go.RowKit Go.Maps
open Ag Ar BH
theorem ank(s:ByteArray)(K:IntKind)(k:Nat)(h:k < s.size)(W:World):(Instr.index 9 (.string s) (.int K (k:Int))).run prog W=.ok (.int .u8 ((s[k]'h).toNat:Int)) W:=by
 have h0:(0:Int)≤(k:Int):=Int.natCast_nonneg k;have e:s[k]?=some (s[k]'h):=by rw[getElem?_pos s k h]
 simp only[Instr.index,Hd underlying9,go_sem];simp[h0,e,go_sem]
theorem agy(k:Nat)(h:k < 16)(W:World):(Instr.index 9 (.string { data:=#[48,49,50,51,52,53,54,55,56,57,97,98,99,100,101,102] }) (.int .u8 (k:Int))).run prog W=.ok (.int .u8 ((Gj k).toNat:Int)) W:=by
 have h1:=ank ({ data:=#[48,49,50,51,52,53,54,55,56,57,97,98,99,100,101,102] }:ByteArray) .u8 k h W;rw[zJ k h] at h1;exact h1
theorem amY(s:T)(w:World)(hs:s.length≤1000000)(h0:0 < s.length):Calls prog 88 #[.string (bs s)] w fun e w'=>e=.returned (.string (bs (Ew s)))∧Bw w w':=by
 obtain⟨i0,Bl,AY,Ba,Be⟩:=DC cZ
 go_in
 go_wp2
 go_loopw [3,4] (fun o i wr=>∃ (t n:Nat),t≤s.length∧n=2*t∧i=.int .i64 (t:Int)∧wr.ownsRow w.heap.size 5 1 o n (Cj (Ew (s.take t)))∧Bw w wr) (fun _ i _=>s.length -(intOf i).toNat)
 case atStart=>exact⟨0,0,AV _,rfl,rfl,by rw[Gg,show Ew []=[] from rfl,gN];exact DZ _ _ _ _,Ai _ _⟩
 case round=>
  obtain⟨t,n,ht,hn,rfl,hown,hb⟩:=hrel;obtain⟨oq,Iz,rfl⟩:=Bo hown;have HO:=Hi hown;have HB:=Hi hb;by_cases hlt:t < s.length
  ·have HT:=Hi (show Ew (s.take (t+1))=Ew (s.take t)++[Gj (s[t].toNat / 16),Gj (s[t].toNat % 16)] from by rw[Cx hlt,aj5];simp[Ew]);have PY:=s[t].toNat_lt;have VX:s[t].toNat / 16 < 16:=(by omega);have aan:s[t].toNat % 16 < 16:=(by omega);have LK:n≤2000000:=(by omega);have Iu:∀ W,(Instr.index 9 (.string (bs s)) (.int .i64 (t:Int))).run prog W=.ok (.int .u8 (s[t].toNat:Int)) W:=fun W=>ank (bs s) .i64 t (by simpa using hlt) W
   generalize s[t]=x at*;have Gp:IntKind.u8.wrap ((x.toNat:Int) / 16)=(x.toNat:Int) / 16:=(by rw[aoM];omega);have hm1:((x.toNat:Int)).tmod 16=(x.toNat:Int) % 16:=Int.tmod_eq_emod_of_nonneg (by omega);have Em:∀ W,(Instr.index 9 (.string { data:=#[48,49,50,51,52,53,54,55,56,57,97,98,99,100,101,102] }) (.int .u8 ((x.toNat:Int) / 16))).run prog W=.ok (.int .u8 ((Gj (x.toNat / 16)).toNat:Int)) W:=fun W=>agy _ VX W
   have Ec:∀ W,(Instr.index 9 (.string { data:=#[48,49,50,51,52,53,54,55,56,57,97,98,99,100,101,102] }) (.int .u8 ((x.toNat:Int) % 16))).run prog W=.ok (.int .u8 ((Gj (x.toNat % 16)).toNat:Int)) W:=fun W=>agy _ aan W
   have HN:=Hi (Cw hn hlt);clear hown hb hn;go_wp2_with fail;clear hlt;refine aW ?_
   go_region_law
    ((refine step_append_lies _ (by rfl) _ _ _ (by rfl) w.heap.size 5 i0 _ 1 1 underlying54 Bl AY Ba Be (by rfl) (by omega) (.slice oq n Iz) n (Cj (Ew (s.take t))) (by rfl) ((HO.alloc _).drew) ⟨wr.heap.size,0,none⟩ 2 2 [.int .u8 ((Gj (x.toNat / 16)).toNat:Int),.int .u8 ((Gj (x.toNat % 16)).toNat:Int)] (by rfl) (by rfl) (World.news_of_block (cs:=#[.int .u8 ((Gj (x.toNat / 16)).toNat:Int),.int .u8 ((Gj (x.toNat % 16)).toNat:Int)]) (t:=5) (fr:=(0,0)) (AQ wr _)) (by intro u hu;simp at hu;rcases hu with rfl|rfl<;>rfl) (by omega) (by unfold maxLen;omega) (by omega) (by rw[show((wr.alloc _).drew).heap.size=wr.heap.size+1 from Ay _ _];have:=HB.size;omega) (wr.heap.size+1) (by simp) ?_;intro gg pJ w3 RS AJ hat ajJ))
   all_goals
    have Au:=Hi (((HB.alloc HB.size (.cells #[.int .u8 ((Gj (x.toNat / 16)).toNat:Int),.int .u8 ((Gj (x.toNat % 16)).toNat:Int)] 5)).drew).grown AJ (by rw[show((wr.alloc (.cells #[.int .u8 ((Gj (x.toNat / 16)).toNat:Int),.int .u8 ((Gj (x.toNat % 16)).toNat:Int)] 5)).drew).heap.size=wr.heap.size+1 from Ay _ _];have:=HB.size;omega) (fun j hj=>vC HO hj));have Oj:=Hi RS;clear RS AJ hat;dsimp only[Yt];go_wp2;go_roundw
    case rel=>
     refine⟨t+1,n+2,by have:=HN.out;omega,by have:=HN.out;omega,by go_num,?_,Au⟩;rw[HT.out,aT,show Cj [Gj (x.toNat / 16),Gj (x.toNat % 16)]=[.int .u8 ((Gj (x.toNat / 16)).toNat:Int),.int .u8 ((Gj (x.toNat % 16)).toNat:Int)] by rw[mZ,mZ,gN]];exact Oj.out
    case measure=>have:=HN.2;first|(simp[intOf];done)|(simp[intOf];omega)
  ·obtain rfl:t=s.length:=(by omega);rw[Da] at hown;obtain⟨gq,e1⟩:∃ gq,oq=some ⟨gq,0,none⟩:=by
    rcases hown.2 with⟨e0,e1⟩|⟨g,cap,cur,e0,hb,_⟩
    ·omega
    ·injection e0 with e0;exact⟨g,e0⟩
   subst e1;have QQ:(Ew s).length=n:=(by rw[UN];omega);have Tq:=aP prog wr 54 5 9 underlying54 underlying5 underlying9 gq 0 n Iz (Ew s) QQ (fun i hi=>by rw[Ha];exact ag4 QQ hown i hi);clear hown hb QQ hn;go_wp2;go_ret;exact⟨rfl,HB⟩
end Hex
namespace Mem
open Go.RowKit Go.Maps
open Av Ag Ar Bt Kp BI Hex BH
theorem ad8(k:T)(w:World)(hk:k.length≤1000000):Calls prog 99 #[.string (bs k)] w fun e w'=>e=.returned (.string (bs (Ah.nm k)))∧Bw w w':=by
 have hm:({ data:=#[109] }:ByteArray)=bs [109]:=rfl;have hcut:∀ W,(Instr.slice 9 (.string (bs (EJ k))) none (some (.int .i64 8)) none).run prog W=.ok (.string (bs ((EJ k).take 8))) W:=fun W=>O7 prog W 9 underlying9 (EJ k) 8 (by rw[TU];omega)
 have LH:((EJ k).take 8).length=8:=by rw[AZ,TU];rfl
 have HH:=Hi (fun(W:World)=>amY ((EJ k).take 8) W (by rw[LH];omega) (by rw[LH];omega));have hhl:(Ew ((EJ k).take 8)).length≤16:=by rw[UN,LH];omega
 have HE:=Hi (show[109]++Ew ((EJ k).take 8)=Ah.nm k from rfl);generalize Ew ((EJ k).take 8)=hx at*;generalize (EJ k).take 8=sk at*;clear LH
 go_in
 go_wp2_with fail;refine(ang k (by omega) _).mono ?_;rintro e w1⟨rfl,Aj⟩;have HB1:=Hi Aj;clear Aj;go_wp2_with fail;refine(HH _).mono ?_;rintro e w2⟨rfl,Ac⟩;have Ak:=bH HB1 Ac;clear Ac;go_wp2;go_ret;exact⟨by rw[←HE.out];rfl,Ak⟩
theorem azw{w:World}{a:Option Addr}{cap:Nat}{l:M}(h:Bf w a l)(hs:CU l)(hl:l.length≤60000)(D7:rowLen (flat l)≤1000000000):
  Calls prog 101 #[.slice a l.length cap] w fun e w'=>e=.returned (.tuple #[.string (bs ((BV l).getD [])),.int .i64 (if(BV l).isSome=true then 0 else 5)])∧Bw w w':=by
 have Gh:=Hi (ane (cap:=cap) h hs hl D7);by_cases Cf:(BV l).isSome=true
 ·rw[Ad Cf];obtain⟨he,hlen⟩:=Xr.1 Cf;have U8:=Hi (pW Cf);rw[U8.out];rw[he] at Gh;generalize (Ed l).1=s at*;have Tw:decide (65535 < (s.length:Int)+4)=false:=decide_eq_false (by omega);have IP:IntKind.i64.wrap ((s.length:Int)+4)=(s.length:Int)+4:=ET _ (by omega);have Z6:=Hi (fun W=>vG s W (by omega));clear he Cf hlen h hs D7 U8
  go_in
  go_wp2_with fail;refine Gh.mono ?_;rintro e w3⟨rfl,Ap⟩;have Au:=Hi Ap;clear Ap;go_wp2_with fail;refine(Z6 _).mono ?_;rintro e w4⟨rfl,AB⟩;have AX:=bH Au AB;clear AB;go_wp2;go_ret2;exact⟨rfl,AX⟩
 ·rw[Ab Cf];have hn:(BV l).getD []=[]:=by
   cases hc:BV l with
   |none=>rfl
   |some d=>rw[hc] at Cf;simp at Cf
  rw[hn];by_cases he:(Ed l).2=0
  ·have hlen:¬ (Ed l).1.length+4≤65535:=fun h=>Cf (Xr.2 ⟨he,h⟩)
   rw[he] at Gh;have RV:=uW l he D7;generalize (Ed l).1=s at*;have Tw:65535 < (s.length:Int)+4:=(by omega);have IP:IntKind.i64.wrap ((s.length:Int)+4)=(s.length:Int)+4:=ET _ (by omega);clear he Cf h hs D7 hn
   go_in
   go_wp2_with fail;refine Gh.mono ?_;rintro e w3⟨rfl,Ap⟩;have Au:=Hi Ap;clear Ap;go_wp2;go_ret2;exact⟨rfl,Au⟩
  ·have Bg:((Ed l).2 == 0)=false:=FQ.2 he;generalize Ed l=V at*;clear Cf h hs D7 hn
   go_in
   go_wp2_with fail;refine Gh.mono ?_;rintro e w3⟨rfl,Ap⟩;have Au:=Hi Ap;clear Ap;go_wp2;go_ret2;exact⟨rfl,Au⟩
theorem Yv{w:World}{base cap k:Nat}{q:Option Addr}{A:M}(h:BJ w base (.slice q A.length cap) A)(hk:k < A.length):
  ∃ p:Addr,(∀ W,(Instr.indexAt 30 (.slice q A.length cap) (.int .i64 (k:Int))).run prog W=.ok (.pointer (some p)) W)∧w.cell? p=some (.string (bs A[k].1))∧w.cell? ⟨p.block,p.off+1,none⟩=some (.string (bs A[k].2)):=by
 obtain⟨p,h1,h2,-⟩:=(Bf.CX h).index cap k hk;exact⟨p,h1,h2.key,h2.val⟩
theorem O5{W:World}{g:Nat}{a b:Value}{t:TypeId}(h:W.heap[g]?=some (.cells #[a,b] t)):W.cell? ⟨g,0,none⟩=some a∧W.cell? ⟨g,1,none⟩=some b:=⟨by rw[BL W g _ _ _ _ h];rfl,by rw[BL W g _ _ _ _ h];rfl⟩
section
variable {w w':World}
structure Zg(w W:World)(ov:Value)(m:Nat)(o:M)(c:Am)(gn:Bool):Prop where
 row:W.ownsRow (w.heap.size+1) 51 2 ov m (Dm o)
 AO:Bw w W
 box:W.heap[w.heap.size]?=some (.cells #[.string (bs c.name),.string (bs c.data)] 51)
theorem Zg.drew{W:World}{ov:Value}{m:Nat}{o:M}{c:Am}{gn:Bool}(h:Zg w W ov m o c gn):Zg w W.drew ov m o c gn:=⟨h.row.drew,h.AO.drew,h.box⟩
theorem Zg.add{W W2:World}{ov v2:Value}{m:Nat}{o:M}{c:Am}{gn:Bool}{ob:Obj}{a b:T}(h:Zg w W ov m o c gn)(hg:(W.alloc ob).grownBy W2 ov.ownBlock)(ho:W2.ownsRow (w.heap.size+1) 51 2 v2 (m+1) (Dm o++[.string (bs a),.string (bs b)])):Zg w W2 v2 (m+1) (o++[(a,b)]) c gn:=by
 have hlt:=Ao h.box;have BQ:(W.alloc ob).heap.size=W.heap.size+1:=Ay _ _;refine⟨by rw[Td];exact ho,(h.AO.alloc h.AO.size ob).grown hg (by omega) (fun j hj=>by have:=E9 h.row hj;omega),?_⟩;exact(hg.block w.heap.size (by omega) (row_ne_low h.row (Nat.lt_succ_self w.heap.size))).trans (((AU W ob).block _ hlt).trans h.box)
theorem aAo{q:Option Addr}{cap:Nat}{A:M}(c:Am)(hcg:c.gone=false)(h:BJ w 0 (.slice q A.length cap) A)(hu:Up A)(hl:A.length≤1000000):
  Calls prog 102 #[.slice q A.length cap,.agg #[.string (bs c.name),.string (bs c.data)],.bool false] w fun e w'=>∃ v,e=.returned v∧BJ w' w.heap.size v (Am.on A c)∧Bw w w':=by
 obtain⟨i0,Bl,AY,Ba,Be⟩:=DC Rb;have HR:=Hi h;have HE:=Hi (amy (c:=c) hu);have ED:=Hi (AU w (.cells #[.string (bs c.name),.string (bs c.data)] 51));have WX:=Hi (AQ w (.cells #[.string (bs c.name),.string (bs c.data)] 51));obtain⟨gn,ZE⟩:∃ g:Bool,g=false:=⟨_,rfl⟩;rw[hcg,←ZE] at HE;rw[←ZE];have HGN:=Hi ZE;clear h hu ZE
 go_in
 go_wp2
 go_loopw [7,8,9] (fun ov dv i wr=>∃ (k m:Nat) (o:M) (d:Bool),k≤A.length∧o.length=m∧m≤2*k∧i=.int .i64 (k:Int)∧dv=.bool d∧o++FI c d (A.drop k)=FI c gn A∧Zg w wr ov m o c gn)
  (fun _ _ i _=>A.length -(intOf i).toNat)
 case atStart=>exact⟨0,0,[],gn,AV _,rfl,AV _,rfl,rfl,by rw[List.drop_zero];rfl,⟨by rw[QC];exact DZ _ _ _ _,ED,WX⟩⟩
 case round=>
  obtain⟨k,m,o,d,hk,kW,LJ,rfl,rfl,FV,Bc⟩:=hrel;obtain⟨oq,Iz,rfl⟩:=Bo Bc.row;have Im:=Hi Bc;have MR:=Hi kW;clear ED WX kW;by_cases hlt:k < A.length
  ·obtain⟨p,Iu,LQ,Fs⟩:=(Yv (Bv HR (ub Bc.AO) (fun _ _ f=>f)) hlt)
   have HP:=Hi (fun(W:World) (hW:Bw w W)=>(show W.cell? p=some (.string (bs A[k].1))∧W.cell? ⟨p.block,p.off+1,none⟩=some (.string (bs A[k].2)) from by
    obtain⟨p',si,aby,abz⟩:=(Yv (Bv HR (ub hW) (fun _ _ f=>f)) hlt);have e:=Iu W;rw[si W] at e;injection e with e
    injection e with e
    injection e with e
    subst e;exact⟨aby,abz⟩))
   obtain⟨b0,b1⟩:=O5 Bc.box;have hd:=Rk hlt;rw[hd,amw] at FV;obtain⟨x1,Em⟩:=ex (A[k].1);obtain⟨x2,Ec⟩:=ex (A[k].2);rw[show A[k]=(x1,x2) from Prod.ext Em Ec] at FV;rw[Em] at LQ HP;rw[Ec] at Fs HP;have KG:=Hi FV;clear hd Em Ec FV Bc;by_cases h1:x1 < c.name
   ·
    cases d with
    |false=>
     have CP:Op.bytesLess x1 c.name=true:=(by rw[Go.Proofs.bytesLess_eq];simpa using h1);have hne:(x1 == c.name)=false:=(by simpa using KZ h1);have HN:=Hi (show(o++[(x1,x2)])++FI c false (A.drop (k+1))=FI c gn A by rw[←KG.out];simp[h1,KZ h1]);clear h1;go_wp2;go_region;have BU:=Hi Im.drew;clear b0 b1 LQ Fs;generalize wr.drew=W1 at BU ⊢;obtain⟨b0,b1⟩:=O5 BU.box;obtain⟨p0,p1⟩:=HP _ BU.AO;go_wp2;go_region;have BZ:=Hi BU.drew;clear b0 b1 p0 p1;generalize W1.drew=W2 at BZ ⊢;obtain⟨b0,b1⟩:=O5 BZ.box;obtain⟨p0,p1⟩:=HP _ BZ.AO;go_wp2_with (at_builtin;refine wpList_append_own_at _ rfl _ _ 30 rfl (w.heap.size+1) 51 i0 _ 2 32 underlying30 Bl AY Ba Be rfl (by decide) (.slice oq m Iz) m _ rfl (BZ.row.alloc _) ⟨W2.heap.size,0,none⟩ 1 1 [.string (bs x1),.string (bs x2)] rfl rfl (by intro j u hj;rw[add_plain,E5];exact(Dy▸hj)) (by simp[Value.oneCell']) (by unfold maxLen;omega) (by omega) (by rw[Ay];have:=Ao BZ.box;omega) ?_;intro v2 w2 Dn Ef _ _;obtain⟨g2,cap2,rfl⟩:=ownsRow_succ Dn;have Hf:=Hi (BZ.add Ef Dn);clear Dn Ef);go_roundw
     case rel=>exact⟨k+1,m+1,o++[(x1,x2)],false,by omega,by simp[MR.out],by omega,by go_num,rfl,HN,Hf⟩
     case measure=>simp[intOf];omega
    |true=>
     have CP:Op.bytesLess x1 c.name=true:=(by rw[Go.Proofs.bytesLess_eq];simpa using h1);have hne:(x1 == c.name)=false:=(by simpa using KZ h1);have HN:=Hi (show(o++[(x1,x2)])++FI c true (A.drop (k+1))=FI c gn A by rw[←KG.out];simp[h1,KZ h1]);clear h1;go_wp2;go_region;have BU:=Hi Im.drew;clear b0 b1 LQ Fs;generalize wr.drew=W1 at BU ⊢;obtain⟨b0,b1⟩:=O5 BU.box;obtain⟨p0,p1⟩:=HP _ BU.AO;go_wp2;go_region;have BZ:=Hi BU.drew;clear b0 b1 p0 p1;generalize W1.drew=W2 at BZ ⊢;obtain⟨b0,b1⟩:=O5 BZ.box;obtain⟨p0,p1⟩:=HP _ BZ.AO;go_wp2_with (at_builtin;refine wpList_append_own_at _ rfl _ _ 30 rfl (w.heap.size+1) 51 i0 _ 2 32 underlying30 Bl AY Ba Be rfl (by decide) (.slice oq m Iz) m _ rfl (BZ.row.alloc _) ⟨W2.heap.size,0,none⟩ 1 1 [.string (bs x1),.string (bs x2)] rfl rfl (by intro j u hj;rw[add_plain,E5];exact(Dy▸hj)) (by simp[Value.oneCell']) (by unfold maxLen;omega) (by omega) (by rw[Ay];have:=Ao BZ.box;omega) ?_;intro v2 w2 Dn Ef _ _;obtain⟨g2,cap2,rfl⟩:=ownsRow_succ Dn;have Hf:=Hi (BZ.add Ef Dn);clear Dn Ef);go_roundw
     case rel=>exact⟨k+1,m+1,o++[(x1,x2)],true,by omega,by simp[MR.out],by omega,by go_num,rfl,HN,Hf⟩
     case measure=>simp[intOf];omega
   ·by_cases h2:x1=c.name
    ·
     cases d with
     |false=>
      have CP:Op.bytesLess x1 c.name=false:=(by rw[Go.Proofs.bytesLess_eq];simpa using h1);have hne:(x1 == c.name)=true:=(by simpa using h2);have HN:=Hi (show(o++[(c.name,c.data)])++FI c true (A.drop (k+1))=FI c gn A by rw[←KG.out];simp[h2,Sc]);clear h1 h2;go_wp2;go_region;have BU:=Hi Im.drew;clear b0 b1 LQ Fs;generalize wr.drew=W1 at BU ⊢;obtain⟨b0,b1⟩:=O5 BU.box;obtain⟨p0,p1⟩:=HP _ BU.AO;go_wp2_with (at_builtin;refine wpList_append_own_at _ rfl _ _ 30 rfl (w.heap.size+1) 51 i0 _ 2 32 underlying30 Bl AY Ba Be rfl (by decide) (.slice oq m Iz) m _ rfl (BU.row.alloc _) ⟨W1.heap.size,0,none⟩ 1 1 [.string (bs c.name),.string (bs c.data)] rfl rfl (by intro j u hj;rw[add_plain,E5];exact(Dy▸hj)) (by simp[Value.oneCell']) (by unfold maxLen;omega) (by omega) (by rw[Ay];have:=Ao BU.box;omega) ?_;intro v1 w1 DI Nb _ _;obtain⟨g1,VR,rfl⟩:=ownsRow_succ DI;have Je:=Hi (BU.add Nb DI);clear DI Nb);have BZ:=Hi Je.drew;obtain⟨e0,e1⟩:=O5 Je.box;obtain⟨r0,r1⟩:=HP _ Je.AO;go_wp2;go_region;clear b0 b1 p0 p1 e0 e1 r0 r1;generalize w1.drew=W2 at BZ ⊢;obtain⟨b0,b1⟩:=O5 BZ.box;obtain⟨p0,p1⟩:=HP _ BZ.AO;go_wp2;go_roundw
      case rel=>exact⟨k+1,m+1,o++[(c.name,c.data)],true,by omega,by simp[MR.out],by omega,by go_num,rfl,HN,BZ⟩
      case measure=>simp[intOf];omega
     |true=>
      have CP:Op.bytesLess x1 c.name=false:=(by rw[Go.Proofs.bytesLess_eq];simpa using h1);have hne:(x1 == c.name)=true:=(by simpa using h2);have HN:=Hi (show(o)++FI c true (A.drop (k+1))=FI c gn A by rw[←KG.out];simp[h2]);clear h1 h2;go_wp2;go_region;have BU:=Hi Im.drew;clear b0 b1 LQ Fs;generalize wr.drew=W1 at BU ⊢;obtain⟨b0,b1⟩:=O5 BU.box;obtain⟨p0,p1⟩:=HP _ BU.AO;go_wp2;go_region;have BZ:=Hi BU.drew;clear b0 b1 p0 p1;generalize W1.drew=W2 at BZ ⊢;obtain⟨b0,b1⟩:=O5 BZ.box;obtain⟨p0,p1⟩:=HP _ BZ.AO;go_wp2;go_roundw
      case rel=>exact⟨k+1,m,o,true,by omega,by simp[MR.out],by omega,by go_num,rfl,HN,BZ⟩
      case measure=>simp[intOf];omega
    ·
     cases d with
     |false=>
      have CP:Op.bytesLess x1 c.name=false:=(by rw[Go.Proofs.bytesLess_eq];simpa using h1);have hne:(x1 == c.name)=false:=(by simpa using h2);have HN:=Hi (show((o++[(c.name,c.data)])++[(x1,x2)])++FI c true (A.drop (k+1))=FI c gn A by rw[←KG.out];simp[h1,h2]);clear h1 h2;go_wp2;go_region;have BU:=Hi Im.drew;clear b0 b1 LQ Fs;generalize wr.drew=W1 at BU ⊢;obtain⟨b0,b1⟩:=O5 BU.box;obtain⟨p0,p1⟩:=HP _ BU.AO;go_wp2_with (at_builtin;refine wpList_append_own_at _ rfl _ _ 30 rfl (w.heap.size+1) 51 i0 _ 2 32 underlying30 Bl AY Ba Be rfl (by decide) (.slice oq m Iz) m _ rfl (BU.row.alloc _) ⟨W1.heap.size,0,none⟩ 1 1 [.string (bs c.name),.string (bs c.data)] rfl rfl (by intro j u hj;rw[add_plain,E5];exact(Dy▸hj)) (by simp[Value.oneCell']) (by unfold maxLen;omega) (by omega) (by rw[Ay];have:=Ao BU.box;omega) ?_;intro v1 w1 DI Nb _ _;obtain⟨g1,VR,rfl⟩:=ownsRow_succ DI;have Je:=Hi (BU.add Nb DI);clear DI Nb);have BZ:=Hi Je.drew;obtain⟨e0,e1⟩:=O5 Je.box;obtain⟨r0,r1⟩:=HP _ Je.AO;go_wp2;go_region;clear b0 b1 p0 p1 e0 e1 r0 r1;generalize w1.drew=W2 at BZ ⊢;obtain⟨b0,b1⟩:=O5 BZ.box;obtain⟨p0,p1⟩:=HP _ BZ.AO
      go_wp2_with (at_builtin;refine wpList_append_own_at _ rfl _ _ 30 rfl (w.heap.size+1) 51 i0 _ 2 32 underlying30 Bl AY Ba Be rfl (by decide) (.slice (some ⟨g1,0,none⟩) (m+1) VR) (m+1) _ rfl (BZ.row.alloc _) ⟨W2.heap.size,0,none⟩ 1 1 [.string (bs x1),.string (bs x2)] rfl rfl (by intro j u hj;rw[add_plain,E5];exact(Dy▸hj)) (by simp[Value.oneCell']) (by unfold maxLen;omega) (by omega) (by rw[Ay];have:=Ao BZ.box;omega) ?_;intro v2 w2 Dn Ef _ _;obtain⟨g2,cap2,rfl⟩:=ownsRow_succ Dn;have Hf:=Hi (BZ.add Ef Dn);clear Dn Ef);go_roundw
      case rel=>exact⟨k+1,m+1+1,(o++[(c.name,c.data)])++[(x1,x2)],true,by omega,by simp[MR.out],by omega,by go_num,rfl,HN,Hf⟩
      case measure=>simp[intOf];omega
     |true=>
      have CP:Op.bytesLess x1 c.name=false:=(by rw[Go.Proofs.bytesLess_eq];simpa using h1);have hne:(x1 == c.name)=false:=(by simpa using h2);have HN:=Hi (show(o++[(x1,x2)])++FI c true (A.drop (k+1))=FI c gn A by rw[←KG.out];simp[h2]);clear h1 h2;go_wp2;go_region;have BU:=Hi Im.drew;clear b0 b1 LQ Fs;generalize wr.drew=W1 at BU ⊢;obtain⟨b0,b1⟩:=O5 BU.box;obtain⟨p0,p1⟩:=HP _ BU.AO;go_wp2;go_region;have BZ:=Hi BU.drew;clear b0 b1 p0 p1;generalize W1.drew=W2 at BZ ⊢;obtain⟨b0,b1⟩:=O5 BZ.box;obtain⟨p0,p1⟩:=HP _ BZ.AO;go_wp2_with (at_builtin;refine wpList_append_own_at _ rfl _ _ 30 rfl (w.heap.size+1) 51 i0 _ 2 32 underlying30 Bl AY Ba Be rfl (by decide) (.slice oq m Iz) m _ rfl (BZ.row.alloc _) ⟨W2.heap.size,0,none⟩ 1 1 [.string (bs x1),.string (bs x2)] rfl rfl (by intro j u hj;rw[add_plain,E5];exact(Dy▸hj)) (by simp[Value.oneCell']) (by unfold maxLen;omega) (by omega) (by rw[Ay];have:=Ao BZ.box;omega) ?_;intro v2 w2 Dn Ef _ _;obtain⟨g2,cap2,rfl⟩:=ownsRow_succ Dn;have Hf:=Hi (BZ.add Ef Dn);clear Dn Ef);go_roundw
      case rel=>exact⟨k+1,m+1,o++[(x1,x2)],true,by omega,by simp[MR.out],by omega,by go_num,rfl,HN,Hf⟩
      case measure=>simp[intOf];omega
  ·obtain rfl:k=A.length:=(by omega);rw[List.drop_length] at FV;obtain⟨b0,b1⟩:=O5 Bc.box;clear Bc;cases d with
   |false=>
    have HN:=Hi (show o++[(c.name,c.data)]=Am.on A c by rw[←HE.out,←FV];rfl);clear FV;go_wp2_with (at_builtin;refine wpList_append_own_at _ rfl _ _ 30 rfl (w.heap.size+1) 51 i0 _ 2 32 underlying30 Bl AY Ba Be rfl (by decide) (.slice oq m Iz) m _ rfl (Im.row.alloc _) ⟨wr.heap.size,0,none⟩ 1 1 [.string (bs c.name),.string (bs c.data)] rfl rfl (by intro j u hj;rw[add_plain,E5];exact(Dy▸hj)) (by simp[Value.oneCell']) (by unfold maxLen;omega) (by omega) (by rw[Ay];have:=Ao Im.box;omega) ?_;intro v0 w0 Jn ZC _ _;obtain⟨g0,cap0,rfl⟩:=ownsRow_succ Jn;have Xd:=Hi (Im.add ZC Jn);clear Jn ZC);go_ret;refine⟨_,rfl,?_,Xd.AO⟩;rw[←HN.out];unfold BJ;rw[AA,MR.out];exact EA Xd.row (by omega)
   |true=>
    have HN:=Hi (show o=Am.on A c by rw[←HE.out,←FV];exact(Ea o).symm);clear FV;go_wp2;go_ret;refine⟨_,rfl,?_,Im.AO⟩;rw[←HN.out];unfold BJ;rw[MR.out];exact EA Im.row (by omega)
end
end Mem
namespace Mem
open Go.RowKit Go.Maps
open Av Ag Ar Bt Kp BI Hex BH Al
theorem aBA{w:World}{a:Option Addr}{l:List T}(cap:Nat)(hl:Du w a l)(k:T)(hlen:l.length≤1000000000):
  Calls prog 31 #[.slice a l.length cap,.string (bs k)] w fun e w'=>∃ i:Int,e=.returned (.int .i64 i)∧(decide (0≤i))=decide (k∈l)∧Bw w w':=by
 have HL:=Hi hl;clear hl
 go_in
 go_wp2
 go_loopw [5,8] (fun _ i wr=>∃ n:Nat,n≤l.length∧i=.int .i64 n∧Bw w wr∧k∉l.take n) (fun _ i _=>l.length -(intOf i).toNat)
 case atStart=>exact⟨0,AV _,rfl,Ai _ _,by simp⟩
 case round=>
  obtain⟨n,hn,rfl,hb,D9⟩:=hrel;have DW:=Hi D9;have HB:=Hi hb;clear D9;by_cases hlt:n < l.length
  ·obtain⟨q,Cs,c0⟩:=(HL.below hb).index cap n hlt;have Lr:=Hi (CQ hlt)
   have Di:=Hi (show k≠l[n]→k∉l.take (n+1) from fun h=>by
    rw[Cx hlt,Eh];rintro(e|e)
    ·exact DW e
    ·exact h (by simpa using e))
   generalize l[n]=x at*;clear hb;by_cases hx:k=x
   ·subst hx;go_wp2;go_ret;exact⟨_,rfl,by simp[Lr.out],HB⟩
   ·have ZU:(k == x)=false:=FQ.2 hx;have HN:=Hi (Di hx);clear Di Lr;go_wp2;go_roundw
    case rel=>exact⟨n+1,by omega,by go_num,HB,HN⟩
    case measure=>simp[intOf];omega
  ·obtain rfl:n=l.length:=(by omega);have D9:k∉l:=by
    have:=DW.out;rwa[Da] at this
   clear hb;go_wp2;go_ret;exact⟨_,rfl,by simp[D9],HB⟩
theorem aBq{w:World}{a:Option Addr}{l:List T}(cap:Nat)(hl:Du w a l)(k:T)(hlen:l.length≤1000000000):
  Calls prog 156 #[.slice a l.length cap,.string (bs k)] w fun e w'=>e=.returned (.bool (decide (k∈l)))∧Bw w w':=by
 have HI:=Hi (aBA cap hl k hlen);clear hl;generalize decide (k∈l)=d at*
 go_in
 go_wp2_with fail;refine HI.mono ?_;rintro e w1⟨i,rfl,hd,hb⟩;have HB:=Hi hb;have HD:=Hi hd;clear hb hd;go_wp2;go_ret;exact⟨by rw[←HD.out];rfl,HB⟩
end Mem
namespace Ch
open Go.RowKit Go.Maps
open Av Ag Ar Bt Kp BI Hex BH Mem
theorem qf(k:T)(w:World)(hk:k.length≤1000000):Calls prog 107 #[.string (bs k)] w fun e w'=>e=.returned (.string (bs (Aa.nm k)))∧Bw w w':=by
 have hm:({ data:=#[117] }:ByteArray)=bs [117]:=rfl;have hcut:∀ W,(Instr.slice 9 (.string (bs (EJ k))) none (some (.int .i64 8)) none).run prog W=.ok (.string (bs ((EJ k).take 8))) W:=fun W=>O7 prog W 9 underlying9 (EJ k) 8 (by rw[TU];decide)
 have HE:=Hi (show Aa.nm k=[117]++Ew ((EJ k).take 8) from rfl);have hl:(Ew ((EJ k).take 8)).length=16:=by rw[UN,AZ,TU];rfl
 have HS:=Hi (anw k hk w);have HH:=Hi (fun(W:World)=>ab2 ((EJ k).take 8) W (by rw[AZ,TU];decide));rw[HE.out];generalize EJ k=s at*;generalize Ew (s.take 8)=h at*
 go_in
 go_wp2_with fail;refine HS.mono ?_;rintro e w1⟨rfl,Aj⟩;have HB1:=Hi Aj;clear Aj;go_wp2_with fail;refine(HH _).mono ?_;rintro e w2⟨rfl,Ac⟩;have Ak:=bH HB1 Ac;clear Ac;go_wp2;go_ret;exact⟨rfl,Ak⟩
theorem as9(name:T)(w:World)(hn:name.length≤1000000):Calls prog 202 #[.string (bs name)] w fun e w'=>e=.returned (.bool (Aa.ours name))∧Bw w w':=by
 show Calls _ _ _ _ fun e w'=>e=.returned (.bool (Np 117 name))∧_
 by_cases h1:name.length=17
 ·have h1i:(name.length:Int)=17:=by omega
  have hlt:0 < name.length:=by omega
  have kR:(0:Int) < (name.length:Int):=by omega
  have hd:name.head?=some name[0]:=by
   cases name with
   |nil=>simp at h1
   |cons a l=>rfl
  by_cases h2:name[0]=117
  ·have hR:=Hi (ama (c:=117) h1 (by rw[hd,h2]));have hcut:∀ W,(Instr.slice 9 (.string (bs name)) (some (.int .i64 1)) none none).run prog W=.ok (.string (bs (name.drop 1))) W:=fun W=>ME prog W 9 underlying9 name 1 (by omega)
   have jF:(name[0].toNat:Int)=117:=(by rw[h2];rfl);have HU:=Hi (adN (name.drop 1) w (by rw[Ct];omega));have HV:=Hi (aoh (name.drop 1));rw[hR.out,←HV.out];generalize MG (name.drop 1)=V at*;clear hd h2 HV hR;generalize name.drop 1=dn at*
   go_in
   go_wp2_with fail;refine HU.mono ?_;rintro e w1⟨rfl,hb⟩;have HB:=Hi hb;clear hb;go_wp2;go_ret;exact⟨by simp;rfl,HB⟩
  ·have hR:Hid (Np 117 name=false):=Hi (uP (fun h=>h2 (by have:=h.2;rw[hd] at this;injection this)));have jF:¬ (name[0].toNat:Int)=117:=fun e=>h2 (by apply UInt8.toNat_inj.1;have h9:(117:UInt8).toNat=117:=rfl;rw[h9];omega)
   rw[hR.out];clear hd h2
   go_in
   go_wp2;go_ret;exact⟨rfl,Ai _ _⟩
 ·have h1i:¬ (name.length:Int)=17:=by omega
  have hR:Hid (Np 117 name=false):=Hi (uP (fun h=>h1 h.1));rw[hR.out]
  go_in
  go_wp2;go_ret;exact⟨rfl,Ai _ _⟩
end Ch
namespace Ar
open Go.RowKit Go.Maps Go.Sort Go.Shelf Go.Lib
open Av Ag
theorem zM{w:World}{base:Nat}{v:Value}{l:List (List UInt8)}(h:Bq w base v l)(hl:l.length≤1000000):
  Calls prog 106 #[v] w fun e w'=>∃ v',e=.returned v'∧Bq w' w.heap.size v' (Bi l)∧Bw w w':=by
 have HC:=Hi (ary h hl);have eQ:v.oneCell'=true:=by obtain⟨q,cap,rfl⟩:=Bo h;rfl
 clear h
 go_in
 go_wp2_with fail;refine HC.mono ?_;rintro e w1⟨v1,rfl,DI,FU,Aj⟩;rcases DI.parts with⟨rfl,rfl⟩|⟨g,cap,rfl,hg,ZK,PN,NT⟩
 ·have HB1:=Hi Aj;clear DI FU Aj;go_wp2_with fail;refine(AnyM.slices_Sort_string_none Xy none 0 _).mono ?_;rintro e w2⟨rfl,rfl⟩;go_wp2_with fail;refine(Any.slices_Compact_string_empty fG none 0 _).mono ?_;rintro e w3⟨rfl,rfl⟩;go_wp2;go_ret;exact⟨_,rfl,by unfold Bq;rw[show Bi []=[] by simp[Bi,Lib.compact,Lib.compactUpTo],M5];exact DZ _ _ _ _,HB1⟩
 ·have TB:=DI;unfold Bq at TB;rw[M5] at TB;obtain⟨g2,cap2,e2,_,_,_,_,_,hH⟩:=holds_of_ownsRow TB (by simp);cases e2;have D5:=Hi TB;have HB1:=Hi Aj;have HH:=Hi hH;clear DI TB FU Aj hH;go_wp2_with fail;refine(AnyM.slices_Sort_string Xy g 0 cap l _ HH NT (by omega)).mono ?_;rintro e w2⟨rfl,n,os,rfl⟩;have CG:(l.mergeSort fun x y=>decide (x≤y)).length=l.length:=by simp
  have Dn:=ownsRow_putRow (q:=n) D5 CG (Ae _);have Ac:=below_putRow (q:=n) (enc:=encStr) (d:=(l.mergeSort fun x y=>decide (x≤y)).toArray) HB1 hg;have JH:=Bv Dn (ub (below_grow (Ai _ _) (Ae _) os)) (fun _ _ f=>f);have Ap:=below_grow Ac Ac.size os;clear Dn Ac;rw[Gu (by rw[CG];omega)] at JH;obtain⟨S,UG⟩:∃ S,(l.mergeSort fun x y=>decide (x≤y))=S:=⟨_,rfl⟩;have hR:Hid (Bi l=Lib.compact S):=Hi (by unfold Bi;rw[UG]);rw[UG] at JH Ap CG ⊢;generalize Go.Sort.grow (Go.Sort.putRow encStr (Sort.ahead w1 n) g 0 S.toArray) os=w3 at*;obtain⟨g3,pJ,e3,_,_,_,_,_,Zn⟩:=holds_of_ownsRow JH (by simp);cases e3;have UK:=Any.slices_Compact_string fG g 0 cap S w3 Zn (by omega) (by omega);rw[←CG] at JH;rw[show(uj.f 194)=71 from rfl,CG] at UK;have xA:=Hi UK;have Oj:=Hi JH;have Au:=Hi Ap;have HH3:=Hi Zn;clear JH Ap Zn UK;go_wp2_with fail;refine xA.mono ?_;rintro e w4⟨rfl,q,rfl⟩;rw[←CG];have BN:=compact_length_le S;have UZ:=ownsRow_putRow (q:=q) (k:=(Lib.compact S).length) Oj (ys:=Lib.compact S++List.replicate (S.length -(Lib.compact S).length) []) (by simp;omega) BN;have AB:=below_putRow (q:=q) (enc:=encStr) (d:=(Lib.compact S++List.replicate (S.length -(Lib.compact S).length) []).toArray) Au hg;rw[IU rfl] at UZ;generalize Go.Sort.putRow encStr (Sort.ahead w3 q) g 0 (Lib.compact S++List.replicate (S.length -(Lib.compact S).length) []).toArray=w4 at*;have y7:=Hi UZ;have AX:=Hi AB;clear UZ AB;go_wp2;go_ret;refine⟨_,rfl,?_,AX⟩;unfold Bq;rw[hR.out,M5];exact y7.out
end Ar
namespace Ch
open Go.RowKit Go.Maps
open Av Ag Ar Bt Kp BI Hex BH Mem
theorem as2(name data:T):Aa.CB name data=if(A9.Ey data).2=0 then(I1 (A9.Ey data).1).bind fun l=>if l≠[]∧(E8 l).length=l.length∧∀ p∈l,Aa.nm p.1=name∧rowOk p=true then some l else none else none:=by
 rfl
theorem azE{s:T}{l:List T}(h:Dp s=some l):l.length≤65535:=by
 unfold Dp at h;split at h
 ·cases h
 ·cases h1:Ez (A9.val (s.take 2)) (s.drop 2) with
  |none=>rw[h1] at h;cases h
  |some r=>
   rw[h1] at h;simp only[CL] at h;split at h
   ·simp only[Ci] at h;obtain⟨e1,a,e2,e3⟩:=ad4 (l:=r.1) (r:=r.2) h1;have hv:=A9.JS (s.take 2);have hl:(s.take 2).length≤2:=(by rw[AZ];omega);have hp:256 ^ (s.take 2).length≤256 ^ 2:=Nat.pow_le_pow_right (by decide) hl;have J4:A9.val (s.take 2) < 65536:=Hw hv hp;rw[←h,e1];omega
   ·cases h
def ae8(w:World)(q:Option Addr)(cap:Nat)(l:M)(name:T)(i:Value)(wr:World):Prop:=∃ k:Nat,k≤l.length∧i=.int .i64 k∧Bw w wr∧BJ wr w.heap.size (.slice q l.length cap) l∧∀ p∈l.take k,Aa.nm p.1=name∧rowOk p=true
theorem asa(name data:T)(w:World)(hd:data.length≤1000000):Calls prog 191 #[.string (bs name),.string (bs data)] w fun e w'=>Mem.Mj w (Aa.CB name data) e w':=by
 have Qs:=Hi (as2 name data);have HO:=Hi (am7 data w (by omega));have CG:(A9.Ey data).1.length≤1000000:=by
  by_cases h:(A9.Ey data).2=0
  ·have:=congrArg List.length (A9.acK h);rw[A9.Sl] at this;omega
  ·unfold A9.Ey at h ⊢;split
   ·simp
   ·split
    ·rename_i h1 h2
     rw[Ab h1,Ad h2] at h;exact absurd rfl h
    ·simp
 generalize (A9.Ey data).1=s at*;generalize (A9.Ey data).2=c at*;have HG:=Hi (fun(W:World)=>amk s W (by omega));by_cases hc:c=0
 ·subst hc;cases hg:I1 s with
  |none=>
   have hR:Hid (Aa.CB name data=none):=Hi (by rw[Qs.out,Ad rfl,hg];rfl);have Dg:=Hi (show ∀ W,Calls prog 229 #[.string (bs s)] W fun e w'=>e=.returned (.tuple #[.slice none 0 0,.int .i64 7])∧Bw W w' from fun W=>by have:=HG W;unfold VO at this;rw[hg] at this;exact this);clear HG Qs hg
   go_in
   go_wp2_with fail;refine HO.mono ?_;rintro e w1⟨rfl,Aj⟩;have HB1:=Hi Aj;clear Aj;go_wp2_with fail;refine(Dg _).mono ?_;rintro e w2⟨rfl,Ac⟩;have Ak:=bH HB1 Ac;clear Ac;go_wp2;go_ret2;exact Mem.M0 hR.out rfl Ak.out
  |some l=>
   have Dg:=Hi (show ∀ W,Calls prog 229 #[.string (bs s)] W fun e w'=>∃ v,e=.returned (.tuple #[v,.int .i64 0])∧BJ w' W.heap.size v l∧Bw W w' from fun W=>by have:=HG W;unfold VO at this;rw[hg] at this;exact this);have YQ:=Hi (show Aa.CB name data=if l≠[]∧(E8 l).length=l.length∧∀ p∈l,Aa.nm p.1=name∧rowOk p=true then some l else none from by rw[Qs.out,Ad rfl,hg];rfl);obtain⟨hl,hsh⟩:=aad hg;have Rz:=Hi hsh;clear HG Qs hg hsh;by_cases hz:l=[]
   ·have hR:Hid (Aa.CB name data=none):=Hi (by rw[YQ.out,Ab (fun h=>h.1 hz)]);have AY:(l.length:Int)=0:=(by rw[hz];rfl);clear hz
    go_in
    go_wp2_with fail;refine HO.mono ?_;rintro e w1⟨rfl,Aj⟩;have HB1:=Hi Aj;clear Aj;go_wp2_with fail;refine(Dg _).mono ?_;rintro e w2⟨v,rfl,Af,Ac⟩;obtain⟨q,cap,rfl,Hl,BN⟩:=FH Af;have Ak:=bH HB1 Ac;clear Ac Af;go_wp2;go_ret2;exact Mem.M0 hR.out rfl Ak.out
   ·have AY:¬ (l.length:Int)=0:=fun e=>hz (Ld.1 (by omega))
    have hzb:((l.length:Int) == 0)=false:=FQ.2 AY;by_cases hk:(E8 l).length=l.length
    ·have iM:=Hi (show Aa.CB name data=if ∀ p∈l,Aa.nm p.1=name∧rowOk p=true then some l else none from by
      rw[YQ.out];by_cases h:∀ p∈l,Aa.nm p.1=name∧rowOk p=true
      ·rw[Ad ⟨hz,hk,h⟩,Ad h]
      ·rw[Ab (fun x=>h x.2.2),Ab h])
     have dW:((E8 l).length:Int)=(l.length:Int):=by omega
     go_in
     go_wp2_with fail;refine HO.mono ?_;rintro e w1⟨rfl,Aj⟩;have HB1:=Hi Aj;clear Aj;go_wp2_with fail;refine(Dg _).mono ?_;rintro e w2⟨v,rfl,Af,Ac⟩;obtain⟨q,cap,rfl,Hl,BN⟩:=FH Af;have Ak:=bH HB1 Ac;have Ck:=Hi (EA Af HB1.size);have JW:=Hi (fT (w:=w2) (Bf.CX Af) Hl (by omega));clear Ac Af;go_wp2_with fail;refine JW.mono ?_;rintro e w3⟨kv,rfl,Cz,Ap⟩;obtain⟨kq,kc,rfl⟩:=Bo Cz;have Pq:=Hi (Cg Ck Ap);have Au:=bH Ak Ap;clear Ap Cz;go_wp2
     go_loopw [10,42] (fun _ i wr=>ae8 w q cap l name i wr) (fun _ i _=>l.length -(intOf i).toNat)
     case atStart=>exact⟨0,AV _,rfl,Au,Pq,fun p h=>by simp at h⟩
     case round=>
      obtain⟨k,Dw,rfl,hb,hr,hall⟩:=hrel;have HB:=Hi hb;have HR:=Hi hr;have HA:=Hi hall;clear hall Au Pq hb;by_cases hlt:k < l.length
      ·obtain⟨a,Cs,ha,-⟩:=(Bf.CX hr).index cap k hlt;have c0:=ha.key;have c1:=ha.val;have hsk:=(Rz _ (CQ hlt)).1;have tJ:=(Rz _ (CQ hlt)).2;have HT:=Hi (ao0 (P:=fun p=>Aa.nm p.1=name∧rowOk p=true) hlt HA)
       have HF:=Hi (show ¬ (Aa.nm l[k].1=name∧rowOk l[k]=true)→Aa.CB name data=none from fun hne=>by
        rw[iM.out,Ab (fun h=>hne (h _ (CQ hlt)))])
       generalize l[k]=x at*;have HN:=Hi (fun(W:World)=>qf x.1 W (by omega));have Ep:=Hi (fun(W:World)=>mF x.2 W (by omega));have Hf:=Hi (show Aa.nm x.1=name∧rowOk x=true→∀ p∈l.take (k+1),Aa.nm p.1=name∧rowOk p=true from HT.out);clear ha hr HT;generalize Aa.nm x.1=nx at*;cases FX:Dp x.2 with
       |none=>
        have Z0:=Hi (show ∀ W,Calls prog 203 #[.string (bs x.2)] W fun e w'=>e=.returned (.tuple #[.slice none 0 0,.int .i64 7])∧Bw W w' from fun W=>by have:=Ep W;unfold Go.Proofs.YtkmninbcgipliaaGreatDoor.Mj at this;rw[FX] at this;exact this);have hR:=Hi (HF (fun h=>by have:=h.2;unfold rowOk at this;rw[FX] at this;cases this));clear HF Hf Ep FX HN;go_wp2_with fail;refine(Z0 _).mono ?_;rintro e w4⟨rfl,AB⟩;have AX:=Hi ((HB.alloc HB.size _).trans (AB.mono (by have:=HB.size;rw[Ay];omega)));clear AB;go_wp2;go_ret2;exact Mem.M0 hR.out rfl AX.out
       |some kr=>
        have Z0:=Hi (show ∀ W,Calls prog 203 #[.string (bs x.2)] W fun e w'=>∃ v,e=.returned (.tuple #[v,.int .i64 0])∧Ar.Bq w' 0 v kr∧Bw W w' from fun W=>(Ep W).mono fun e w' h=>by
         unfold Go.Proofs.YtkmninbcgipliaaGreatDoor.Mj at h;rw[FX] at h;obtain⟨v,h1,h2,h3,_⟩:=h;exact⟨v,h1,h2,h3⟩)
        have Y1:=azE FX;have Mh:=Hi (show rowOk x=decide (Bi kr=kr) from by unfold rowOk;rw[FX]);have ak1:=AQ wr (.cells #[.string (bs x.1),.string (bs x.2)] 51);have HNK:=Hi ak1;clear Ep FX ak1;go_wp2_with fail;refine(Z0 _).mono ?_;rintro e w4⟨kv4,rfl,abj,AB⟩;obtain⟨kq,kc,rfl⟩:=Bo abj;have ak2:=(AB.block _ (Ao HNK)).trans HNK.out;have d0:w4.cell? ⟨wr.heap.size,0,none⟩=some (.string (bs x.1)):=cr ak2;have Lt:=Hi (Cg (HR.alloc _) AB);have AX:=Hi ((HB.alloc HB.size _).trans (AB.mono (by have:=HB.size;rw[Ay];omega)));have xO:=Hi abj;clear AB ak2 abj;go_wp2_with fail;refine(HN _).mono ?_;rintro e w5⟨rfl,BF⟩;have KH:=Hi (Cg Lt BF);have CZ:=bH AX BF;have abk:=Cg xO BF;have EZ:=Hi (zM abk (by omega));have apu:=Hi abk;clear BF abk;by_cases heq:nx=name
        ·have avr:(nx == name)=true:=beq_iff_eq.2 heq;go_wp2_with fail;refine EZ.mono ?_;rintro e w6⟨rv,rfl,hrv,CS⟩;obtain⟨rq,rc,rfl⟩:=Bo hrv;have LU:=Vh kr;have HEQ:=Hi (asC (Cg apu CS) hrv (by omega) (by omega));have Hy:=Hi (Cg KH CS);have EC:=bH CZ CS;clear CS hrv;go_wp2_with fail;refine HEQ.mono ?_;rintro e w7⟨rfl,FK⟩;have oK:=Hi (Cg Hy FK);have Eo:=bH EC FK;clear FK;by_cases fo:kr=Bi kr
         ·have kC:decide (kr=Bi kr)=true:=MM fo;have CF:=Hi (show ae8 w q cap l name (.int .i64 ((k:Int)+1)) w7 from⟨k+1,by omega,by go_num,Eo,oK,Hf ⟨heq,by rw[Mh.out];exact MM fo.symm⟩⟩);rw[kC];clear fo kC Hf HF Mh;go_wp2;go_roundw
          case rel=>exact CF.out
          case measure=>
           show l.length -((k:Int)+1).toNat < l.length -((k:Int)).toNat
           omega
         ·have kC:decide (kr=Bi kr)=false:=decide_eq_false fo;have hR:=Hi (HF (fun h=>fo (by have:=h.2;rw[Mh.out] at this;exact(O9 this).symm)));rw[kC];clear fo kC Hf HF Mh;go_wp2;go_ret2;exact Mem.M0 hR.out rfl Eo.out
        ·have avr:(nx == name)=false:=FQ.2 heq;have hR:=Hi (HF (fun h=>heq h.1));clear Hf HF Mh;go_wp2;go_ret2;exact Mem.M0 hR.out rfl CZ.out
      ·obtain rfl:k=l.length:=by omega
       have hR:Hid (Aa.CB name data=some l):=Hi (by
        rw[iM.out,Ad];have:=HA.out;rwa[Da] at this)
       clear hr;go_wp2;go_ret2;exact Mem.mJ hR.out rfl HR Hl HB.out
    ·have hR:Hid (Aa.CB name data=none):=Hi (by rw[YQ.out,Ab (fun h=>hk h.2.1)]);have dW:¬ ((E8 l).length:Int)=(l.length:Int):=(by omega);have RO:(((E8 l).length:Int) != (l.length:Int))=true:=bne_iff_ne.2 dW
     go_in
     go_wp2_with fail;refine HO.mono ?_;rintro e w1⟨rfl,Aj⟩;have HB1:=Hi Aj;clear Aj;go_wp2_with fail;refine(Dg _).mono ?_;rintro e w2⟨v,rfl,Af,Ac⟩;obtain⟨q,cap,rfl,Hl,BN⟩:=FH Af;have Ak:=bH HB1 Ac;have JW:=Hi (fT (w:=w2) (Bf.CX Af) Hl (by omega));clear Ac Af;go_wp2_with fail;refine JW.mono ?_;rintro e w3⟨kv,rfl,Cz,Ap⟩;obtain⟨kq,kc,rfl⟩:=Bo Cz;have Au:=bH Ak Ap;clear Ap Cz;go_wp2;go_ret2;exact Mem.M0 hR.out rfl Au.out
 ·have hR:Hid (Aa.CB name data=none):=Hi (by rw[Qs.out,Ab hc]);clear HG Qs
  go_in
  go_wp2_with fail;refine HO.mono ?_;rintro e w1⟨rfl,Aj⟩;have HB1:=Hi Aj;clear Aj;go_wp2;go_ret2;exact Mem.M0 hR.out rfl HB1.out
end Ch
namespace Ch
open Go.RowKit Go.Maps
open Av Ag Ar Bt Kp BI Hex BH Mem
def EN(w:World)(p y:Nat):Prop:=w.heap[p]?=some (.cells #[.pointer (some ⟨y,0,none⟩)] 162)
theorem EN.cell{w:World}{p y:Nat}(h:EN w p y):w.cell? ⟨p,0,none⟩=some (.pointer (some ⟨y,0,none⟩)):=by
 rw[BL _ _ _ _ _ _ h];rfl
theorem EN.lt{w:World}{p y:Nat}(h:EN w p y):p < w.heap.size:=Ao h
theorem EN.below{w w':World}{p y:Nat}(h:EN w p y)(hb:Bw w w'):EN w' p y:=(hb.block p (Ao h)).trans h
theorem EN.upd{F:Nat→Prop}{w w':World}{p y:Nat}(h:EN w p y)(hu:A7 F w w')(hF:¬ F p):EN w' p y:=(hu.block p (Ao h) hF).trans h
theorem agC(y:Nat)(w:World):Calls prog 27 #[.pointer (some ⟨y,0,none⟩)] w fun e w'=>∃ p,e=.returned (.tuple #[.pointer (some ⟨p,0,none⟩),.int .i64 0])∧EN w' p y∧w.heap.size≤p∧Bw w w':=by
 go_in
 go_wp2;go_ret2;exact⟨_,rfl,AQ w _,Ae _,AU w _⟩
theorem qh{w:World}{p y:Nat}{A:M}(hm:EN w p y)(hg:Ar.Pb w y A)(name:T)(hn:name.length≤1000):Calls prog 108 #[.pointer (some ⟨p,0,none⟩),.string (bs name)] w fun e w'=>Qx Aa w A name e w':=by
 have c:=hm.cell;have HG:=Hi (hg.gets w (Ai _ _) name hn);have hs:=hg.small name;have HF:=Hi (show fileOf Aa A name=(Ag.get A name).bind (Aa.CB name) from rfl);clear hg hm;cases hx:Ag.get A name with
 |none=>
  rw[hx] at HG HF;have hF:fileOf Aa A name=none:=HF.out;have HP:=Hi (show ∀ W',Bw w W'→Qx Aa w A name (.returned (.tuple #[.slice none 0 0,.bool false,.bool false])) W' from fun W' hb=>⟨none,0,by rw[hF,hx];rfl,by rw[hF];exact WL _ _,fun _=>rfl,hb⟩);clear hx HF hF hs
  go_in
  go_wp2_with fail;refine HG.mono ?_;rintro e w1⟨rfl,Aj⟩;have HB1:=Hi Aj;clear Aj;go_wp2_with fail;exact EU (v:=.tuple #[.slice none 0 0,.bool false,.bool false]) (by simp[results,results108,go_sem]) rfl (HP _ HB1)
 |some d=>
  rw[hx] at HG HF;have hF:fileOf Aa A name=Aa.CB name d:=HF.out;have KV:d.length≤1000000:=by rw[hx] at hs;exact hs
  have HR:=Hi (fun(W:World)=>asa name d W KV);have Qr:=Hi (show(Ag.get A name).isSome=true from by rw[hx];rfl);clear HF hs hx;cases hr:Aa.CB name d with
  |none=>
   rw[hr] at HR hF;have HP:=Hi (show ∀ W',Bw w W'→Qx Aa w A name (.returned (.tuple #[.slice none 0 0,.bool true,.bool false])) W' from fun W' hb=>⟨none,0,by rw[hF,Qr.out];rfl,by rw[hF];exact WL _ _,fun _=>rfl,hb⟩);clear hF hr Qr
   go_in
   go_wp2_with fail;refine HG.mono ?_;rintro e w1⟨rfl,Aj⟩;have HB1:=Hi Aj;clear Aj;go_wp2_with fail;refine(HR _).mono ?_;rintro e w2⟨rfl,Ac⟩;have Ak:=bH HB1 Ac;clear Ac;go_wp2_with fail;exact EU (v:=.tuple #[.slice none 0 0,.bool true,.bool false]) (by simp[results,results108,go_sem]) rfl (HP _ Ak)
  |some l=>
   rw[hr] at HR hF;have HP:=Hi (show ∀ (W':World) (q:Option Addr) (cap:Nat),BJ W' w.heap.size (.slice q l.length cap) l→(q=none→cap=0)→Bw w W'→Qx Aa w A name (.returned (.tuple #[.slice q l.length cap,.bool true,.bool true])) W' from fun W' q cap h1 h2 hb=>⟨q,cap,by rw[hF,Qr.out];rfl,by rw[hF];exact h1,h2,hb⟩);clear hF hr Qr
   go_in
   go_wp2_with fail;refine HG.mono ?_;rintro e w1⟨rfl,Aj⟩;have HB1:=Hi Aj;clear Aj;go_wp2_with fail;refine(HR _).mono ?_;rintro e w2⟨q,cap,rfl,Af,Hl,Ac⟩;have Ak:=bH HB1 Ac;have HW:=Hi (EA Af HB1.size);clear Ac Af;go_wp2_with fail;exact EU (v:=.tuple #[.slice q l.length cap,.bool true,.bool true]) (by simp[results,results108,go_sem]) rfl (HP _ _ _ HW Hl Ak)
theorem ags{w:World}{p y:Nat}{c:Int}{P:World→World→Prop}(hm:EN w p y)(hf:Calls prog 175 #[.pointer (some ⟨y,0,none⟩)] w fun e w'=>e=.returned (.int .i64 c)∧P w w'):
  Calls prog 104 #[.pointer (some ⟨p,0,none⟩)] w fun e w'=>e=.returned (.int .i64 c)∧P w w':=by
 have c0:=hm.cell;have HF:=Hi hf;clear hf hm
 go_in
 go_wp2_with fail;refine HF.mono ?_;rintro e w1⟨rfl,Aj⟩;go_wp2;go_ret;exact⟨rfl,Aj⟩
end Ch
namespace Ch
open Go.RowKit Go.Maps
open Av Ag Ar Bt Kp BI Hex BH Al Mem
theorem zI(p:Nat)(w:World):
  Calls prog 123 #[.pointer (some ⟨p,0,none⟩)] w fun e w'=>e=.returned (.func (.func 201) #[] #[.pointer (some ⟨w.heap.size,0,none⟩)])∧w'=w.alloc (.cells #[.pointer (some ⟨p,0,none⟩)] 44):=by
 go_in
 go_wp2;go_ret;exact⟨rfl,rfl⟩
theorem zH(n:Nat)(hn:1≤n){w:World}{p y:Nat}{A:M}(hm:EN w p y)(hf:He w y A)(oc Bx:Nat){J:Nat→List T→World→Prop}(hJ:Xi w oc J)(w1:World):
  Xk n prog 201 #[.pointer (some ⟨Bx,0,none⟩)] qp (Oa w oc Bx (.pointer (some ⟨p,0,none⟩)) 44 Aa A J) (U3 w oc Bx (.pointer (some ⟨p,0,none⟩)) 44 Aa A J) (fun xs=>xs.map (·.name)=Ic Aa A) w1:=by
 intro l Bk W UE hY hW h0 Kc;have h00:Bw w W∧w.heap.size≤oc∧oc < Bx∧W.heap[Bx]?=some (.cells #[.pointer (some ⟨p,0,none⟩)] 44)∧∃ B,B≤W.heap.size∧J B [] W:=by
  rcases h0 with⟨-,h⟩|⟨B0,q0,c0,g1,-,g2,g3⟩
  ·exact h
  ·exact⟨g1.AO,g1.low,g1.lt,g1.box,B0,g1.size,g3⟩
 obtain⟨g1,g2,g3,g4,B0,g5,g6⟩:=h00;clear h0;have LF:W.cell? ⟨Bx,0,none⟩=some (.pointer (some ⟨p,0,none⟩)):=cr g4;have UX:=(hm.below g1).cell;have Ju:=Hi (hf.names W g1);have G1:=Hi g1;have G2:=Hi g2;have G3:=Hi g3;have G4:=Hi g4;have G5:=Hi g5;have G6:=Hi g6;have X5:=Hi Kc;have Rq:=Hi UE;have HJ:=Hi hJ;have HM:=Hi hm;have HF:=Hi hf;have hlen:=hf.len;clear g1 g2 g3 g4 g5 g6 Kc UE hJ hm hf;refine callsIn_of_wp func201 rfl trivial ?_ rfl;simp only[ntmps201,Jt,BG,Ht,Nat.reduceAdd,Nat.reduceSub,La,Lb,Lf,Lc,Ei,Gt]
 gi_wp2
 refine⟨trivial,(Dr.2 Ju).mono ?_⟩;rintro e w2⟨v,rfl,Af,Ac,hown⟩;have Ak:=bH G1 Ac;have jY:Bk w2:=Rq _ _ X5 (Vd (ub Ac) (fun _ _ f=>f.elim));have QN:J w2.heap.size [] w2:=HJ.raise _ _ _ (HJ.below _ _ _ _ G6 Ac) (Aw G5 Ac.size) (Ae _);obtain⟨q,c,rfl⟩:∃ q c,v=.slice q (A.map (·.1)).length c:=by
  rw[BP];exact Bo Af
 have XJ:M9 w oc Bx w2.heap.size (.pointer (some ⟨p,0,none⟩)) 44 q c (A.map (·.1)) w2:=⟨Ak,G2,G3,Hw (Ao G4) Ac.size,Ae _,(Ac.block _ (Ao G4)).trans G4,by rw[BP] at Af ⊢;exact Af,fun k hk=>⟨Hw (Nat.lt_trans G3 (Ao G4)) (hown k hk),by
  obtain⟨cs,fz,h⟩:=Cn Af hk;exact Ao h⟩⟩
 have SC:=Hi XJ;have YR:=Hi QN;have il:=Hi jY;generalize w2.heap.size=B at*;clear XJ QN jY Af Ac hown Ju G1 G2 G3 G4 G5 G6 X5;have YW:=Hi (show ∀ t∈A.map (·.1),t.length≤1000 from fun t ht=>HF.short t ht);have El:((A.map (·.1)).length:Int)=(A.length:Int):=by rw[BP]
 gi_wp2
 gi_loopw [16] (fun i wr=>nN w oc Bx B (.pointer (some ⟨p,0,none⟩)) 44 q c Aa A J Bk i wr) (fun i _=>A.length -(intOf i).toNat)
 case atStart=>exact⟨0,[],AV _,rfl,SC,fun z hz=>by simp at hz,rfl,YR,il⟩
 case round=>
  obtain⟨k,xs,hk,rfl,h1,kI,h2,h3,h4⟩:=hrel;have YP:=Hi kI;have H1:=Hi h1;have H2:=Hi h2;have H3:=Hi h3;have H4:=Hi h4;clear h2 h3 h4 kI SC YR il;by_cases hlt:k < A.length
  ·have Tz:k < (A.map (·.1)).length:=(by rw[BP];exact hlt);obtain⟨a,Cs,c0⟩:=(Hr (c:=c) h1.row).index c k Tz;simp only[BP] at Cs;have Jm:∀ t∈A.map (·.1),t.length≤1000:=YW.out;have KX:=Jm _ (CQ Tz);have Cv:=Hi (uG (f:=Aa.ours) Tz);have SV:=Hi (ah3 (f:=Aa.ours) Tz);generalize (A.map (·.1))[k]=name at*;have HO:=Hi (as9 name wr (by omega));clear Jm;have Zw:wr.cell? ⟨Bx,0,none⟩=some (.pointer (some ⟨p,0,none⟩)):=cr h1.box;have PI:=h1.AO;have AR:=Hi PI;clear h1 PI
   gi_wp2
   refine⟨trivial,(Dr.2 HO).mono ?_⟩;rintro e w3⟨rfl,Ap⟩;have aaW:w3.cell? ⟨Bx,0,none⟩=some (.pointer (some ⟨p,0,none⟩)):=(Ap.cell (Cr Zw)).trans Zw;have Jw:=Hi (H1.below Ap);have iN:=Hi (HJ.below _ _ _ _ H3 Ap);have Oe:=Hi (Rq _ _ H4 (Vd (ub Ap) (fun _ _ f=>f.elim)));clear Ap Cs c0 HO Zw;cases TC:Aa.ours name with
   |false=>
    have HX:=Hi (show xs.map (·.name)=((A.map (·.1)).take (k+1)).filter Aa.ours from by rw[Cv.out,TC,H2.out];simp);clear Cv SV TC
    gi_wp2
    go_roundw
    case rel=>exact⟨k+1,xs,by omega,by go_num,Jw,YP,HX,iN,Oe⟩
    case measure=>
     show A.length -((k:Int)+1).toNat < A.length -((k:Int)).toNat
     omega
   |true=>
    have HX:=Hi (show xs.map (·.name)++[name]=((A.map (·.1)).take (k+1)).filter Aa.ours from by rw[Cv.out,TC,H2.out];simp);have yt:=Hi (show xs.map (·.name)++name :: ((A.map (·.1)).drop (k+1)).filter Aa.ours=Ic Aa A from by rw[H2.out];exact SV TC);have FT:=Hi (qh (HM.below (Jw.AO)) (HF.ahN Jw.AO) name KX);clear Cv SV TC
    gi_wp2
    refine⟨trivial,(Dr.2 FT).mono ?_⟩;rintro e w4⟨q2,c2,rfl,Af,Hl,AB⟩;have Uj:=Hi (Jw.below AB);have xM:=Hi (HJ.below _ _ _ _ iN AB);have bC:=Hi (Rq _ _ Oe (Vd (ub AB) (fun _ _ f=>f.elim)));obtain⟨x,Ho,FN,TM,WC,WB⟩:∃ x:Gy,x.name=name∧x.row=.slice q2 ((fileOf Aa A name).getD []).length c2∧x.B=B∧x.q=q∧x.c=c:=⟨⟨name,_,B,q,c⟩,rfl,rfl,rfl,rfl,rfl⟩;have XW:U3 w oc Bx (.pointer (some ⟨p,0,none⟩)) 44 Aa A J xs x w4:=⟨by rw[TM,WC,WB];exact Uj.out,by rw[TM,WC,WB];exact YP.out,⟨_,by rw[Ho];exact yt.out⟩,by rw[TM];exact xM.out,⟨q2,c2,by rw[Ho];exact FN,by rw[Ho];exact Bf.CX Af,Hl,by rw[Ho];exact amq Af⟩⟩;obtain⟨fn,tmps,assign,body,hy,hR⟩:=hY xs _ w4 XW bC.out;have HR:=Hi hR;unfold qp at hy;rw[Ho,FN] at hy;have yA:=Hi (show(xs++[x]).map (·.name)=((A.map (·.1)).take (k+1)).filter Aa.ours from by rw[CK,List.map_singleton,Ho];exact HX.out);have yE:=Hi (show x.B=B∧x.q=q∧x.c=c from⟨TM,WC,WB⟩);have ja:=Hi (show x∈xs++[x] from by simp);generalize (xs++[x])=xs2 at*;clear Ho FN TM WC WB hR XW Af AB aaW;generalize ((fileOf Aa A name).getD []).length=ln at*
    gi_wp2
    refine HR.mono ?_;rintro e w5⟨rfl,h5,h6⟩
    have CF:=Hi (show nN w oc Bx B (.pointer (some ⟨p,0,none⟩)) 44 q c Aa A J Bk (.int .i64 ((k:Int)+1)) w5 from by
     rcases h5 with⟨e,-⟩|⟨B',q',c',k1,k2,k3,k4⟩
     ·have:=ja.out;rw[e] at this;simp at this
     ·obtain⟨e1,e2,e3⟩:=k2 _ ja;obtain⟨f1,f2,f3⟩:=yE.out;obtain rfl:B'=B:=e1.symm.trans f1;obtain rfl:q'=q:=e2.symm.trans f2;obtain rfl:c'=c:=e3.symm.trans f3;exact⟨k+1,xs2,by omega,by go_num,k1,k2,yA,k4,h6⟩)
    clear h5 h6 hy HR
    gi_wp2
    go_roundw
    case rel=>exact CF.out
    case measure=>
     show A.length -((k:Int)+1).toNat < A.length -((k:Int)).toNat
     omega
  ·obtain rfl:k=A.length:=by omega
   have HE:=Hi (show xs.map (·.name)=Ic Aa A from by
    rw[H2.out,Gu (by rw[BP];exact Ae _)];rfl)
   clear h1
   gi_wp2
   go_end0
   exact⟨⟨_,rfl⟩,xs,HE,.inr ⟨B,q,c,H1,YP,⟨[],by rw[Ea,HE.out]⟩,H3⟩,H4.out⟩
theorem vw(w:World)(base:Nat):Ar.Bq w base (.slice none 0 0) []:=by unfold Ar.Bq;rw[M5];exact DZ _ _ _ _
theorem an9{w:World}{base:Nat}{e:TypeId}{s n:Nat}{v:Value}{cs:List Value}(h:w.ownsRow 0 e s v n cs)(hg:∀ g,v.ownBlock=some g→base≤g):w.ownsRow base e s v n cs:=by
 refine⟨h.1,?_⟩;rcases h.2 with h|⟨g,cap,cur,k1,k2,k3⟩
 ·exact .inl h
 ·exact .inr ⟨g,cap,cur,k1,hg g (by rw[k1];rfl),k3⟩
def LC(A:M)(run:T):List T×Bool×Int:=if(Ag.get A (Aa.nm run)).isSome=true∧(fileOf Aa A (Aa.nm run)).isSome=false then([],false,50) else match Cq Aa A run with
 |some v=>((Dp v).getD [],true,0)
 |none=>([],false,0)
theorem atZ(A:M)(key:T)(h1:(Ag.get A (Aa.nm key)).isSome=true)(h2:(fileOf Aa A (Aa.nm key)).isSome=false):LC A key=([],false,50):=Ad ⟨h1,h2⟩
theorem au0(A:M)(key:T)(h:¬ ((Ag.get A (Aa.nm key)).isSome=true∧(fileOf Aa A (Aa.nm key)).isSome=false)):LC A key=match Ag.get ((fileOf Aa A (Aa.nm key)).getD []) key with
 |some v=>((Dp v).getD [],true,0)
 |none=>([],false,0):=by unfold LC;rw[Ab h,nA]
theorem jl(key:T):(Aa.nm key).length=17:=GD.len key
theorem agB(p:T×T)(w:World)(hp:p.2.length≤65535):Calls prog 125 #[.agg #[.string (bs p.1),.string (bs p.2)]] w fun e w'=>∃ v,e=.returned v∧Ar.Bq w' w.heap.size v ((Dp p.2).getD [])∧Bw w w':=by
 have HR:=Hi (fun(W:World)=>mF p.2 W (by omega));have Aq:=Hi (AU w (.cells #[.string (bs p.1),.string (bs p.2)] 51));unfold Go.Proofs.YtkmninbcgipliaaGreatDoor.Mj at HR;cases hr:Dp p.2 with
 |none=>
  simp only[hr] at HR;clear hr
  go_in
  go_wp2_with fail;refine(HR _).mono ?_;rintro e w1⟨rfl,hb⟩;have HB:=bH Aq hb;clear hb;go_wp2;go_ret;exact⟨_,rfl,vw _ _,HB⟩
 |some l=>
  simp only[hr] at HR;clear hr
  go_in
  go_wp2_with fail;refine(HR _).mono ?_;rintro e w1⟨v,rfl,Af,hb,hg⟩;obtain⟨q,c,rfl⟩:=Bo Af;have HB:=bH Aq hb;have VE:=Hi (an9 (base:=w.heap.size) Af (fun g QL=>Aw Aq.size (hg g QL)));clear hb Af hg;go_wp2;go_ret;exact⟨_,rfl,VE,HB⟩
theorem agx{w:World}{p y:Nat}{A:M}(hm:EN w p y)(hg:Ar.Pb w y A)(key:T)(hk:key.length≤1000000):
  Calls prog 47 #[.pointer (some ⟨p,0,none⟩),.string (bs key)] w fun e w'=>∃ v,e=.returned (.tuple #[v,.bool (LC A key).2.1,.int .i64 (LC A key).2.2])∧Ar.Bq w' w.heap.size v (LC A key).1∧Bw w w':=by
 have HN:=Hi (qf key w hk);have HO:=Hi (fun(W:World) (hW:Bw w W)=>qh (hm.below hW) (XB hg hW) (Aa.nm key) (by rw[jl];decide));have HV:=Hi (au0 A key);have HB:=Hi (atZ A key);obtain⟨hl,hsh⟩:=@dx Aa A (Aa.nm key);unfold Qx at HO;clear hm hg;generalize (fileOf Aa A (Aa.nm key)).getD []=l at*;generalize (fileOf Aa A (Aa.nm key)).isSome=good at*;generalize (Ag.get A (Aa.nm key)).isSome=WH at*;generalize LC A key=V at*;generalize Aa.nm key=name at*;by_cases NL:WH=true∧good=false
 ·obtain⟨rfl,rfl⟩:=NL;have hV:=HB rfl rfl;clear HB HV;subst hV
  go_in
  go_wp2_with fail;refine HN.mono ?_;rintro e w1⟨rfl,Aj⟩;have HB1:=Hi Aj;clear Aj;go_wp2_with fail;refine(HO _ HB1).mono ?_;rintro e w2⟨q,cap,rfl,Af,Hl,Ac⟩;have Ak:=bH HB1 Ac;clear Ac Af;go_wp2_with fail;exact EU (v:=.tuple #[.slice none 0 0,.bool false,.int .i64 50]) (by simp[results,results47,go_sem]) rfl ⟨_,rfl,vw _ _,Ak⟩
 ·have Xg:=Hi (HV NL);clear HB HV;have DF:WH=false∨(WH=true∧good=true):=by
   cases WH<;>cases good<;>simp_all
  clear NL;rcases DF with rfl|⟨rfl,rfl⟩
  all_goals
   go_in
   go_wp2_with fail;refine HN.mono ?_;rintro e w1⟨rfl,Aj⟩;have HB1:=Hi Aj;clear Aj;go_wp2_with fail;refine(HO _ HB1).mono ?_;rintro e w2⟨q,cap,rfl,Af,Hl,Ac⟩;have Ak:=bH HB1 Ac;have HP:=Hi (Bf.CX Af);clear Ac Af;go_wp2
   go_loopw [11,29] (fun _ i wr=>nQ w q cap l key i wr) (fun _ i _=>l.length -(intOf i).toNat)
   case atStart=>exact⟨0,AV _,rfl,Ak,HP,rfl⟩
   case round=>
    obtain⟨k,Dw,rfl,hb,hp,NS⟩:=hrel;have Au:=Hi hb;have SQ:=Hi hp;have HG:=Hi NS;clear Ak HP hb NS;by_cases hlt:k < l.length
    ·obtain⟨a,Cs,ha,-⟩:=hp.index cap k hlt;have c0:=ha.key;have c1:=ha.val;have HD:=Hi (HG.trans (ahL hlt key));have tJ:=(hsh _ (CQ hlt)).2;generalize l[k]=x at*;clear ha hp;by_cases heq:x.1=key
     ·have hV:=Xg.out;rw[HD.out,Ad heq] at hV;subst hV;obtain⟨xk,xv⟩:=x;have heq:xk=key:=heq;subst heq;have ZU:(xk == xk)=true:=beq_self_eq_true xk;have bD:=Hi (fun(W:World)=>agB (xk,xv) W tJ);have c0:wr.cell? a=some (.string (bs xk)):=c0;have c1:wr.cell? ⟨a.block,a.off+1,none⟩=some (.string (bs xv)):=c1;have aws:=Au.size;go_wp2_with fail;refine(bD _).mono ?_;rintro e w5⟨kv,rfl,Cz,BF⟩;obtain⟨kq,kc,rfl⟩:=Bo Cz;have Ls:=Hi (EA Cz (by rw[Ay];omega:w.heap.size≤(wr.alloc _).heap.size));have CZ:=Hi ((Au.alloc Au.size _).trans (BF.mono (by rw[Ay];omega)));clear Cz BF;go_wp2_with fail;exact EU (v:=.tuple #[.slice kq ((Dp xv).getD []).length kc,.bool true,.int .i64 0]) (by simp[results,results47,go_sem]) rfl ⟨_,rfl,Ls,CZ⟩
     ·have ZU:(x.1 == key)=false:=FQ.2 heq;have Ny:=Hi (HD.trans (Ab heq));go_wp2;go_roundw
      case rel=>
       have Il:=Hi (show ∀ o,nQ w q cap l key (.int .i64 ((k:Int)+1)) (wr.alloc o) from fun o=>⟨k+1,by omega,by go_num,Au.alloc Au.size o,SQ.below (AU wr o),Ny⟩)
       first
       |exact Il _
       |(repeat apply Exists.intro
         refine⟨?_,rfl⟩;exact Il _)
      case measure=>
       show l.length -((k:Int)+1).toNat < l.length -((k:Int)).toNat
       omega
    ·obtain rfl:k=l.length:=(by omega);have hV:=Xg.out;rw[HG.out,List.drop_length] at hV;have hV:V=([],false,0):=hV;subst hV;clear hp;go_wp2_with fail;exact EU (v:=.tuple #[.slice none 0 0,.bool false,.int .i64 0]) (by simp[results,results47,go_sem]) rfl ⟨_,rfl,vw _ _,Au⟩
end Ch
namespace Bt
open Go.RowKit Go.Maps
open Ag Ar
def gY(K:World→Prop)(v:Value)(f:T×T→Bool):Prop:=
 ∃ F recv JA,v=.func (.func F) recv JA∧(∀ args w,(callFunc F args).run prog w=.ok (.enter F args) w)∧
  ∀ W p,K W→Calls prog F (recv++ #[.agg #[.string (bs p.1),.string (bs p.2)]]++JA) W fun e W'=>e=.returned (.bool (f p))∧Bw W W'
def TN(f:T×T→Bool)(l:M):Int:=match l.findIdx? f with
 |some i=>(i:Int)
 |none=> -1
theorem awR{f:T×T→Bool}{l:M}{k:Nat}(hk:k < l.length)(h:f l[k]=true)(hn:∀ j (hj:j < k),f (l[j]'(by omega))=false):TN f l=(k:Int):=by
 have:l.findIdx? f=some k:=List.findIdx?_eq_some_iff_getElem.2 ⟨hk,h,fun j hj=>by rw[hn j hj];decide⟩;unfold TN;rw[this]
theorem awQ{f:T×T→Bool}{l:M}(hn:∀ j (hj:j < l.length),f l[j]=false):TN f l= -1:=by
 have:l.findIdx? f=none:=List.findIdx?_eq_none_iff.2 fun x hx=>by
  obtain⟨i,hi,rfl⟩:=Sy hx;exact hn i hi
 unfold TN;rw[this]
theorem awP(f:T×T→Bool)(l:M):(TN f l= -1∧l.filter (fun x=>!f x)=l)∨∃ k,∃ hk:k < l.length,TN f l=(k:Int)∧f l[k]=true∧∀ j (hj:j < k),f (l[j]'(by omega))=false:=by
 unfold TN;cases h:l.findIdx? f with
 |none=>
  refine .inl ⟨rfl,List.filter_eq_self.2 fun x hx=>?_⟩;rw[List.findIdx?_eq_none_iff.1 h x hx];rfl
 |some k=>
  obtain⟨hk,h1,h2⟩:=List.findIdx?_eq_some_iff_getElem.1 h;exact .inr ⟨k,hk,rfl,h1,fun j hj=>by simpa using h2 j hj⟩
theorem amm{w:World}{K:World→Prop}{v:Value}{f:T×T→Bool}{a:Option Addr}{l:M}(cap:Nat)(hl:Bf w a l)(hf:gY K v f)(hK:∀ W,Bw w W→K W)(hlen:l.length≤1000000000):
  Calls prog 176 #[.slice a l.length cap,v] w fun e w'=>e=.returned (.int .i64 (TN f l))∧Bw w w':=by
 obtain⟨F,recv,JA,rfl,NQ,K9⟩:=hf;have HL:=Hi hl;have HC:=Hi K9;have HK:=Hi hK;clear hl K9 hK
 go_in
 go_wp2
 go_loopw [5,8] (fun _ i wr=>∃ k:Nat,k≤l.length∧i=.int .i64 k∧Bw w wr∧∀ j (hj:j < k),(h:j < l.length)→f l[j]=false) (fun _ i _=>l.length -(intOf i).toNat)
 case atStart=>exact⟨0,AV _,rfl,Ai _ _,fun j hj=>by omega⟩
 case round=>
  obtain⟨k,hk,rfl,hb,D9⟩:=hrel;have DW:=Hi D9;have HB:=Hi hb;clear D9;by_cases hlt:k < l.length
  ·obtain⟨q,Cs,hq,-⟩:=(HL.below hb).index cap k hlt;have c0:=hq.key;have c1:=hq.val;have BN:=HC wr l[k] (HK wr hb);have SL:=Hi (show f l[k]=true→TN f l=(k:Int) from fun h=>awR hlt h (fun j hj=>DW j hj (by omega)))
   have Di:=Hi (show f l[k]=false→∀ j (hj:j < k+1),(h:j < l.length)→f l[j]=false from fun h j hj h'=>by
    by_cases e:j=k
    ·subst e;exact h
    ·exact DW j (by omega) h')
   generalize l[k]=x at*;have EE:=Hi BN;clear BN hq hb;go_wp2_with fail;refine EE.mono ?_;rintro e w1⟨rfl,Aj⟩;have HB1:=bH HB Aj;generalize f x=s at*;clear Aj;cases s with
   |true=>
    have iL:=Hi (SL rfl);clear SL Di;go_wp2;go_ret;exact⟨by rw[iL.out];rfl,HB1⟩
   |false=>
    have HN:=Hi (Di rfl);clear SL Di;go_wp2;go_roundw
    case rel=>exact⟨k+1,by omega,by go_num,HB1,HN⟩
    case measure=>simp[intOf];omega
  ·obtain rfl:k=l.length:=(by omega);have HN:=Hi (show TN f l= -1 from awQ (fun j hj=>DW j hj hj));clear hb;go_wp2;go_ret;exact⟨by rw[HN.out];rfl,HB⟩
theorem aAf(w:World)(ty:TypeId)(b o n c:Nat)(hn:0 < n)(hc:∀ j,j < n*2→(w.cell? ⟨b,o+j,none⟩).isSome=true)(hf:∀ j,j < n*2→w.frozen? ⟨b,o+j,none⟩=false):
  (Builtin.clear_ #[30] ty #[.slice (some ⟨b,o,none⟩) n c]).run prog w=.ok (.tuple #[]) (w.setCells b o (List.replicate (n*2) (.string ByteArray.empty))):=by
 have hzc:(Builtin.zeroCells (Value.agg #[.string ByteArray.empty,.string ByteArray.empty]).cells n).toList=List.replicate (n*2) (.string ByteArray.empty):=by
  simp[Builtin.zeroCells,Value.cells];apply List.ext_getElem
  ·simp
  ·intro i h1 h2;simp;rcases Nat.mod_two_eq_zero_or_one i with e|e<;>simp[e]
 have Bc:=run_storeCells_cells (P:=prog) b o (List.replicate (n*2) (.string ByteArray.empty)) 0 w (by simpa using hc) (by simpa using hf) (by intro v JK;rw[List.eq_of_mem_replicate JK];rfl);simp only[Nat.add_zero] at Bc;obtain⟨m,rfl⟩:∃ m,n=m+1:=⟨n -1,by omega⟩;have awH:(Builtin.zeroCells (Value.agg #[.string { data:=#[] },.string { data:=#[] }]).cells (m+1)).toList=List.replicate ((m+1)*2) (.string ByteArray.empty):=hzc;simp[Builtin.clear_,Hd underlying30,Tryz.zeroValue51];rw[awH,Bc];rfl
theorem aAF(C:Array Value)(a:Nat)(x y:Value)(t:Nat)(ha:a+1 < C.size):((C.setIfInBounds a x).setIfInBounds (a+1) y)[t]?=if t=a+1 then some y else if t=a then some x else C[t]? :=by
 rw[Array.getElem?_setIfInBounds];by_cases e1:a+1=t
 ·subst e1;rw[Ad rfl,Ad rfl,Ad (by rw[Array.size_setIfInBounds];exact ha)]
 ·have e1':¬ t=a+1:=fun h=>e1 h.symm
  rw[Ab e1,Ab e1',Array.getElem?_setIfInBounds];by_cases e2:a=t
  ·subst e2;rw[Ad rfl,Ad rfl,Ad (by omega)]
  ·have e2':¬ t=a:=fun h=>e2 h.symm
   rw[Ab e2,Ab e2']
structure NF(w wr:World)(g cap:Nat)(f:T×T→Bool)(l:M)(i j:Nat):Prop where
 upd:A7 (fun k=>k=g) w wr
 blk:∃ cur,wr.heap[g]?=some (.cells cur 51 (0,0))∧cur.size=cap*2
 kept:i=((l.take j).filter (fun x=>!f x)).length
 front:∀ t (h:t < ((l.take j).filter (fun x=>!f x)).length),Py wr ⟨g,t*2,none⟩ (((l.take j).filter (fun x=>!f x))[t])
 back:∀ t,j≤t→(h:t < l.length)→Py wr ⟨g,t*2,none⟩ l[t]
 lt:i < j
 le:j≤l.length
 cap:l.length≤cap
theorem amj{f:T×T→Bool}{l:M}{j:Nat}(h:j < l.length)(hf:f l[j]=true):(l.take (j+1)).filter (fun x=>!f x)=(l.take j).filter (fun x=>!f x):=by
 rw[Cx h,M7];simp[hf]
theorem ayV{f:T×T→Bool}{l:M}{j:Nat}(h:j < l.length)(hf:f l[j]=false):(l.take (j+1)).filter (fun x=>!f x)=(l.take j).filter (fun x=>!f x)++[l[j]]:=by
 rw[Cx h,M7];simp[hf]
section
variable {w wr wr':World}{g cap:Nat}{f:T×T→Bool}{l:M}{i j:Nat}
theorem NF.below(h:NF w wr g cap f l i j)(hb:Bw wr wr'):NF w wr' g cap f l i j:=by
 obtain⟨cur,hc,hs⟩:=h.blk;exact⟨h.upd.trans (ub hb) (fun _ f=>f.elim),⟨cur,(hb.block g (Ao hc)).trans hc,hs⟩,h.kept,fun t ht=>(h.front t ht).upd (ub hb) (fun f=>f),fun t ht hl=>(h.back t ht hl).upd (ub hb) (fun f=>f),h.lt,h.le,h.cap⟩
theorem NF.strike(h:NF w wr g cap f l i j)(hj:j < l.length)(hf:f l[j]=true):NF w wr g cap f l i (j+1):=by
 have e:=amj hj hf;exact⟨h.upd,h.blk,by rw[e];exact h.kept,fun t ht=>by simp only[e];exact h.front t (by rw[e] at ht;exact ht),fun t ht hl=>h.back t (by omega) hl,by have:=h.lt;omega,hj,h.cap⟩
theorem NF.keep(h:NF w wr g cap f l i j)(hj:j < l.length)(hf:f l[j]=false):NF w ((wr.setCell ⟨g,i*2,none⟩ (.string (bs l[j].1))).setCell ⟨g,i*2+1,none⟩ (.string (bs l[j].2))) g cap f l (i+1) (j+1):=by
 have e:=ayV hj hf;obtain⟨cur,hb,hs⟩:=h.blk;have hlt:=h.lt;have hle:=h.le;have hcp:=h.cap;have awj:=Cu wr g (i*2) _ _ (.string (bs l[j].1)) hb;have Jo:=Cu _ g (i*2+1) _ _ (.string (bs l[j].2)) awj;have Gb:∀ t,((wr.setCell ⟨g,i*2,none⟩ (.string (bs l[j].1))).setCell ⟨g,i*2+1,none⟩ (.string (bs l[j].2))).cell? ⟨g,t,none⟩=if t=i*2+1 then some (.string (bs l[j].2)) else if t=i*2 then some (.string (bs l[j].1)) else wr.cell? ⟨g,t,none⟩:=fun t=>by
  rw[BL _ g _ _ _ _ Jo,BL _ g _ _ _ _ hb];exact aAF cur (i*2) _ _ t (by omega)
 have hk:=h.kept;have stay:∀ t (p:T×T),t≠i→Py wr ⟨g,t*2,none⟩ p→Py ((wr.setCell ⟨g,i*2,none⟩ (.string (bs l[j].1))).setCell ⟨g,i*2+1,none⟩ (.string (bs l[j].2))) ⟨g,t*2,none⟩ p:=fun t p hne hp=>
  ⟨by rw[Gb,Ab (by omega),Ab (by omega)];exact hp.key,by show World.cell? _ ⟨g,t*2+1,none⟩=_;rw[Gb,Ab (by omega),Ab (by omega)];exact hp.val⟩
 refine⟨(h.upd.setCell (p:=⟨g,i*2,none⟩) (.inl rfl) _).setCell (p:=⟨g,i*2+1,none⟩) (.inl rfl) _,⟨_,Jo,by rw[Array.size_setIfInBounds,Array.size_setIfInBounds];exact hs⟩,by rw[e,AA];simp;omega,fun t ht=>?_,fun t ht hl=>stay t _ (by omega) (h.back t (by omega) hl),by omega,hj,hcp⟩;simp only[e];rw[e,AA] at ht;simp only[BG,Ht] at ht;by_cases ht2:t=i
 ·subst ht2;rw[Vo (by omega)];simp only[hk,Nat.sub_self,List.getElem_cons_zero];rw[←hk];exact⟨by rw[Gb,Ab (by omega),Ad rfl],by show World.cell? _ ⟨g,t*2+1,none⟩=_;rw[Gb,Ad rfl]⟩
 ·rw[Sw (by omega)];exact stay t _ ht2 (h.front t (by omega))
theorem NF.cells(h:NF w wr g cap f l i j):(∀ t,t < cap*2→(wr.cell? ⟨g,t,none⟩).isSome=true)∧∀ t,wr.frozen? ⟨g,t,none⟩=false:=by
 obtain⟨cur,hb,hs⟩:=h.blk;refine⟨fun t ht=>?_,fun t=>Dt wr g t _ _ hb⟩;rw[BL wr g _ _ _ _ hb,WS (by omega)];rfl
end
theorem anu(b:Nat):∀ (vs:List Value) (o:Nat) (w:World) (cur:Array Value),w.heap[b]?=some (.cells cur 51 (0,0))→∃ cur',(w.setCells b o vs).heap[b]?=some (.cells cur' 51 (0,0))∧cur'.size=cur.size
 |[],_,_,cur,h=>⟨cur,h,rfl⟩
 |v :: r,o,w,cur,h=>by
  obtain⟨c2,h2,s2⟩:=anu b r (o+1) (w.setCell ⟨b,o,none⟩ v) (cur.setIfInBounds o v) (Cu w b o _ _ v h);exact⟨c2,h2,by rw[s2,Array.size_setIfInBounds]⟩
theorem ayT{w:World}{g cap:Nat}{f:T×T→Bool}{l:M}{k:Nat}(hb:∃ cur,w.heap[g]?=some (.cells cur 51 (0,0))∧cur.size=cap*2)(hl:∀ t,(h:t < l.length)→Py w ⟨g,t*2,none⟩ l[t])(hc:l.length≤cap)(hk:k < l.length)(hf:f l[k]=true)(hn:∀ j (hj:j < k),f (l[j]'(by omega))=false):NF w w g cap f l k (k+1):=by
 have e0:(l.take k).filter (fun x=>!f x)=l.take k:=List.filter_eq_self.2 fun x hx=>by
  obtain⟨i,hi,rfl⟩:=Sy hx;rw[AZ] at hi;rw[List.getElem_take,hn i (by omega)];rfl
 have e:=(amj hk hf).trans e0;refine⟨A7.refl _ _,hb,by rw[e,AZ];omega,fun t ht=>?_,fun t ht h=>hl t h,by omega,hk,hc⟩;simp only[e];rw[e,AZ] at ht;rw[List.getElem_take];exact hl t (by omega)
theorem az4{w:World}{base:Nat}{g n cap:Nat}{l:M}(h:BJ w base (.slice (some ⟨g,0,none⟩) n cap) l)(t:Nat)(ht:t < l.length):Py w ⟨g,t*2,none⟩ l[t]:=by
 obtain⟨p,e,hp⟩:=(Bf.CX h) t ht;cases e;rwa[add_plain] at hp
theorem az3{w:World}{base g cap:Nat}{cur:Array Value}{l:M}(hg:w.heap[g]?=some (.cells cur 51 (0,0)))(hs:cur.size=cap*2)(hb:base≤g)(hc:l.length≤cap)(hm:cap≤maxLen)(hl:∀ t,(h:t < l.length)→Py w ⟨g,t*2,none⟩ l[t]):BJ w base (.slice (some ⟨g,0,none⟩) l.length cap) l:=by
 refine⟨dw l,.inr ⟨g,cap,cur,rfl,hb,hg,hc,hm,hs,?_⟩⟩;apply List.ext_getElem?;intro j;by_cases hj:j < l.length*2
 ·obtain⟨i,r,hr,rfl⟩:∃ i r,r < 2∧j=i*2+r:=⟨j / 2,j % 2,by omega,by omega⟩;have hi:i < l.length:=by omega
  rw[qy l i hi r hr,List.getElem?_take,Ad (by omega),Dy];have hp:=hl i hi;have h0:=hp.key;have h1:=hp.val;rw[BL w g _ _ _ _ hg] at h0;have Zl:w.cell? ⟨g,i*2+1,none⟩=some (.string (bs l[i].2)):=h1;rw[BL w g _ _ _ _ hg] at Zl
  match r,hr with
  |0,_=>simpa using h0
  |1,_=>simpa using Zl
 ·rw[List.getElem?_eq_none (by rw[AZ];omega),List.getElem?_eq_none (by rw[dw];omega)]
theorem ayU{w:World}{base g cap:Nat}{K:World→Prop}{v:Value}{f:T×T→Bool}{l:M}(h:BJ w base (.slice (some ⟨g,0,none⟩) l.length cap) l)(hf:gY K v f)(hK:∀ W,A7 (fun k=>k=g) w W→K W)(hlen:l.length≤1000000):
  Calls prog 94 #[.slice (some ⟨g,0,none⟩) l.length cap,v] w fun e w'=>
   e=.returned (.slice (some ⟨g,0,none⟩) (l.filter fun x=>!f x).length cap)∧BJ w' base (.slice (some ⟨g,0,none⟩) (l.filter fun x=>!f x).length cap) (l.filter fun x=>!f x)∧A7 (fun k=>k=g) w w':=by
 have Af:=h;obtain⟨cur,NR,OH,BN,PN,DF⟩:∃ cur,base≤g∧w.heap[g]?=some (.cells cur 51 (0,0))∧l.length≤cap∧cap≤maxLen∧cur.size=cap*2:=by
  rcases h.2 with⟨e1,_⟩|⟨g',cap',cur,e1,h1,h2,h3,h4,h5,_⟩
  ·cases e1
  ·injection e1 with e2 _ e3
   injection e2 with e4
   injection e4 with e5
   subst e5;subst e3;exact⟨cur,h1,h2,h3,h4,h5⟩
 have hat:=Bf.CX h;have HI:=Hi (amm cap hat hf (fun W hb=>hK W (A7.of_below hb)) (by omega));obtain⟨F,recv,JA,rfl,NQ,K9⟩:=hf;rcases awP f l with⟨e1,e2⟩|⟨k0,Kc,e1,e2,e3⟩
 ·rw[e1] at HI;have HR:=Hi Af;have HE:=Hi e2;clear h hK hat NQ K9 e1 e2 Af OH
  go_in
  go_wp2_with fail;refine HI.mono ?_;rintro e w1⟨rfl,hb⟩;have HB:=Hi hb;clear hb;go_wp2;go_ret;refine⟨by rw[HE.out];rfl,by rw[HE.out];exact Cg HR HB,A7.of_below HB⟩
 ·rw[e1] at HI;have Bh:=Hi (ayT ⟨cur,OH,DF⟩ (fun t ht=>az4 Af t ht) BN Kc e2 e3);have HC:=Hi K9;have HK:=Hi hK;have nW:=Hi NR;have Ph:=Hi PN;clear h hK hat K9 e1 e2 e3 Af OH DF NR PN
  go_in
  go_wp2_with fail;refine HI.mono ?_;rintro e w1⟨rfl,hb⟩;have Im:=Hi (Bh.below hb);have BU:=Hi (show NF w w1 g cap f l k0 (k0+1) from Im.out);clear hb Im;go_wp2
  go_loopw [5,6] (fun i j wr=>∃ a b:Nat,i=.int .i64 a∧j=.int .i64 b∧NF w wr g cap f l a b) (fun _ j _=>l.length -(intOf j).toNat)
  case atStart=>exact⟨k0,k0+1,rfl,by go_num,BU⟩
  case round=>
   clear Bh HI BU;obtain⟨i,j,rfl,rfl,Bc⟩:=hrel;have sj:=Bc.lt;have Kb:=Bc.le;by_cases hlt:j < l.length
   ·have hx:=Bc.back j (Ae _) hlt;have S9:=hx.key;have Em:wr.cell? ⟨g,j*2+1,none⟩=some (.string (bs l[j].2)):=hx.val;have Iu:=fun W=>IB prog 30 51 underlying30 2 (by kernel_rfl) ⟨g,0,none⟩ l.length cap j hlt W
    have avJ:=fun W=>IB prog 30 51 underlying30 2 (by kernel_rfl) ⟨g,0,none⟩ l.length cap i (by omega) W
    simp only[add_plain] at Iu avJ;have Ce:=AU wr (.cells #[.string (bs l[j].1),.string (bs l[j].2)] 51);have Ry:=Hi (Bc.below Ce);have EE:=Hi (HC (wr.alloc (.cells #[.string (bs l[j].1),.string (bs l[j].2)] 51)) l[j] (HK _ Ry.upd));have HY:=Hi (fun(W:World) (hb:Below (wr.alloc (.cells #[.string (bs l[j].1),.string (bs l[j].2)] 51)).heap.size (wr.alloc (.cells #[.string (bs l[j].1),.string (bs l[j].2)] 51)) W)=>(show f l[j]=true→NF w W g cap f l i (j+1) from(Ry.below hb).strike hlt));have HN:=Hi (fun(W:World) (hb:Below (wr.alloc (.cells #[.string (bs l[j].1),.string (bs l[j].2)] 51)).heap.size (wr.alloc (.cells #[.string (bs l[j].1),.string (bs l[j].2)] 51)) W)=>(show f l[j]=false→NF w ((W.setCell ⟨g,i*2,none⟩ (.string (bs l[j].1))).setCell ⟨g,i*2+1,none⟩ (.string (bs l[j].2))) g cap f l (i+1) (j+1) from(Ry.below hb).keep hlt));have Bj:=Hi (fun(W:World) (hb:Below (wr.alloc (.cells #[.string (bs l[j].1),.string (bs l[j].2)] 51)).heap.size (wr.alloc (.cells #[.string (bs l[j].1),.string (bs l[j].2)] 51)) W)=>(Ry.below hb).cells);have ED:=Hi (AQ wr (.cells #[.string (bs l[j].1),.string (bs l[j].2)] 51));clear Bc hx Ce;generalize l[j]=x at*;go_wp2_with fail;refine EE.mono ?_;rintro e w2⟨rfl,Ac⟩;have UI:=(Ac.block _ (Ao ED)).trans ED.out;have Yf:w2.cell? ⟨wr.heap.size,0,none⟩=some (.string (bs x.1)):=cr UI;have Q8:w2.cell? ⟨wr.heap.size,1,none⟩=some (.string (bs x.2)):=cr UI;obtain⟨dP,dQ⟩:=Bj w2 Ac;have aE8:=dQ (i*2);have aE9:=dQ (i*2+1);obtain⟨o0,Jn⟩:=Lh.1 (dP (i*2) (by omega))
    obtain⟨o1,DI⟩:=Lh.1 (dP (i*2+1) (by omega));have Un:=Hi (HY w2 Ac);have NC:=Hi (HN w2 Ac);clear Ac UI dP dQ HY HN Bj EE;generalize f x=s at*;cases s with
    |true=>
     have RH:=Hi (Un rfl);clear Un NC;go_wp2;go_roundw
     case rel=>first
      |exact⟨i,j+1,rfl,by go_num,RH⟩
      |(repeat apply Exists.intro
        refine⟨?_,rfl⟩;exact⟨i,j+1,rfl,by go_num,RH⟩)
     case measure=>simp[intOf];omega
    |false=>
     have YV:=Hi (NC rfl);clear Un NC;go_wp2_with fail;refine⟨?_,?measure⟩
     ·repeat apply Exists.intro
      refine⟨?rel,rfl⟩
      case rel=>exact⟨i+1,j+1,by go_num,by go_num,YV⟩
     case measure=>simp[intOf];omega
   ·obtain rfl:j=l.length:=(by omega);obtain⟨dP,dQ⟩:=Bc.cells;have aiQ:=fun ty=>aAf wr ty g (i*2) (l.length -i) (cap -i) (by omega) (fun t ht=>dP (i*2+t) (by omega)) (fun t _=>dQ (i*2+t))
    have OB:∀ W,(Instr.slice 30 (.slice (some ⟨g,0,none⟩) l.length cap) (some (.int .i64 (i:Int))) none none).run prog W=.ok (.slice (some ⟨g,i*2,none⟩) (l.length -i) (cap -i)) W:=fun W=>by
     have:=fU W (some ⟨g,0,none⟩) l.length cap i (by omega);unfold IX at this;rw[Ab (by omega)] at this;simp only[EK,add_plain] at this;exact this
    have Cf:=fun W=>acQ W (some ⟨g,0,none⟩) l.length cap i (by omega) BN
    have abh:=Bc.kept;rw[Da] at abh;have HS:=Hi Bc;have IW:=Hi abh;clear Bc abh dP dQ;go_wp2;go_ret;obtain⟨h1,h2,h3,h4,h5⟩:=adQ g (List.replicate ((l.length -i)*2) (Value.string ByteArray.empty)) (i*2) wr;have hu:A7 (fun k=>k=g) wr (wr.setCells g (i*2) (List.replicate ((l.length -i)*2) (Value.string ByteArray.empty))):=⟨h2,h3,h4,Nat.le_of_eq h1.symm,fun k _ hk=>h5 k hk⟩;obtain⟨arS,g2,s2⟩:=HS.blk;have hlen:(l.filter fun x=>!f x).length≤cap:=(by rw[←IW.out];omega);refine⟨by rw[←IW.out];rfl,?_,HS.upd.trans hu (fun k hk=>.inl hk)⟩;obtain⟨aDz,g3,s3⟩:=anu g (List.replicate ((l.length -i)*2) (Value.string ByteArray.empty)) (i*2) wr arS g2;refine az3 g3 (by rw[s3];exact s2) nW hlen Ph (fun t ht=>?_);have hf:=HS.front;rw[Da] at hf;have hp:=hf t ht;have hti:t < i:=(by rw[IW.out];exact ht);exact⟨(World.cell?_setCells_out g _ (i*2) wr ⟨g,t*2,none⟩ (fun _ _=>.inl (by show t*2 < i*2;omega))).trans hp.key,(World.cell?_setCells_out g _ (i*2) wr ⟨g,t*2+1,none⟩ (fun _ _=>.inl (by show t*2+1 < i*2;omega))).trans hp.val⟩
theorem amg{w:World}{base:Nat}{s:Value}{K:World→Prop}{v:Value}{f:T×T→Bool}{l:M}(h:BJ w base s l)(hf:gY K v f)(hK:∀ W,A7 (fun k=>s.ownBlock=some k) w W→K W)(hlen:l.length≤1000000):
  Calls prog 94 #[s,v] w fun e w'=>∃ s',e=.returned s'∧BJ w' base s' (l.filter fun x=>!f x)∧A7 (fun k=>s.ownBlock=some k) w w'∧s'.ownBlock=s.ownBlock:=by
 rcases h.2 with⟨e1,e2⟩|⟨g,cap,cur,e1,_⟩
 ·subst e1;obtain rfl:l=[]:=Ld.1 e2;have HI:=Hi (amm (a:=none) (l:=[]) 0 (Bf.nil w none) hf (fun W hb=>hK W (A7.of_below hb)) (by simp));have HH:=Hi h;clear hK h
  go_in
  go_wp2_with fail;refine HI.mono ?_;rintro e w1⟨rfl,hb⟩;have HB:=Hi hb;clear hb;have hx:TN f []= -1:=rfl;rw[hx];go_wp2;go_ret;exact⟨_,rfl,Cg HH HB,A7.of_below HB,rfl⟩
 ·subst e1;have V4:∀ k,(Value.slice (some ⟨g,0,none⟩) l.length cap).ownBlock=some k↔k=g:=fun k=>by simp[Value.ownBlock];exact eq_comm
  refine(ayU h hf (fun W hu=>hK W (hu.mono fun k hk=>(V4 k).2 hk)) hlen).mono ?_;rintro e w'⟨rfl,h5,h6⟩;exact⟨_,rfl,h5,h6.mono fun k hk=>(V4 k).2 hk,rfl⟩
end Bt
namespace Mem
open Go.RowKit Go.Maps
open Av Ag Ar Bt Kp BI Hex BH Al
section
variable {w w':World}{base m:Nat}{L:List (T×M)}{f:T→Nat}
theorem EW.made(w:World)(base:Nat)(f:T→Nat)(hb:base≤w.heap.size):EW (w.alloc (.map #[] 0)) base w.heap.size [] f:=
 ⟨⟨[],List.Perm.nil,G9.made w⟩,by simp,fun x hx=>by simp at hx,fun x hx=>by simp at hx,hb⟩
theorem EW.Dl(h:EW w base m L f){t:TypeId}:¬ Bb w m t:=by
 obtain⟨kv,_,_,D,⟨es,clock,hm,_⟩,_⟩:=h.map;rintro⟨cs,fr,hb⟩;rw[hm] at hb;injection hb with hb
 cases hb
theorem EW.insert(h:EW w base m L f){name:T}{l:M}{b:Nat}(hn:name∉L.map (·.1))(hl:name.length≤maxLen)(he:VN w base b l)(hb:∀ x∈L,f x.1≠b)(J2:L.length < maxLen):
  ∃ w',(Instr.mapUpdate 175 (.map (some m)) (.string (bs name)) (.pointer (some ⟨b,0,none⟩))).run prog w=.ok () w'∧EW w' base m ((name,l) :: L) (fun t=>if t=name then b else f t)∧w.grownBy w' (some m):=by
 obtain⟨kv,h1,h2⟩:=h.map;have KX:DU kv name=none:=by
  cases hs:DU kv name with
  |none=>rfl
  |some v=>exact absurd ((EW.keys h1).mem_iff.1 (Bz.2 ⟨_,vK hs,rfl⟩)) hn
 have Cz:kv.length < maxLen:=by
  have e:kv.length=L.length:=by rw[h1.length_eq,BP]
  rw[e];exact J2
 obtain⟨w',hrun,h3,h4⟩:=h2.update underlying9 underlying175 name hl (.pointer (some ⟨b,0,none⟩)) Cz;have hu:A7 (fun k=>k=m) w w':=A7.of_grownBy (F:=fun k=>k=m) h4 (fun k e=>(GQ e).symm);have hne:∀ x∈L,x.1≠name:=fun x hx e=>hn (by rw[←e];exact Hu hx)
 have ZN:∀ k,k=m→∀ t,¬ Bb w k t:=fun k e t=>by rw[e];exact h.Dl
 refine⟨w',hrun,⟨⟨_,?_,h3⟩,Js.2 ⟨hn,h.nodup⟩,fun x hx=>?_,fun x hx y hy e=>?_,h.low⟩,h4⟩
 ·have hd:Jb name kv=kv:=List.filter_eq_self.2 fun p hp=>by
   have:p.1≠name:=fun e=>hn ((EW.keys h1).mem_iff.1 (by rw[←e];exact Hu hp))
   simpa using this
  unfold Rc;rw[hd,Ca];simp only[Ad];refine List.Perm.cons _ (h1.trans (List.Perm.of_eq (P8 fun x hx=>?_)));rw[Ab (hne x hx)]
 ·rcases Cc.1 hx with rfl|hx
  ·simp only[Ad];exact he.upd hu (fun k e=>ZN k e _) (fun k e=>ZN k e _)
  ·rw[Ab (hne x hx)];exact(h.Xv x hx).upd hu (fun k e=>ZN k e _) (fun k e=>ZN k e _)
 ·rcases Cc.1 hx with rfl|hx<;>rcases Cc.1 hy with rfl|hy
  ·rfl
  ·simp only[Ad] at e;rw[Ab (hne y hy)] at e;exact absurd e.symm (hb y hy)
  ·simp only[Ad] at e;rw[Ab (hne x hx)] at e;exact absurd e (hb x hx)
  ·rw[Ab (hne x hx),Ab (hne y hy)] at e;exact h.inj x hx y hy e
theorem EW.set(h:EW w base m L f){x:T×M}(hx:x∈L){v:Value}{l:M}(hv:BJ w base v l):EW (w.setCell ⟨f x.1,0,none⟩ v) base m (setRow L x.1 l) f:=by
 obtain⟨v0,Bg,eY,Nf⟩:=h.Xv x hx;have hu:=(A7.refl (fun k=>k=f x.1) w).setCell (p:=⟨f x.1,0,none⟩) (.inl rfl) v;have dY:∀ k,k=f x.1→¬ Bb w k 51:=fun k e hb=>by
  obtain⟨cs,fr,hb⟩:=hb;rw[e,Bg] at hb;injection hb with hb
  injection hb with _ hb
  exact absurd hb (by decide)
 obtain⟨kv,h1,h2⟩:=h.map;have UW:(setRow L x.1 l).map (fun y=>(y.1,Value.pointer (some ⟨f y.1,0,none⟩)))=L.map fun y=>(y.1,Value.pointer (some ⟨f y.1,0,none⟩)):=by
  unfold setRow;rw[Kq];exact P8 fun y _=>by
   show(fun y:T×M=>(y.1,Value.pointer (some ⟨f y.1,0,none⟩))) (if y.1=x.1 then(y.1,l) else y)=_
   split<;>rfl
 refine⟨⟨kv,by rw[UW];exact h1,h2.upd hu (fun e=>h.Dl (t:=179) (by rw[e];exact⟨_,_,Bg⟩))⟩,by rw[vJ];exact h.nodup,fun y hy=>?_,fun y hy z hz e=>?_,h.low⟩
 ·unfold setRow at hy;obtain⟨z,hz,rfl⟩:=Bz.1 hy;by_cases e:z.1=x.1
  ·rw[Ad e]
   show VN _ base (f z.1) l
   rw[e];exact⟨v,Cu w (f x.1) 0 _ _ v Bg,Bv hv hu (fun k hk e=>dY k e (Cn hv hk)),Nf⟩
  ·rw[Ab e];obtain⟨v1,Aj,Q0,Gm⟩:=h.Xv z hz;exact⟨v1,(hu.block _ (Ao Aj) (fun e'=>e (h.inj z hz x hx e'))).trans Aj,Bv Q0 hu (fun k hk e=>dY k e (Cn Q0 hk)),Gm⟩
 ·have D6:∀ y∈setRow L x.1 l,∃ z∈L,z.1=y.1:=fun y hy=>by
   have:y.1∈(setRow L x.1 l).map (·.1):=Hu hy;rw[vJ] at this;exact Bz.1 this
  obtain⟨a,ha,ea⟩:=D6 y hy;obtain⟨c,hc,ec⟩:=D6 z hz;rw[←ea,←ec] at e ⊢;exact h.inj a ha c hc e
end
theorem aAB{L:List (T×M)}{name:T}{l r:M}(h:name∉L.map (·.1)):setRow ((name,l) :: L) name r=(name,r) :: L:=by
 unfold setRow;rw[Ca,Ad rfl]
 congr 1
 conv=>rhs;rw[←List.map_id L]
 exact P8 fun x hx=>Ab (fun e=>h (by rw[←e];exact Hu hx))
theorem asV{K:Kind}{A:M}(hg:Ag.Good A){name:T}{l:M}(h:fileOf K A name=some l):Up l∧l.length≤65535∧rowLen (flat l)≤65537:=by
 unfold fileOf at h;cases hx:Ag.get A name with
 |none=>rw[hx] at h;cases h
 |some d=>
  rw[hx] at h;obtain⟨_,hu,_,s,hs,hd⟩:=Nr h;have Ms:d.length≤65535:=by
   have:=hg _ (get_some hx);unfold Fu at this;exact(O9 this).2.2
  have CG:s.length+4=d.length:=by rw[hd,A9.Sl]
  refine⟨hu,(gp h).1,?_⟩;unfold FO at hs;split at hs
  ·cases ht:BK (flat l) with
   |none=>rw[ht] at hs;cases hs
   |some a=>
    rw[ht] at hs;simp only[EK,Ci] at hs;have h1:=mY ht;subst hs;rw[AA,A9.C9] at CG;omega
  ·cases hs
theorem asW{K:Kind}{A:M}{name:T}{l:M}(h:fileOf K A name=some l):∃ a,BK (flat l)=some a:=by
 unfold fileOf at h;cases hx:Ag.get A name with
 |none=>rw[hx] at h;cases h
 |some d=>
  rw[hx] at h;obtain⟨_,_,_,s,hs,_⟩:=Nr h;unfold FO at hs;split at hs
  ·cases ht:BK (flat l) with
   |none=>rw[ht] at hs;cases hs
   |some a=>exact⟨a,rfl⟩
  ·cases hs
theorem alk{K:Kind}{A:M}(hg:Ag.Good A)(ks:List T)(name:T):CU (J6 K A ks name)∧(J6 K A ks name).length≤1000000∧rowLen (flat (J6 K A ks name))≤1000000000:=by
 unfold J6;cases h:fileOf K A name with
 |none=>exact⟨List.Pairwise.nil,by simp,by simp[flat,rowLen]⟩
 |some l=>
  obtain⟨h1,h2,h3⟩:=asV hg h;have QV:(l.filter fun p=>decide (p.1∉ks)).Sublist l:=List.filter_sublist;refine⟨CU.Ra (List.Pairwise.sublist QV h1),?_,?_⟩
  ·have:=QV.length_le
   show(l.filter _).length≤_
   omega
  ·obtain⟨a,ht⟩:=asW h;obtain⟨b,hb,CP⟩:=ao7 QV ht;have e1:=mY ht;have e2:=mY hb
   show rowLen (flat (l.filter _))≤_
   omega
theorem aBx{K:Kind}{A:M}{ks:List T}(h:There K A ks){k:T}(hk:k∈ks):k.length≤65535:=by
 have h1:=h k hk;rw[nA] at h1;obtain⟨v,hv⟩:=Lh.1 h1;exact((dx (K:=K)).2 _ (get_some hv)).1
theorem aBw{K:Kind}{A:M}{ks:List T}(h:There K A ks){k:T}(hk:k∈ks):(Ag.get A (K.nm k)).isSome=true∧(fileOf K A (K.nm k)).isSome=true∧((fileOf K A (K.nm k)).getD []).any (fun p=>decide (p.1∈ks))=true:=by
 obtain⟨d,l,h1,_,h3⟩:=ah2 h (name:=K.nm k) ((Ee _ _).2 (Hu hk));refine⟨by rw[h1];rfl,by rw[h3];rfl,?_⟩;have h4:=h k hk;rw[nA] at h4;obtain⟨v,hv⟩:=Lh.1 h4;exact List.any_eq_true.2 ⟨_,get_some hv,by simpa using hk⟩
theorem zN{K:Kind}{A:M}{kt:List T}{L:List (T×M)}(h:Ob K A kt L):L.length≤kt.length:=by
 have h1:(Df L).length=L.length:=uE L;rw[uF h.nodup] at h1;have h2:Bi (L.map (·.1))=Bi (kt.map K.nm):=Re (JQ _) (JQ _) fun t=>by rw[Ee,Ee];exact h.names t
 have h3:=Vh (kt.map K.nm);rw[←h2,h1,BP] at h3;exact h3
