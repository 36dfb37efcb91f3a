/- RefCommit PrsKeys PrsKeysW MemW MemR MemG FilDown AllS AllM MemK MemL -/
import Derived.Test.YtkmninbcgipliaaGreatDoorQ11
set_option maxHeartbeats 4000000
set_option maxRecDepth 100000
set_option linter.all false
namespace Go.Proofs.YtkmninbcgipliaaGreatDoor
open Tryz
open Go.RowKit
open Go.Maps
section
open Af Ap
section
variable {w w':World}
theorem ayi{r n cap:Nat}{a:Option Addr}{v:Value}{A:M}{l:List Am}(h:Hq w r v A (Cn n))(hu:Up A)(hl:Ew w a l)(hn:n≤16384)(hA:used A≤Cn n)(FN:l.length≤100000)(hok:∀ c∈l,c.name.length≤maxLen∧c.data.length≤maxLen)(UE:l.all Am.may=true→F8 l≤1400000):
  Calls prog 44 #[.pointer (some ⟨r,0,none⟩),.slice a l.length cap] w fun e w'=>e=.returned (.int .i64 (Fy n A l))∧∃ v',Hq w' r v' (Es n A l) (Cn n)∧A7 (fun k=>k=r) w w':=by
 have J2:=ZX hn;have Hz:=QV A;have FE:=UR hu l;have HR:=Hi h;have HL:=Hi hl;have ME:=Hi hok;clear h hl hok
 go_in
 go_wp2
 go_loopw [5] (fun i wr=>∃ k:Nat,k≤l.length∧i=.int .i64 (k:Int)∧(l.take k).all Am.may=true∧Bw w wr) (fun i _=>l.length -(intOf i).toNat)
 case atStart=>exact⟨0,AZ _,rfl,rfl,Ah _ _⟩
 case round=>
  obtain⟨k,hk,rfl,hall,hb⟩:=hrel;have Gv:=Hi hall;have HB:=Hi hb;clear hall;by_cases hlt:k < l.length
  ·obtain⟨p,Jm,hp,_⟩:=(HL.below hb).index cap k hlt;obtain⟨p0,p1,p2⟩:=hp.cells;obtain⟨o1,o2⟩:=ME _ (Dc hlt);have HM:=Hi (amb l[k].name l[k].data l[k].gone wr o1 o2);obtain⟨mv,EA⟩:=ex (Am.may l[k]);rw[show(⟨l[k].name,l[k].data,l[k].gone⟩:Am)=l[k] from rfl,EA] at HM;have Rc:=Hi EA;have NR:=Dc hlt;cases mv with
   |true=>
    have HN:=Hi (show(l.take (k+1)).all Am.may=true by rw[CQ hlt,List.all_append,Gv.out,Bool.true_and];simp[Rc.out]);clear hb hp NR EA o1 o2;generalize l[k]=c at*;go_wp2_with fail;refine HM.mono ?_;rintro e w2⟨rfl,Ad⟩;have Ak:=bH HB Ad;clear Ad;go_wp2;go_roundw
    case rel=>exact⟨k+1,by omega,by go_num,HN,Ak⟩
    case measure=>simp[intOf];omega
   |false=>
    have QB:l.all Am.may=false:=by
     rw[Bool.eq_false_iff];intro e;rw[Mr] at e;rw[e _ NR] at EA;cases EA
    have HC:=Hi (show Fy n A l=2 by unfold Fy;rw[Ac QB]);have HX:=Hi (show Es n A l=A by unfold Es;rw[Aa (by rw[QB];simp)]);clear hb hp NR EA o1 o2 QB;generalize l[k]=c at*;go_wp2_with fail;refine HM.mono ?_;rintro e w2⟨rfl,Ad⟩;have Ak:=bH HB Ad;clear Ad;go_wp2;go_ret;exact⟨by rw[HC.out];rfl,v,by rw[HX.out];exact HR.below Ak,A7.of_below Ak⟩
  ·obtain rfl:k=l.length:=(by omega);have hall:=Gv.out;rw[Dq] at hall;have hw:=UE hall;have HW:=Hi (amA (cap:=cap) (HR.below hb) hu (HL.below hb) (by omega) (by omega));have Nn:=Hi hall;clear hb hall Gv;go_wp2_with fail;refine HW.mono ?_;rintro e w2⟨v2,rfl,DN,Ad⟩;obtain⟨q2,cap2,rfl⟩:=Bp DN;have Ak:=bH HB Ad;have BU:=Hi DN;have Fw:=Hi (fun(W:World) (hW:Bw w2 W)=>acG (BH DN (ub hW) (fun _ _ f=>f)) (by omega));have FO:=HR.below Ak.out;have c1:w2.cell? ⟨r,1,none⟩=some (.int .i64 (Cn n:Int)):=cr FO.1;have HRF:=Hi FO;obtain⟨F,hF⟩:=ex (made A l);rw[hF] at Fw BU ⊢;have Ym:=Hi hF;obtain⟨U,hU⟩:=ex (used F);rw[hU] at Fw;rw[hF,hU] at FE;have iA:=Hi hU;clear DN Ad FO hU hF;have jF:Fy n A l=if Cn n < U then 4 else 0:=by
    unfold Fy;rw[Aa (by rw[Nn.out];simp),Ym.out,iA.out]
   have jU:Es n A l=if Cn n < U then A else F:=by
    unfold Es;rw[Ym.out,iA.out];by_cases e:Cn n < U
    ·rw[Ac e,Aa (by omega)]
    ·rw[Aa e,Ac ⟨Nn,by omega⟩]
   have Sj:=Hi (Cr jF jU);clear jF jU Hz hw FN hA J2 hlt hk;by_cases Gl:Cn n < U
   ·have Qx:(Cn n:Int) < (U:Int):=(by omega);have HG:=Hi Gl;clear Gl;go_wp2
    go_region_held3 (fun V=>V.cell? ⟨r,1,none⟩=some (.int .i64 (Cn n:Int))) (go_keep)
     (first|(go_at_call 120;refine(Fw _ ((Ah _ _).drew)).mono ?_;rintro e wA ⟨rfl,DU⟩;have Au:=Hi (Ak.trans ((show Bw w2 wA from((Ah _ w2).drew).trans DU).mono Ak.size));clear DU;have cA:wA.cell? ⟨r,1,none⟩=some (.int .i64 (Cn n:Int)):=(by rw[BF _ _ _ _ _ _ (HR.below Au).1];rfl)))
    all_goals
     go_wp2;go_ret;exact⟨by rw[Sj.1,Ac HG.out];rfl,v,by rw[Sj.2,Ac HG.out];exact HR.below Au.out,A7.of_below Au.out⟩
   ·have Qx:¬ (Cn n:Int) < (U:Int):=(by omega);have HG:=Hi Gl;clear Gl;go_wp2
    go_region_held3 (fun V=>V.cell? ⟨r,1,none⟩=some (.int .i64 (Cn n:Int))) (go_keep)
     (first|(go_at_call 120;refine(Fw _ ((Ah _ _).drew)).mono ?_;rintro e wA ⟨rfl,DU⟩;have Au:=Hi ((show Bw w2 wA from((Ah _ w2).drew).trans DU));clear DU;have cA:wA.cell? ⟨r,1,none⟩=some (.int .i64 (Cn n:Int)):=(by rw[BF _ _ _ _ _ _ (HR.below (bT Ak Au)).1];rfl)))
    all_goals
     have CL:=bH Ak Au;have FO:=HR.below CL.out;have d0:wA.cell? ⟨r,0,none⟩=some v:=cr FO.1;have df:=Cu _ _ 0 _ _ FO.1;have Ib:=Hi (Cr FO.1 (BH BU (ub Au) (fun _ _ f=>f)));clear FO c1;go_wp2;go_ret;refine⟨by rw[Sj.1,Aa HG.out];rfl,.slice q2 F.length cap2,?_,(A7.of_below (F:=fun k=>k=r) CL).setCell (p:=⟨r,0,none⟩) (.inl rfl) _⟩;rw[Sj.2,Aa HG.out];refine⟨Cf _ _ 0 _ _ _ Ib.1,BH Ib.2 ((A7.refl (fun k=>k=r) wA).setCell (p:=⟨r,0,none⟩) (.inl rfl) _) (fun g hg e=>?_)⟩;rw[e] at hg;exact Bf.ne (CB Ib.2 hg) ⟨_,_,Ib.1⟩ (by decide) rfl
end
end
namespace Bu
open Go.Shelf
open Af Ap Aq BD
attribute [local go_sem] O4
theorem dropWhile_drop{α:Type}(p:α→Bool):∀ (l:List α) (k:Nat),k≤l.length→(∀ j,(h:j < l.length)→j < k→p l[j]=true)→(∀ h:k < l.length,p l[k]=false)→l.dropWhile p=l.drop k
 |[],k,_,_,_=>by simp
 |x :: l,0,_,_,h2=>by
  have:=h2 (by simp);rw[List.drop_zero,List.dropWhile_cons_of_neg (by simpa using this)]
 |x :: l,k+1,hk,h1,h2=>by
  have h0:=h1 0 (by simp) (by omega);rw[List.dropWhile_cons_of_pos (by simpa using h0),List.drop_succ_cons];exact dropWhile_drop p l k (by simpa using hk) (fun j hj Xw=>h1 (j+1) (by simpa using hj) (by omega)) (fun h=>h2 (by simpa using h))
theorem auh{R:M}{k:Nat}(h1:1≤k)(hk:k≤R.length)(ha:∀ j,(h:j < R.length)→j < k→R[j].1=(R[0]'(by omega)).1)(hb:∀ h:k < R.length,R[k].1≠(R[0]'(by omega)).1):heads R=(R[0]'(by omega)).1 :: heads (R.drop k):=by
 cases R with
 |nil=>simp at hk;omega
 |cons x R=>
  rw[ahZ];obtain⟨k,rfl⟩:∃ j,k=j+1:=⟨k -1,by omega⟩;rw[dropWhile_drop _ R k (by simpa using hk) (fun j hj Xw=>by have:=ha (j+1) (by simpa using hj) (by omega);simpa using this) (fun h=>by have:=hb (by simpa using h);simpa using this)];rfl
def fu:M→M
 |[]=>[]
 |x :: l=>l.dropWhile fun y=>decide (y.1=x.1)
def eX(Z:M):Nat→M
 |0=>Z
 |k+1=>fu (eX Z k)
theorem aAd{R:M}{k:Nat}(h1:1≤k)(hk:k≤R.length)(ha:∀ j,(h:j < R.length)→j < k→R[j].1=(R[0]'(by omega)).1)(hb:∀ h:k < R.length,R[k].1≠(R[0]'(by omega)).1):fu R=R.drop k:=by
 cases R with
 |nil=>simp at hk;omega
 |cons x R=>
  obtain⟨k,rfl⟩:∃ j,k=j+1:=⟨k -1,by omega⟩;exact dropWhile_drop _ R k (by simpa using hk) (fun j hj Xw=>by have:=ha (j+1) (by simpa using hj) (by omega);simpa using this) (fun h=>by have:=hb (by simpa using h);simpa using this)
theorem aAe{R:M}(h:R≠[]):(fu R).length < R.length:=by
 cases R with
 |nil=>exact absurd rfl h
 |cons x R=>
  have:=(List.dropWhile_sublist (l:=R) fun y=>decide (y.1=x.1)).length_le
  show(R.dropWhile _).length < _
  simp only[BN];omega
theorem Bj.of_block{W W':World}{q:Option Addr}{R:M}(h:Bj W q R)(he:∀ p,q=some p→R≠[]→W'.heap[p.block]?=W.heap[p.block]?):Bj W' q R:=fun i hi=>by
 obtain⟨p,e,hp⟩:=h i hi;have hb:=he p e (List.ne_nil_of_length_pos (by omega));rw[←add_block p (i*2)] at hb;exact⟨p,e,(World.cell?_of_block hb).trans hp.key,(World.cell?_of_block (a:=⟨(p.add (i*2)).block,(p.add (i*2)).off+1,none⟩) hb).trans hp.val⟩
structure Ku(W1:World)(Bx g:Nat)(R:M)(q:Option Addr)(c:Nat)(W:World):Prop where
 box:W.heap[Bx]?=some (.cells #[.slice q R.length c] 30)
 at_:Bj W1 q R
 blk:∀ p,q=some p→R≠[]→p.block=g
 src:R≠[]→∃ cs fr,W1.heap[g]?=some (.cells cs 51 fr)∧W.heap[g]?=some (.cells cs 51 fr)
 cap:R.length≤c
 small:R.length≤1000000
section
variable {W1:World}{Bx g:Nat}{R:M}{q:Option Addr}{c:Nat}{W W':World}
theorem Ku.prs(h:Ku W1 Bx g R q c W):Bj W q R:=h.at_.of_block fun p e hR=>by
 obtain⟨cs,fr,h1,h2⟩:=h.src hR;rw[h.blk p e hR,h1,h2]
theorem Ku.upd{F:Nat→Prop}(h:Ku W1 Bx g R q c W)(hu:A7 F W W')(h1:¬ F Bx)(h2:∀ cs fr,W.heap[g]?=some (.cells cs 51 fr)→¬ F g):Ku W1 Bx g R q c W':=
 ⟨(hu.block Bx (Ao h.box) h1).trans h.box,h.at_,h.blk,fun hR=>by
  obtain⟨cs,fr,k1,k2⟩:=h.src hR;exact⟨cs,fr,k1,(hu.block g (Ao k2) (h2 cs fr k2)).trans k2⟩,h.cap,h.small⟩
theorem Ku.below(h:Ku W1 Bx g R q c W)(hb:Bw W W'):Ku W1 Bx g R q c W':=h.upd (ub hb) (fun f=>f) (fun _ _ _ f=>f)
theorem Ku.put(h:Ku W1 Bx g R q c W){k:Nat}{o o':Obj}(ho:W.heap[k]?=some o)(hc:o.isCells=false):Ku W1 Bx g R q c (W.putObj k o'):=by
 refine⟨RP h.box ho hc,h.at_,h.blk,fun hR=>?_,h.cap,h.small⟩;obtain⟨cs,fr,k1,k2⟩:=h.src hR;refine⟨cs,fr,k1,?_⟩;rw[World.putObj_heap_other (fun e=>?_)]
 ·exact k2
 ·subst e;rw[k2] at ho;injection ho with ho
  subst ho;exact absurd hc (by simp[Obj.isCells])
theorem Ku.next(h:Ku W1 Bx g R q c W){k:Nat}(hk:k≤R.length):Ku W1 Bx g (R.drop k) (IW q c k) (c -k) (W.setCell ⟨Bx,0,none⟩ (.slice (IW q c k) (R.length -k) (c -k))):=by
 have hl:(R.drop k).length=R.length -k:=Cs;refine⟨by rw[hl];exact Cf W Bx 0 _ _ _ h.box,h.at_.back hk h.cap,fun p e hR=>?_,fun hR=>?_,by rw[hl];have:=h.cap;omega,by rw[hl];have:=h.small;omega⟩
 ·have qi:R≠[]:=fun e=>hR (by rw[e];simp)
  unfold IW at e;split at e
  ·exact h.blk p e qi
  ·cases q with
   |none=>cases e
   |some p0=>
    simp only[EP,Ci] at e;rw[←e,add_block];exact h.blk p0 rfl qi
 ·have qi:R≠[]:=fun e=>hR (by rw[e];simp)
  obtain⟨cs,fr,k1,k2⟩:=h.src qi;refine⟨cs,fr,k1,(((A7.refl (fun k=>k=Bx) W).setCell (p:=⟨Bx,0,none⟩) (.inl rfl) _).block g (Ao k2) (fun e=>?_)).trans k2⟩;rw[e,h.box] at k2;injection k2 with k2
  injection k2 with _ k2
  exact absurd k2 (by decide)
end
def arp(x:Value×T):Array Value:=#[x.1]
def fQ(W1:World)(Bx g:Nat)(Z:M)(J:List T→World→Prop)(xs:List (Value×T))(W:World):Prop:=
 ∃ R q c,Ku W1 Bx g R q c W∧R=eX Z xs.length∧heads Z=xs.map (·.2)++heads R∧J (xs.map (·.2)) W
def vC(W1:World)(Bx g:Nat)(Z:M)(J:List T→World→Prop)(xs:List (Value×T))(x:Value×T)(W:World):Prop:=
 ∃ R q c,Ku W1 Bx g R q c W∧R=eX Z (xs.length+1)∧heads Z=xs.map (·.2)++x.2 :: heads R∧J (xs.map (·.2)) W∧∃ p n c',x.1=.slice (some p) (n+1) c'∧W.cell? p=some (.string (bs x.2))∧n < 1000000
def yl(Bx:Nat)(W:World):Nat:=match W.cell? ⟨Bx,0,none⟩ with
 |some (.slice _ n _)=>n
 |_=>0
theorem ym{W1:World}{Bx g:Nat}{R:M}{q:Option Addr}{c:Nat}{W:World}(h:Ku W1 Bx g R q c W):yl Bx W=R.length:=by
 unfold yl;rw[BF _ _ _ _ _ _ h.box];rfl
theorem at6(q:Option Addr)(m c:Nat)(w:World):
  Calls prog 200 #[.slice q m c] w fun e w'=>e=.returned (.func (.func 252) #[] #[.pointer (some ⟨w.heap.size,0,none⟩)])∧w'=w.alloc (.cells #[.slice q m c] 30):=by
 go_in
 go_wp2;go_ret;exact⟨rfl,rfl⟩
theorem axX(W:World)(q:Option Addr)(n cap k:Nat)(hk:k≤n)(hc:n≤cap):
  (Instr.slice 30 (.slice q n cap) none (some (.int .i64 (k:Int))) (some (.int .i64 (k:Int)))).run prog W=.ok (.slice q k k) W:=by
 obtain⟨i,hi,_,hs,_⟩:=DI RO;cases q<;>simp[Instr.slice,GK underlying30,Instr.sliceBounds,sizeOf,typeInfo,hi,go_sem]<;>omega
theorem at5(n:Nat)(hn:1≤n)(W1:World)(Bx g:Nat)(Z:M){J:List T→World→Prop}(hJ:∀ ks W W' cs,J ks W→W.heap[Bx]?=some (.cells cs 30)→A7 (fun k=>k=Bx) W W'→J ks W')(w:World):
  WU n prog 252 #[.pointer (some ⟨Bx,0,none⟩)] arp (fQ W1 Bx g Z J) (vC W1 Bx g Z J) (fun xs=>xs.map (·.2)=heads Z) w:=by
 intro l Bk W Uk hY hW h0 IZ;have H0:=Hi h0;have WE:=Hi IZ;clear h0 IZ;refine callsIn_of_wp func252 rfl trivial ?_ rfl;simp only[ntmps252,Kr,BN,Iu,Nat.reduceAdd,Nat.reduceSub,Mm,Mq,Mv,Ms,Ev,Hf]
 gi_wp2
 gi_loopw [3] (fun _ wr=>∃ xs,fQ W1 Bx g Z J xs wr∧Bk wr) (fun _ wr=>yl Bx wr)
 case atStart=>exact⟨[],H0,WE⟩
 case round=>
  obtain⟨xs,⟨R,q,c,hG,YZ,hZ,Rs⟩,hk⟩:=hrel;have QA:prog.follows .mixedOrders=true:=by kernel_rfl
  have Jj:wr.cell? ⟨Bx,0,none⟩=some (.slice q R.length c):=cr hG.box;have HG:=Hi hG;have U2:=Hi YZ;have HZ:=Hi hZ;have HJ:=Hi Rs;have HK:=Hi hk;clear hG YZ hZ Rs hk H0 WE;by_cases hR:R=[]
  ·have HE:=Hi (show xs.map (·.2)=heads Z from by rw[HZ.out,hR,ai0,En]);have hz:¬ (0:Int) < (R.length:Int):=(by rw[hR];simp);clear hR
   gi_wp2
   go_end0
   exact⟨⟨_,rfl⟩,xs,HE,⟨R,q,c,HG,U2,HZ,HJ⟩,HK⟩
  ·have kg:=List.length_pos_iff.2 hR;have hz:(0:Int) < (R.length:Int):=by omega
   gi_wp2
   obtain⟨a0,ha0⟩:=ex ((R[0]'kg).1);have Yh:=Hi (show ∀ h:0 < R.length,(R[0]'h).1=a0 from fun _=>ha0);have nC:=Hi kg;have jO:∀ W,∃ p:Addr,q=some p∧(Instr.indexAt 30 (.slice q R.length c) (.int .i64 0)).run prog W=.ok (.pointer (some p)) W:=fun W=>by
    obtain⟨p,rfl,hp⟩:=HG.prs 0 kg;have:=IM prog _ 51 underlying30 2 (by kernel_rfl) p R.length c 0 kg W;rw[Nat.zero_mul,add_zero'] at this;exact⟨p,rfl,this⟩
   obtain⟨p0,rfl,-⟩:=jO wr;have RI:∀ W,(Instr.indexAt 30 (.slice (some p0) R.length c) (.int .i64 0)).run prog W=.ok (.pointer (some p0)) W:=fun W=>by
    obtain⟨p,e,h⟩:=jO W;cases e;exact h
   have YO:=Hi RI;have Gx:=Hi (ym HG);have Oe:=Hi (aAe hR);clear hR ha0 kg jO RI Jj hz
   gi_loopw [3] (fun i wr2=>∃ k:Nat,1≤k∧k≤R.length∧i=.int .i64 (k:Int)∧(∀ j,(h:j < R.length)→j < k→R[j].1=a0)∧Ku W1 Bx g R (some p0) c wr2∧J (xs.map (·.2)) wr2∧Bk wr2) (fun i _=>R.length -(intOf i).toNat)
   case atStart=>exact⟨1,Ae _,nC,rfl,(fun j h hj=>by
    obtain rfl:j=0:=(by omega);exact Yh h),HG,HJ,HK⟩
   case round=>
    clear HG HJ HK;obtain⟨k,EX,DX,rfl,hall,JZ,jb,Xb⟩:=hrel;have Z6:wr.cell? ⟨Bx,0,none⟩=some (.slice (some p0) R.length c):=cr JZ.box;have auu:=Cu _ _ 0 _ _ JZ.box;have bY:wr.cell? p0=some (.string (bs a0)):=by
     obtain⟨p,e,hp⟩:=JZ.prs 0 nC.out;cases e;have:=hp.key;rwa[Nat.zero_mul,add_zero',Yh nC.out] at this
    have RI:=YO.out;have GZ:=JZ.small;have Gv:=Hi hall;have Du:=Hi JZ;have Yr:=Hi jb;have Ak:=Hi Xb;have dh:(0:Int) < (k:Int):=(by omega);have au9:=fun W=>axX W (some p0) R.length c k DX JZ.cap
    have qC:=fun W=>eG W (some p0) R.length c k DX
    have U9:=Hi (show(∀ h:k < R.length,R[k].1≠a0)→∀ (nq:Nat),YieldAt Fence.wide (n -1) prog l #[.slice (some p0) k k] ((wr.drewN nq).setCell ⟨Bx,0,none⟩ (.slice (IW (some p0) c k) (R.length -k) (c -k))) fun e W'=>e=.returned (.bool true)∧fQ W1 Bx g Z J (xs++[(.slice (some p0) k k,a0)]) W'∧Bk W' from fun hb nq=>by
     have hd:Bw wr (wr.drewN nq):=FM wr nq;have hGd:=JZ.below hd;have NU:=aAd EX DX (fun j h hj=>by rw[hall j h hj,Yh.out]) (fun h=>by rw[Yh.out];exact hb h);have hhd:=auh EX DX (fun j h hj=>by rw[hall j h hj,Yh.out]) (fun h=>by rw[Yh.out];exact hb h);rw[Yh.out] at hhd;have hne:R≠[]:=List.length_pos_iff.1 nC;have hu:A7 (fun k=>k=Bx) wr ((wr.drewN nq).setCell ⟨Bx,0,none⟩ (.slice (IW (some p0) c k) (R.length -k) (c -k))):=(A7.of_below (F:=fun k=>k=Bx) hd).setCell (p:=⟨Bx,0,none⟩) (.inl rfl) _;refine hY xs (.slice (some p0) k k,a0) _ ⟨R.drop k,IW (some p0) c k,c -k,hGd.next DX,by show _=fu (eX Z xs.length);rw[←U2.out,NU],by rw[HZ.out,hhd],hJ _ _ _ _ jb JZ.box hu,p0,k -1,k,by show Value.slice _ _ _=_;rw[Nat.sub_add_cancel EX],?_,by have:=JZ.small;omega⟩ (Uk _ _ Xb ((UI (ub hd) (fun _ _ f=>f.elim)).trans (KeepsOthers.setCell _ _ _)));refine(hu.cell (D7 bY) (fun e=>?_)).trans bY;obtain⟨cs,fr,_,k2⟩:=JZ.src hne;have e2:p0.block=g:=JZ.blk p0 rfl hne;rw[←e2,e,JZ.box] at k2;injection k2 with k2
     injection k2 with _ k2
     exact absurd k2 (by decide))
    by_cases hlt:k < R.length
    ·obtain⟨pk,hik,hpk,-⟩:=JZ.prs.index c k hlt;have Qu:=hpk.key;by_cases jI:R[k].1=a0
     ·have ao9:=Hi (show ∀ j,(h:j < R.length)→j < k+1→R[j].1=a0 from fun j h hj=>by
       by_cases e:j=k
       ·subst e;exact jI
       ·exact hall j h (by omega))
      rw[jI] at Qu;clear hall JZ jb Xb hpk U9 au9 qC
      gi_wp2
      refine wpIn_region_quiet_lit rfl QA (by kernel_rfl) ?_
      repeat (gi_big_quiet_step (fail))
      refine wpQuietIn_nil ?_;rintro _⟨nq,rfl⟩
      gi_wp2
      go_roundw
      case rel=>exact⟨k+1,by omega,by omega,by go_num,ao9,Du.below (FM wr nq),hJ _ _ _ _ Yr Du.box (A7.of_below (FM wr nq)),Uk _ _ Ak (UI (ub (FM wr nq)) (fun _ _ f=>f.elim))⟩
      case measure=>simp[intOf];omega
     ·have aS:=Hi (U9.out fun _=>jI);have hne:(R[k].1 == a0)=false:=(by simpa using jI);generalize R[k]=xk at*;clear hall JZ jb Xb hpk U9 jI
      gi_wp2
      refine wpIn_region_quiet_lit rfl QA (by kernel_rfl) ?_
      repeat (gi_big_quiet_step (fail))
      refine wpQuietIn_nil ?_;rintro _⟨nq,rfl⟩
      gi_wp2
      obtain⟨fn,tmps,assign,body,hy,hR⟩:=aS nq;have DT:=Hi hR;clear hR aS
      gi_wp2
      rw[hy]
      gi_wp2
      refine DT.mono ?_;rintro e W3⟨rfl,h1,h2⟩;have H1:=Hi h1;have H2:=Hi h2;clear h1 h2 hy DT
      gi_wp2
      go_roundw
      case rel=>exact⟨_,H1,H2⟩
      case measure=>
       obtain⟨R',q',c',g1,g2,_,_⟩:=H1.out;rw[ym g1,Gx.out,g2,Az,Kn]
       show(fu (eX Z xs.length)).length < _
       rw[←U2.out];exact Oe.out
    ·obtain rfl:k=R.length:=(by omega);have aS:=Hi (U9 (fun h=>absurd h (Nat.lt_irrefl _)));simp only[Nat.sub_self] at aS;clear hall JZ jb Xb U9
     gi_wp2
     refine wpIn_region_quiet_lit rfl QA (by kernel_rfl) ?_
     repeat (gi_big_quiet_step (fail))
     refine wpQuietIn_nil ?_;rintro _⟨nq,rfl⟩
     gi_wp2
     obtain⟨fn,tmps,assign,body,hy,hR⟩:=aS nq;have DT:=Hi hR;clear hR aS
     gi_wp2
     rw[hy]
     gi_wp2
     refine DT.mono ?_;rintro e W3⟨rfl,h1,h2⟩;have H1:=Hi h1;have H2:=Hi h2;clear h1 h2 hy DT
     gi_wp2
     go_roundw
     case rel=>exact⟨_,H1,H2⟩
     case measure=>
      obtain⟨R',q',c',g1,g2,_,_⟩:=H1.out;rw[ym g1,Gx.out,g2,Az,Kn]
      show(fu (eX Z xs.length)).length < _
      rw[←U2.out];exact Oe.out
def Vt(ats:Array TypeId)(ty:TypeId)(args:Array Value):Sem Value:=Builtin.append_ ats ty args
theorem bf(ats:Array TypeId)(ty:TypeId)(args:Array Value):Builtin.append_ ats ty args=Vt ats ty args:=rfl
structure Jh(B:Nat)(w:World)(oc:Nat)(W:World)(l:List T)(v:Value):Prop where
 AQ:Below B w W
 low:B≤oc
 size:B≤W.heap.size
 box:W.heap[oc]?=some (.cells #[v] 61)
 row:W.ownsRow B 9 1 v l.length (strCells l)
section
variable {B:Nat}{w:World}{oc:Nat}{W W1 W2:World}{l:List T}{v:Value}
theorem Jh.ne(h:Jh B w oc W l v){k:Nat}(hk:v.ownBlock=some k):k≠oc∧B≤k:=by
 refine⟨fun e=>?_,Ec h.row hk⟩;obtain⟨cs,fz,h1⟩:=CB h.row hk;rw[e,h.box] at h1;injection h1 with h1
 injection h1 with _ h1
 exact absurd h1 (by decide)
theorem Jh.upd{F:Nat→Prop}(h:Jh B w oc W l v)(hu:A7 F W W1)(hB:∀ k,F k→B≤k)(h1:¬ F oc)(h2:∀ k,v.ownBlock=some k→¬ F k):Jh B w oc W1 l v:=
 ⟨Cq h.AQ hu hB h.size,h.low,Ay h.size hu.size,(hu.block oc (Ao h.box) h1).trans h.box,BH h.row hu h2⟩
theorem Jh.below(h:Jh B w oc W l v)(hb:Bw W W1):Jh B w oc W1 l v:=h.upd (ub hb) (fun _ f=>f.elim) (fun f=>f) (fun _ _ f=>f)
theorem Jh.put(h:Jh B w oc W l v){k:Nat}{o o':Obj}(ho:W.heap[k]?=some o)(hc:o.isCells=false)(hk:B≤k):Jh B w oc (W.putObj k o') l v:=by
 refine h.upd (F:=fun i=>i=k) (A7.of_grownBy (F:=fun i=>i=k) (grownBy_putObj' W k o') (fun i e=>by cases e;rfl)) (fun i e=>by rw[e];exact hk) (fun e=>?_) (fun i hi e=>?_)
 ·rw[←e,h.box] at ho;injection ho with ho
  subst ho;exact absurd hc (by simp[Obj.isCells])
 ·obtain⟨cs,fz,h2⟩:=CB h.row hi;rw[e,ho] at h2;injection h2 with h2
  subst h2;exact absurd hc (by simp[Obj.isCells])
theorem Jh.kind(h:Jh B w oc W l v){k:Nat}{cs:Array Value}{t:TypeId}{fz:Nat×Nat}(hk:W.heap[k]?=some (.cells cs t fz))(h1:t≠61)(h2:t≠9):oc≠k∧v.ownBlock≠some k:=by
 refine⟨fun e=>?_,fun e=>?_⟩
 ·rw[←e,h.box] at hk;injection hk with hk
  injection hk with _ hk
  exact h1 hk.symm
 ·obtain⟨c2,f2,h3⟩:=CB h.row e;rw[hk] at h3;injection h3 with h3
  injection h3 with _ h3
  exact h2 h3
theorem Jh.add(h:Jh B w oc W l v)(hb:Bw W W1)(hg:W1.grownBy W2 v.ownBlock){v':Value}{k:List T}(ho:W2.ownsRow B 9 1 v' (l.length+k.length) (strCells l++strCells k)):
  Jh B w oc (W2.setCell ⟨oc,0,none⟩ v') (l++k) v':=by
 have h1:=h.below hb;have qD:W2.heap[oc]?=some (.cells #[v] 61):=(hg.block oc (Ao h1.box) (fun e=>(h1.ne e.symm).1 rfl)).trans h1.box;have hu:=(A7.refl (fun k=>k=oc) W2).setCell (p:=⟨oc,0,none⟩) (.inl rfl) v';refine⟨(h1.AQ.grown hg h1.size (fun k e=>(h1.ne e).2)).setCell (p:=⟨oc,0,none⟩) h.low v',h.low,Ay (Ay h1.size hg.size) hu.size,Cf W2 oc 0 _ _ v' qD,?_⟩;rw[Az,show strCells (l++k)=strCells l++strCells k by unfold strCells;rw[D6]];refine BH ho hu (fun g hg e=>?_);obtain⟨cs,fz,h2⟩:=CB ho hg;rw[e,qD] at h2;injection h2 with h2
 injection h2 with _ h2
 exact absurd h2 (by decide)
theorem Jh.keeps(h:Jh B w oc W l v)(hb:Bw W W1)(hg:W1.grownBy W2 v.ownBlock)(v':Value):KeepsOthers W (W2.setCell ⟨oc,0,none⟩ v'):=by
 have h1:=h.below hb;refine((UI (ub hb) (fun _ _ f=>f.elim)).trans (KeepsOthers.of_grownBy hg fun j o e ho=>?_)).trans (KeepsOthers.setCell _ _ _);obtain⟨cs,fz,h2⟩:=CB h1.row e;rw[ho] at h2;injection h2 with h2
 subst h2;rfl
theorem Jh.other(h:Jh B w oc W l v)(hb:Bw W W1)(hg:W1.grownBy W2 v.ownBlock)(v':Value){k:Nat}{cs:Array Value}{t:TypeId}{fz:Nat×Nat}(hk:W.heap[k]?=some (.cells cs t fz))(h1:t≠61)(h2:t≠9):
  (W2.setCell ⟨oc,0,none⟩ v').heap[k]?=some (.cells cs t fz):=by
 have EX:=(hb.block k (Ao hk)).trans hk;obtain⟨n1,n2⟩:=(h.below hb).kind EX h1 h2;have K9:=(hg.block k (Ao EX) (fun e=>n2 e.symm)).trans EX;exact(((A7.refl (fun k=>k=oc) W2).setCell (p:=⟨oc,0,none⟩) (.inl rfl) v').block k (Ao K9) (fun e=>n1 e.symm)).trans K9
theorem aAi(x:T)(h:W.ownsRow B 9 1 v l.length (strCells l))(hn:l.length≤1000000000)(hb:B≤W.heap.size):
  ∃ g cap w2,(Vt #[61,61] 61 #[v,.slice (some ⟨W.heap.size,0,none⟩) 1 1]).run prog (W.alloc (.cells #[.string (bs x)] 9))=.ok (.slice (some ⟨g,0,none⟩) (l.length+1) cap) w2∧
   w2.ownsRow B 9 1 (.slice (some ⟨g,0,none⟩) (l.length+1) cap) (l.length+[x].length) (strCells l++strCells [x])∧
   (W.alloc (.cells #[.string (bs x)] 9)).grownBy w2 v.ownBlock:=by
 obtain⟨i0,Bg,AX,AY,Ba⟩:=DI RX;obtain⟨v',w2,h1,h2,h3,_,_⟩:=run_append_own_at (P:=prog) (W.alloc (.cells #[.string (bs x)] 9)) B 61 61 9 i0 _ 1 16 underlying61 Bg AX AY Ba rfl (by decide) v l.length _ (h.alloc _) ⟨W.heap.size,0,none⟩ 1 1 [.string (bs x)] rfl
  (by intro j u hj;rw[add_plain,E8];exact(Dx▸hj)) (by simp[Value.oneCell']) (by unfold maxLen;omega) (by omega) (by rw[Ar];omega)
 obtain⟨g,cap,rfl⟩:=ownsRow_succ h2;exact⟨g,cap,w2,h1,by unfold strCells at h2 ⊢;exact h2,h3⟩
end
end Bu
namespace Bu
open Go.Shelf
open Af Ap Aq BD
attribute [local go_sem] O4
attribute [local go_sem ↓] bf
def aT(w:World)(ks:List T)(W:World):Prop:=∃ v,Jh w.heap.size w w.heap.size W ks v
theorem avY{w W W':World}{Bx:Nat}{ks:List T}{cs:Array Value}(h:aT w ks W)(hb:W.heap[Bx]?=some (.cells cs 30))(hB:w.heap.size≤Bx)(hu:A7 (fun k=>k=Bx) W W'):aT w ks W':=by
 obtain⟨v,h⟩:=h;obtain⟨n1,n2⟩:=h.kind hb (by decide) (by decide);exact⟨v,h.upd hu (fun k e=>by rw[e];exact hB) n1 (fun k hk e=>n2 (by rw[hk,e]))⟩
theorem ak7{w:World}{B:Nat}(hB:w.heap.size≤B)(ks:List T):MJ B (aT w ks):=
 ⟨fun A l o o' hl ⟨v,h⟩ ho hc=>⟨v,h.put ho hc (Ay hB hl)⟩,fun A o ⟨v,h⟩=>⟨v,h.below (AV A o)⟩⟩
theorem asS{W1:World}{Bx g B:Nat}{Z:M}{J:List T→World→Prop}(hJ:∀ ks,MJ B (J ks))(xs:List (Value×T)):MJ B (fQ W1 Bx g Z J xs):=
 ⟨fun A l o o' hl ⟨R,q,c,h1,h2,h3,h4⟩ ho hc=>⟨R,q,c,h1.put ho hc,h2,h3,(hJ _).1 A l o o' hl h4 ho hc⟩,fun A o ⟨R,q,c,h1,h2,h3,h4⟩=>⟨R,q,c,h1.below (AV A o),h2,h3,(hJ _).2 A o h4⟩⟩
theorem yH{A:World}{p:Addr}{v:Value}{l:Nat}{o o':Obj}(h:A.cell? p=some v)(ho:A.heap[l]?=some o)(hc:o.isCells=false):(A.putObj l o').cell? p=some v:=by
 refine(World.cell?_of_block (World.putObj_heap_other (fun e=>?_))).trans h;unfold World.cell? at h;rw[e,ho] at h;cases o<;>simp[Obj.isCells] at hc h
theorem asT{W1:World}{Bx g B:Nat}{Z:M}{J:List T→World→Prop}(hJ:∀ ks,MJ B (J ks))(xs:List (Value×T))(x:Value×T):MJ B (vC W1 Bx g Z J xs x):=
 ⟨fun A l o o' hl ⟨R,q,c,h1,h2,h3,h4,p,n,c',h5,h6,h7⟩ ho hc=>⟨R,q,c,h1.put ho hc,h2,h3,(hJ _).1 A l o o' hl h4 ho hc,p,n,c',h5,yH h6 ho hc,h7⟩,
  fun A o ⟨R,q,c,h1,h2,h3,h4,p,n,c',h5,h6,h7⟩=>⟨R,q,c,h1.below (AV A o),h2,h3,(hJ _).2 A o h4,p,n,c',h5,((AV A o).cell (D7 h6)).trans h6,h7⟩⟩
theorem eF{w:World}{q:Option Addr}{cap:Nat}{l:M}(h:Bj w q l)(hq:q=none→cap=0)(hl:l.length≤1000000):
  Calls prog 122 #[.slice q l.length cap] w fun e w'=>∃ v,e=.returned v∧Ap.Bq w' w.heap.size v (Eb l)∧Bw w w':=by
 refine(Dr (n:=3)).1 ?_;have QA:prog.follows .mixedOrders=true:=by kernel_rfl
 have HS:=Hi (fun(W:World) (hW:Bw w W)=>amT _ W q cap l (Ae _) (h.below hW) hq hl);have MH:=Hi (fo l);have HK:=Hi (aui l);clear h hq;refine callsIn_of_wp_marks func122 rfl trivial ?_ rfl;simp only[ntmps122,Kr,BN,Iu,Nat.reduceAdd,Nat.reduceSub,Mm,Mq,Mv,Ms,Ev,Hf]
 gi_wp2
 have Bb:=AV w (.cells #[.slice none 0 0] 61);have ht0:Jh w.heap.size w w.heap.size (w.alloc (.cells #[.slice none 0 0] 61)) [] (.slice none 0 0):=⟨Bb,Ae _,Bb.size,AP w _,by unfold strCells;exact E5 _ _ _ _⟩;have WN:=Hi ht0;refine⟨trivial,(Dr.2 (HS _ Bb)).mono ?_⟩;rintro e w1⟨v1,rfl,h1,Ai⟩;obtain⟨q1,c1,rfl,GX,Gi⟩:=Fz h1;have Jg:=Hi (WN.below Ai);have FD:=Hi h1;have ay:=Hi Gi;clear Bb ht0 h1 Ai GX Gi WN HS
 gi_wp2
 refine⟨trivial,(Dr.2 (at6 q1 _ c1 _)).mono ?_⟩;rintro e w2⟨rfl,Kh⟩;subst Kh
 gi_wp2
 have EK:=Hi (AP w1 (.cells #[.slice q1 (F6 l).length c1] 30));have YJ:=Hi (Jg.below (AV w1 (.cells #[.slice q1 (F6 l).length c1] 30)));have aO:=Hi (Ch FD (AV w1 (.cells #[.slice q1 (F6 l).length c1] 30)));have L8:=Hi Jg.size;obtain⟨Bx,Ik⟩:=ex (w1.heap.size);rw[Ik] at EK L8 ⊢;obtain⟨U,hU⟩:=ex (w1.alloc (.cells #[.slice q1 (F6 l).length c1] 30));rw[hU] at EK YJ aO ⊢;obtain⟨g,hg⟩:∃ g,∀ p,q1=some p→p.block=g:=by
  cases q1 with
  |none=>exact⟨0,fun p e=>by cases e⟩
  |some p=>exact⟨p.block,fun p' e=>by cases e;rfl⟩
 have Qe:=Hi (show Ku U Bx g (F6 l) q1 c1 U from⟨EK,Bj.D9 aO,fun p e _=>hg p e,fun hne=>by
  rcases aO.2 with⟨e1,e2⟩|⟨g',cap',cur,e1,_,Ox,_⟩
  ·exact absurd (JW.1 e2) hne
  ·injection e1 with e2
   have:=hg _ e2;subst this;exact⟨_,_,Ox,Ox⟩,ay.out,by rw[MH.out];exact hl⟩)
 clear Ik hU hg Jg FD ay aO;refine anU (s:=3) (by omega) (gf:=252) (lb:=#[.pointer (some ⟨Bx,0,none⟩)]) rfl (enters_of func252 (by kernel_rfl) rfl) (e:=fun x:Value×T=>x.1)
  (Ia:=fQ U Bx g (F6 l) (aT w)) (Iy:=vC U Bx g (F6 l) (aT w)) (fun xs=>asS (fun ks=>ak7 YJ.size ks) xs) (fun xs x=>asT (fun ks=>ak7 YJ.size ks) xs x)
  (at5 2 (by omega) U Bx g (F6 l) (J:=aT w) (fun ks W W' cs h hb hu=>avY h hb L8 hu) U) ⟨F6 l,q1,c1,Qe,rfl,rfl,_,YJ⟩
  ?assign ?body ?done
 case assign=>
  intro l x W K hK;simp only[np] at hK ⊢
  gi_wp2
  exact hK
 case body=>
  intro l2 pre x W hy;obtain⟨R,q2,c2,hG,YZ,hZ,⟨v,hT⟩,p,n,c',hx,FW,hn⟩:=hy;obtain⟨xv,xk⟩:=x;obtain⟨qv,cv,rfl⟩:=Bp hT.row;simp only at hx FW hZ;subst hx;have hlen:(pre.map (·.2)).length≤1000000:=by
   have h1:=congrArg List.length hZ;rw[HK.out,Az] at h1;have h2:=UM (l.map (·.1));rw[Ca] at h2;unfold Eb at h1;omega
  obtain⟨g7,oh,w7,QG,Ls,Im⟩:=aAi (W:=W.drew) xk hT.row.drew (by omega) hT.size;have Ll:Bw W (W.drew.alloc (.cells #[.string (bs xk)] 9)):=((Ah _ W).drew).alloc (Ae _) _;have vE:=Hi (hT.add Ll Im (k:=[xk]) Ls);have V9:=Hi (hT.keeps Ll Im (.slice (some ⟨g7,0,none⟩) ((pre.map (·.2)).length+1) oh))
  have gN:=Hi (show Ku U Bx g R q2 c2 (w7.setCell ⟨w.heap.size,0,none⟩ (.slice (some ⟨g7,0,none⟩) ((pre.map (·.2)).length+1) oh)) from⟨hT.other Ll Im _ hG.box (by decide) (by decide),hG.at_,hG.blk,fun hne=>by
   obtain⟨cs,fr,k1,k2⟩:=hG.src hne;exact⟨cs,fr,k1,hT.other Ll Im _ k2 (by decide) (by decide)⟩,hG.cap,hG.small⟩)
  have NK:=(Im.block w.heap.size (by rw[Ar];exact Nat.lt_succ_of_lt (Ao hT.box)) (fun e=>(hT.ne e.symm).1 rfl)).trans ((Ll.block _ (Ao hT.box)).trans hT.box);have Xm:w7.cell? ⟨w.heap.size,0,none⟩=some (.slice qv (pre.map (·.2)).length cv):=cr NK;have Zc:=Cu w7 w.heap.size 0 _ _ NK;have cb:W.cell? ⟨w.heap.size,0,none⟩=some (.slice qv (pre.map (·.2)).length cv):=cr hT.box;have Cx:∀ V,(Instr.indexAt 30 (.slice (some p) (n+1) c') (.int .i64 0)).run prog V=.ok (.pointer (some p)) V:=fun V=>by
   have:=IM prog _ 51 underlying30 2 (by kernel_rfl) p (n+1) c' 0 (by omega) V;rw[Nat.zero_mul,add_zero'] at this;exact this
  have HZ:=Hi hZ;have U2:=Hi YZ;have ahQ:=Ao hT.box;have jZ:=D7 FW;have aD4:(Vt #[61,61] 61 #[.slice qv (pre.map (·.2)).length cv,.slice (some ⟨W.heap.size,0,none⟩) 1 1]).run prog (W.alloc (.cells #[.string (bs xk)] 9)).drew=.ok (.slice (some ⟨g7,0,none⟩) ((pre.map (·.2)).length+1) oh) w7:=QG;generalize (pre.map (·.2)).length=m at*;clear hG YZ hZ hT QG Ls Im Ll NK hlen;simp only[np]
  gi_wp2
  gi_region_with_o (fail)
  all_goals
   refine⟨V9,R,q2,c2,gN,by rw[Az];exact U2.out,by rw[HZ.out,D6];simp,.slice (some ⟨g7,0,none⟩) (m+1) oh,?_⟩;rw[D6];exact vE.out
 case done=>
  intro D xs W hD hS hI Df;obtain⟨R,q2,c2,hG,YZ,hZ,⟨v,hT⟩⟩:=hI;rw[hS,HK.out] at hT;obtain⟨qv,cv,rfl⟩:=Bp hT.row;have HT:=Hi hT;have Sw:=Hi Df;have HD:=Hi (show w.heap.size≤D from Ay YJ.size hD);have cb:W.cell? ⟨w.heap.size,0,none⟩=some (.slice qv (Eb l).length cv):=cr hT.box;have Ow:=Cu W w.heap.size 0 _ _ hT.box;have hu:=(A7.refl (fun k=>k=w.heap.size) W).setCell (p:=⟨w.heap.size,0,none⟩) (.inl rfl) (.slice qv (Eb l).length cv);have Z6:=Cf W w.heap.size 0 _ _ (.slice qv (Eb l).length cv) hT.box
  have IU:=Hi (show(W.setCell ⟨w.heap.size,0,none⟩ (.slice qv (Eb l).length cv)).heap[D]?=some (.deferred (some [])) from(hu.block D (Dm.1 Df).1 (fun e=>by
   rw[e,hT.box] at Df;cases Df)).trans Df)
  have VD:Jh w.heap.size w w.heap.size (W.setCell ⟨w.heap.size,0,none⟩ (.slice qv (Eb l).length cv)) (Eb l) (.slice qv (Eb l).length cv):=
   ⟨hT.AQ.setCell (p:=⟨w.heap.size,0,none⟩) (Ae _) _,hT.low,Ay hT.size hu.size,Z6,BH hT.row hu (fun k hk=>(hT.ne hk).1)⟩
  have xE:=Hi (VD.put (o':=.deferred none) IU rfl HD);have V4:=Hi (show((W.setCell ⟨w.heap.size,0,none⟩ (.slice qv (Eb l).length cv)).putObj D (.deferred none)).cell? ⟨w.heap.size,0,none⟩=some (.slice qv (Eb l).length cv) from cr xE.box);clear hG YZ hZ hT hS Df hD hu Z6 VD
  gi_wp2
  refine⟨by simp,.inl ⟨_,_,rfl,run_takeDeferred IU,?_⟩⟩;exact⟨_,(by simp[results,results122,go_sem,V4.out]),_,rfl,xE.row,xE.AQ⟩
end Bu
namespace Mem
open Af Ap Bu Kp BM Hex BD
theorem sV(k:T)(w:World)(hk:k.length≤1000000):Calls prog 15 #[.string (bs k)] w fun e w'=>e=.returned (.string (bs (Aj.nm k)))∧Bw w w':=by
 have hm:({ data:=#[109] }:ByteArray)=bs [109]:=rfl;have hcut:∀ W,(Instr.slice 9 (.string (bs (EO k))) none (some (.int .i64 8)) none).run prog W=.ok (.string (bs ((EO k).take 8))) W:=fun W=>O1 prog W 9 underlying9 (EO k) 8 (by rw[TG];decide)
 have HE:=Hi (show Aj.nm k=[109]++Er ((EO k).take 8) from rfl);have hl:(Er ((EO k).take 8)).length=16:=by rw[Rx,Be,TG];rfl
 have HS:=Hi (amF k hk w);have HH:=Hi (fun(W:World)=>aau ((EO k).take 8) W (by rw[Be,TG];decide));rw[HE.out];generalize EO k=s at*;generalize Er (s.take 8)=h at*
 go_in
 go_wp2_with fail;refine HS.mono ?_;rintro e w1⟨rfl,Ai⟩;have HB1:=Hi Ai;clear Ai;go_wp2_with fail;refine(HH _).mono ?_;rintro e w2⟨rfl,Ad⟩;have Ak:=bH HB1 Ad;clear Ad;go_wp2;go_ret;exact⟨rfl,Ak⟩
theorem tQ{c:UInt8}{name:T}(h:¬ (name.length=17∧name.head?=some c)):Na c name=false:=by
 unfold Na;by_cases h1:name.length=17
 ·by_cases h2:name.head?=some c
  ·exact absurd ⟨h1,h2⟩ h
  ·have:(name.head? == some c)=false:=(by simpa using h2);rw[this];simp
 ·have:(name.length == 17)=false:=by simpa using h1
  rw[this];simp
theorem al8{c:UInt8}{name:T}(h1:name.length=17)(h2:name.head?=some c):Na c name=(F3 (name.drop 1)).isSome:=by
 unfold Na;rw[h1,h2];simp
theorem anr(s:T):decide ((He s).2=0)=(F3 s).isSome:=by
 unfold He;cases F3 s<;>rfl
theorem ax7(name:T)(w:World)(hn:name.length≤1000000):Calls prog 199 #[.string (bs name)] w fun e w'=>e=.returned (.bool (Aj.ours name))∧Bw w w':=by
 show Calls _ _ _ _ fun e w'=>e=.returned (.bool (Na 109 name))∧_
 by_cases h1:name.length=17
 ·have zQ:(name.length:Int)=17:=by omega
  have hlt:0 < name.length:=by omega
  have dD:(0:Int) < (name.length:Int):=by omega
  have hd:name.head?=some name[0]:=by
   cases name with
   |nil=>simp at h1
   |cons a l=>rfl
  by_cases h2:name[0]=109
  ·have hR:=Hi (al8 (c:=109) h1 (by rw[hd,h2]));have hcut:∀ W,(Instr.slice 9 (.string (bs name)) (some (.int .i64 1)) none none).run prog W=.ok (.string (bs (name.drop 1))) W:=fun W=>Mk prog W 9 underlying9 name 1 (by omega)
   have j6:(name[0].toNat:Int)=109:=(by rw[h2];rfl);have HU:=Hi (ad9 (name.drop 1) w (by rw[Cs];omega));have HV:=Hi (anr (name.drop 1));rw[hR.out,←HV.out];generalize He (name.drop 1)=V at*;clear hd h2 HV hR;generalize name.drop 1=dn at*
   go_in
   go_wp2_with fail;refine HU.mono ?_;rintro e w1⟨rfl,hb⟩;have HB:=Hi hb;clear hb;go_wp2;go_ret;exact⟨by simp;rfl,HB⟩
  ·have hR:Hid (Na 109 name=false):=Hi (tQ (fun h=>h2 (by have:=h.2;rw[hd] at this;injection this)));have j6:¬ (name[0].toNat:Int)=109:=fun e=>h2 (by apply UInt8.toNat_inj.1;have h9:(109:UInt8).toNat=109:=rfl;rw[h9];omega)
   rw[hR.out];clear hd h2
   go_in
   go_wp2;go_ret;exact⟨rfl,Ah _ _⟩
 ·have zQ:¬ (name.length:Int)=17:=by omega
  have hR:Hid (Na 109 name=false):=Hi (tQ (fun h=>h1 h.1));rw[hR.out]
  go_in
  go_wp2;go_ret;exact⟨rfl,Ah _ _⟩
end Mem
namespace Mem
open Aq Af Ap Bu Kp BM Hex BD
theorem fw:∀ {L:List T} {a:T},BB L=some a→∀ t∈L,t.length≤65535
 |[],_,_,t,h=>by simp at h
 |x :: L,a,h,t,ht=>by
  simp only[BB] at h;cases h1:Em x with
  |none=>rw[h1] at h;cases h
  |some u=>
   cases h2:BB L with
   |none=>rw[h1,h2] at h;cases h
   |some c=>
    rcases BZ.1 ht with rfl|ht
    ·unfold Em at h1;split at h1
     ·assumption
     ·cases h1
    ·exact fw h2 t ht
theorem zG{s:T}{l:M}(h:Ht s=some l):l.length≤65535∧∀ p∈l,p.1.length≤65535∧p.2.length≤65535:=by
 have h2:=(agR h).2;unfold FI at h2;split at h2
 ·rename_i hn
  cases h1:BB (flat l) with
  |none=>rw[h1] at h2;cases h2
  |some a=>
   refine⟨hn,fun p hp=>⟨fw h1 _ (Nl.2 ⟨p,hp,by simp⟩),fw h1 _ (Nl.2 ⟨p,hp,by simp⟩)⟩⟩
 ·cases h2
theorem eT{K:Kind}{name data:T}{l:M}(h:K.Cw name data=some l):l.length≤65535∧∀ p∈l,p.1.length≤65535∧p.2.length≤65535:=by
 obtain⟨_,h2,_,s,h4,_⟩:=Nf h;exact zG (pK h4 (CR.QR h2))
def M7(w:World)(r:Option M)(e:Ending)(w':World):Prop:=match r with
 |none=>e=.returned (.tuple #[.slice none 0 0,.bool false])∧Bw w w'
 |some l=>∃ q cap,e=.returned (.tuple #[.slice q l.length cap,.bool true])∧BK w' w.heap.size (.slice q l.length cap) l∧(q=none→cap=0)∧Bw w w'
theorem LC{w w':World}{r:Option M}{e:Ending}(h:r=none)(he:e=.returned (.tuple #[.slice none 0 0,.bool false]))(hb:Bw w w'):M7 w r e w':=by
 subst h;exact⟨he,hb⟩
theorem lu{w w':World}{r:Option M}{e:Ending}{l:M}{q:Option Addr}{cap:Nat}(h:r=some l)(he:e=.returned (.tuple #[.slice q l.length cap,.bool true]))(hr:BK w' w.heap.size (.slice q l.length cap) l)(hq:q=none→cap=0)(hb:Bw w w'):M7 w r e w':=by
 subst h;exact⟨q,cap,he,hr,hq,hb⟩
theorem awP(name data:T):Aj.Cw name data=if(A9.EE data).2=0 then(Ht (A9.EE data).1).bind fun l=>if l≠[]∧(Eb l).length=l.length∧∀ p∈l,Aj.nm p.1=name then some l else none else none:=by
 unfold Kind.Cw ZU;have:∀ p:T×T,(Aj.ok p=true)=True:=fun p=>by simp[Aj]
 simp only[this,and_true]
theorem an8{P:T×T→Prop}{l:M}{k:Nat}(hk:k < l.length)(h:∀ p∈l.take k,P p)(hp:P l[k]):∀ p∈l.take (k+1),P p:=fun p h'=>by
 rw[CQ hk] at h';rcases EG.1 h' with h'|h'
 ·exact h p h'
 ·rw[FC.1 h'];exact hp
def aeT(w:World)(q:Option Addr)(cap:Nat)(l:M)(name:T)(i:Value)(wr:World):Prop:=∃ k:Nat,k≤l.length∧i=.int .i64 k∧Bw w wr∧BK wr w.heap.size (.slice q l.length cap) l∧∀ p∈l.take k,Aj.nm p.1=name
theorem axa(name data:T)(w:World)(hd:data.length≤1000000):Calls prog 157 #[.string (bs name),.string (bs data)] w fun e w'=>M7 w (Aj.Cw name data) e w':=by
 have Qf:=Hi (awP name data);have HO:=Hi (al5 data w (by omega));have CZ:(A9.EE data).1.length≤1000000:=by
  by_cases h:(A9.EE data).2=0
  ·have:=congrArg List.length (A9.ac6 h);rw[A9.RU] at this;omega
  ·unfold A9.EE at h ⊢;split
   ·simp
   ·split
    ·rename_i h1 h2
     rw[Aa h1,Ac h2] at h;exact absurd rfl h
    ·simp
 generalize (A9.EE data).1=s at*;generalize (A9.EE data).2=c at*;have HG:=Hi (fun(W:World)=>alm s W (by omega));by_cases hc:c=0
 ·subst hc;cases hg:Ht s with
  |none=>
   have hR:Hid (Aj.Cw name data=none):=Hi (by rw[Qf.out,Ac rfl,hg];rfl);have Du:=Hi (show ∀ W,Calls prog 229 #[.string (bs s)] W fun e w'=>e=.returned (.tuple #[.slice none 0 0,.int .i64 7])∧Bw W w' from fun W=>by have:=HG W;unfold Vq at this;rw[hg] at this;exact this);clear HG Qf hg
   go_in
   go_wp2_with fail;refine HO.mono ?_;rintro e w1⟨rfl,Ai⟩;have HB1:=Hi Ai;clear Ai;go_wp2_with fail;refine(Du _).mono ?_;rintro e w2⟨rfl,Ad⟩;have Ak:=bH HB1 Ad;clear Ad;go_wp2;go_ret2;exact LC hR.out rfl Ak.out
  |some l=>
   have Du:=Hi (show ∀ W,Calls prog 229 #[.string (bs s)] W fun e w'=>∃ v,e=.returned (.tuple #[v,.int .i64 0])∧BK w' W.heap.size v l∧Bw W w' from fun W=>by have:=HG W;unfold Vq at this;rw[hg] at this;exact this);have Yq:=Hi (show Aj.Cw name data=if l≠[]∧(Eb l).length=l.length∧∀ p∈l,Aj.nm p.1=name then some l else none from by rw[Qf.out,Ac rfl,hg];rfl);obtain⟨hl,hsh⟩:=zG hg;have Rh:=Hi hsh;clear HG Qf hg hsh;by_cases hz:l=[]
   ·have hR:Hid (Aj.Cw name data=none):=Hi (by rw[Yq.out,Aa (fun h=>h.1 hz)]);have AX:(l.length:Int)=0:=(by rw[hz];rfl);clear hz
    go_in
    go_wp2_with fail;refine HO.mono ?_;rintro e w1⟨rfl,Ai⟩;have HB1:=Hi Ai;clear Ai;go_wp2_with fail;refine(Du _).mono ?_;rintro e w2⟨v,rfl,Ag,Ad⟩;obtain⟨q,cap,rfl,GY,BJ⟩:=Fz Ag;have Ak:=bH HB1 Ad;clear Ad Ag;go_wp2;go_ret2;exact LC hR.out rfl Ak.out
   ·have AX:¬ (l.length:Int)=0:=fun e=>hz (JW.1 (by omega))
    have hzb:((l.length:Int) == 0)=false:=EH.2 AX;by_cases hk:(Eb l).length=l.length
    ·have gT:=Hi (show Aj.Cw name data=if ∀ p∈l,Aj.nm p.1=name then some l else none from by
      rw[Yq.out];by_cases h:∀ p∈l,Aj.nm p.1=name
      ·rw[Ac ⟨hz,hk,h⟩,Ac h]
      ·rw[Aa (fun x=>h x.2.2),Aa h])
     have dh:((Eb l).length:Int)=(l.length:Int):=by omega
     go_in
     go_wp2_with fail;refine HO.mono ?_;rintro e w1⟨rfl,Ai⟩;have HB1:=Hi Ai;clear Ai;go_wp2_with fail;refine(Du _).mono ?_;rintro e w2⟨v,rfl,Ag,Ad⟩;obtain⟨q,cap,rfl,GY,BJ⟩:=Fz Ag;have Ak:=bH HB1 Ad;have Co:=Hi (Fu Ag HB1.size);have Ld:=Hi (eF (w:=w2) (Bj.D9 Ag) GY (by omega));clear Ad Ag;go_wp2_with fail;refine Ld.mono ?_;rintro e w3⟨kv,rfl,CJ,Aw⟩;obtain⟨kq,kc,rfl⟩:=Bp CJ;have WL:=Hi (Ch Co Aw);have AA:=bH Ak Aw;clear Aw CJ;go_wp2
     go_loopw [10,40] (fun _ i wr=>aeT w q cap l name i wr) (fun _ i _=>l.length -(intOf i).toNat)
     case atStart=>exact⟨0,AZ _,rfl,AA,WL,fun p h=>by simp at h⟩
     case round=>
      obtain⟨k,DX,rfl,hb,hr,hall⟩:=hrel;have HB:=Hi hb;have HR:=Hi hr;have HA:=Hi hall;clear hall AA WL hb;by_cases hlt:k < l.length
      ·obtain⟨a,Cx,ha,-⟩:=(Bj.D9 hr).index cap k hlt;have c0:=ha.key;have c1:=ha.val;have hsk:=(Rh _ (Dc hlt)).1;have HT:=Hi (an8 (P:=fun p=>Aj.nm p.1=name) hlt HA)
       have HF:=Hi (show Aj.nm l[k].1≠name→Aj.Cw name data=none from fun hne=>by
        rw[gT.out,Aa (fun h=>hne (h _ (Dc hlt)))])
       generalize l[k]=x at*;have HN:=Hi (fun(W:World)=>sV x.1 W (by omega));clear ha hr;go_wp2_with fail;refine(HN _).mono ?_;rintro e w4⟨rfl,AB⟩;have Le:=Hi (Ch (HR.alloc _) AB);have AU:=Hi ((HB.alloc HB.size _).trans (AB.mono (by have:=HB.size;rw[Ar];omega)));clear AB;have GM:=Hi (show Aj.nm x.1=name→∀ p∈l.take (k+1),Aj.nm p.1=name from HT.out);clear HT;generalize Aj.nm x.1=nx at*;by_cases heq:nx=name
       ·go_wp2;go_roundw
        case rel=>
         have Ga:=Hi (show aeT w q cap l name (.int .i64 ((k:Int)+1)) w4 from⟨k+1,by omega,by go_num,AU,Le,GM heq⟩);exact Ga.out
        case measure=>
         show l.length -((k:Int)+1).toNat < l.length -((k:Int)).toNat
         omega
       ·have hR:=Hi (HF heq);have Zu:(nx == name)=false:=EH.2 heq;clear HF GM;go_wp2;go_ret2;exact LC hR.out rfl AU.out
      ·obtain rfl:k=l.length:=by omega
       have hR:Hid (Aj.Cw name data=some l):=Hi (by
        rw[gT.out,Ac];have:=HA.out;rwa[Dq] at this)
       clear hr;go_wp2;go_ret2;exact lu hR.out rfl HR GY HB.out
    ·have hR:Hid (Aj.Cw name data=none):=Hi (by rw[Yq.out,Aa (fun h=>hk h.2.1)]);have dh:¬ ((Eb l).length:Int)=(l.length:Int):=(by omega);have di:(((Eb l).length:Int) != (l.length:Int))=true:=bne_iff_ne.2 dh
     go_in
     go_wp2_with fail;refine HO.mono ?_;rintro e w1⟨rfl,Ai⟩;have HB1:=Hi Ai;clear Ai;go_wp2_with fail;refine(Du _).mono ?_;rintro e w2⟨v,rfl,Ag,Ad⟩;obtain⟨q,cap,rfl,GY,BJ⟩:=Fz Ag;have Ak:=bH HB1 Ad;have Ld:=Hi (eF (w:=w2) (Bj.D9 Ag) GY (by omega));clear Ad Ag;go_wp2_with fail;refine Ld.mono ?_;rintro e w3⟨kv,rfl,CJ,Aw⟩;obtain⟨kq,kc,rfl⟩:=Bp CJ;have AA:=bH Ak Aw;clear Aw CJ;go_wp2;go_ret2;exact LC hR.out rfl AA.out
 ·have hR:Hid (Aj.Cw name data=none):=Hi (by rw[Qf.out,Aa hc]);clear HG Qf
  go_in
  go_wp2_with fail;refine HO.mono ?_;rintro e w1⟨rfl,Ai⟩;have HB1:=Hi Ai;clear Ai;go_wp2;go_ret2;exact LC hR.out rfl HB1.out
def GN(w:World)(p y:Nat):Prop:=w.heap[p]?=some (.cells #[.pointer (some ⟨y,0,none⟩)] 160)
theorem GN.cell{w:World}{p y:Nat}(h:GN w p y):w.cell? ⟨p,0,none⟩=some (.pointer (some ⟨y,0,none⟩)):=by
 rw[BF _ _ _ _ _ _ h];rfl
theorem GN.lt{w:World}{p y:Nat}(h:GN w p y):p < w.heap.size:=Ao h
theorem GN.below{w w':World}{p y:Nat}(h:GN w p y)(hb:Bw w w'):GN w' p y:=(hb.block p (Ao h)).trans h
theorem ax4(y:Nat)(w:World):Calls prog 26 #[.pointer (some ⟨y,0,none⟩)] w fun e w'=>∃ p,e=.returned (.tuple #[.pointer (some ⟨p,0,none⟩),.int .i64 0])∧GN w' p y∧w.heap.size≤p∧Bw w w':=by
 go_in
 go_wp2;go_ret2;exact⟨_,rfl,AP w _,Ae _,AV w _⟩
def Ql(K:Kind)(w:World)(A:M)(name:T)(e:Ending)(w':World):Prop:=∃ q cap,e=.returned (.tuple #[.slice q ((fileOf K A name).getD []).length cap,.bool (Af.get A name).isSome,.bool (fileOf K A name).isSome])∧BK w' w.heap.size (.slice q ((fileOf K A name).getD []).length cap) ((fileOf K A name).getD [])∧(q=none→cap=0)∧Bw w w'
theorem Wl(w:World)(base:Nat):BK w base (.slice none 0 0) []:=by unfold BK;rw[Rp];exact E5 _ _ _ _
theorem abY{w:World}{p y:Nat}{A:M}(hm:GN w p y)(hg:Ap.OV w y A)(name:T)(hn:name.length≤1000):Calls prog 74 #[.pointer (some ⟨p,0,none⟩),.string (bs name)] w fun e w'=>Ql Aj w A name e w':=by
 have c:=hm.cell;have HG:=Hi (hg.gets w (Ah _ _) name hn);have hs:=hg.small name;have HF:=Hi (show fileOf Aj A name=(Af.get A name).bind (Aj.Cw name) from rfl);clear hg hm;cases hx:Af.get A name with
 |none=>
  rw[hx] at HG HF;have hF:fileOf Aj A name=none:=HF.out;have HP:=Hi (show ∀ W',Bw w W'→Ql Aj w A name (.returned (.tuple #[.slice none 0 0,.bool false,.bool false])) W' from fun W' hb=>⟨none,0,by rw[hF,hx];rfl,by rw[hF];exact Wl _ _,fun _=>rfl,hb⟩);clear hx HF hF hs
  go_in
  go_wp2_with fail;refine HG.mono ?_;rintro e w1⟨rfl,Ai⟩;have HB1:=Hi Ai;clear Ai;go_wp2_with fail;exact EI (v:=.tuple #[.slice none 0 0,.bool false,.bool false]) (by simp[results,results74,go_sem]) rfl (HP _ HB1)
 |some d=>
  rw[hx] at HG HF;have hF:fileOf Aj A name=Aj.Cw name d:=HF.out;have MP:d.length≤1000000:=by rw[hx] at hs;exact hs
  have HR:=Hi (fun(W:World)=>axa name d W MP);have Qe:=Hi (show(Af.get A name).isSome=true from by rw[hx];rfl);clear HF hs hx;cases hr:Aj.Cw name d with
  |none=>
   rw[hr] at HR hF;have HP:=Hi (show ∀ W',Bw w W'→Ql Aj w A name (.returned (.tuple #[.slice none 0 0,.bool true,.bool false])) W' from fun W' hb=>⟨none,0,by rw[hF,Qe.out];rfl,by rw[hF];exact Wl _ _,fun _=>rfl,hb⟩);clear hF hr Qe
   go_in
   go_wp2_with fail;refine HG.mono ?_;rintro e w1⟨rfl,Ai⟩;have HB1:=Hi Ai;clear Ai;go_wp2_with fail;refine(HR _).mono ?_;rintro e w2⟨rfl,Ad⟩;have Ak:=bH HB1 Ad;clear Ad;go_wp2_with fail;exact EI (v:=.tuple #[.slice none 0 0,.bool true,.bool false]) (by simp[results,results74,go_sem]) rfl (HP _ Ak)
  |some l=>
   rw[hr] at HR hF;have HP:=Hi (show ∀ (W':World) (q:Option Addr) (cap:Nat),BK W' w.heap.size (.slice q l.length cap) l→(q=none→cap=0)→Bw w W'→Ql Aj w A name (.returned (.tuple #[.slice q l.length cap,.bool true,.bool true])) W' from fun W' q cap h1 h2 hb=>⟨q,cap,by rw[hF,Qe.out];rfl,by rw[hF];exact h1,h2,hb⟩);clear hF hr Qe
   go_in
   go_wp2_with fail;refine HG.mono ?_;rintro e w1⟨rfl,Ai⟩;have HB1:=Hi Ai;clear Ai;go_wp2_with fail;refine(HR _).mono ?_;rintro e w2⟨q,cap,rfl,Ag,GY,Ad⟩;have Ak:=bH HB1 Ad;have HW:=Hi (Fu Ag HB1.size);clear Ad Ag;go_wp2_with fail;exact EI (v:=.tuple #[.slice q l.length cap,.bool true,.bool true]) (by simp[results,results74,go_sem]) rfl (HP _ _ _ HW GY Ak)
def SK(K:Kind)(A:M)(key:T):T×Bool×Int:=if(Af.get A (K.nm key)).isSome=true∧(fileOf K A (K.nm key)).isSome=false then([],false,50) else match CK K A key with
 |some v=>(v,true,0)
 |none=>([],false,0)
theorem lX(K:Kind)(A:M)(key:T):CK K A key=Af.get ((fileOf K A (K.nm key)).getD []) key:=by
 unfold CK;cases fileOf K A (K.nm key)<;>rfl
theorem agS{l:M}{k:Nat}(hk:k < l.length)(key:T):Af.get (l.drop k) key=if l[k].1=key then some l[k].2 else Af.get (l.drop (k+1)) key:=by
 rw[QY hk];unfold Af.get;by_cases h:l[k].1=key
 ·rw[Ac h,List.find?_cons_of_pos (by simpa using h)];rfl
 ·rw[Aa h,List.find?_cons_of_neg (by simpa using h)]
theorem bE{K:Kind}{A:M}{name:T}:((fileOf K A name).getD []).length≤65535∧∀ p∈(fileOf K A name).getD [],p.1.length≤65535∧p.2.length≤65535:=by
 cases h:fileOf K A name with
 |none=>exact⟨by simp,fun p hp=>by simp at hp⟩
 |some l=>
  unfold fileOf at h;cases hg:Af.get A name with
  |none=>rw[hg] at h;cases h
  |some d=>rw[hg] at h;exact eT h
theorem asO{K:Kind}{A:M}{key:T}(h1:(Af.get A (K.nm key)).isSome=true)(h2:(fileOf K A (K.nm key)).isSome=false):SK K A key=([],false,50):=Ac ⟨h1,h2⟩
theorem asP{K:Kind}{A:M}{key:T}(h:¬ ((Af.get A (K.nm key)).isSome=true∧(fileOf K A (K.nm key)).isSome=false)):SK K A key=match Af.get ((fileOf K A (K.nm key)).getD []) key with
 |some v=>(v,true,0)
 |none=>([],false,0):=by unfold SK;rw[Aa h,lX]
def mH(w:World)(q:Option Addr)(cap:Nat)(l:M)(key:T)(i:Value)(wr:World):Prop:=∃ k:Nat,k≤l.length∧i=.int .i64 k∧Bw w wr∧Bj wr q l∧Af.get l key=Af.get (l.drop k) key
theorem Xa{w w':World}{y:Nat}{A:M}(h:Ap.OV w y A)(hb:Bw w w'):Ap.OV w' y A:=⟨fun W hW k hk=>h.gets W (bT hb hW) k hk,h.small⟩
theorem abX(key:T):(Aj.nm key).length=17:=KW.len key
theorem awY{w:World}{p y:Nat}{A:M}(hm:GN w p y)(hg:Ap.OV w y A)(key:T)(hk:key.length≤1000000):
  Calls prog 21 #[.pointer (some ⟨p,0,none⟩),.string (bs key)] w fun e w'=>e=.returned (.tuple #[.string (bs (SK Aj A key).1),.bool (SK Aj A key).2.1,.int .i64 (SK Aj A key).2.2])∧Bw w w':=by
 have HN:=Hi (sV key w hk);have HO:=Hi (fun(W:World) (hW:Bw w W)=>abY (hm.below hW) (Xa hg hW) (Aj.nm key) (by rw[abX];decide));have HV:=Hi (@asP Aj A key);have HB:=Hi (@asO Aj A key);obtain⟨hl,-⟩:=@bE Aj A (Aj.nm key);unfold Ql at HO;clear hm hg;generalize (fileOf Aj A (Aj.nm key)).getD []=l at*;generalize (fileOf Aj A (Aj.nm key)).isSome=good at*;generalize (Af.get A (Aj.nm key)).isSome=Wh at*;generalize SK Aj A key=V at*;generalize Aj.nm key=name at*;by_cases NJ:Wh=true∧good=false
 ·obtain⟨rfl,rfl⟩:=NJ;have hV:=HB rfl rfl;clear HB HV;subst hV
  go_in
  go_wp2_with fail;refine HN.mono ?_;rintro e w1⟨rfl,Ai⟩;have HB1:=Hi Ai;clear Ai;go_wp2_with fail;refine(HO _ HB1).mono ?_;rintro e w2⟨q,cap,rfl,Ag,GY,Ad⟩;have Ak:=bH HB1 Ad;clear Ad Ag;go_wp2_with fail;exact EI (v:=.tuple #[.string (bs []),.bool false,.int .i64 50]) (by simp[results,results21,go_sem];rfl) rfl ⟨rfl,Ak⟩
 ·have Og:=Hi (HV NJ);clear HB HV;have DK:Wh=false∨(Wh=true∧good=true):=by
   cases Wh<;>cases good<;>simp_all
  clear NJ;rcases DK with rfl|⟨rfl,rfl⟩
  all_goals
   go_in
   go_wp2_with fail;refine HN.mono ?_;rintro e w1⟨rfl,Ai⟩;have HB1:=Hi Ai;clear Ai;go_wp2_with fail;refine(HO _ HB1).mono ?_;rintro e w2⟨q,cap,rfl,Ag,GY,Ad⟩;have Ak:=bH HB1 Ad;have HP:=Hi (Bj.D9 Ag);clear Ad Ag;go_wp2
   go_loopw [10,28] (fun _ i wr=>mH w q cap l key i wr) (fun _ i _=>l.length -(intOf i).toNat)
   case atStart=>exact⟨0,AZ _,rfl,Ak,HP,rfl⟩
   case round=>
    obtain⟨k,DX,rfl,hb,hp,NN⟩:=hrel;have AA:=Hi hb;have Yz:=Hi hp;have HG:=Hi NN;clear Ak HP hb NN;by_cases hlt:k < l.length
    ·obtain⟨a,Cx,ha,-⟩:=hp.index cap k hlt;have c0:=ha.key;have c1:=ha.val;have HD:=Hi (HG.trans (agS hlt key));generalize l[k]=x at*;clear ha hp;by_cases heq:x.1=key
     ·have hV:=Og.out;rw[HD.out,Ac heq] at hV;subst hV;have Zu:(x.1 == key)=true:=beq_iff_eq.2 heq;go_wp2_with fail;exact EI (v:=.tuple #[.string (bs x.2),.bool true,.int .i64 0]) (by simp[results,results21,go_sem]) rfl ⟨rfl,AA.alloc AA.size _⟩
     ·have Zu:(x.1 == key)=false:=EH.2 heq;have Nq:=Hi (HD.trans (Aa heq));go_wp2;go_roundw
      case rel=>
       have Ga:=Hi (show ∀ o,mH w q cap l key (.int .i64 ((k:Int)+1)) (wr.alloc o) from fun o=>⟨k+1,by omega,by go_num,AA.alloc AA.size o,Yz.below (AV wr o),Nq⟩)
       first
       |exact Ga _
       |(repeat apply Exists.intro
         refine⟨?_,rfl⟩;exact Ga _)
      case measure=>
       show l.length -((k:Int)+1).toNat < l.length -((k:Int)).toNat
       omega
    ·obtain rfl:k=l.length:=(by omega);have hV:=Og.out;rw[HG.out,List.drop_length] at hV;change V=([],false,0) at hV;subst hV;clear hp;go_wp2_with fail;exact EI (v:=.tuple #[.string (bs []),.bool false,.int .i64 0]) (by simp[results,results21,go_sem];rfl) rfl ⟨rfl,AA⟩
theorem awZ{w:World}{p y:Nat}{A:M}(hm:GN w p y)(hg:Ap.OV w y A)(key:T)(hk:key.length≤1000000):
  Calls prog 152 #[.pointer (some ⟨p,0,none⟩),.string (bs key)] w fun e w'=>e=.returned (.bool (SK Aj A key).2.1)∧Bw w w':=by
 have H:=Hi (awY hm hg key hk);clear hm hg;generalize SK Aj A key=V at*
 go_in
 go_wp2_with fail;refine H.mono ?_;rintro e w1⟨rfl,Ai⟩;have HB1:=Hi Ai;clear Ai;go_wp2;go_ret;exact⟨rfl,HB1⟩
theorem awN{w:World}{p y:Nat}{c:Int}{P:World→World→Prop}(hm:GN w p y)(hf:Calls prog 175 #[.pointer (some ⟨y,0,none⟩)] w fun e w'=>e=.returned (.int .i64 c)∧P w w'):
  Calls prog 92 #[.pointer (some ⟨p,0,none⟩)] w fun e w'=>e=.returned (.int .i64 c)∧P w w':=by
 have c0:=hm.cell;have HF:=Hi hf;clear hf hm
 go_in
 go_wp2_with fail;refine HF.mono ?_;rintro e w1⟨rfl,Ai⟩;go_wp2;go_ret;exact⟨rfl,Ai⟩
end Mem
section
open Af
section
variable {w w':World}{b y n N:Nat}{bl:Nat→Prop}{A A':M}{dn:Bool}
end
end
namespace Al
open Aq Af Ap Bu Kp BM Hex BD
structure Hm(w:World)(y:Nat)(A:M):Prop where
 gets:Ap.OV w y A
 names:∀ W,Bw w W→Calls prog 28 #[.pointer (some ⟨y,0,none⟩)] W fun e w'=>∃ v,e=.returned v∧w'.ownsRow 0 9 1 v A.length (strCells (A.map (·.1)))∧Bw W w'∧∀ k,v.ownBlock=some k→W.heap.size≤k
 up:Af.Up A
 good:Af.Good A
 len:A.length≤1000000
theorem Hm.below{w w':World}{y:Nat}{A:M}(h:Hm w y A)(hb:Bw w w'):Hm w' y A:=
 ⟨Mem.Xa h.gets hb,fun W hW=>h.names W (bT hb hW),h.up,h.good,h.len⟩
theorem Hm.agU{w w':World}{y:Nat}{A:M}(h:Hm w y A)(hb:Bw w w'):Ap.OV w' y A:=Mem.Xa h.gets hb
theorem Hm.short{w:World}{y:Nat}{A:M}(h:Hm w y A)(t:T)(ht:t∈A.map (·.1)):t.length≤1000:=by
 obtain⟨x,hx,rfl⟩:=BA.1 ht;have:=h.good x hx;unfold Fq at this;have:=(Q4 this).2.1;omega
theorem oW{fz:Bool}{w:World}{b y n N:Nat}{bl:Nat→Prop}{A:M}(h:FZ fz w b y bl n N A):Hm w y A:=by
 have J2:=ZX h.up.2.2.2.2;have Hz:=QV A;have DY:=h.up;refine⟨Ap.pQ h,fun W hW=>(asq (h.below hW)).mono ?_,DY.1,DY.2.1,by omega⟩;rintro e w'⟨v,rfl,p1,_,p2,p3⟩;exact⟨v,rfl,p1,p2,p3⟩
structure Ex(et ct:TypeId)(s:Nat)(w:World)(oc B:Nat)(W:World)(n:Nat)(cs:List Value)(v:Value):Prop where
 AQ:Bw w W
 low:w.heap.size≤oc
 lt:oc < B
 size:B≤W.heap.size
 box:W.heap[oc]?=some (.cells #[v] ct)
 row:W.ownsRow B et s v n cs
section
variable {et ct:TypeId}{s:Nat}{w:World}{oc B:Nat}{W W1 W2:World}{n:Nat}{cs:List Value}{v:Value}
theorem Ex.ne(h:Ex et ct s w oc B W n cs v){k:Nat}(hk:v.ownBlock=some k):k≠oc∧B≤k:=by
 have:=Ec h.row hk;have:=h.lt;omega
theorem Ex.upd{F:Nat→Prop}(h:Ex et ct s w oc B W n cs v)(hu:A7 F W W1)(hB:∀ k,F k→w.heap.size≤k)(h1:¬ F oc)(h2:∀ k,v.ownBlock=some k→¬ F k):Ex et ct s w oc B W1 n cs v:=by
 have h3:=h.low;have h4:=h.lt;have h5:=h.size;exact⟨Cq h.AQ hu hB (by omega),h3,h4,Ay h5 hu.size,(hu.block oc (Ao h.box) h1).trans h.box,BH h.row hu h2⟩
theorem Ex.below(h:Ex et ct s w oc B W n cs v)(hb:Bw W W1):Ex et ct s w oc B W1 n cs v:=h.upd (ub hb) (fun _ f=>f.elim) (fun f=>f) (fun _ _ f=>f)
theorem Ex.put(h:Ex et ct s w oc B W n cs v){k:Nat}{o o':Obj}(ho:W.heap[k]?=some o)(hc:o.isCells=false)(hk:w.heap.size≤k):Ex et ct s w oc B (W.putObj k o') n cs v:=by
 refine h.upd (F:=fun i=>i=k) (A7.of_grownBy (F:=fun i=>i=k) (grownBy_putObj' W k o') (fun i e=>by cases e;rfl)) (fun i e=>by rw[e];exact hk) (fun e=>?_) (fun i hi e=>?_)
 ·rw[←e,h.box] at ho;injection ho with ho
  subst ho;exact absurd hc (by simp[Obj.isCells])
 ·obtain⟨cs,fz,h2⟩:=CB h.row hi;rw[e,ho] at h2;injection h2 with h2
  subst h2;exact absurd hc (by simp[Obj.isCells])
theorem Ex.raise{B':Nat}(h:Ex et ct s w oc B W 0 [] (.slice none 0 0))(h1:B≤B')(h2:B'≤W.heap.size):Ex et ct s w oc B' W 0 [] (.slice none 0 0):=
 ⟨h.AQ,h.low,I9 h.lt h1,h2,h.box,E5 _ _ _ _⟩
theorem Ex.add(h:Ex et ct s w oc B W n cs v)(hb:Bw W W1)(hg:W1.grownBy W2 v.ownBlock){v':Value}{n':Nat}{cs':List Value}(ho:W2.ownsRow B et s v' n' cs'):
  Ex et ct s w oc B (W2.setCell ⟨oc,0,none⟩ v') n' cs' v':=by
 have h1:=h.below hb;have h3:=h.low;have h4:=h.lt;have h5:=h1.size;have qD:W2.heap[oc]?=some (.cells #[v] ct):=(hg.block oc (Ao h1.box) (fun e=>(h1.ne e.symm).1 rfl)).trans h1.box;have hu:=(A7.refl (fun k=>k=oc) W2).setCell (p:=⟨oc,0,none⟩) (.inl rfl) v';refine⟨(h1.AQ.grown hg (by omega) (fun k e=>by have:=(h1.ne e).2;omega)).setCell (p:=⟨oc,0,none⟩) h3 v',h3,h4,Ay (Ay h5 hg.size) hu.size,Cf W2 oc 0 _ _ v' qD,?_⟩;refine BH ho hu (fun g hg e=>?_);have:=Ec ho hg;omega
theorem Ex.keeps(h:Ex et ct s w oc B W n cs v)(hb:Bw W W1)(hg:W1.grownBy W2 v.ownBlock)(v':Value):KeepsOthers W (W2.setCell ⟨oc,0,none⟩ v'):=by
 have h1:=h.below hb;refine((UI (ub hb) (fun _ _ f=>f.elim)).trans (KeepsOthers.of_grownBy hg fun j o e ho=>?_)).trans (KeepsOthers.setCell _ _ _);obtain⟨cs,fz,h2⟩:=CB h1.row e;rw[ho] at h2;injection h2 with h2
 subst h2;rfl
theorem Ex.turned(h:Ex et ct s w oc B W n cs v)(hb:Bw W W1)(hg:W1.grownBy W2 v.ownBlock)(v':Value):A7 (fun k=>k=oc∨B≤k) W (W2.setCell ⟨oc,0,none⟩ v'):=
 ((A7.of_below (F:=fun k=>k=oc∨B≤k) hb).trans (A7.of_grownBy (F:=fun k=>k=oc∨B≤k) hg (fun k e=>.inr ((h.below hb).ne e).2)) (fun _ f=>.inl f)).setCell (p:=⟨oc,0,none⟩) (.inl (.inl rfl)) v'
end
structure LP(w:World)(oc Bx B:Nat)(pv:Value)(ty:TypeId)(q:Option Addr)(c:Nat)(L:List T)(W:World):Prop where
 AQ:Bw w W
 low:w.heap.size≤oc
 lt:oc < Bx
 lt2:Bx < B
 size:B≤W.heap.size
 box:W.heap[Bx]?=some (.cells #[pv] ty)
 row:W.ownsRow 0 9 1 (.slice q L.length c) L.length (strCells L)
 own:∀ k,(Value.slice q L.length c).ownBlock=some k→oc < k∧k < B
section
variable {w W W':World}{oc Bx B:Nat}{pv:Value}{ty:TypeId}{q:Option Addr}{c:Nat}{L:List T}
theorem LP.upd{F:Nat→Prop}(h:LP w oc Bx B pv ty q c L W)(hu:A7 F W W')(hF:∀ k,F k→k=oc∨B≤k):LP w oc Bx B pv ty q c L W':=by
 have h1:=h.low;have h2:=h.lt;have h3:=h.lt2;have h4:=h.size;refine⟨Cq h.AQ hu (fun k f=>by have:=hF k f;omega) (by omega),h1,h2,h3,Ay h4 hu.size,(hu.block Bx (Ao h.box) (fun f=>by have:=hF _ f;omega)).trans h.box,BH h.row hu (fun k hk f=>?_),h.own⟩;have h5:=h.own k hk;have:=hF k f;omega
theorem LP.below(h:LP w oc Bx B pv ty q c L W)(hb:Bw W W'):LP w oc Bx B pv ty q c L W':=h.upd (ub hb) (fun _ f=>f.elim)
theorem LP.put(h:LP w oc Bx B pv ty q c L W){k:Nat}{o o':Obj}(ho:W.heap[k]?=some o)(hc:o.isCells=false)(hk:w.heap.size≤k):LP w oc Bx B pv ty q c L (W.putObj k o'):=by
 have h1:=h.low;have h2:=h.lt;have h3:=h.lt2;have h4:=h.size;have hu:A7 (fun i=>i=k) W (W.putObj k o'):=A7.of_grownBy (F:=fun i=>i=k) (grownBy_putObj' W k o') (fun i e=>by cases e;rfl);refine⟨Cq h.AQ hu (fun i e=>by rw[e];exact hk) (by omega),h1,h2,h3,Ay h4 hu.size,RP h.box ho hc,BH h.row hu (fun i hi e=>?_),h.own⟩;obtain⟨cs,fz,h5⟩:=CB h.row hi;rw[e,ho] at h5;injection h5 with h5
 subst h5;exact absurd hc (by simp[Obj.isCells])
end
structure Gb where
 name:T
 row:Value
 B:Nat
 q:Option Addr
 c:Nat
structure apB(K:Kind)(A:M)(x:Gb)(W:World):Prop where
 row:∃ q c,x.row=.slice q ((fileOf K A x.name).getD []).length c∧Bj W q ((fileOf K A x.name).getD [])∧(q=none→c=0)∧∀ p,q=some p→(fileOf K A x.name).getD []≠[]→Bf W p.block 51
theorem alr{w:World}{base c:Nat}{q:Option Addr}{l:M}(h:BK w base (.slice q l.length c) l):∀ p,q=some p→l≠[]→Bf w p.block 51:=fun p e hne=>by
 subst e;rcases h.2 with⟨e1,e2⟩|⟨g,cap',cur,e1,_⟩
 ·exact absurd (JW.1 e2) hne
 ·have e2:p=⟨g,0,none⟩:=by injection e1 with e1;injection e1
  subst e2;exact CB h (by rw[e1];rfl)
def I4(K:Kind)(A:M):List T:=(A.map (·.1)).filter K.ours
def oP(x:Gb):Array Value:=#[.string (bs x.name),x.row]
structure WT(w:World)(oc:Nat)(J:Nat→List T→World→Prop):Prop where
 below:∀ B ks W W',J B ks W→Bw W W'→J B ks W'
 raise:∀ B B' W,J B [] W→B≤B'→B'≤W.heap.size→J B' [] W
 put:∀ B ks W k o o',J B ks W→W.heap[k]?=some o→o.isCells=false→w.heap.size≤k→J B ks (W.putObj k o')
def O5(w:World)(oc Bx:Nat)(pv:Value)(ty:TypeId)(K:Kind)(A:M)(J:Nat→List T→World→Prop)(xs:List Gb)(W:World):Prop:=
 (xs=[]∧Bw w W∧w.heap.size≤oc∧oc < Bx∧W.heap[Bx]?=some (.cells #[pv] ty)∧∃ B,B≤W.heap.size∧J B [] W)∨
 ∃ B q c,LP w oc Bx B pv ty q c (A.map (·.1)) W∧(∀ x∈xs,x.B=B∧x.q=q∧x.c=c)∧(∃ ts,xs.map (·.name)++ts=I4 K A)∧J B (xs.map (·.name)) W
def TL(w:World)(oc Bx:Nat)(pv:Value)(ty:TypeId)(K:Kind)(A:M)(J:Nat→List T→World→Prop)(xs:List Gb)(x:Gb)(W:World):Prop:=
 LP w oc Bx x.B pv ty x.q x.c (A.map (·.1)) W∧(∀ z∈xs,z.B=x.B∧z.q=x.q∧z.c=x.c)∧(∃ ts,xs.map (·.name)++x.name :: ts=I4 K A)∧J x.B (xs.map (·.name)) W∧apB K A x W
theorem axW{W:World}{q:Option Addr}{l:M}(h:Bj W q l){k:Nat}{o o':Obj}(ho:W.heap[k]?=some o)(hc:o.isCells=false):Bj (W.putObj k o') q l:=fun i hi=>by
 obtain⟨p,e,hp⟩:=h i hi;exact⟨p,e,yH hp.key ho hc,yH hp.val ho hc⟩
section
variable {w:World}{oc Bx:Nat}{pv:Value}{ty:TypeId}{K:Kind}{A:M}{J:Nat→List T→World→Prop}
theorem iF(hJ:WT w oc J){B0:Nat}(hB:w.heap.size≤B0)(xs:List Gb):MJ B0 (O5 w oc Bx pv ty K A J xs):=by
 constructor
 ·intro V k o o' hk h ho hc;rcases h with⟨h1,h2,h3,h4,h5,B,h6,h7⟩|⟨B,q,c,h1,hg,h2,h3⟩
  ·have hu:A7 (fun i=>i=k) V (V.putObj k o'):=A7.of_grownBy (F:=fun i=>i=k) (grownBy_putObj' V k o') (fun i e=>by cases e;rfl);refine .inl ⟨h1,Cq h2 hu (fun i e=>by rw[e];omega) h2.size,h3,h4,RP h5 ho hc,B,Ay h6 hu.size,hJ.put _ _ _ _ _ _ h7 ho hc (by omega)⟩
  ·exact .inr ⟨B,q,c,h1.put ho hc (by omega),hg,h2,hJ.put _ _ _ _ _ _ h3 ho hc (by omega)⟩
 ·intro V o h;have hb:=AV V o;rcases h with⟨h1,h2,h3,h4,h5,B,h6,h7⟩|⟨B,q,c,h1,hg,h2,h3⟩
  ·exact .inl ⟨h1,h2.trans (hb.mono h2.size),h3,h4,(hb.block _ (Ao h5)).trans h5,B,Ay h6 hb.size,hJ.below _ _ _ _ h7 hb⟩
  ·exact .inr ⟨B,q,c,h1.below hb,hg,h2,hJ.below _ _ _ _ h3 hb⟩
theorem iH(hJ:WT w oc J){B0:Nat}(hB:w.heap.size≤B0)(xs:List Gb)(x:Gb):MJ B0 (TL w oc Bx pv ty K A J xs x):=by
 constructor
 ·rintro V k o o' hk ⟨h1,hg,h2,h3,⟨q2,c2,e,hp,hq,QE⟩⟩ ho hc
  exact⟨h1.put ho hc (by omega),hg,h2,hJ.put _ _ _ _ _ _ h3 ho hc (by omega),⟨q2,c2,e,axW hp ho hc,hq,fun p e1 e2=>by
   obtain⟨cs,fr,hb⟩:=QE p e1 e2
   exact⟨cs,fr,by
    rw[World.putObj_heap_other (fun e=>?_)]
    ·exact hb
    ·subst e;rw[hb] at ho;injection ho with ho
     subst ho;cases hc⟩⟩⟩
 ·rintro V o ⟨h1,hg,h2,h3,⟨q2,c2,e,hp,hq,QE⟩⟩;have hb:=AV V o
  exact⟨h1.below hb,hg,h2,hJ.below _ _ _ _ h3 hb,⟨q2,c2,e,hp.below hb,hq,fun p e1 e2=>by
   obtain⟨cs,fr,Ad⟩:=QE p e1 e2;exact⟨cs,fr,(hb.block _ (Ao Ad)).trans Ad⟩⟩⟩
theorem iI{xs:List Gb}{x:Gb}{W W':World}(h:LP w oc Bx x.B pv ty x.q x.c (A.map (·.1)) W)(hg:∀ z∈xs,z.B=x.B∧z.q=x.q∧z.c=x.c)(hs:∃ ts,xs.map (·.name)++x.name :: ts=I4 K A)(hu:A7 (fun k=>k=oc∨x.B≤k) W W')(hj:J x.B (xs.map (·.name)++[x.name]) W'):O5 w oc Bx pv ty K A J (xs++[x]) W':=by
 obtain⟨ts,hs⟩:=hs;refine .inr ⟨x.B,x.q,x.c,h.upd hu (fun _ f=>f),fun z hz=>?_,⟨ts,?_⟩,?_⟩
 ·rcases EG.1 hz with e|e
  ·exact hg z e
  ·rw[FC.1 e];exact⟨rfl,rfl,rfl⟩
 ·rw[D6,Dy,←hs];rfl
 ·rw[D6];exact hj
end
end Al
namespace Mem
open Aq Af Ap Bu Kp BM Hex BD Al
theorem tC{L:List T}{f:T→Bool}{k:Nat}(hk:k < L.length):(L.take (k+1)).filter f=(L.take k).filter f++(if f L[k]=true then[L[k]] else[]):=by
 rw[CQ hk,LJ]
 congr 1
 by_cases h:f L[k]=true<;>simp[h]
theorem age{L:List T}{f:T→Bool}{k:Nat}(hk:k < L.length)(h:f L[k]=true):(L.take k).filter f++L[k] :: (L.drop (k+1)).filter f=L.filter f:=by
 conv=>rhs;rw[←Mw (k+1) L,LJ,tC hk,Ac h]
 simp
def mE(w:World)(oc Bx B:Nat)(pv:Value)(ty:TypeId)(q:Option Addr)(c:Nat)(K:Kind)(A:M)(J:Nat→List T→World→Prop)(Bk:World→Prop)(i:Value)(wr:World):Prop:=
 ∃ (k:Nat) (xs:List Gb),k≤A.length∧i=.int .i64 k∧LP w oc Bx B pv ty q c (A.map (·.1)) wr∧(∀ z∈xs,z.B=B∧z.q=q∧z.c=c)∧xs.map (·.name)=((A.map (·.1)).take k).filter K.ours∧J B (xs.map (·.name)) wr∧Bk wr
theorem akB(n:Nat)(hn:1≤n){w:World}{p y:Nat}{A:M}(hm:GN w p y)(hf:Hm w y A)(oc Bx:Nat){J:Nat→List T→World→Prop}(hJ:WT w oc J)(w1:World):
  WU n prog 198 #[.pointer (some ⟨Bx,0,none⟩)] oP (O5 w oc Bx (.pointer (some ⟨p,0,none⟩)) 43 Aj A J) (TL w oc Bx (.pointer (some ⟨p,0,none⟩)) 43 Aj A J) (fun xs=>xs.map (·.name)=I4 Aj A) w1:=by
 intro l Bk W Uk hY hW h0 IZ;have j4:Bw w W∧w.heap.size≤oc∧oc < Bx∧W.heap[Bx]?=some (.cells #[.pointer (some ⟨p,0,none⟩)] 43)∧∃ B,B≤W.heap.size∧J B [] W:=by
  rcases h0 with⟨-,h⟩|⟨B0,q0,c0,g1,-,g2,g3⟩
  ·exact h
  ·exact⟨g1.AQ,g1.low,g1.lt,g1.box,B0,g1.size,g3⟩
 obtain⟨g1,g2,g3,g4,B0,g5,g6⟩:=j4;clear h0;have Jj:W.cell? ⟨Bx,0,none⟩=some (.pointer (some ⟨p,0,none⟩)):=cr g4;have Ux:=(hm.below g1).cell;have Jv:=Hi (hf.names W g1);have G1:=Hi g1;have G2:=Hi g2;have G3:=Hi g3;have G4:=Hi g4;have G5:=Hi g5;have G6:=Hi g6;have WE:=Hi IZ;have R7:=Hi Uk;have HJ:=Hi hJ;have HM:=Hi hm;have HF:=Hi hf;have hlen:=hf.len;clear g1 g2 g3 g4 g5 g6 IZ Uk hJ hm hf;refine callsIn_of_wp func198 rfl trivial ?_ rfl;simp only[ntmps198,Kr,BN,Iu,Nat.reduceAdd,Nat.reduceSub,Mm,Mq,Mv,Ms,Ev,Hf]
 gi_wp2
 refine⟨trivial,(Dr.2 Jv).mono ?_⟩;rintro e w2⟨v,rfl,Ag,Ad,hown⟩;have Ak:=bH G1 Ad;have jA:Bk w2:=R7 _ _ WE (UI (ub Ad) (fun _ _ f=>f.elim));have Qy:J w2.heap.size [] w2:=HJ.raise _ _ _ (HJ.below _ _ _ _ G6 Ad) (Ay G5 Ad.size) (Ae _);obtain⟨q,c,rfl⟩:∃ q c,v=.slice q (A.map (·.1)).length c:=by
  rw[Ca];exact Bp Ag
 have Rt:LP w oc Bx w2.heap.size (.pointer (some ⟨p,0,none⟩)) 43 q c (A.map (·.1)) w2:=⟨Ak,G2,G3,I9 (Ao G4) Ad.size,Ae _,(Ad.block _ (Ao G4)).trans G4,by rw[Ca] at Ag ⊢;exact Ag,fun k hk=>⟨I9 (Nat.lt_trans G3 (Ao G4)) (hown k hk),by
  obtain⟨cs,fz,h⟩:=CB Ag hk;exact Ao h⟩⟩
 have Nn:=Hi Rt;have Yr:=Hi Qy;have gp:=Hi jA;generalize w2.heap.size=B at*;clear Rt Qy jA Ag Ad hown Jv G1 G2 G3 G4 G5 G6 WE;have Yx:=Hi (show ∀ t∈A.map (·.1),t.length≤1000 from fun t ht=>HF.short t ht);have FN:((A.map (·.1)).length:Int)=(A.length:Int):=by rw[Ca]
 gi_wp2
 gi_loopw [16] (fun i wr=>mE w oc Bx B (.pointer (some ⟨p,0,none⟩)) 43 q c Aj A J Bk i wr) (fun i _=>A.length -(intOf i).toNat)
 case atStart=>exact⟨0,[],AZ _,rfl,Nn,fun z hz=>by simp at hz,rfl,Yr,gp⟩
 case round=>
  obtain⟨k,xs,hk,rfl,h1,jM,h2,h3,h4⟩:=hrel;have Yo:=Hi jM;have H1:=Hi h1;have H2:=Hi h2;have H3:=Hi h3;have H4:=Hi h4;clear h2 h3 h4 jM Nn Yr gp;by_cases hlt:k < A.length
  ·have Tf:k < (A.map (·.1)).length:=(by rw[Ca];exact hlt);obtain⟨a,Cx,c0⟩:=(I6 (c:=c) h1.row).index c k Tf;simp only[Ca] at Cx;have Jo:∀ t∈A.map (·.1),t.length≤1000:=Yx.out;have KR:=Jo _ (Dc Tf);have CX:=Hi (tC (f:=Aj.ours) Tf);have SB:=Hi (age (f:=Aj.ours) Tf);generalize (A.map (·.1))[k]=name at*;have HO:=Hi (ax7 name wr (by omega));clear Jo;have Z7:wr.cell? ⟨Bx,0,none⟩=some (.pointer (some ⟨p,0,none⟩)):=cr h1.box;have Pv:=h1.AQ;have AR:=Hi Pv;clear h1 Pv
   gi_wp2
   refine⟨trivial,(Dr.2 HO).mono ?_⟩;rintro e w3⟨rfl,Aw⟩;have aao:w3.cell? ⟨Bx,0,none⟩=some (.pointer (some ⟨p,0,none⟩)):=(Aw.cell (D7 Z7)).trans Z7;have Jy:=Hi (H1.below Aw);have gU:=Hi (HJ.below _ _ _ _ H3 Aw);have Sv:=Hi (R7 _ _ H4 (UI (ub Aw) (fun _ _ f=>f.elim)));clear Aw Cx c0 HO Z7;cases Tj:Aj.ours name with
   |false=>
    have HX:=Hi (show xs.map (·.name)=((A.map (·.1)).take (k+1)).filter Aj.ours from by rw[CX.out,Tj,H2.out];simp);clear CX SB Tj
    gi_wp2
    go_roundw
    case rel=>exact⟨k+1,xs,by omega,by go_num,Jy,Yo,HX,gU,Sv⟩
    case measure=>
     show A.length -((k:Int)+1).toNat < A.length -((k:Int)).toNat
     omega
   |true=>
    have HX:=Hi (show xs.map (·.name)++[name]=((A.map (·.1)).take (k+1)).filter Aj.ours from by rw[CX.out,Tj,H2.out];simp);have xA:=Hi (show xs.map (·.name)++name :: ((A.map (·.1)).drop (k+1)).filter Aj.ours=I4 Aj A from by rw[H2.out];exact SB Tj);have FK:=Hi (abY (HM.below (Jy.AQ)) (HF.agU Jy.AQ) name KR);clear CX SB Tj
    gi_wp2
    refine⟨trivial,(Dr.2 FK).mono ?_⟩;rintro e w4⟨q2,c2,rfl,Ag,GY,AB⟩;have YG:=Hi (Jy.below AB);have wI:=Hi (HJ.below _ _ _ _ gU AB);have aG:=Hi (R7 _ _ Sv (UI (ub AB) (fun _ _ f=>f.elim)));obtain⟨x,H9,FH,Ty,VZ,VY⟩:∃ x:Gb,x.name=name∧x.row=.slice q2 ((fileOf Aj A name).getD []).length c2∧x.B=B∧x.q=q∧x.c=c:=⟨⟨name,_,B,q,c⟩,rfl,rfl,rfl,rfl,rfl⟩;have Xv:TL w oc Bx (.pointer (some ⟨p,0,none⟩)) 43 Aj A J xs x w4:=⟨by rw[Ty,VZ,VY];exact YG.out,by rw[Ty,VZ,VY];exact Yo.out,⟨_,by rw[H9];exact xA.out⟩,by rw[Ty];exact wI.out,⟨q2,c2,by rw[H9];exact FH,by rw[H9];exact Bj.D9 Ag,GY,by rw[H9];exact alr Ag⟩⟩;obtain⟨fn,tmps,assign,body,hy,hR⟩:=hY xs _ w4 Xv aG.out;have HR:=Hi hR;unfold oP at hy;rw[H9,FH] at hy;have iB:=Hi (show(xs++[x]).map (·.name)=((A.map (·.1)).take (k+1)).filter Aj.ours from by rw[D6,List.map_singleton,H9];exact HX.out);have xM:=Hi (show x.B=B∧x.q=q∧x.c=c from⟨Ty,VZ,VY⟩);have iC:=Hi (show x∈xs++[x] from by simp);generalize (xs++[x])=xs2 at*;clear H9 FH Ty VZ VY hR Xv Ag AB aao;generalize ((fileOf Aj A name).getD []).length=ln at*
    gi_wp2
    refine HR.mono ?_;rintro e w5⟨rfl,h5,h6⟩
    have Cz:=Hi (show mE w oc Bx B (.pointer (some ⟨p,0,none⟩)) 43 q c Aj A J Bk (.int .i64 ((k:Int)+1)) w5 from by
     rcases h5 with⟨e,-⟩|⟨B',q',c',k1,k2,k3,k4⟩
     ·have:=iC.out;rw[e] at this;simp at this
     ·obtain⟨e1,e2,e3⟩:=k2 _ iC;obtain⟨f1,f2,f3⟩:=xM.out;obtain rfl:B'=B:=e1.symm.trans f1;obtain rfl:q'=q:=e2.symm.trans f2;obtain rfl:c'=c:=e3.symm.trans f3;exact⟨k+1,xs2,by omega,by go_num,k1,k2,iB,k4,h6⟩)
    clear h5 h6 hy HR
    gi_wp2
    go_roundw
    case rel=>exact Cz.out
    case measure=>
     show A.length -((k:Int)+1).toNat < A.length -((k:Int)).toNat
     omega
  ·obtain rfl:k=A.length:=by omega
   have HE:=Hi (show xs.map (·.name)=I4 Aj A from by
    rw[H2.out,I7 (by rw[Ca];exact Ae _)];rfl)
   clear h1
   gi_wp2
   go_end0
   exact⟨⟨_,rfl⟩,xs,HE,.inr ⟨B,q,c,H1,Yo,⟨[],by rw[En,HE.out]⟩,H3⟩,H4.out⟩
end Mem
namespace Mem
open Aq Af Ap Bu Kp BM Hex BD Al
attribute [local go_sem] O4
attribute [local go_sem ↓] bf
theorem adq{α:Type}{P:Program}{n:Nat}{g:Operand}{q1 q2 s:Nat}{assign body:Code}{Q:Exit→Act→World→Prop}{a:Act}{w:World}(h1:1≤n)
  {gf:Nat}{lb:Array Value}(hg:a.eval g=.func (.func gf) #[] lb)(eg:∀ args w,(callFunc gf args).run P w=.ok (.enter gf args) w){e1 e2:α→Value}
  {Ia:List α→World→Prop}{Iy:List α→α→World→Prop}{S:List α→Prop}(Ul:∀ xs,MJ w.heap.size (Ia xs))(YX:∀ xs x,MJ w.heap.size (Iy xs x))
  (Lv:WU (n -1) P gf lb (fun x=>#[e1 x,e2 x]) Ia Iy S w)(h0:Ia [] w)
  (Z0:∀ (l:Nat) (x:α) (W:World) (K:Act→World→Prop),K { tmps:=((a.tmps.setIfInBounds q1 (e1 x)).setIfInBounds q2 (e2 x)).setIfInBounds s (e2 x),defers:=[] } W→
   assign.wpIn (Fence.wide.inRound l) (n -1 -1) P (Exit.then K (fun _ _ _=>False)) { tmps:=(a.tmps.setIfInBounds q1 (e1 x)).setIfInBounds q2 (e2 x),defers:=[] } W)
  (Z4:∀ (l:Nat) (pre:List α) (x:α) (W:World),Iy pre x W→body.wpIn (Fence.wide.inRound l) (n -1 -1) P (uN Ia (pre++[x]) W) { tmps:=((a.tmps.setIfInBounds q1 (e1 x)).setIfInBounds q2 (e2 x)).setIfInBounds s (e2 x),defers:=[] } W)
  (Ru:∀ (D:Nat) (xs:List α) (W:World),w.heap.size≤D→S xs→Ia xs W→W.heap[D]?=some (.deferred (some []))→Q .normal { a with defers:={ target:=.collected D,args:=#[] } :: a.defers } W):
  (Code.rangeFunc g #[q1,q2] assign body).wpIn Fence.wide n P Q a w:=
 uZ h1 hg eg (fun _=>rfl) Ul YX Lv h0 (fun x=>{ tmps:=((a.tmps.setIfInBounds q1 (e1 x)).setIfInBounds q2 (e2 x)).setIfInBounds s (e2 x),defers:=[] }) (fun l x W K hK=>by
  have hz:(#[q1,q2].zip #[e1 x,e2 x])=#[(q1,e1 x),(q2,e2 x)]:=by simp
  rw[hz];exact Z0 l x W K hK) Z4 Ru
theorem axV{W:World}{B n:Nat}{v:Value}{l k:M}(h:W.ownsRow B 51 2 v n (Dn l)){q:Option Addr}{cap:Nat}(hk:Bj W q k)(hq:q=none→cap=0)(hn:n+k.length≤1000000000)(hb:B≤W.heap.size):
  ∃ v' w2,(Vt #[30,30] 30 #[v,.slice q k.length cap]).run prog W=.ok v' w2∧w2.ownsRow B 51 2 v' (n+k.length) (Dn (l++k))∧W.grownBy w2 v.ownBlock:=by
 obtain⟨i0,Bg,AX,AY,Ba⟩:=DI RO;cases q with
 |none=>
  obtain rfl:k=[]:=by
   cases k with
   |nil=>rfl
   |cons y k=>
    obtain⟨p,hp,_⟩:=hk 0 (by simp);cases hp
  rw[hq rfl];refine⟨v,W,run_append_owned_none (P:=prog) (w:=W) B 30 30 51 i0 2 underlying30 Bg v n (Dn l) h,?_,World.grownBy.refl W _⟩;rw[En];exact h
 |some ad=>
  obtain⟨v',w2,h1,h2,h3,_,_⟩:=run_append_own_at (P:=prog) W B 30 30 51 i0 _ 2 32 underlying30 Bg AX AY Ba rfl (by decide) v n (Dn l) h ad k.length cap (Dn k) (bD k) hk.cells (ag9 k) (by unfold maxLen;omega) (by omega) hb;exact⟨v',w2,h1,by rw[ag8];exact h2,h3⟩
def JR(K:Kind)(A:M)(ks:List T):M:=ks.flatMap fun t=>(fileOf K A t).getD []
theorem lD(K:Kind)(A:M)(ks:List T)(t:T):JR K A (ks++[t])=JR K A ks++(fileOf K A t).getD []:=by
 unfold JR;rw[Nk];simp
theorem uu{K:Kind}{A:M}(hu:Up A):JR K A (I4 K A)=EN K A:=by
 unfold JR I4 EN
 suffices ∀ L:M,(∀ p∈L,p∈A)→(((L.map (·.1)).filter K.ours).flatMap fun t=>(fileOf K A t).getD [])=L.flatMap fun p=>if K.ours p.1=true then(K.Cw p.1 p.2).getD [] else[] from this A fun p h=>h
 intro L
 induction L with
 |nil=>exact fun _=>rfl
 |cons p L ih=>
  intro h;have e:(fileOf K A p.1).getD []=(K.Cw p.1 p.2).getD []:=by
   unfold fileOf;rw[get_mem hu (show(p.1,p.2)∈A from h p (by simp))];rfl
  rw[Ce,List.filter_cons,Q0,←ih fun x hx=>h x (GI _ hx)];by_cases ho:K.ours p.1=true
  ·rw[Ac ho,Ac ho,Q0,e]
  ·rw[Aa ho,Aa ho,Ev]
theorem amm{K:Kind}{A:M}{ks ts:List T}:(JR K A ks).length≤(JR K A (ks++ts)).length:=by
 unfold JR;rw[Nk,Az];omega
theorem iG{w:World}{oc Bx:Nat}{pv:Value}{ty:TypeId}{K:Kind}{A:M}{J:Nat→List T→World→Prop}{xs:List Gb}{W:World}(h:O5 w oc Bx pv ty K A J xs W):∃ B,J B (xs.map (·.name)) W:=by
 rcases h with⟨rfl,-,-,-,-,B,-,h⟩|⟨B,q,c,-,-,-,h⟩
 ·exact⟨B,h⟩
 ·exact⟨B,h⟩
def JP(K:Kind)(A:M)(w:World)(oc B:Nat)(ks:List T)(W:World):Prop:=
 ∃ v,Ex 51 30 2 w oc B W (JR K A ks).length (Dn (JR K A ks)) v∧(ks=[]→v=.slice none 0 0)
theorem abD(K:Kind)(A:M)(w:World)(oc:Nat):WT w oc (JP K A w oc) where
 below:=fun B ks W W' ⟨v,h1,h2⟩ hb=>⟨v,h1.below hb,h2⟩
 raise:=fun B B' W ⟨v,h1,h2⟩ hb hs=>by
  have e:=h2 rfl;subst e;have e2:JR K A []=[]:=rfl;rw[e2,Rp] at h1;exact⟨_,by rw[e2,Rp];exact Ex.raise h1 hb hs,fun _=>rfl⟩
 put:=fun B ks W k o o' ⟨v,h1,h2⟩ ho hc hk=>⟨v,h1.put ho hc hk,h2⟩
theorem akC(p:Nat)(w:World):
  Calls prog 121 #[.pointer (some ⟨p,0,none⟩)] w fun e w'=>e=.returned (.func (.func 198) #[] #[.pointer (some ⟨w.heap.size,0,none⟩)])∧w'=w.alloc (.cells #[.pointer (some ⟨p,0,none⟩)] 43):=by
 go_in
 go_wp2;go_ret;exact⟨rfl,rfl⟩
theorem ax3{w:World}{p y:Nat}{A:M}(hm:GN w p y)(hf:Hm w y A)(hl:(EN Aj A).length≤1000000):
  Calls prog 45 #[.pointer (some ⟨p,0,none⟩)] w fun e w'=>∃ v,e=.returned v∧Ap.Bq w' w.heap.size v (Cm Aj A)∧Bw w w':=by
 refine(Dr (n:=3)).1 ?_;have QA:prog.follows .mixedOrders=true:=by kernel_rfl
 have HM:=Hi hm;have HF:=Hi hf;have HE:=Hi (uu (K:=Aj) hf.up);have HL:=Hi hl;clear hm hf hl;refine callsIn_of_wp_marks func45 rfl trivial ?_ rfl;simp only[ntmps45,Kr,BN,Iu,Nat.reduceAdd,Nat.reduceSub,Mm,Mq,Mv,Ms,Ev,Hf]
 gi_wp2
 have Bb:=AV w (.cells #[.slice none 0 0] 30);have II:Ex 51 30 2 w w.heap.size (w.heap.size+1) (w.alloc (.cells #[.slice none 0 0] 30)) 0 [] (.slice none 0 0):=⟨Bb,Ae _,Nat.lt_succ_self _,by rw[Ar];exact Ae _,AP w _,E5 _ _ _ _⟩;have P8:=Hi II;refine⟨trivial,(Dr.2 (akC p _)).mono ?_⟩;rintro e w2⟨rfl,Kh⟩;subst Kh
 gi_wp2
 have EK:=Hi (AP (w.alloc (.cells #[.slice none 0 0] 30)) (.cells #[.pointer (some ⟨p,0,none⟩)] 43));have Ad:=AV (w.alloc (.cells #[.slice none 0 0] 30)) (.cells #[.pointer (some ⟨p,0,none⟩)] 43);have CW:=Hi (P8.below Ad);have Dz:=Hi (Ar w (.cells #[.slice none 0 0] 30));obtain⟨Bx,Ik⟩:=ex ((w.alloc (.cells #[.slice none 0 0] 30)).heap.size);rw[Ik] at EK Dz;rw[show w.heap.size+1=Bx from Dz.symm];obtain⟨U,hU⟩:=ex ((w.alloc (.cells #[.slice none 0 0] 30)).alloc (.cells #[.pointer (some ⟨p,0,none⟩)] 43));rw[hU] at EK CW ⊢;clear Bb Ad II P8 Ik hU;refine adq (s:=5) (by omega) (gf:=198) (lb:=#[.pointer (some ⟨Bx,0,none⟩)]) rfl (enters_of func198 (by kernel_rfl) rfl) (e1:=fun x:Gb=>.string (bs x.name)) (e2:=fun x:Gb=>x.row)
  (Ia:=O5 w w.heap.size Bx (.pointer (some ⟨p,0,none⟩)) 43 Aj A (JP Aj A w w.heap.size)) (Iy:=TL w w.heap.size Bx (.pointer (some ⟨p,0,none⟩)) 43 Aj A (JP Aj A w w.heap.size))
  (fun xs=>iF (abD _ _ _ _) CW.AQ.size xs) (fun xs x=>iH (abD _ _ _ _) CW.AQ.size xs x)
  (akB 2 (by omega) HM HF w.heap.size Bx (abD _ _ _ _) U) (.inl ⟨rfl,CW.AQ,Ae _,by have:=Dz.out;omega,EK,w.heap.size+1,CW.size,.slice none 0 0,by rw[show JR Aj A []=[] from rfl,Rp];exact CW.out,fun _=>rfl⟩)
  ?assign ?body ?done
 case assign=>
  intro l x W K hK;simp only[np] at hK ⊢
  gi_wp2
  exact hK
 case body=>
  intro l2 pre x W hy;obtain⟨hS,hG,hT,⟨v,hO,-⟩,⟨q2,c2,FH,hP,Fp,-⟩⟩:=hy;have hlen:(JR Aj A (pre.map (·.name))).length+((fileOf Aj A x.name).getD []).length≤1000000:=by
   obtain⟨ts,J3⟩:=hT;have h1:=amm (K:=Aj) (A:=A) (ks:=pre.map (·.name)++[x.name]) (ts:=ts);rw[Dy,List.singleton_append,J3,HE.out,lD,Az] at h1;have:=HL.out;omega
  obtain⟨v7,w7,QG,Ls,Im⟩:=axV (W:=W) hO.row hP Fp (by omega) hO.size;obtain⟨qv,cv,rfl,-,-⟩:=Fz hO.row;obtain⟨q7,c7,rfl⟩:=Bp Ls;have Ll:=Ah W.heap.size W;have vE:=Hi (hO.add Ll Im Ls);have V9:=Hi (hO.keeps Ll Im (.slice q7 ((JR Aj A (pre.map (·.name))).length+((fileOf Aj A x.name).getD []).length) c7));have YJ:=Hi (hO.turned Ll Im (.slice q7 ((JR Aj A (pre.map (·.name))).length+((fileOf Aj A x.name).getD []).length) c7));have Dh:=Hi (show O5 w w.heap.size Bx (.pointer (some ⟨p,0,none⟩)) 43 Aj A (JP Aj A w w.heap.size) (pre++[x]) (w7.setCell ⟨w.heap.size,0,none⟩ (.slice q7 ((JR Aj A (pre.map (·.name))).length+((fileOf Aj A x.name).getD []).length) c7)) from iI hS hG hT YJ ⟨_,by rw[lD,Az];exact vE.out,fun e=>by simp at e⟩);have NK:=(Im.block w.heap.size (Ao hO.box) (fun e=>(hO.ne e.symm).1 rfl)).trans hO.box;have Xm:w7.cell? ⟨w.heap.size,0,none⟩=some (.slice qv (JR Aj A (pre.map (·.name))).length cv):=cr NK;have Zc:=Cu w7 w.heap.size 0 _ _ NK;have cb:W.cell? ⟨w.heap.size,0,none⟩=some (.slice qv (JR Aj A (pre.map (·.name))).length cv):=cr hO.box;have ahQ:=Ao hO.box;rw[←FH] at QG;clear hS hG hT hO FH hP Fp hlen Ls Im Ll NK;simp only[np];generalize x.row=xr at*;generalize (JR Aj A (pre.map (·.name))).length=rn at*;generalize ((fileOf Aj A x.name).getD []).length=fn at*;generalize (Value.string (bs x.name))=xnm at*
  gi_wp2
  exact⟨V9,Dh⟩
 case done=>
  intro D xs W hD hS hI Df;obtain⟨B,v,hO,-⟩:=iG hI;rw[hS,HE.out] at hO;have Ag:=hO.row;obtain⟨q,c,rfl,GY,BJ⟩:=Fz Ag;have HO:=Hi hO;have Sw:=Hi Df;have HD:=Hi (show w.heap.size≤D from Ay (Ay (Nat.le_succ _) CW.size) hD);have cb:W.cell? ⟨w.heap.size,0,none⟩=some (.slice q (EN Aj A).length c):=cr hO.box;have Ld:=Hi (eF (w:=W) (Bj.D9 Ag) GY HL);clear hS hI Df hD hO Ag
  gi_wp2
  refine⟨trivial,(Dr.2 Ld).mono ?_⟩;rintro e w5⟨kv,rfl,CJ,Bo⟩;have ae5:=Hi ((Bo.block D (Dm.1 Sw).1).trans Sw);have Cy:=Hi (HO.AQ.trans (Bo.mono HO.AQ.size));have Lc:=Hi (Fu CJ HO.AQ.size);clear Bo CJ
  gi_wp2
  refine⟨by simp,.inl ⟨_,_,rfl,run_takeDeferred ae5,?_⟩⟩;have hu:A7 (fun i=>i=D) w5 (w5.putObj D (.deferred none)):=A7.of_grownBy (F:=fun i=>i=D) (grownBy_putObj' w5 D (.deferred none)) (fun i e=>by cases e;rfl)
  exact⟨_,(by simp[results,results45,go_sem]),_,rfl,BH Lc hu (fun k hk e=>by
   obtain⟨cs,fz,h2⟩:=CB Lc hk;rw[e,ae5.out] at h2;cases h2),Cq Cy hu (fun i e=>by rw[e];exact HD.out) Cy.size⟩
end Mem
namespace Mem
open Aq Af Ap Bu Kp BM Hex BD Al
attribute [local go_sem] O4
