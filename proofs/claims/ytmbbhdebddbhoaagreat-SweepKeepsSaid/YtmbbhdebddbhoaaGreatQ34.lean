/- SweS -/
import Derived.Test.YtmbbhdebddbhoaaGreatQ33
set_option maxHeartbeats 4000000
set_option maxRecDepth 100000
set_option linter.all false
namespace Go.Proofs.YtmbbhdebddbhoaaGreat
open Tryz
namespace GL
open Go.RowKit Go.Maps
open Wal Fil Man Prs Kp BH Hex Sha Al Mem Dep
def GM(A:M)(ks:List T):Nat:=(ks.map fun k=>k.length+(getV A9 A k).1.length).sum
theorem amY(A:M)(ks:List T)(k:T):GM A (ks++[k])=GM A ks+(k.length+(getV A9 A k).1.length):=by unfold GM;rw[C8,Ht];simp
def VL(A:M)(roots:List T)(c:Int):Value:=if c=0 then .agg #[.int .i64 ((F7 both A roots).length:Int),.int .i64 ((DY both A roots).length:Int),.int .i64 (GM A (DY both A roots):Int)] else .agg #[.int .i64 0,.int .i64 0,.int .i64 0]
theorem acw{K:Kind}{A:M}{k:T}:(getV K A k).1.length≤65535:=by
 unfold getV;split
 ·exact Ar _
 ·cases hv:Ct K A k with
  |none=>exact Ar _
  |some v=>
   unfold Ct at hv;cases hf:fileOf K A (K.nm k) with
   |none=>rw[hf] at hv;cases hv
   |some l=>
    rw[hf] at hv;have h1:=(PR (K:=K) (A:=A) (name:=K.nm k)).2;rw[hf] at h1;exact(h1 _ (get_some hv)).2
theorem amZ{w:World}{db rb pd n c:Nat}{q:Option Addr}{Q:Int→World→Prop}(hd:w.cell? ⟨db,0,none⟩=some (.pointer (some ⟨pd,0,none⟩)))(hr:w.cell? ⟨rb,0,none⟩=some (.slice q n c))
  (h:Calls prog 37 #[.pointer (some ⟨pd,0,none⟩),.slice q n c] w fun e w'=>∃ c,e=.returned (.int .i64 c)∧Q c w'):
  Calls prog 36 #[.pointer (some ⟨db,0,none⟩),.pointer (some ⟨rb,0,none⟩)] w fun e w'=>∃ c,e=.returned (.int .i64 c)∧Q c w':=by
 have H:=Hi h;clear h;go_enter func36,ntmps36;go_wp2_with fail;refine H.mono ?_;rintro e w1⟨c,rfl,hq⟩;go_wp2_with fail;go_ret;exact⟨c,rfl,hq⟩
theorem an0{w:World}{mb kb pm n c:Nat}{q:Option Addr}{Q:Int→World→Prop}(hd:w.cell? ⟨mb,0,none⟩=some (.pointer (some ⟨pm,0,none⟩)))(hr:w.cell? ⟨kb,0,none⟩=some (.slice q n c))
  (h:Calls prog 39 #[.pointer (some ⟨pm,0,none⟩),.slice q n c] w fun e w'=>∃ c,e=.returned (.int .i64 c)∧Q c w'):
  Calls prog 38 #[.pointer (some ⟨mb,0,none⟩),.pointer (some ⟨kb,0,none⟩)] w fun e w'=>∃ c,e=.returned (.int .i64 c)∧Q c w':=by
 have H:=Hi h;clear h;go_enter func38,ntmps38;go_wp2_with fail;refine H.mono ?_;rintro e w1⟨c,rfl,hq⟩;go_wp2_with fail;go_ret;exact⟨c,rfl,hq⟩
structure Ib(w:World)(D mb db rr rb kb pm pd:Nat)(q1 q2:Option Addr)(c1 c2:Nat)(L1 L2:List T)(a b c:Int)(W:World):Prop where
 m:W.heap[mb]?=some (.cells #[.pointer (some ⟨pm,0,none⟩)] 36)
 d:W.heap[db]?=some (.cells #[.pointer (some ⟨pd,0,none⟩)] 37)
 s:W.heap[rr]?=some (.cells #[.int .i64 a,.int .i64 b,.int .i64 c] 42)
 r:W.heap[rb]?=some (.cells #[.slice q1 L1.length c1] 27)
 k:W.heap[kb]?=some (.cells #[.slice q2 L2.length c2] 27)
 r1:Man.AQ W w.heap.size (.slice q1 L1.length c1) L1
 r2:Man.AQ W w.heap.size (.slice q2 L2.length c2) L2
 lo:w.heap.size≤mb∧w.heap.size≤db∧w.heap.size≤rr∧w.heap.size≤rb∧w.heap.size≤kb
 hi:mb < D∧db < D∧rr < D∧rb < D∧kb < D∧(∀ k,(Value.slice q1 L1.length c1).ownBlock=some k→k < D)∧∀ k,(Value.slice q2 L2.length c2).ownBlock=some k→k < D
section
variable {w:World}{D mb db rr rb kb pm pd:Nat}{q1 q2:Option Addr}{c1 c2:Nat}{L1 L2:List T}{a b c a2 b2 c3:Int}{W W':World}
theorem Ib.upd{F:Nat→Prop}(h:Ib w D mb db rr rb kb pm pd q1 q2 c1 c2 L1 L2 a b c W)(hu:A7 F W W')(hF:∀ k,w.heap.size≤k→k < D→¬ F k):Ib w D mb db rr rb kb pm pd q1 q2 c1 c2 L1 L2 a b c W':=by
 obtain⟨h1,h2,h3,h4,h5,h6,h7,⟨l1,l2,l3,l4,l5⟩,⟨u1,u2,u3,u4,u5,u6,u7⟩⟩:=h
 exact⟨(hu.block _ (Ae h1) (hF _ l1 u1)).trans h1,(hu.block _ (Ae h2) (hF _ l2 u2)).trans h2,(hu.block _ (Ae h3) (hF _ l3 u3)).trans h3,(hu.block _ (Ae h4) (hF _ l4 u4)).trans h4,(hu.block _ (Ae h5) (hF _ l5 u5)).trans h5,
  AL h6 hu (fun k hk=>hF k (CJ h6 hk) (u6 k hk)),AL h7 hu (fun k hk=>hF k (CJ h7 hk) (u7 k hk)),⟨l1,l2,l3,l4,l5⟩,⟨u1,u2,u3,u4,u5,u6,u7⟩⟩
theorem Ib.set(h:Ib w D mb db rr rb kb pm pd q1 q2 c1 c2 L1 L2 a b c W)(hu:A7 (fun k=>k=rr) W W')(hs:W'.heap[rr]?=some (.cells #[.int .i64 a2,.int .i64 b2,.int .i64 c3] 42)):Ib w D mb db rr rb kb pm pd q1 q2 c1 c2 L1 L2 a2 b2 c3 W':=by
 obtain⟨h1,h2,h3,h4,h5,h6,h7,⟨l1,l2,l3,l4,l5⟩,⟨u1,u2,u3,u4,u5,u6,u7⟩⟩:=h;have hn:∀ {k:Nat} {cs:Array Value} {t:TypeId},W.heap[k]?=some (.cells cs t)→t≠42→k≠rr:=fun {k cs t} hk ht e=>by
  rw[e,h3] at hk;injection hk with hk
  injection hk with _ hk
  exact ht hk.symm
 have hnr:∀ {k:Nat},Ap W k 9→k≠rr:=fun {k} hk e=>by
  obtain⟨cs,fr,hk⟩:=hk;rw[e,h3] at hk;injection hk with hk
  injection hk with _ hk
  exact absurd hk (by decide)
 exact⟨(hu.block _ (Ae h1) (hn h1 (by decide))).trans h1,(hu.block _ (Ae h2) (hn h2 (by decide))).trans h2,hs,(hu.block _ (Ae h4) (hn h4 (by decide))).trans h4,(hu.block _ (Ae h5) (hn h5 (by decide))).trans h5,
  AL h6 hu (fun k hk=>hnr (Bi h6 hk)),AL h7 hu (fun k hk=>hnr (Bi h7 hk)),⟨l1,l2,l3,l4,l5⟩,⟨u1,u2,u3,u4,u5,u6,u7⟩⟩
theorem Ib.below(h:Ib w D mb db rr rb kb pm pd q1 q2 c1 c2 L1 L2 a b c W)(hb:Bw W W'):Ib w D mb db rr rb kb pm pd q1 q2 c1 c2 L1 L2 a b c W':=h.upd (ub hb) (fun _ _ _ f=>f)
theorem Ib.Yc(h:Ib w D mb db rr rb kb pm pd q1 q2 c1 c2 L1 L2 a b c W):W.cell? ⟨rr,0,none⟩=some (.int .i64 a)∧W.cell? ⟨rr,1,none⟩=some (.int .i64 b)∧W.cell? ⟨rr,2,none⟩=some (.int .i64 c)∧W.frozen? ⟨rr,0,none⟩=false∧W.frozen? ⟨rr,1,none⟩=false∧W.frozen? ⟨rr,2,none⟩=false:=
 ⟨cr h.s,cr h.s,cr h.s,Cb _ _ _ _ _ h.s,Cb _ _ _ _ _ h.s,Cb _ _ _ _ _ h.s⟩
theorem an1(A:M)(L:List T)(k:Nat)(h:∀ t∈L,t.length≤1000000):GM A (L.take k)≤L.length*1065535:=by
 have h1:∀ l:List T,(∀ t∈l,t.length≤1000000)→GM A l≤l.length*1065535:=by
  intro l
  induction l with
  |nil=>exact fun _=>Ab _
  |cons x l ih=>
   intro hl;have h2:=ih (fun t ht=>hl t (Dh _ ht));have h3:=hl x (by simp);have h4:=@acw A9 A x
   show x.length+(getV A9 A x).1.length+GM A l≤_
   rw[AX];omega
 refine Ah (h1 _ (fun t ht=>h t (List.mem_of_mem_take ht))) ?_;rw[Aw];exact Kj _ (Nat.min_le_right _ _)
theorem Ib.top(h:Ib w D mb db rr rb kb pm pd q1 q2 c1 c2 L1 L2 a b c W){D':Nat}(hD:W.heap.size≤D'):Ib w D' mb db rr rb kb pm pd q1 q2 c1 c2 L1 L2 a b c W:=by
 obtain⟨h1,h2,h3,h4,h5,h6,h7,hl,-⟩:=h
 exact⟨h1,h2,h3,h4,h5,h6,h7,hl,Di (Ae h1) hD,Di (Ae h2) hD,Di (Ae h3) hD,Di (Ae h4) hD,Di (Ae h5) hD,fun k hk=>by
  obtain⟨cs,fr,h⟩:=Bi h6 hk;exact Di (Ae h) hD,fun k hk=>by
  obtain⟨cs,fr,h⟩:=Bi h7 hk;exact Di (Ae h) hD⟩
end
theorem dE{fn:Func}{q u:Tmp}(h:fn.results=#[.cell q 42,.tmp u])(tmps:Array Value)(w:World)(g:Nat)(a b c:Int)(hq:tmps.getD q undef=.pointer (some ⟨g,0,none⟩))(c0:w.cell? ⟨g,0,none⟩=some (.int .i64 a))(c1:w.cell? ⟨g,1,none⟩=some (.int .i64 b))(c2:w.cell? ⟨g,2,none⟩=some (.int .i64 c)):
  (results fn tmps).run prog w=.ok (.tuple #[.agg #[.int .i64 a,.int .i64 b,.int .i64 c],tmps.getD u undef]) w:=by
 rw[results_cell_tmp h,hq];go_simp
theorem dF{W:World}{rr:Nat}{a b c a2 b2 c2:Int}(h:W.heap[rr]?=some (.cells #[.int .i64 a,.int .i64 b,.int .i64 c] 42)):
  (((W.setCell ⟨rr,0,none⟩ (.int .i64 a2)).setCell ⟨rr,1,none⟩ (.int .i64 b2)).setCell ⟨rr,2,none⟩ (.int .i64 c2)).heap[rr]?=some (.cells #[.int .i64 a2,.int .i64 b2,.int .i64 c2] 42)∧A7 (fun j=>j=rr) W (((W.setCell ⟨rr,0,none⟩ (.int .i64 a2)).setCell ⟨rr,1,none⟩ (.int .i64 b2)).setCell ⟨rr,2,none⟩ (.int .i64 c2)):=by
 have h1:=Bh W rr 0 _ _ (.int .i64 a2) h;have h2:=Bh _ rr 1 _ _ (.int .i64 b2) h1;exact⟨Bh _ rr 2 _ _ (.int .i64 c2) h2,(((A7.refl (fun j=>j=rr) W).setCell (p:=⟨rr,0,none⟩) (.inl rfl) _).setCell (p:=⟨rr,1,none⟩) (.inl rfl) _).setCell (p:=⟨rr,2,none⟩) (.inl rfl) _⟩
def dG(w:World)(mb db rr rb kb pm pd:Nat)(q1 q2:Option Addr)(c1 c2 D fb:Nat)(L1 L2:List T)(a b c:Int)(V:World)(Q1:Nat→World→Prop)(Q:Nat→Int→World→Prop)(i:Value)(wr:World):Prop:=
 Ib w D mb db rr rb kb pm pd q1 q2 c1 c2 L1 L2 a b c wr∧wr.heap[fb]?=some (.cells #[.func (.func 36) #[] #[.pointer (some ⟨db,0,none⟩),.pointer (some ⟨rb,0,none⟩)],.func (.func 38) #[] #[.pointer (some ⟨mb,0,none⟩),.pointer (some ⟨kb,0,none⟩)]] 95)∧
  ((i=.int .i64 0∧wr=V)∨(i=.int .i64 1∧Q1 D wr)∨(i=.int .i64 2∧Q D 0 wr))
def oU(w:World)(mb db rr rb kb pm pd:Nat)(q1 q2:Option Addr)(c1 c2 D:Nat)(A:M)(L1 L2:List T)(i:Value)(wr:World):Prop:=
 ∃ k:Nat,k≤L2.length∧i=.int .i64 (k:Int)∧Ib w D mb db rr rb kb pm pd q1 q2 c1 c2 L1 L2 (L1.length:Int) (L2.length:Int) (GM A (L2.take k):Int) wr∧Bw w wr
theorem an2{w:World}{pm pd y:Nat}{A:M}{q:Option Addr}{cap:Nat}{roots:List T}{Q1:Nat→World→Prop}{Q:Nat→Int→World→Prop}(hm:DR w pm y)(hd:Ex w pd y)(hf:I8 w y A)(IG:VK A)(hr:BB w q roots)(hrl:roots.length≤1000000)
  (aAw:∀ W q c,Bw w W→BB W q (F7 both A roots)→Calls prog 37 #[.pointer (some ⟨pd,0,none⟩),.slice q (F7 both A roots).length c] W fun e w'=>∃ c,e=.returned (.int .i64 c)∧A7 (fun k=>k < w.heap.size) W w'∧(c=0→Q1 W.heap.size w')∧(c≠0→Q W.heap.size c w'))
  (hcut:∀ D W q c,Q1 D W→BB W q (DY both A roots)→Calls prog 39 #[.pointer (some ⟨pm,0,none⟩),.slice q (DY both A roots).length c] W fun e w'=>∃ c,e=.returned (.int .i64 c)∧A7 (fun k=>k < w.heap.size∨D≤k) W w'∧Q D c w')
  (hst:∀ D c W W' k,w.heap.size≤k→k < D→Ap W k 42→A7 (fun j=>j=k) W W'→Q D c W→Q D c W'):
  Calls prog 9 #[.pointer (some ⟨pm,0,none⟩),.pointer (some ⟨pd,0,none⟩),.slice q roots.length cap] w fun e w'=>∃ c D,e=.returned (.tuple #[VL A roots c,.int .i64 c])∧Q D c w':=by
 have HM:=Hi hm;have HD:=Hi hd;have HF:=Hi hf;have Ez:=Hi IG;have HR:=Hi hr;have acx:=Hi aAw;have Sr:=Hi hcut;have HST:=Hi hst;have Sk:=hm.lt;have arN:=hd.lt;clear hm hd hf IG hr aAw hcut hst;obtain⟨U,hU⟩:=ex (((w.alloc (.cells #[.pointer (some ⟨pm,0,none⟩)] 36)).alloc (.cells #[.pointer (some ⟨pd,0,none⟩)] 37)).alloc (.cells #[.int .i64 0,.int .i64 0,.int .i64 0] 42));obtain⟨u0,u1,u2,Qe,Yd⟩:U.heap[w.heap.size]?=some (.cells #[.pointer (some ⟨pm,0,none⟩)] 36)∧U.heap[w.heap.size+1]?=some (.cells #[.pointer (some ⟨pd,0,none⟩)] 37)∧U.heap[w.heap.size+1+1]?=some (.cells #[.int .i64 0,.int .i64 0,.int .i64 0] 42)∧Bw w U∧U.heap.size=w.heap.size+3:=by
  have hn0:=Aq w (.cells #[.pointer (some ⟨pm,0,none⟩)] 36);have hb0:=Am w (.cells #[.pointer (some ⟨pm,0,none⟩)] 36);have hs0:=Ai w (.cells #[.pointer (some ⟨pm,0,none⟩)] 36);generalize w.alloc (.cells #[.pointer (some ⟨pm,0,none⟩)] 36)=V at*;have hn1:=Aq V (.cells #[.pointer (some ⟨pd,0,none⟩)] 37);have hb1:=Am V (.cells #[.pointer (some ⟨pd,0,none⟩)] 37);have hs1:=Ai V (.cells #[.pointer (some ⟨pd,0,none⟩)] 37);generalize V.alloc (.cells #[.pointer (some ⟨pd,0,none⟩)] 37)=V1 at*;have hn2:=Aq V1 (.cells #[.int .i64 0,.int .i64 0,.int .i64 0] 42);have hb2:=Am V1 (.cells #[.int .i64 0,.int .i64 0,.int .i64 0] 42);have hs2:=Ai V1 (.cells #[.int .i64 0,.int .i64 0,.int .i64 0] 42);rw[hU] at hn2 hb2 hs2;rw[hs1,hs0] at hn2;rw[hs0] at hn1;have ayC:=(hb2.block _ (Ae hn1)).trans hn1;have oV:=(hb2.block _ (Di (Ae hn0) hb1.size)).trans ((hb1.block _ (Ae hn0)).trans hn0);exact⟨oV,ayC,hn2,hb0.trans ((hb1.trans (hb2.mono hb1.size)).mono hb0.size),by omega⟩
 have VM:=Hi u0;have Gx:=Hi u1;have GU:=Hi u2;have Ch:=Hi Qe;have HSU:=Hi Yd;have oW:U.cell? ⟨w.heap.size,0,none⟩=some (.pointer (some ⟨pm,0,none⟩)):=cr u0;have dH:U.cell? ⟨w.heap.size+1,0,none⟩=some (.pointer (some ⟨pd,0,none⟩)):=cr u1;have GN:=Hi (acm (cap:=cap) (HM.below Qe) (HD.below Qe) (HF.below Qe) Ez (HR.below Qe) hrl);clear u0 u1 u2 Qe Yd;go_enter func9,ntmps9;go_wp2_with fail;clear hU;refine GN.mono ?_;rintro e w1⟨v1,v2,rfl,hr1,hr2,hb1⟩;obtain⟨q1,c1,rfl⟩:=AA hr1;obtain⟨q2,c2,rfl⟩:=AA hr2;have HR1:=Hi hr1;have HR2:=Hi hr2;have HB1:=Hi hb1;have mY:=Hi (show ∃ L1 L2,F7 both A roots=L1∧DY both A roots=L2 from⟨_,_,rfl,rfl⟩);have HL2:=Hi (show ∀ t∈DY both A roots,t.length≤1000000 from fun t ht=>Ah (Ez.Y7 t (CU.1 ht).1) (by decide));have dI:=Hi (show(DY both A roots).length≤1000000∧(F7 both A roots).length≤1000000 from⟨Ah (Km _ _) (by show(Au A9 A).length≤_;rw[JW (K:=A9) HF.up];exact Ez.O0),Ah (Km _ _) (by show(Au A8 A).length≤_;rw[JW (K:=A8) HF.up];exact Ez.M6)⟩);have M7:=Hi (show ∀ c,VL A roots c=if c=0 then .agg #[.int .i64 ((F7 both A roots).length:Int),.int .i64 ((DY both A roots).length:Int),.int .i64 (GM A (DY both A roots):Int)] else .agg #[.int .i64 0,.int .i64 0,.int .i64 0] from fun c=>rfl);obtain⟨sv,hsv⟩:∃ sv:Int→Value,(fun c=>VL A roots c)=sv:=⟨_,rfl⟩;have oZ:∀ c,VL A roots c=sv c:=fun c=>by rw[←hsv]
 clear hsv;simp only[oZ] at M7;have p8:=Hi oZ;clear oZ mY;obtain⟨L1,hL1⟩:=ex (F7 both A roots);obtain⟨L2,hL2⟩:=ex (DY both A roots);rw[hL1] at HR1 acx dI M7;rw[hL2] at HR2 Sr HL2 dI M7;rw[hL1,hL2];rw[hL1] at hr1;rw[hL2] at hr2;clear hL1 hL2;have hw1:=Ch.trans (hb1.mono Ch.size);obtain⟨V,hV⟩:=ex ((w1.alloc (.cells #[.slice q1 L1.length c1] 27)).alloc (.cells #[.slice q2 L2.length c2] 27))
 have DV:=Hi (show Ib w V.heap.size w.heap.size (w.heap.size+1) (w.heap.size+1+1) w1.heap.size (w1.heap.size+1) pm pd q1 q2 c1 c2 L1 L2 0 0 0 V from by
  have hn0:=Aq w1 (.cells #[.slice q1 L1.length c1] 27);have hb0:=Am w1 (.cells #[.slice q1 L1.length c1] 27);have hs0:=Ai w1 (.cells #[.slice q1 L1.length c1] 27);generalize w1.alloc (.cells #[.slice q1 L1.length c1] 27)=V0 at*;have hn1:=Aq V0 (.cells #[.slice q2 L2.length c2] 27);have hbb:=Am V0 (.cells #[.slice q2 L2.length c2] 27);rw[hV] at hn1 hbb;have hs1:V.heap.size=V0.heap.size+1:=by rw[←hV];exact Ai _ _
  have KQ:Bw w1 V:=hb0.trans (hbb.mono hb0.size);have p9:=hb1.trans (KQ.mono hb1.size);have Yd:=HSU.out;have auP:=hb1.size;rw[hs0] at hn1;have aB6:=Bp hr1 KQ;have aB7:=Bp hr2 KQ
  exact⟨(p9.block _ (Ae VM)).trans VM,(p9.block _ (Ae Gx)).trans Gx,(p9.block _ (Ae GU)).trans GU,(hbb.block _ (Ae hn0)).trans hn0,hn1,
   Da aB6 (by omega),Da aB7 (by omega),⟨by omega,by omega,by omega,by omega,by omega⟩,⟨by omega,by omega,by omega,by omega,by omega,fun k hk=>by
    obtain⟨cs,fr,h⟩:=Bi aB6 hk;exact Ae h,fun k hk=>by
    obtain⟨cs,fr,h⟩:=Bi aB7 hk;exact Ae h⟩⟩)
 have Iu:=Hi (show Bw w V from by rw[←hV];exact(hw1.alloc hw1.size _).alloc (by rw[Ai];have:=hw1.size;omega) _);clear hr1 hr2 hb1 oW dH hw1 VM Gx GU HSU Ch GN HR1 HR2 HB1;go_wp2_with fail;obtain⟨mb,hmb⟩:=ex (w.heap.size);obtain⟨db,Re⟩:=ex (w.heap.size+1);obtain⟨rr,hrr⟩:=ex (w.heap.size+1+1);obtain⟨rb,hrb⟩:=ex (w1.heap.size);obtain⟨kb,hkb⟩:=ex (w1.heap.size+1);have Ju:=Hi (show Ib w V.heap.size mb db rr rb kb pm pd q1 q2 c1 c2 L1 L2 0 0 0 V from by rw[←hmb,←Re,←hrr,←hrb,←hkb];exact DV.out);rw[hkb,hrb,hrr,Re,hmb];clear hkb hrb hrr Re hmb hV;have Rt:V.cell? ⟨rb,0,none⟩=some (.slice q1 L1.length c1):=cr Ju.r;have OY:V.cell? ⟨kb,0,none⟩=some (.slice q2 L2.length c2):=cr Ju.k;obtain⟨cs0,cs1,cs2,fs0,fs1,fs2⟩:=Ju.Yc;have hks:(V.setCell ⟨rr,0,none⟩ (.int .i64 (L1.length:Int))).cell? ⟨kb,0,none⟩=some (.slice q2 L2.length c2):=by
  have hu:=(A7.refl (fun j=>j=rr) V).setCell (p:=⟨rr,0,none⟩) (.inl rfl) (.int .i64 (L1.length:Int))
  have hk:=(hu.block kb (Ae Ju.k) (fun e=>by
   have h1:=Ju.k;rw[e,Ju.s] at h1;injection h1 with h1
   injection h1 with _ h1
   exact absurd h1 (by decide))).trans Ju.k
  rw[AY _ _ _ _ _ _ hk];rfl
 clear DV;go_region;obtain⟨D,hDe⟩:=ex (V.heap.size);have h1:=Bh V rr 0 _ _ (.int .i64 (L1.length:Int)) Ju.s;have h2:=Bh (V.setCell ⟨rr,0,none⟩ (.int .i64 (L1.length:Int))) rr 1 _ _ (.int .i64 (L2.length:Int)) h1;have hu3:=(((A7.refl (fun j=>j=rr) V).setCell (p:=⟨rr,0,none⟩) (.inl rfl) (.int .i64 (L1.length:Int))).setCell (p:=⟨rr,1,none⟩) (.inl rfl) (.int .i64 (L2.length:Int))).drew
 have Ru:=Hi (show Ib w D mb db rr rb kb pm pd q1 q2 c1 c2 L1 L2 (L1.length:Int) (L2.length:Int) (GM A (L2.take 0):Int) ((V.setCell ⟨rr,0,none⟩ (.int .i64 (L1.length:Int))).setCell ⟨rr,1,none⟩ (.int .i64 (L2.length:Int))).drew from by
  rw[←hDe];exact Ju.set hu3 h2)
 have hb3:=Bu Iu hu3 (fun i e=>by rw[e];exact Ju.lo.2.2.1) Iu.size;have HB3:=Hi hb3;have HDE:=Hi (show((V.setCell ⟨rr,0,none⟩ (.int .i64 (L1.length:Int))).setCell ⟨rr,1,none⟩ (.int .i64 (L2.length:Int))).drew.heap.size=D from by rw[←hDe];rw[World.size_drew,World.size_setCell,World.size_setCell]);clear h1 h2 hu3 hb3 hDe hks cs0 cs1 cs2 fs0 fs1 fs2 Rt OY;generalize ((V.setCell ⟨rr,0,none⟩ (.int .i64 (L1.length:Int))).setCell ⟨rr,1,none⟩ (.int .i64 (L2.length:Int))).drew=V3 at*;have OY:V3.cell? ⟨kb,0,none⟩=some (.slice q2 L2.length c2):=cr Ru.k;clear Ju Iu;go_wp2_with fail;have arP:=dI.1;have Hq:=Hi (show oU w mb db rr rb kb pm pd q1 q2 c1 c2 D A L1 L2 (.int .i64 0) V3 from⟨0,Ar _,rfl,Ru,HB3⟩)
 go_loopw [40] (fun i wr=>oU w mb db rr rb kb pm pd q1 q2 c1 c2 D A L1 L2 i wr) (fun i _=>L2.length -(intOf i).toNat)
 case atStart=>exact Hq.out
 case round=>
  obtain⟨k,hk,rfl,hsw,hb⟩:=hrel;have DV:=Hi hsw;have HB:=Hi hb;clear Hq Ru HB3 OY;by_cases hlt:k < L2.length
  ·obtain⟨a,hix,c0⟩:=(CP hsw.r2).index c2 k hlt;have hkl:=HL2 _ (BF hlt);have Bo:=Hi (show GM A (L2.take (k+1))=GM A (L2.take k)+(L2[k].length+(getV A9 A L2[k]).1.length) from by rw[BS hlt,amY]);have hbd:=an1 A L2 k (fun t ht=>HL2 t ht);have hvl:=@acw A9 A L2[k];have arQ:=dI.1;generalize L2[k]=key at*;have HG:=Hi (mg (HM.below hb) (HF.bB hb) key hkl);have TS:wr.cell? ⟨mb,0,none⟩=some (.pointer (some ⟨pm,0,none⟩)):=cr hsw.m;generalize getV A9 A key=V9 at*;obtain⟨b9,Eu⟩:=ex (GM A (L2.take k));rw[Eu] at DV Bo hbd;clear hsw hb Eu;go_wp2_with fail;refine HG.mono ?_;rintro e w4⟨rfl,hb4⟩;have dJ:=Hi (DV.below hb4);have Ay:=Hi (HB.trans (hb4.mono HB.size));obtain⟨pg,pq,pz,pE,pF,pG⟩:=dJ.Yc;have hw1:IntKind.i64.wrap ((key.length:Int)+(V9.1.length:Int))=(key.length:Int)+(V9.1.length:Int):=CZ _ (by omega);have hw2:IntKind.i64.wrap ((b9:Int)+((key.length:Int)+(V9.1.length:Int)))=(b9:Int)+((key.length:Int)+(V9.1.length:Int)):=CZ _ (by omega);have hs5:=Bh w4 rr 2 _ _ (.int .i64 ((b9:Int)+((key.length:Int)+(V9.1.length:Int)))) dJ.s;have Et:=(A7.refl (fun j=>j=rr) w4).setCell (p:=⟨rr,2,none⟩) (.inl rfl) (.int .i64 ((b9:Int)+((key.length:Int)+(V9.1.length:Int))))
   have Ca:=Hi (show oU w mb db rr rb kb pm pd q1 q2 c1 c2 D A L1 L2 (.int .i64 ((k:Int)+1)) (w4.setCell ⟨rr,2,none⟩ (.int .i64 ((b9:Int)+((key.length:Int)+(V9.1.length:Int))))) from
    ⟨k+1,by omega,by go_num,by
     rw[Bo.out];refine dJ.set Et ?_;rw[show((b9+(key.length+V9.1.length):Nat):Int)=(b9:Int)+((key.length:Int)+(V9.1.length:Int)) by omega];exact hs5,Bu Ay Et (fun i e=>by rw[e];exact dJ.lo.2.2.1) Ay.size⟩)
   clear hb4 hs5 Et;go_wp2_with fail;go_roundw
   case rel=>exact Ca.out
   case measure=>
    show L2.length -((k:Int)+1).toNat < L2.length -((k:Int)).toNat
    omega
  ·obtain rfl:k=L2.length:=(by omega);obtain⟨MQ,hby⟩:=ex (GM A (L2.take L2.length));have jJ:=Hi (show GM A L2=MQ from by rw[←hby,Ck]);rw[hby] at hsw;have DV:=Hi hsw;clear hsw hb hby hlt hk;go_wp2_with fail;have Mw:=Aq wr (.cells #[.func (.func 36) #[] #[.pointer (some ⟨db,0,none⟩),.pointer (some ⟨rb,0,none⟩)],.func (.func 38) #[] #[.pointer (some ⟨mb,0,none⟩),.pointer (some ⟨kb,0,none⟩)]] 95);have hb5:=Am wr (.cells #[.func (.func 36) #[] #[.pointer (some ⟨db,0,none⟩),.pointer (some ⟨rb,0,none⟩)],.func (.func 38) #[] #[.pointer (some ⟨mb,0,none⟩),.pointer (some ⟨kb,0,none⟩)]] 95);obtain⟨V5,hV5⟩:=ex (wr.alloc (.cells #[.func (.func 36) #[] #[.pointer (some ⟨db,0,none⟩),.pointer (some ⟨rb,0,none⟩)],.func (.func 38) #[] #[.pointer (some ⟨mb,0,none⟩),.pointer (some ⟨kb,0,none⟩)]] 95));rw[hV5] at Mw hb5 ⊢;have BG:=Hi (HB.trans (hb5.mono HB.size));have acA:=Hi ((DV.below hb5).top (Ab V5.heap.size));have hfl:w.heap.size≤wr.heap.size:=HB.size;have hfh:=Ae Mw;obtain⟨fb,Jp⟩:=ex (wr.heap.size);rw[Jp] at Mw hfl hfh ⊢;obtain⟨D5,hD5⟩:=ex (V5.heap.size);rw[hD5] at acA hfh;have HD5:=Hi hD5;have HN5:=Hi Mw;clear Mw hb5 hV5 Jp hD5;have arR:∀ args w,(callFunc 36 args).run prog w=.ok (.enter 36 args) w:=enters_of func36 (by kernel_rfl) rfl;have arS:∀ args w,(callFunc 38 args).run prog w=.ok (.enter 38 args) w:=enters_of func38 (by kernel_rfl) rfl
   have hi0:∀ W,(Instr.indexAt 96 (.slice (some ⟨fb,0,none⟩) 2 2) (.int .i64 0)).run prog W=.ok (.pointer (some ⟨fb,0,none⟩)) W:=fun W=>Fw prog _ 95 underlying96 1 (by kernel_rfl) ⟨fb,0,none⟩ 2 2 0 (by omega) W
   have hi1:∀ W,(Instr.indexAt 96 (.slice (some ⟨fb,0,none⟩) 2 2) (.int .i64 1)).run prog W=.ok (.pointer (some ⟨fb,1,none⟩)) W:=fun W=>Fw prog _ 95 underlying96 1 (by kernel_rfl) ⟨fb,0,none⟩ 2 2 1 (by omega) W
   have Hq:=Hi (show dG w mb db rr rb kb pm pd q1 q2 c1 c2 D5 fb L1 L2 (L1.length:Int) (L2.length:Int) (MQ:Int) V5 Q1 Q (.int .i64 0) V5 from⟨acA,HN5,.inl ⟨rfl,rfl⟩⟩);clear DV HB
   go_loopw [67] (fun i wr=>dG w mb db rr rb kb pm pd q1 q2 c1 c2 D5 fb L1 L2 (L1.length:Int) (L2.length:Int) (MQ:Int) V5 Q1 Q i wr) (fun i _=>2 -(intOf i).toNat)
   case atStart=>exact Hq.out
   case round=>
    obtain⟨hsw,hfn,aBI⟩:=hrel;have DV:=Hi hsw;have MR:=Hi hfn;have MS:wr.cell? ⟨fb,0,none⟩=some (.func (.func 36) #[] #[.pointer (some ⟨db,0,none⟩),.pointer (some ⟨rb,0,none⟩)]):=cr hfn;have MU:wr.cell? ⟨fb,1,none⟩=some (.func (.func 38) #[] #[.pointer (some ⟨mb,0,none⟩),.pointer (some ⟨kb,0,none⟩)]):=cr hfn;have VN:wr.cell? ⟨db,0,none⟩=some (.pointer (some ⟨pd,0,none⟩)):=cr hsw.d;have TS:wr.cell? ⟨mb,0,none⟩=some (.pointer (some ⟨pm,0,none⟩)):=cr hsw.m;have Rt:wr.cell? ⟨rb,0,none⟩=some (.slice q1 L1.length c1):=cr hsw.r;have OY:wr.cell? ⟨kb,0,none⟩=some (.slice q2 L2.length c2):=cr hsw.k;clear Hq hsw hfn;rcases aBI with⟨rfl,pI⟩|⟨rfl,hq1⟩|⟨rfl,hq2⟩
    ·have HWV:=Hi pI;have QK:=Hi (amZ VN Rt (acx wr q1 c1 (by rw[pI];exact BG.out) (CP DV.r1)));clear pI;go_wp2_with fail;refine QK.mono ?_;rintro e w6⟨c,rfl,FY,dK,dL⟩;have M8:=Hi (DV.upd FY (fun k h1 _ f=>Nat.lt_irrefl _ (Di f h1)));have pJ:=Hi ((FY.block fb (Ae MR) (fun f=>Nat.lt_irrefl _ (Di f hfl))).trans MR);rw[HWV.out,HD5.out] at dK dL;by_cases hc:c=0
     ·subst hc;have NC:=Hi (dK rfl);have Ca:=Hi (show dG w mb db rr rb kb pm pd q1 q2 c1 c2 D5 fb L1 L2 (L1.length:Int) (L2.length:Int) (MQ:Int) V5 Q1 Q (.int .i64 1) w6 from⟨M8,pJ,.inr (.inl ⟨rfl,NC⟩)⟩);clear FY dK dL MS MU VN TS Rt OY;go_wp2_with fail;go_roundw
      case rel=>exact Ca.out
      case measure=>show 2 -(1:Int).toNat < 2 -(0:Int).toNat;decide
     ·have NC:=Hi (dL hc);clear FY dK dL MS MU VN TS Rt OY;have hcb:(c == 0)=false:=Fq.2 hc;obtain⟨pg,pq,pz,pE,pF,pG⟩:=M8.Yc;have hz:=dF (a2:=0) (b2:=0) (c2:=0) M8.s;have Ye:=Hi (HST D5 c w6 _ rr M8.lo.2.2.1 M8.hi.2.2.1 ⟨_,_,M8.s⟩ hz.2 NC);have hzs:=hz.1;have TT:(((w6.setCell ⟨rr,0,none⟩ (.int .i64 0)).setCell ⟨rr,1,none⟩ (.int .i64 0)).setCell ⟨rr,2,none⟩ (.int .i64 0)).cell? ⟨rr,0,none⟩=some (.int .i64 0):=cr hzs;have TU:(((w6.setCell ⟨rr,0,none⟩ (.int .i64 0)).setCell ⟨rr,1,none⟩ (.int .i64 0)).setCell ⟨rr,2,none⟩ (.int .i64 0)).cell? ⟨rr,1,none⟩=some (.int .i64 0):=cr hzs;have TV:(((w6.setCell ⟨rr,0,none⟩ (.int .i64 0)).setCell ⟨rr,1,none⟩ (.int .i64 0)).setCell ⟨rr,2,none⟩ (.int .i64 0)).cell? ⟨rr,2,none⟩=some (.int .i64 0):=cr hzs;have II:=Hi (show sv c=.agg #[.int .i64 0,.int .i64 0,.int .i64 0] from by rw[M7.out,Aa hc]);clear hz hzs hc M7;go_wp2_with fail;refine Dt (v:=.tuple #[.agg #[.int .i64 0,.int .i64 0,.int .i64 0],.int .i64 c]) (dE results9 _ _ rr 0 0 0 (by rfl) TT TU TV) rfl ?_;exact⟨c,D5,by rw[p8.out,II.out],Ye⟩
    ·have JI:=Hi (an0 TS OY (Sr D5 wr q2 c2 hq1 (CP DV.r2)));clear hq1;go_wp2_with fail;refine JI.mono ?_;rintro e w6⟨c,rfl,FY,XX⟩;have M8:=Hi (DV.upd FY (fun k h1 h2 f=>by omega));have pJ:=Hi ((FY.block fb (Ae MR) (fun f=>by omega)).trans MR);have NC:=Hi XX;by_cases hc:c=0
     ·subst hc;have Ca:=Hi (show dG w mb db rr rb kb pm pd q1 q2 c1 c2 D5 fb L1 L2 (L1.length:Int) (L2.length:Int) (MQ:Int) V5 Q1 Q (.int .i64 2) w6 from⟨M8,pJ,.inr (.inr ⟨rfl,NC⟩)⟩);clear FY XX MS MU VN TS Rt OY;go_wp2_with fail;go_roundw
      case rel=>exact Ca.out
      case measure=>show 2 -(2:Int).toNat < 2 -(1:Int).toNat;decide
     ·clear FY XX MS MU VN TS Rt OY;have hcb:(c == 0)=false:=Fq.2 hc;obtain⟨pg,pq,pz,pE,pF,pG⟩:=M8.Yc;have hz:=dF (a2:=0) (b2:=0) (c2:=0) M8.s;have Ye:=Hi (HST D5 c w6 _ rr M8.lo.2.2.1 M8.hi.2.2.1 ⟨_,_,M8.s⟩ hz.2 NC);have hzs:=hz.1;have TT:(((w6.setCell ⟨rr,0,none⟩ (.int .i64 0)).setCell ⟨rr,1,none⟩ (.int .i64 0)).setCell ⟨rr,2,none⟩ (.int .i64 0)).cell? ⟨rr,0,none⟩=some (.int .i64 0):=cr hzs;have TU:(((w6.setCell ⟨rr,0,none⟩ (.int .i64 0)).setCell ⟨rr,1,none⟩ (.int .i64 0)).setCell ⟨rr,2,none⟩ (.int .i64 0)).cell? ⟨rr,1,none⟩=some (.int .i64 0):=cr hzs;have TV:(((w6.setCell ⟨rr,0,none⟩ (.int .i64 0)).setCell ⟨rr,1,none⟩ (.int .i64 0)).setCell ⟨rr,2,none⟩ (.int .i64 0)).cell? ⟨rr,2,none⟩=some (.int .i64 0):=cr hzs;have II:=Hi (show sv c=.agg #[.int .i64 0,.int .i64 0,.int .i64 0] from by rw[M7.out,Aa hc]);clear hz hzs hc M7;go_wp2_with fail;refine Dt (v:=.tuple #[.agg #[.int .i64 0,.int .i64 0,.int .i64 0],.int .i64 c]) (dE results9 _ _ rr 0 0 0 (by rfl) TT TU TV) rfl ?_;exact⟨c,D5,by rw[p8.out,II.out],Ye⟩
    ·obtain⟨pg,pq,pz,pE,pF,pG⟩:=DV.Yc;have hz:=dF (a2:=(L1.length:Int)) (b2:=(L2.length:Int)) (c2:=(MQ:Int)) DV.s;have Ye:=Hi (HST D5 0 wr _ rr DV.lo.2.2.1 DV.hi.2.2.1 ⟨_,_,DV.s⟩ hz.2 hq2);have hzs:=hz.1;have TT:(((wr.setCell ⟨rr,0,none⟩ (.int .i64 (L1.length:Int))).setCell ⟨rr,1,none⟩ (.int .i64 (L2.length:Int))).setCell ⟨rr,2,none⟩ (.int .i64 (MQ:Int))).cell? ⟨rr,0,none⟩=some (.int .i64 (L1.length:Int)):=cr hzs;have TU:(((wr.setCell ⟨rr,0,none⟩ (.int .i64 (L1.length:Int))).setCell ⟨rr,1,none⟩ (.int .i64 (L2.length:Int))).setCell ⟨rr,2,none⟩ (.int .i64 (MQ:Int))).cell? ⟨rr,1,none⟩=some (.int .i64 (L2.length:Int)):=cr hzs;have TV:(((wr.setCell ⟨rr,0,none⟩ (.int .i64 (L1.length:Int))).setCell ⟨rr,1,none⟩ (.int .i64 (L2.length:Int))).setCell ⟨rr,2,none⟩ (.int .i64 (MQ:Int))).cell? ⟨rr,2,none⟩=some (.int .i64 (MQ:Int)):=cr hzs;have II:=Hi (show sv 0=.agg #[.int .i64 (L1.length:Int),.int .i64 (L2.length:Int),.int .i64 (MQ:Int)] from by rw[M7.out,Ac rfl,jJ.out]);clear hz hzs hq2 M7 MS MU VN TS Rt OY;go_wp2_with fail;refine Dt (v:=.tuple #[.agg #[.int .i64 (L1.length:Int),.int .i64 (L2.length:Int),.int .i64 (MQ:Int)],.int .i64 0]) (dE results9 _ _ rr _ _ _ (by rfl) TT TU TV) rfl ?_;exact⟨0,D5,by rw[p8.out,II.out],Ye⟩
end GL
end Go.Proofs.YtmbbhdebddbhoaaGreat
