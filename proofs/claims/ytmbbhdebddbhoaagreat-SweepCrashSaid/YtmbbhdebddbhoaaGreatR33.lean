/- SweS SweF -/
import Derived.Test.YtmbbhdebddbhoaaGreatR32
set_option maxHeartbeats 4000000
set_option maxRecDepth 100000
set_option linter.all false
namespace Go.Proofs.YtmbbhdebddbhoaaGreat
open Tryz
namespace IE
open Go.RowKit Go.Maps
open Wal Fil Man Prs Kp Cm Hex Sha Al Mem Dep
def KG(A:M)(ks:List T):Nat:=(ks.map fun k=>k.length+(getV Ae A k).1.length).sum
theorem aqj(A:M)(ks:List T)(k:T):KG A (ks++[k])=KG A ks+(k.length+(getV Ae A k).1.length):=by unfold KG;rw[CF,JH];simp
def VO(A:M)(roots:List T)(c:Int):Value:=if c=0 then .agg #[.int .i64 ((Nc both A roots).length:Int),.int .i64 ((I6 both A roots).length:Int),.int .i64 (KG A (I6 both A roots):Int)] else .agg #[.int .i64 0,.int .i64 0,.int .i64 0]
theorem ah0{K:Kind}{A:M}{k:T}:(getV K A k).1.length≤65535:=by
 unfold getV;split
 ·exact AB _
 ·cases hv:Dk K A k with
  |none=>exact AB _
  |some v=>
   unfold Dk at hv;cases hf:fileOf K A (K.nm k) with
   |none=>rw[hf] at hv;cases hv
   |some l=>
    rw[hf] at hv;have h1:=(V7 (K:=K) (A:=A) (name:=K.nm k)).2;rw[hf] at h1;exact(h1 _ (get_some hv)).2
theorem azh{w:World}{db rb pd n c:Nat}{q:Option Addr}{Q:Int→World→Prop}(hd:w.cell? ⟨db,0,none⟩=some (.pointer (some ⟨pd,0,none⟩)))(hr:w.cell? ⟨rb,0,none⟩=some (.slice q n c))
  (h:Calls prog 37 #[.pointer (some ⟨pd,0,none⟩),.slice q n c] w fun e w'=>∃ c,e=.returned (.int .i64 c)∧Q c w'):
  Calls prog 36 #[.pointer (some ⟨db,0,none⟩),.pointer (some ⟨rb,0,none⟩)] w fun e w'=>∃ c,e=.returned (.int .i64 c)∧Q c w':=by
 have H:=Hi h;clear h;go_enter func36,ntmps36;go_wp2_with fail;refine H.mono ?_;rintro e w1⟨c,rfl,hq⟩;go_wp2_with fail;go_ret;exact⟨c,rfl,hq⟩
theorem azi{w:World}{mb kb pm n c:Nat}{q:Option Addr}{Q:Int→World→Prop}(hd:w.cell? ⟨mb,0,none⟩=some (.pointer (some ⟨pm,0,none⟩)))(hr:w.cell? ⟨kb,0,none⟩=some (.slice q n c))
  (h:Calls prog 39 #[.pointer (some ⟨pm,0,none⟩),.slice q n c] w fun e w'=>∃ c,e=.returned (.int .i64 c)∧Q c w'):
  Calls prog 38 #[.pointer (some ⟨mb,0,none⟩),.pointer (some ⟨kb,0,none⟩)] w fun e w'=>∃ c,e=.returned (.int .i64 c)∧Q c w':=by
 have H:=Hi h;clear h;go_enter func38,ntmps38;go_wp2_with fail;refine H.mono ?_;rintro e w1⟨c,rfl,hq⟩;go_wp2_with fail;go_ret;exact⟨c,rfl,hq⟩
structure KE(w:World)(D mb db rr rb kb pm pd:Nat)(q1 q2:Option Addr)(c1 c2:Nat)(L1 L2:List T)(a b c:Int)(W:World):Prop where
 m:W.heap[mb]?=some (.cells #[.pointer (some ⟨pm,0,none⟩)] 36)
 d:W.heap[db]?=some (.cells #[.pointer (some ⟨pd,0,none⟩)] 37)
 s:W.heap[rr]?=some (.cells #[.int .i64 a,.int .i64 b,.int .i64 c] 42)
 r:W.heap[rb]?=some (.cells #[.slice q1 L1.length c1] 27)
 k:W.heap[kb]?=some (.cells #[.slice q2 L2.length c2] 27)
 r1:Man.Bp W w.heap.size (.slice q1 L1.length c1) L1
 r2:Man.Bp W w.heap.size (.slice q2 L2.length c2) L2
 lo:w.heap.size≤mb∧w.heap.size≤db∧w.heap.size≤rr∧w.heap.size≤rb∧w.heap.size≤kb
 hi:mb < D∧db < D∧rr < D∧rb < D∧kb < D∧(∀ k,(Value.slice q1 L1.length c1).ownBlock=some k→k < D)∧∀ k,(Value.slice q2 L2.length c2).ownBlock=some k→k < D
section
variable {w:World}{D mb db rr rb kb pm pd:Nat}{q1 q2:Option Addr}{c1 c2:Nat}{L1 L2:List T}{a b c a2 b2 c3:Int}{W W':World}
theorem KE.upd{F:Nat→Prop}(h:KE w D mb db rr rb kb pm pd q1 q2 c1 c2 L1 L2 a b c W)(hu:A7 F W W')(hF:∀ k,w.heap.size≤k→k < D→¬ F k):KE w D mb db rr rb kb pm pd q1 q2 c1 c2 L1 L2 a b c W':=by
 obtain⟨h1,h2,h3,h4,h5,h6,h7,⟨l1,l2,l3,l4,l5⟩,⟨u1,u2,u3,u4,u5,u6,u7⟩⟩:=h
 exact⟨(hu.block _ (Ai h1) (hF _ l1 u1)).trans h1,(hu.block _ (Ai h2) (hF _ l2 u2)).trans h2,(hu.block _ (Ai h3) (hF _ l3 u3)).trans h3,(hu.block _ (Ai h4) (hF _ l4 u4)).trans h4,(hu.block _ (Ai h5) (hF _ l5 u5)).trans h5,
  Bh h6 hu (fun k hk=>hF k (DC h6 hk) (u6 k hk)),Bh h7 hu (fun k hk=>hF k (DC h7 hk) (u7 k hk)),⟨l1,l2,l3,l4,l5⟩,⟨u1,u2,u3,u4,u5,u6,u7⟩⟩
theorem KE.set(h:KE w D mb db rr rb kb pm pd q1 q2 c1 c2 L1 L2 a b c W)(hu:A7 (fun k=>k=rr) W W')(hs:W'.heap[rr]?=some (.cells #[.int .i64 a2,.int .i64 b2,.int .i64 c3] 42)):KE w D mb db rr rb kb pm pd q1 q2 c1 c2 L1 L2 a2 b2 c3 W':=by
 obtain⟨h1,h2,h3,h4,h5,h6,h7,⟨l1,l2,l3,l4,l5⟩,⟨u1,u2,u3,u4,u5,u6,u7⟩⟩:=h;have hn:∀ {k:Nat} {cs:Array Value} {t:TypeId},W.heap[k]?=some (.cells cs t)→t≠42→k≠rr:=fun {k cs t} hk ht e=>by
  rw[e,h3] at hk;injection hk with hk
  injection hk with _ hk
  exact ht hk.symm
 have Xj:∀ {k:Nat},AA W k 9→k≠rr:=fun {k} hk e=>by
  obtain⟨cs,fr,hk⟩:=hk;rw[e,h3] at hk;injection hk with hk
  injection hk with _ hk
  exact absurd hk (by decide)
 exact⟨(hu.block _ (Ai h1) (hn h1 (by decide))).trans h1,(hu.block _ (Ai h2) (hn h2 (by decide))).trans h2,hs,(hu.block _ (Ai h4) (hn h4 (by decide))).trans h4,(hu.block _ (Ai h5) (hn h5 (by decide))).trans h5,
  Bh h6 hu (fun k hk=>Xj (BQ h6 hk)),Bh h7 hu (fun k hk=>Xj (BQ h7 hk)),⟨l1,l2,l3,l4,l5⟩,⟨u1,u2,u3,u4,u5,u6,u7⟩⟩
theorem KE.below(h:KE w D mb db rr rb kb pm pd q1 q2 c1 c2 L1 L2 a b c W)(hb:Bw W W'):KE w D mb db rr rb kb pm pd q1 q2 c1 c2 L1 L2 a b c W':=h.upd (ub hb) (fun _ _ _ f=>f)
theorem KE.lF(h:KE w D mb db rr rb kb pm pd q1 q2 c1 c2 L1 L2 a b c W):W.cell? ⟨rr,0,none⟩=some (.int .i64 a)∧W.cell? ⟨rr,1,none⟩=some (.int .i64 b)∧W.cell? ⟨rr,2,none⟩=some (.int .i64 c)∧W.frozen? ⟨rr,0,none⟩=false∧W.frozen? ⟨rr,1,none⟩=false∧W.frozen? ⟨rr,2,none⟩=false:=
 ⟨cr h.s,cr h.s,cr h.s,CJ _ _ _ _ _ h.s,CJ _ _ _ _ _ h.s,CJ _ _ _ _ _ h.s⟩
theorem aqi(A:M)(L:List T)(k:Nat)(h:∀ t∈L,t.length≤1000000):KG A (L.take k)≤L.length*1065535:=by
 have h1:∀ l:List T,(∀ t∈l,t.length≤1000000)→KG A l≤l.length*1065535:=by
  intro l
  induction l with
  |nil=>exact fun _=>Ac _
  |cons x l ih=>
   intro hl;have h2:=ih (fun t ht=>hl t (DT _ ht));have h3:=hl x (by simp);have h4:=@ah0 Ae A x
   show x.length+(getV Ae A x).1.length+KG A l≤_
   rw[Br];omega
 refine Ap (h1 _ (fun t ht=>h t (List.mem_of_mem_take ht))) ?_;rw[AL];exact NC _ (Nat.min_le_right _ _)
theorem KE.top(h:KE w D mb db rr rb kb pm pd q1 q2 c1 c2 L1 L2 a b c W){D':Nat}(hD:W.heap.size≤D'):KE w D' mb db rr rb kb pm pd q1 q2 c1 c2 L1 L2 a b c W:=by
 obtain⟨h1,h2,h3,h4,h5,h6,h7,hl,-⟩:=h
 exact⟨h1,h2,h3,h4,h5,h6,h7,hl,DK (Ai h1) hD,DK (Ai h2) hD,DK (Ai h3) hD,DK (Ai h4) hD,DK (Ai h5) hD,fun k hk=>by
  obtain⟨cs,fr,h⟩:=BQ h6 hk;exact DK (Ai h) hD,fun k hk=>by
  obtain⟨cs,fr,h⟩:=BQ h7 hk;exact DK (Ai h) hD⟩
end
theorem uA{fn:Func}{q u:Tmp}(h:fn.results=#[.cell q 42,.tmp u])(tmps:Array Value)(w:World)(g:Nat)(a b c:Int)(hq:tmps.getD q undef=.pointer (some ⟨g,0,none⟩))(c0:w.cell? ⟨g,0,none⟩=some (.int .i64 a))(c1:w.cell? ⟨g,1,none⟩=some (.int .i64 b))(c2:w.cell? ⟨g,2,none⟩=some (.int .i64 c)):
  (results fn tmps).run prog w=.ok (.tuple #[.agg #[.int .i64 a,.int .i64 b,.int .i64 c],tmps.getD u undef]) w:=by
 rw[results_cell_tmp h,hq];go_simp
theorem rG{W:World}{rr:Nat}{a b c a2 b2 c2:Int}(h:W.heap[rr]?=some (.cells #[.int .i64 a,.int .i64 b,.int .i64 c] 42)):
  (((W.setCell ⟨rr,0,none⟩ (.int .i64 a2)).setCell ⟨rr,1,none⟩ (.int .i64 b2)).setCell ⟨rr,2,none⟩ (.int .i64 c2)).heap[rr]?=some (.cells #[.int .i64 a2,.int .i64 b2,.int .i64 c2] 42)∧A7 (fun j=>j=rr) W (((W.setCell ⟨rr,0,none⟩ (.int .i64 a2)).setCell ⟨rr,1,none⟩ (.int .i64 b2)).setCell ⟨rr,2,none⟩ (.int .i64 c2)):=by
 have h1:=BU W rr 0 _ _ (.int .i64 a2) h;have h2:=BU _ rr 1 _ _ (.int .i64 b2) h1;exact⟨BU _ rr 2 _ _ (.int .i64 c2) h2,(((A7.refl (fun j=>j=rr) W).setCell (p:=⟨rr,0,none⟩) (.inl rfl) _).setCell (p:=⟨rr,1,none⟩) (.inl rfl) _).setCell (p:=⟨rr,2,none⟩) (.inl rfl) _⟩
def nQ(w:World)(mb db rr rb kb pm pd:Nat)(q1 q2:Option Addr)(c1 c2 D fb:Nat)(L1 L2:List T)(a b c:Int)(V:World)(Q1:Nat→World→Prop)(Q:Nat→Int→World→Prop)(i:Value)(wr:World):Prop:=
 KE w D mb db rr rb kb pm pd q1 q2 c1 c2 L1 L2 a b c wr∧wr.heap[fb]?=some (.cells #[.func (.func 36) #[] #[.pointer (some ⟨db,0,none⟩),.pointer (some ⟨rb,0,none⟩)],.func (.func 38) #[] #[.pointer (some ⟨mb,0,none⟩),.pointer (some ⟨kb,0,none⟩)]] 95)∧
  ((i=.int .i64 0∧wr=V)∨(i=.int .i64 1∧Q1 D wr)∨(i=.int .i64 2∧Q D 0 wr))
def yf(w:World)(mb db rr rb kb pm pd:Nat)(q1 q2:Option Addr)(c1 c2 D:Nat)(A:M)(L1 L2:List T)(i:Value)(wr:World):Prop:=
 ∃ k:Nat,k≤L2.length∧i=.int .i64 (k:Int)∧KE w D mb db rr rb kb pm pd q1 q2 c1 c2 L1 L2 (L1.length:Int) (L2.length:Int) (KG A (L2.take k):Int) wr∧Bw w wr
theorem azl{w:World}{pm pd y:Nat}{A:M}{q:Option Addr}{cap:Nat}{roots:List T}{Q1:Nat→World→Prop}{Q:Nat→Int→World→Prop}(hm:Fb w pm y)(hd:GM w pd y)(hf:Lf w y A)(LC:ZW A)(hr:Cg w q roots)(Gi:roots.length≤1000000)
  (aic:∀ W q c,Bw w W→Cg W q (Nc both A roots)→Calls prog 37 #[.pointer (some ⟨pd,0,none⟩),.slice q (Nc both A roots).length c] W fun e w'=>∃ c,e=.returned (.int .i64 c)∧A7 (fun k=>k < w.heap.size) W w'∧(c=0→Q1 W.heap.size w')∧(c≠0→Q W.heap.size c w'))
  (hcut:∀ D W q c,Q1 D W→Cg W q (I6 both A roots)→Calls prog 39 #[.pointer (some ⟨pm,0,none⟩),.slice q (I6 both A roots).length c] W fun e w'=>∃ c,e=.returned (.int .i64 c)∧A7 (fun k=>k < w.heap.size∨D≤k) W w'∧Q D c w')
  (AP:∀ D c W W' k,w.heap.size≤k→k < D→AA W k 42→A7 (fun j=>j=k) W W'→Q D c W→Q D c W'):
  Calls prog 9 #[.pointer (some ⟨pm,0,none⟩),.pointer (some ⟨pd,0,none⟩),.slice q roots.length cap] w fun e w'=>∃ c D,e=.returned (.tuple #[VO A roots c,.int .i64 c])∧Q D c w':=by
 have HM:=Hi hm;have HD:=Hi hd;have HF:=Hi hf;have FO:=Hi LC;have HR:=Hi hr;have adT:=Hi aic;have Y0:=Hi hcut;have AR:=Hi AP;have Z7:=hm.lt;have aBH:=hd.lt;clear hm hd hf LC hr aic hcut AP;obtain⟨U,hU⟩:=ex (((w.alloc (.cells #[.pointer (some ⟨pm,0,none⟩)] 36)).alloc (.cells #[.pointer (some ⟨pd,0,none⟩)] 37)).alloc (.cells #[.int .i64 0,.int .i64 0,.int .i64 0] 42));obtain⟨u0,u1,u2,Vi,jS⟩:U.heap[w.heap.size]?=some (.cells #[.pointer (some ⟨pm,0,none⟩)] 36)∧U.heap[w.heap.size+1]?=some (.cells #[.pointer (some ⟨pd,0,none⟩)] 37)∧U.heap[w.heap.size+1+1]?=some (.cells #[.int .i64 0,.int .i64 0,.int .i64 0] 42)∧Bw w U∧U.heap.size=w.heap.size+3:=by
  have Mt:=AJ w (.cells #[.pointer (some ⟨pm,0,none⟩)] 36);have Bq:=Aw w (.cells #[.pointer (some ⟨pm,0,none⟩)] 36);have KX:=Aq w (.cells #[.pointer (some ⟨pm,0,none⟩)] 36);generalize w.alloc (.cells #[.pointer (some ⟨pm,0,none⟩)] 36)=V at*;have DI:=AJ V (.cells #[.pointer (some ⟨pd,0,none⟩)] 37);have Ad:=Aw V (.cells #[.pointer (some ⟨pd,0,none⟩)] 37);have MB:=Aq V (.cells #[.pointer (some ⟨pd,0,none⟩)] 37);generalize V.alloc (.cells #[.pointer (some ⟨pd,0,none⟩)] 37)=V1 at*;have EP:=AJ V1 (.cells #[.int .i64 0,.int .i64 0,.int .i64 0] 42);have A8:=Aw V1 (.cells #[.int .i64 0,.int .i64 0,.int .i64 0] 42);have Kl:=Aq V1 (.cells #[.int .i64 0,.int .i64 0,.int .i64 0] 42);rw[hU] at EP A8 Kl;rw[MB,KX] at EP;rw[KX] at DI;have jG:=(A8.block _ (Ai DI)).trans DI;have aaL:=(A8.block _ (DK (Ai Mt) Ad.size)).trans ((Ad.block _ (Ai Mt)).trans Mt);exact⟨aaL,jG,EP,Bq.trans ((Ad.trans (A8.mono Ad.size)).mono Bq.size),by omega⟩
 have aH:=Hi u0;have Jo:=Hi u1;have JV:=Hi u2;have D8:=Hi Vi;have HSU:=Hi jS;have yT:U.cell? ⟨w.heap.size,0,none⟩=some (.pointer (some ⟨pm,0,none⟩)):=cr u0;have o7:U.cell? ⟨w.heap.size+1,0,none⟩=some (.pointer (some ⟨pd,0,none⟩)):=cr u1;have Jn:=Hi (alx (cap:=cap) (HM.below Vi) (HD.below Vi) (HF.below Vi) FO (HR.below Vi) Gi);clear u0 u1 u2 Vi jS;go_enter func9,ntmps9;go_wp2_with fail;clear hU;refine Jn.mono ?_;rintro e w1⟨v1,v2,rfl,Kk,Cy,Ad⟩;obtain⟨q1,c1,rfl⟩:=Bg Kk;obtain⟨q2,c2,rfl⟩:=Bg Cy;have Ew:=Hi Kk;have BI:=Hi Cy;have HB1:=Hi Ad;have vM:=Hi (show ∃ L1 L2,Nc both A roots=L1∧I6 both A roots=L2 from⟨_,_,rfl,rfl⟩);have J3:=Hi (show ∀ t∈I6 both A roots,t.length≤1000000 from fun t ht=>Ap (FO.dG t (Et.1 ht).1) (by decide));have mI:=Hi (show(I6 both A roots).length≤1000000∧(Nc both A roots).length≤1000000 from⟨Ap (NB _ _) (by show(Bj Ae A).length≤_;rw[Re (K:=Ae) HF.up];exact FO.VK),Ap (NB _ _) (by show(Bj A9 A).length≤_;rw[Re (K:=A9) HF.up];exact FO.WK)⟩);have PK:=Hi (show ∀ c,VO A roots c=if c=0 then .agg #[.int .i64 ((Nc both A roots).length:Int),.int .i64 ((I6 both A roots).length:Int),.int .i64 (KG A (I6 both A roots):Int)] else .agg #[.int .i64 0,.int .i64 0,.int .i64 0] from fun c=>rfl);obtain⟨sv,Zk⟩:∃ sv:Int→Value,(fun c=>VO A roots c)=sv:=⟨_,rfl⟩;have abh:∀ c,VO A roots c=sv c:=fun c=>by rw[←Zk]
 clear Zk;simp only[abh] at PK;have xy:=Hi abh;clear abh vM;obtain⟨L1,Ng⟩:=ex (Nc both A roots);obtain⟨L2,bC⟩:=ex (I6 both A roots);rw[Ng] at Ew adT mI PK;rw[bC] at BI Y0 J3 mI PK;rw[Ng,bC];rw[Ng] at Kk;rw[bC] at Cy;clear Ng bC;have FY:=D8.trans (Ad.mono D8.size);obtain⟨V,hV⟩:=ex ((w1.alloc (.cells #[.slice q1 L1.length c1] 27)).alloc (.cells #[.slice q2 L2.length c2] 27))
 have FL:=Hi (show KE w V.heap.size w.heap.size (w.heap.size+1) (w.heap.size+1+1) w1.heap.size (w1.heap.size+1) pm pd q1 q2 c1 c2 L1 L2 0 0 0 V from by
  have Mt:=AJ w1 (.cells #[.slice q1 L1.length c1] 27);have Bq:=Aw w1 (.cells #[.slice q1 L1.length c1] 27);have KX:=Aq w1 (.cells #[.slice q1 L1.length c1] 27);generalize w1.alloc (.cells #[.slice q1 L1.length c1] 27)=V0 at*;have DI:=AJ V0 (.cells #[.slice q2 L2.length c2] 27);have GR:=Aw V0 (.cells #[.slice q2 L2.length c2] 27);rw[hV] at DI GR;have MB:V.heap.size=V0.heap.size+1:=by rw[←hV];exact Aq _ _
  have OM:Bw w1 V:=Bq.trans (GR.mono Bq.size);have aak:=Ad.trans (OM.mono Ad.size);have jS:=HSU.out;have LK:=Ad.size;rw[KX] at DI;have ajE:=C9 Kk OM;have ajG:=C9 Cy OM
  exact⟨(aak.block _ (Ai aH)).trans aH,(aak.block _ (Ai Jo)).trans Jo,(aak.block _ (Ai JV)).trans JV,(GR.block _ (Ai Mt)).trans Mt,DI,
   E9 ajE (by omega),E9 ajG (by omega),⟨by omega,by omega,by omega,by omega,by omega⟩,⟨by omega,by omega,by omega,by omega,by omega,fun k hk=>by
    obtain⟨cs,fr,h⟩:=BQ ajE hk;exact Ai h,fun k hk=>by
    obtain⟨cs,fr,h⟩:=BQ ajG hk;exact Ai h⟩⟩)
 have Lg:=Hi (show Bw w V from by rw[←hV];exact(FY.alloc FY.size _).alloc (by rw[Aq];have:=FY.size;omega) _);clear Kk Cy Ad yT o7 FY aH Jo JV HSU D8 Jn Ew BI HB1;go_wp2_with fail;obtain⟨mb,SA⟩:=ex (w.heap.size);obtain⟨db,X5⟩:=ex (w.heap.size+1);obtain⟨rr,ED⟩:=ex (w.heap.size+1+1);obtain⟨rb,hrb⟩:=ex (w1.heap.size);obtain⟨kb,Kg⟩:=ex (w1.heap.size+1);have RN:=Hi (show KE w V.heap.size mb db rr rb kb pm pd q1 q2 c1 c2 L1 L2 0 0 0 V from by rw[←SA,←X5,←ED,←hrb,←Kg];exact FL.out);rw[Kg,hrb,ED,X5,SA];clear Kg hrb ED X5 SA hV;have WJ:V.cell? ⟨rb,0,none⟩=some (.slice q1 L1.length c1):=cr RN.r;have TK:V.cell? ⟨kb,0,none⟩=some (.slice q2 L2.length c2):=cr RN.k;obtain⟨cs0,cs1,cs2,fs0,fs1,fs2⟩:=RN.lF;have DY:(V.setCell ⟨rr,0,none⟩ (.int .i64 (L1.length:Int))).cell? ⟨kb,0,none⟩=some (.slice q2 L2.length c2):=by
  have hu:=(A7.refl (fun j=>j=rr) V).setCell (p:=⟨rr,0,none⟩) (.inl rfl) (.int .i64 (L1.length:Int))
  have hk:=(hu.block kb (Ai RN.k) (fun e=>by
   have h1:=RN.k;rw[e,RN.s] at h1;injection h1 with h1
   injection h1 with _ h1
   exact absurd h1 (by decide))).trans RN.k
  rw[BA _ _ _ _ _ _ hk];rfl
 clear FL;go_region;obtain⟨D,zW⟩:=ex (V.heap.size);have h1:=BU V rr 0 _ _ (.int .i64 (L1.length:Int)) RN.s;have h2:=BU (V.setCell ⟨rr,0,none⟩ (.int .i64 (L1.length:Int))) rr 1 _ _ (.int .i64 (L2.length:Int)) h1;have CP:=(((A7.refl (fun j=>j=rr) V).setCell (p:=⟨rr,0,none⟩) (.inl rfl) (.int .i64 (L1.length:Int))).setCell (p:=⟨rr,1,none⟩) (.inl rfl) (.int .i64 (L2.length:Int))).drew
 have xz:=Hi (show KE w D mb db rr rb kb pm pd q1 q2 c1 c2 L1 L2 (L1.length:Int) (L2.length:Int) (KG A (L2.take 0):Int) ((V.setCell ⟨rr,0,none⟩ (.int .i64 (L1.length:Int))).setCell ⟨rr,1,none⟩ (.int .i64 (L2.length:Int))).drew from by
  rw[←zW];exact RN.set CP h2)
 have Ak:=Ca Lg CP (fun i e=>by rw[e];exact RN.lo.2.2.1) Lg.size;have Am:=Hi Ak;have HDE:=Hi (show((V.setCell ⟨rr,0,none⟩ (.int .i64 (L1.length:Int))).setCell ⟨rr,1,none⟩ (.int .i64 (L2.length:Int))).drew.heap.size=D from by rw[←zW];rw[World.size_drew,World.size_setCell,World.size_setCell]);clear h1 h2 CP Ak zW DY cs0 cs1 cs2 fs0 fs1 fs2 WJ TK;generalize ((V.setCell ⟨rr,0,none⟩ (.int .i64 (L1.length:Int))).setCell ⟨rr,1,none⟩ (.int .i64 (L2.length:Int))).drew=V3 at*;have TK:V3.cell? ⟨kb,0,none⟩=some (.slice q2 L2.length c2):=cr xz.k;clear RN Lg;go_wp2_with fail;have aC4:=mI.1;have JO:=Hi (show yf w mb db rr rb kb pm pd q1 q2 c1 c2 D A L1 L2 (.int .i64 0) V3 from⟨0,AB _,rfl,xz,Am⟩)
 go_loopw [40] (fun i wr=>yf w mb db rr rb kb pm pd q1 q2 c1 c2 D A L1 L2 i wr) (fun i _=>L2.length -(intOf i).toNat)
 case atStart=>exact JO.out
 case round=>
  obtain⟨k,hk,rfl,LJ,hb⟩:=hrel;have FL:=Hi LJ;have HB:=Hi hb;clear JO xz Am TK;by_cases hlt:k < L2.length
  ·obtain⟨a,Cu,c0⟩:=(Ea LJ.r2).index c2 k hlt;have Db:=J3 _ (Ci hlt);have BN:=Hi (show KG A (L2.take (k+1))=KG A (L2.take k)+(L2[k].length+(getV Ae A L2[k]).1.length) from by rw[Cw hlt,aqj]);have WZ:=aqi A L2 k (fun t ht=>J3 t ht);have hvl:=@ah0 Ae A L2[k];have aC3:=mI.1;generalize L2[k]=key at*;have HG:=Hi (ac7 (HM.below hb) (HF.pE hb) key Db);have YA:wr.cell? ⟨mb,0,none⟩=some (.pointer (some ⟨pm,0,none⟩)):=cr LJ.m;generalize getV Ae A key=V9 at*;obtain⟨b9,Ff⟩:=ex (KG A (L2.take k));rw[Ff] at FL BN WZ;clear LJ hb Ff;go_wp2_with fail;refine HG.mono ?_;rintro e w4⟨rfl,Ar⟩;have nD:=Hi (FL.below Ar);have AZ:=Hi (HB.trans (Ar.mono HB.size));obtain⟨yQ,yR,yS,zA,zB,zC⟩:=nD.lF;have FY:IntKind.i64.wrap ((key.length:Int)+(V9.1.length:Int))=(key.length:Int)+(V9.1.length:Int):=Ei _ (by omega);have Ns:IntKind.i64.wrap ((b9:Int)+((key.length:Int)+(V9.1.length:Int)))=(b9:Int)+((key.length:Int)+(V9.1.length:Int)):=Ei _ (by omega);have KY:=BU w4 rr 2 _ _ (.int .i64 ((b9:Int)+((key.length:Int)+(V9.1.length:Int)))) nD.s;have FX:=(A7.refl (fun j=>j=rr) w4).setCell (p:=⟨rr,2,none⟩) (.inl rfl) (.int .i64 ((b9:Int)+((key.length:Int)+(V9.1.length:Int))))
   have CU:=Hi (show yf w mb db rr rb kb pm pd q1 q2 c1 c2 D A L1 L2 (.int .i64 ((k:Int)+1)) (w4.setCell ⟨rr,2,none⟩ (.int .i64 ((b9:Int)+((key.length:Int)+(V9.1.length:Int))))) from
    ⟨k+1,by omega,by go_num,by
     rw[BN.out];refine nD.set FX ?_;rw[show((b9+(key.length+V9.1.length):Nat):Int)=(b9:Int)+((key.length:Int)+(V9.1.length:Int)) by omega];exact KY,Ca AZ FX (fun i e=>by rw[e];exact nD.lo.2.2.1) AZ.size⟩)
   clear Ar KY FX;go_wp2_with fail;go_roundw
   case rel=>exact CU.out
   case measure=>
    show L2.length -((k:Int)+1).toNat < L2.length -((k:Int)).toNat
    omega
  ·obtain rfl:k=L2.length:=(by omega);obtain⟨QV,OP⟩:=ex (KG A (L2.take L2.length));have vE:=Hi (show KG A L2=QV from by rw[←OP,CY]);rw[OP] at LJ;have FL:=Hi LJ;clear LJ hb OP hlt hk;go_wp2_with fail;have R7:=AJ wr (.cells #[.func (.func 36) #[] #[.pointer (some ⟨db,0,none⟩),.pointer (some ⟨rb,0,none⟩)],.func (.func 38) #[] #[.pointer (some ⟨mb,0,none⟩),.pointer (some ⟨kb,0,none⟩)]] 95);have Bf:=Aw wr (.cells #[.func (.func 36) #[] #[.pointer (some ⟨db,0,none⟩),.pointer (some ⟨rb,0,none⟩)],.func (.func 38) #[] #[.pointer (some ⟨mb,0,none⟩),.pointer (some ⟨kb,0,none⟩)]] 95);obtain⟨V5,hV5⟩:=ex (wr.alloc (.cells #[.func (.func 36) #[] #[.pointer (some ⟨db,0,none⟩),.pointer (some ⟨rb,0,none⟩)],.func (.func 38) #[] #[.pointer (some ⟨mb,0,none⟩),.pointer (some ⟨kb,0,none⟩)]] 95));rw[hV5] at R7 Bf ⊢;have Ck:=Hi (HB.trans (Bf.mono HB.size));have aeH:=Hi ((FL.below Bf).top (Ac V5.heap.size));have Gx:w.heap.size≤wr.heap.size:=HB.size;have hfh:=Ai R7;obtain⟨fb,OU⟩:=ex (wr.heap.size);rw[OU] at R7 Gx hfh ⊢;obtain⟨D5,zV⟩:=ex (V5.heap.size);rw[zV] at aeH hfh;have mE:=Hi zV;have HN5:=Hi R7;clear R7 Bf hV5 OU zV;have aBJ:∀ args w,(callFunc 36 args).run prog w=.ok (.enter 36 args) w:=enters_of func36 (by kernel_rfl) rfl;have aBK:∀ args w,(callFunc 38 args).run prog w=.ok (.enter 38 args) w:=enters_of func38 (by kernel_rfl) rfl
   have Ba:∀ W,(Instr.indexAt 96 (.slice (some ⟨fb,0,none⟩) 2 2) (.int .i64 0)).run prog W=.ok (.pointer (some ⟨fb,0,none⟩)) W:=fun W=>Hr prog _ 95 underlying96 1 (by kernel_rfl) ⟨fb,0,none⟩ 2 2 0 (by omega) W
   have hi1:∀ W,(Instr.indexAt 96 (.slice (some ⟨fb,0,none⟩) 2 2) (.int .i64 1)).run prog W=.ok (.pointer (some ⟨fb,1,none⟩)) W:=fun W=>Hr prog _ 95 underlying96 1 (by kernel_rfl) ⟨fb,0,none⟩ 2 2 1 (by omega) W
   have JO:=Hi (show nQ w mb db rr rb kb pm pd q1 q2 c1 c2 D5 fb L1 L2 (L1.length:Int) (L2.length:Int) (QV:Int) V5 Q1 Q (.int .i64 0) V5 from⟨aeH,HN5,.inl ⟨rfl,rfl⟩⟩);clear FL HB
   go_loopw [67] (fun i wr=>nQ w mb db rr rb kb pm pd q1 q2 c1 c2 D5 fb L1 L2 (L1.length:Int) (L2.length:Int) (QV:Int) V5 Q1 Q i wr) (fun i _=>2 -(intOf i).toNat)
   case atStart=>exact JO.out
   case round=>
    obtain⟨LJ,OW,atJ⟩:=hrel;have FL:=Hi LJ;have QG:=Hi OW;have UY:wr.cell? ⟨fb,0,none⟩=some (.func (.func 36) #[] #[.pointer (some ⟨db,0,none⟩),.pointer (some ⟨rb,0,none⟩)]):=cr OW;have UZ:wr.cell? ⟨fb,1,none⟩=some (.func (.func 38) #[] #[.pointer (some ⟨mb,0,none⟩),.pointer (some ⟨kb,0,none⟩)]):=cr OW;have aW:wr.cell? ⟨db,0,none⟩=some (.pointer (some ⟨pd,0,none⟩)):=cr LJ.d;have YA:wr.cell? ⟨mb,0,none⟩=some (.pointer (some ⟨pm,0,none⟩)):=cr LJ.m;have WJ:wr.cell? ⟨rb,0,none⟩=some (.slice q1 L1.length c1):=cr LJ.r;have TK:wr.cell? ⟨kb,0,none⟩=some (.slice q2 L2.length c2):=cr LJ.k;clear JO LJ OW;rcases atJ with⟨rfl,hwV⟩|⟨rfl,Ef⟩|⟨rfl,CV⟩
    ·have HWV:=Hi hwV;have W9:=Hi (azh aW WJ (adT wr q1 c1 (by rw[hwV];exact Ck.out) (Ea FL.r1)));clear hwV;go_wp2_with fail;refine W9.mono ?_;rintro e w6⟨c,rfl,IQ,rR,qV⟩;have PL:=Hi (FL.upd IQ (fun k h1 _ f=>Nat.lt_irrefl _ (DK f h1)));have vQ:=Hi ((IQ.block fb (Ai QG) (fun f=>Nat.lt_irrefl _ (DK f Gx))).trans QG);rw[HWV.out,mE.out] at rR qV;by_cases hc:c=0
     ·subst hc;have RJ:=Hi (rR rfl);have CU:=Hi (show nQ w mb db rr rb kb pm pd q1 q2 c1 c2 D5 fb L1 L2 (L1.length:Int) (L2.length:Int) (QV:Int) V5 Q1 Q (.int .i64 1) w6 from⟨PL,vQ,.inr (.inl ⟨rfl,RJ⟩)⟩);clear IQ rR qV UY UZ aW YA WJ TK;go_wp2_with fail;go_roundw
      case rel=>exact CU.out
      case measure=>show 2 -(1:Int).toNat < 2 -(0:Int).toNat;decide
     ·have RJ:=Hi (qV hc);clear IQ rR qV UY UZ aW YA WJ TK;have hcb:(c == 0)=false:=H9.2 hc;obtain⟨yQ,yR,yS,zA,zB,zC⟩:=PL.lF;have hz:=rG (a2:=0) (b2:=0) (c2:=0) PL.s;have gL:=Hi (AR D5 c w6 _ rr PL.lo.2.2.1 PL.hi.2.2.1 ⟨_,_,PL.s⟩ hz.2 RJ);have KZ:=hz.1;have YC:(((w6.setCell ⟨rr,0,none⟩ (.int .i64 0)).setCell ⟨rr,1,none⟩ (.int .i64 0)).setCell ⟨rr,2,none⟩ (.int .i64 0)).cell? ⟨rr,0,none⟩=some (.int .i64 0):=cr KZ;have YD:(((w6.setCell ⟨rr,0,none⟩ (.int .i64 0)).setCell ⟨rr,1,none⟩ (.int .i64 0)).setCell ⟨rr,2,none⟩ (.int .i64 0)).cell? ⟨rr,1,none⟩=some (.int .i64 0):=cr KZ;have YE:(((w6.setCell ⟨rr,0,none⟩ (.int .i64 0)).setCell ⟨rr,1,none⟩ (.int .i64 0)).setCell ⟨rr,2,none⟩ (.int .i64 0)).cell? ⟨rr,2,none⟩=some (.int .i64 0):=cr KZ;have Ll:=Hi (show sv c=.agg #[.int .i64 0,.int .i64 0,.int .i64 0] from by rw[PK.out,Aa hc]);clear hz KZ hc PK;go_wp2_with fail;refine El (v:=.tuple #[.agg #[.int .i64 0,.int .i64 0,.int .i64 0],.int .i64 c]) (uA results9 _ _ rr 0 0 0 (by rfl) YC YD YE) rfl ?_;exact⟨c,D5,by rw[xy.out,Ll.out],gL⟩
    ·have NG:=Hi (azi YA TK (Y0 D5 wr q2 c2 Ef (Ea FL.r2)));clear Ef;go_wp2_with fail;refine NG.mono ?_;rintro e w6⟨c,rfl,IQ,jN⟩;have PL:=Hi (FL.upd IQ (fun k h1 h2 f=>by omega));have vQ:=Hi ((IQ.block fb (Ai QG) (fun f=>by omega)).trans QG);have RJ:=Hi jN;by_cases hc:c=0
     ·subst hc;have CU:=Hi (show nQ w mb db rr rb kb pm pd q1 q2 c1 c2 D5 fb L1 L2 (L1.length:Int) (L2.length:Int) (QV:Int) V5 Q1 Q (.int .i64 2) w6 from⟨PL,vQ,.inr (.inr ⟨rfl,RJ⟩)⟩);clear IQ jN UY UZ aW YA WJ TK;go_wp2_with fail;go_roundw
      case rel=>exact CU.out
      case measure=>show 2 -(2:Int).toNat < 2 -(1:Int).toNat;decide
     ·clear IQ jN UY UZ aW YA WJ TK;have hcb:(c == 0)=false:=H9.2 hc;obtain⟨yQ,yR,yS,zA,zB,zC⟩:=PL.lF;have hz:=rG (a2:=0) (b2:=0) (c2:=0) PL.s;have gL:=Hi (AR D5 c w6 _ rr PL.lo.2.2.1 PL.hi.2.2.1 ⟨_,_,PL.s⟩ hz.2 RJ);have KZ:=hz.1;have YC:(((w6.setCell ⟨rr,0,none⟩ (.int .i64 0)).setCell ⟨rr,1,none⟩ (.int .i64 0)).setCell ⟨rr,2,none⟩ (.int .i64 0)).cell? ⟨rr,0,none⟩=some (.int .i64 0):=cr KZ;have YD:(((w6.setCell ⟨rr,0,none⟩ (.int .i64 0)).setCell ⟨rr,1,none⟩ (.int .i64 0)).setCell ⟨rr,2,none⟩ (.int .i64 0)).cell? ⟨rr,1,none⟩=some (.int .i64 0):=cr KZ;have YE:(((w6.setCell ⟨rr,0,none⟩ (.int .i64 0)).setCell ⟨rr,1,none⟩ (.int .i64 0)).setCell ⟨rr,2,none⟩ (.int .i64 0)).cell? ⟨rr,2,none⟩=some (.int .i64 0):=cr KZ;have Ll:=Hi (show sv c=.agg #[.int .i64 0,.int .i64 0,.int .i64 0] from by rw[PK.out,Aa hc]);clear hz KZ hc PK;go_wp2_with fail;refine El (v:=.tuple #[.agg #[.int .i64 0,.int .i64 0,.int .i64 0],.int .i64 c]) (uA results9 _ _ rr 0 0 0 (by rfl) YC YD YE) rfl ?_;exact⟨c,D5,by rw[xy.out,Ll.out],gL⟩
    ·obtain⟨yQ,yR,yS,zA,zB,zC⟩:=FL.lF;have hz:=rG (a2:=(L1.length:Int)) (b2:=(L2.length:Int)) (c2:=(QV:Int)) FL.s;have gL:=Hi (AR D5 0 wr _ rr FL.lo.2.2.1 FL.hi.2.2.1 ⟨_,_,FL.s⟩ hz.2 CV);have KZ:=hz.1;have YC:(((wr.setCell ⟨rr,0,none⟩ (.int .i64 (L1.length:Int))).setCell ⟨rr,1,none⟩ (.int .i64 (L2.length:Int))).setCell ⟨rr,2,none⟩ (.int .i64 (QV:Int))).cell? ⟨rr,0,none⟩=some (.int .i64 (L1.length:Int)):=cr KZ;have YD:(((wr.setCell ⟨rr,0,none⟩ (.int .i64 (L1.length:Int))).setCell ⟨rr,1,none⟩ (.int .i64 (L2.length:Int))).setCell ⟨rr,2,none⟩ (.int .i64 (QV:Int))).cell? ⟨rr,1,none⟩=some (.int .i64 (L2.length:Int)):=cr KZ;have YE:(((wr.setCell ⟨rr,0,none⟩ (.int .i64 (L1.length:Int))).setCell ⟨rr,1,none⟩ (.int .i64 (L2.length:Int))).setCell ⟨rr,2,none⟩ (.int .i64 (QV:Int))).cell? ⟨rr,2,none⟩=some (.int .i64 (QV:Int)):=cr KZ;have Ll:=Hi (show sv 0=.agg #[.int .i64 (L1.length:Int),.int .i64 (L2.length:Int),.int .i64 (QV:Int)] from by rw[PK.out,Ab rfl,vE.out]);clear hz KZ CV PK UY UZ aW YA WJ TK;go_wp2_with fail;refine El (v:=.tuple #[.agg #[.int .i64 (L1.length:Int),.int .i64 (L2.length:Int),.int .i64 (QV:Int)],.int .i64 0]) (uA results9 _ _ rr _ _ _ (by rfl) YC YD YE) rfl ?_;exact⟨0,D5,by rw[xy.out,Ll.out],gL⟩
def Ct(l:M):Nat:=(l.map fun q=>4+q.1.length+q.2.length).sum
theorem oN(l:M):rowLen (flat l)=2+Ct l:=by
 unfold rowLen Ct
 induction l with
 |nil=>rfl
 |cons p l ih=>
  rw[WN,BL,BL,Dq,Dq,BL,Dq];omega
theorem axZ{K:Kind}{name d:T}{l:M}(h:K.Df name d=some l):Ct l≤d.length:=by
 obtain⟨_,_,_,s,h4,h5⟩:=Pj h;unfold Fh at h4;split at h4
 ·cases ht:textsE (flat l) with
  |none=>rw[ht] at h4;cases h4
  |some a=>
   rw[ht] at h4;simp only[Ej,BX] at h4;have h6:=VP ht;rw[oN] at h6;have h7:d.length=s.length+4:=(by rw[h5];unfold Crc.EW;rw[Au,Crc.BK]);rw[h7,←h4,Au];omega
 ·cases h4
theorem oD(K:Kind)(A:M):Ct (Ed K A)≤(A.map cost).sum:=by
 induction A with
 |nil=>exact Ac _
 |cons p A ih=>
  have e:Ed K (p :: A)=(if K.ours p.1=true then(K.Df p.1 p.2).getD [] else[])++Ed K A:=rfl;rw[e];unfold Ct at ih ⊢;rw[CF,JH,BL,Dq];have h1:((if K.ours p.1=true then(K.Df p.1 p.2).getD [] else[]).map fun q:T×T=>4+q.1.length+q.2.length).sum≤cost p:=by
   unfold cost;split
   ·cases hr:K.Df p.1 p.2 with
    |none=>exact AB _
    |some l=>
     have:=axZ hr;unfold Ct at this
     show((l.map fun q:T×T=>4+q.1.length+q.2.length).sum)≤_
     omega
   ·exact AB _
  omega
theorem ze{l:M}{q:T×T}(h:q∈l):4+q.1.length+q.2.length≤Ct l:=by
 induction l with
 |nil=>simp at h
 |cons x l ih=>
  show _≤(4+x.1.length+x.2.length)+Ct l
  rcases Bt.1 h with rfl|h
  ·omega
  ·have:=ih h;omega
theorem iy(l:M):4*l.length+(l.map fun p=>p.2.length).sum≤Ct l:=by
 induction l with
 |nil=>exact Ac _
 |cons x l ih=>
  show _≤(4+x.1.length+x.2.length)+Ct l
  rw[Br,BL,Dq];omega
theorem eu:∀ {l:List T} {a:T},textsE l=some a→∀ t∈l,t.length≤65535
 |[],_,_,t,h=>by simp at h
 |x :: l,a,h,t,ht=>by
  simp only[textsE] at h;cases h1:DJ x with
  |none=>rw[h1] at h;cases h
  |some y=>
   cases h4:textsE l with
   |none=>rw[h1,h4] at h;cases h
   |some z=>
    rcases Bt.1 ht with rfl|ht
    ·unfold DJ at h1;split at h1
     ·assumption
     ·cases h1
    ·exact eu h4 t ht
theorem axW{s:T}{l:List T}(h:CW s=some l):∀ t∈l,t.length≤65535:=by
 have h2:=kU h;unfold FZ at h2;split at h2
 ·cases ht:textsE l with
  |none=>rw[ht] at h2;cases h2
  |some a=>exact eu ht
 ·cases h2
theorem arS{w:World}{b y n N N':Nat}{bl:Nat→Prop}{A A':M}(h:Ti w b y bl n N A A')(hN:N≤N'):Ti w b y bl n N' A A':=by
 obtain⟨D,fp,m,x,gv,F,h1,h2,h3,h4,h5,h6,h7,h8,h9,Ij⟩:=h
 exact⟨D,fp,m,x,gv,F,h1,h2,h3,h4,h5,h6,h7,h8,fun keep=>by
  obtain⟨F',D',q1,q2,q3,q4⟩:=h9 keep;exact⟨F',D',q1,q2,Ap q3 hN,q4⟩,Ij⟩
theorem agr{A:M}(h:used A≤100000):ZW A:=by
 have hm:=oD Ae A;have hd:=oD A9 A;have hu:(A.map cost).sum≤100000:=by unfold used at h;omega
 have Mr:=iy (Ed Ae A);have Nj:=iy (Ed A9 A);have hk:=avF (Ed A9 A);refine⟨by omega,by omega,by omega,fun t ht=>?_,fun t ht=>?_,fun t ht=>?_⟩
 ·unfold Bj Dx at ht;rw[Eg] at ht;obtain⟨p,hp,rfl⟩:=Bz.1 ht;have:=ze hp;omega
 ·unfold Bj Dx at ht;rw[Eg] at ht;obtain⟨p,hp,rfl⟩:=Bz.1 ht;have:=ze hp;omega
 ·unfold EF at ht;obtain⟨p,hp,ht⟩:=MM.1 ht;cases hr:CW p.2 with
  |none=>rw[hr] at ht;simp at ht
  |some l=>
   rw[hr] at ht;exact Ap (axW hr t ht) (by decide)
theorem aA1{F:M}(hu:Up F){k d:T}(hg:get F k=some d):used (del k F)+(8+k.length+d.length)=used F:=by
 have hm:=get_some hg;have e:(put k d F)=F:=ZQ (hu.put _ _) hu fun p=>by
  rw[SV hu];constructor
  ·rintro(rfl|⟨h,_⟩)
   ·exact hm
   ·exact h
  ·intro hp;by_cases e:p.1=k
   ·refine .inl ?_;have h1:=get_mem hu (show(p.1,p.2)∈F from hp);rw[e,hg] at h1;injection h1 with h1
    rw[←e,h1]
   ·exact .inr ⟨hp,e⟩
 have:=((ZF (v:=d) hu k).map cost).sum_nat;rw[e,BL,Dq] at this;unfold used;unfold cost at this ⊢;simp only at this;omega
theorem anT:∀ {l:List Aj} {F:M},Up F→(l.map (·.name)).Nodup→(∀ c∈l,∃ d,get F c.name=some d∧c.data.length≤d.length)→Fx l≤used F
 |[],F,_,_,_=>AB _
 |c :: l,F,hu,hn,h=>by
  obtain⟨n1,n2⟩:=JF.1 hn;obtain⟨d,h1,h2⟩:=h c (by simp)
  have h3:=anT (F:=del c.name F) (hu.del _) n2 (fun x hx=>by
   obtain⟨e,h3,h4⟩:=h x (DT _ hx);have hne:x.name≠c.name:=fun e=>n1 (show c.name∈l.map (·.name) from by rw[←e];exact Gm hx)
   exact⟨e,by rw[pq hu,Aa hne,h3],h4⟩)
  have h4:=aA1 hu h1
  show(8+c.name.length+c.data.length)+Fx l≤_
  omega
theorem anS{K:Kind}{A:M}{ks:List T}(hu:Up A)(hg:Fil.Good A)(ht:There K A ks):Fx (EM K A ks)≤used A:=by
 refine anT hu (by rw[il];exact ZI _) fun c hc=>?_
 unfold EM at hc;obtain⟨name,hn,rfl⟩:=Bz.1 hc;obtain⟨d,l,h1,_,_,h4,_⟩:=iq hg ht hn;exact⟨d,by rw[om];exact h1,h4⟩
theorem afZ{K:Kind}{A:M}{ks:List T}:(EM K A ks).length≤ks.length:=by
 unfold EM;rw[Cf];have:=Un (ks.map K.nm);rwa[Cf] at this
theorem alb{w V V':World}{bl Bu:Nat→Prop}(h1:A7 (Gt w bl) w V)(h2:A7 (Gt V Bu) V V')(hb:∀ k,Bu k→bl k∨w.heap.size≤k):A7 (Gt w bl) w V':=
 h1.trans h2 (fun k hk=>by
  by_cases hl:w.heap.size≤k
  ·exact .inr hl
  ·refine .inl ?_;have NY:bl k:=(hb k hk.1).elim id (fun e=>absurd e hl);by_cases hn:Gt w bl k
   ·exact hn
   ·refine⟨NY,fun t ht=>?_⟩;obtain⟨cs,fr,hh⟩:=ht;exact hk.2 t ⟨cs,fr,(h1.block k (by omega) hn).trans hh⟩)
theorem acd{w W V:World}{bl:Nat→Prop}(hb:Bw w W)(h:A7 (Gt W bl) W V):A7 (Gt w bl) w V:=
 alb (A7.of_below (F:=Gt w bl) hb) h (fun k hk=>.inl hk)
def af8(fz:Bool)(w:World)(b y n N:Nat)(bl Bu:Nat→Prop)(A:M)(roots:List T)(c:Int)(V:World):Prop:=
 A7 (Gt w bl) w V∧((c=0∧EJ fz V b y Bu n (N+2) (Iu both A roots))∨(fz=true∧c=40∧(Ti V b y Bu n (N+2) A (LU both A roots)∨Ti V b y Bu n (N+2) (LU both A roots) (Iu both A roots))))
theorem akR{K:Kind}{A:M}:made A (EM K A [])=A:=by
 unfold EM;rw[List.map_nil,tQ List.Pairwise.nil];rfl
section
variable {fz:Bool}{w:World}{b y n N:Nat}{bl:Nat→Prop}{A:M}
theorem ase{pd:Nat}{q:Option Addr}{cap:Nat}{ks:List T}(h:EJ fz w b y bl n N A)(hN:N < 1000000000)(hu:used A≤100000)(hd:GM w pd y)(hk:Cg w q ks)(hl:ks.length≤100000)(ht:There A9 A ks):
  Calls prog 37 #[.pointer (some ⟨pd,0,none⟩),.slice q ks.length cap] w fun e w'=>∃ c,e=.returned (.int .i64 c)∧∃ Bu,Tj fz w' b y Bu n (N+1) A (0,made A (EM A9 A ks)) c∧A7 (Gt w bl) w w'∧∀ k,Bu k→bl k∨w.heap.size≤k:=by
 obtain⟨u1,u2,u3,-,-⟩:=h.up;obtain⟨d1,d2,-,-⟩:=oo I5 u1 u2 u3 ht;refine aqY (Q:=fun c w'=>∃ Bu,Tj fz w' b y Bu n (N+1) A (0,made A (EM A9 A ks)) c∧A7 (Gt w bl) w w'∧∀ k,Bu k→bl k∨w.heap.size≤k) hd (iF h) u2 hk hl ht (fun W hW=>oW (h.below hW)) (fun e w' hw=>?_) (fun W q c hW Vl=>?_)
 ·subst e;rw[akR];exact⟨bl,.inl ⟨rfl,(h.below hw).more (Nat.le_succ _)⟩,A7.of_below hw,fun k hk=>.inl hk⟩
 ·refine(agH (h.below hW) hN Vl (Ap afZ hl) (by have:=anS u1 u2 ht;omega)).mono ?_;rintro e w'⟨c,rfl,Bu,h1,h2,h3⟩;rw[d1,d2] at h1;exact⟨c,rfl,Bu,h1,acd hW h2,fun k hk=>(h3 k hk).imp id (fun e=>Ap hW.size e)⟩
theorem asf{pm:Nat}{q:Option Addr}{cap:Nat}{ks:List T}(h:EJ fz w b y bl n N A)(hN:N < 1000000000)(hu:used A≤100000)(hd:Fb w pm y)(hk:Cg w q ks)(hl:ks.length≤100000)(ht:There Ae A ks):
  Calls prog 39 #[.pointer (some ⟨pm,0,none⟩),.slice q ks.length cap] w fun e w'=>∃ c,e=.returned (.int .i64 c)∧∃ Bu,Tj fz w' b y Bu n (N+1) A (0,made A (EM Ae A ks)) c∧A7 (Gt w bl) w w'∧∀ k,Bu k→bl k∨w.heap.size≤k:=by
 obtain⟨u1,u2,u3,-,-⟩:=h.up;obtain⟨d1,d2,-,-⟩:=oo MI u1 u2 u3 ht;refine awk (Q:=fun c w'=>∃ Bu,Tj fz w' b y Bu n (N+1) A (0,made A (EM Ae A ks)) c∧A7 (Gt w bl) w w'∧∀ k,Bu k→bl k∨w.heap.size≤k) hd (iF h) u2 hk hl ht (fun W hW=>oW (h.below hW)) (fun e w' hw=>?_) (fun W q c hW Vl=>?_)
 ·subst e;rw[akR];exact⟨bl,.inl ⟨rfl,(h.below hw).more (Nat.le_succ _)⟩,A7.of_below hw,fun k hk=>.inl hk⟩
 ·refine(agH (h.below hW) hN Vl (Ap afZ hl) (by have:=anS u1 u2 ht;omega)).mono ?_;rintro e w'⟨c,rfl,Bu,h1,h2,h3⟩;rw[d1,d2] at h1;exact⟨c,rfl,Bu,h1,acd hW h2,fun k hk=>(h3 k hk).imp id (fun e=>Ap hW.size e)⟩
theorem agI{pm pd:Nat}{q:Option Addr}{cap:Nat}{roots:List T}(h:EJ fz w b y bl n N A)(hb:∀ k,bl k→k < w.heap.size)(hN:N+2 < 1000000000)(hu:used A≤100000)(hm:Fb w pm y)(hd:GM w pd y)(hr:Cg w q roots)(Gi:roots.length≤1000000):
  Calls prog 9 #[.pointer (some ⟨pm,0,none⟩),.pointer (some ⟨pd,0,none⟩),.slice q roots.length cap] w fun e w'=>∃ c Bu,e=.returned (.tuple #[VO A roots c,.int .i64 c])∧af8 fz w b y n N bl Bu A roots c w'∧∀ k,Bu k→bl k∨w.heap.size≤k:=by
 obtain⟨u1,u2,u3,u4,u5⟩:=h.up;have Nn:Cm.May n A:=⟨u1,u2,u3⟩;have MB:=XM (roots:=roots) Mf Nn;have av8:used (LU both A roots)≤100000:=Ap (oo I5 u1 u2 u3 (pF (roots:=roots) Mf Nn)).2.2.1 hu;have LC:=agr hu;have hrn:(Nc both A roots).length≤100000:=by
  have h1:=NB (fun r=>decide (r∉roots)) (N9 both A);have h2:(N9 both A).length=(Ed A9 A).length:=Re (K:=A9) u1;have h3:=iy (Ed A9 A);have h4:=oD A9 A;have h5:(A.map cost).sum≤100000:=by unfold used at hu;omega
  show((N9 both A).filter fun r=>decide (r∉roots)).length≤_
  omega
 have Vp:(I6 both A roots).length≤100000:=by
  have h1:=NB (fun k=>decide (¬ Gs both A roots k)) (VJ both A);have h2:(VJ both A).length=(Ed Ae A).length:=Re (K:=Ae) u1;have h3:=iy (Ed Ae A);have h4:=oD Ae A;have h5:(A.map cost).sum≤100000:=by unfold used at hu;omega
  show((VJ both A).filter fun k=>decide (¬ Gs both A roots k)).length≤_
  omega
 refine(azl (cap:=cap) (Q1:=fun D V=>A7 (Gt w bl) w V∧(w.heap.size≤D∧D≤V.heap.size)∧∃ Bu,EJ fz V b y Bu n (N+1) (LU both A roots)∧(∀ k,Bu k→bl k∨D≤k)∧Fb V pm y)
  (Q:=fun D c V=>w.heap.size≤D∧∃ Bu,af8 fz w b y n N bl Bu A roots c V∧∀ k,Bu k→bl k∨D≤k) hm hd (agz h) LC hr Gi ?_ ?_ ?_).mono ?_
 ·intro W q c hW hk;refine(ase (h.below hW) (by omega) hu (hd.below hW) hk hrn (pF Mf Nn)).mono ?_;rintro e w'⟨c,rfl,Bu,h1,h2,h3⟩;have h4:A7 (Gt w bl) w w':=acd hW h2;refine⟨c,rfl,h2.mono (fun k hk=>hb k hk.1),fun hc=>?_,fun hc=>?_⟩
  ·subst hc;obtain⟨_,g2⟩:=h1.zero;refine⟨h4,⟨hW.size,h2.size⟩,Bu,g2,h3,(hm.below hW).upd h2 (fun f=>f.not ⟨_,_,hm.below hW⟩ (by decide))⟩
  ·rcases h1 with⟨e1,_⟩|⟨e1,e2,_,e4⟩
   ·exact absurd e1 hc
   ·exact⟨hW.size,Bu,⟨h4,.inr ⟨e1,e2,.inl (arS e4 (by omega))⟩⟩,h3⟩
 ·rintro D W q c ⟨g1,⟨g2,g6⟩,Bu,g3,g4,g5⟩ hk;refine(asf g3 (by omega) av8 g5 hk Vp (zI Mf Nn)).mono ?_;rintro e w'⟨c,rfl,bl2,h1,h2,h3⟩;refine⟨c,rfl,h2.mono (fun k hk=>(g4 k hk.1).imp (hb k) id),g2,bl2,⟨alb g1 h2 (fun k hk=>(g4 k hk).imp id (fun e=>Ap g2 e)),?_⟩,fun k hk=>?_⟩
  ·rcases h1 with⟨e1,e2⟩|⟨e1,e2,_,e4⟩
   ·exact .inl ⟨e1,e2⟩
   ·exact .inr ⟨e1,e2,.inr e4⟩
  ·rcases h3 k hk with e|e
   ·exact g4 k e
   ·exact .inr (Ap g6 e)
 ·rintro D c W W' k h1 h2 h3 h4 ⟨g1,Bu,⟨g2,g3⟩,g4⟩;have hs:∀ j,AA W j 9→¬ j=k:=fun j hj e=>by
   obtain⟨cs,fr,hj⟩:=hj;obtain⟨cs2,fr2,hk⟩:=h3;rw[e,hk] at hj;injection hj with hj
   injection hj with _ hj
   exact absurd hj (by decide)
  have hP:∀ j,Bu j→¬ j=k:=fun j hj e=>by
   rcases g4 j hj with f|f
   ·have:=hb j f;omega
   ·omega
  refine⟨g1,Bu,⟨g2.trans h4 (fun i e=>.inr (by rw[e];exact h1)),?_⟩,g4⟩;rcases g3 with⟨e1,e2⟩|⟨e1,e2,e3⟩
  ·exact .inl ⟨e1,e2.upd h4 hs hP⟩
  ·exact .inr ⟨e1,e2,e3.imp (fun e=>e.upd h4 hs hP) (fun e=>e.upd h4 hs hP)⟩
 ·rintro e w' ⟨c,D,rfl,g1,Bu,g2,g3⟩;exact⟨c,Bu,rfl,g2,fun k hk=>(g3 k hk).imp id (fun e=>Ap g1 e)⟩
end
end IE
end Go.Proofs.YtmbbhdebddbhoaaGreat
