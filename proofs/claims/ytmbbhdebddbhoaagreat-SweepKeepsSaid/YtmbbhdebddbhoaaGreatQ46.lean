/- SwK -/
import Derived.Test.YtmbbhdebddbhoaaGreatQ45
import Derived.IntWalk
set_option maxHeartbeats 16000000
set_option maxRecDepth 100000
set_option linter.all false
namespace Go.Proofs.YtmbbhdebddbhoaaGreat
open Tryz
namespace Hv
open Go.RowKit Go.Maps
open Wal Fil Prs Kp BH Hex Sha Al Mem Dep GL
open Man hiding T
structure Co(w w':World):Prop where
 Tg:∀ base v l,AP w base v l→AP w' base v l
 uses:∀ base v us L,Hr w base v us L→Hr w' base v us L
 row:L9 w w'
section
variable {w w' w1:World}{B:Nat}{w0:World}{b y n N pm pd:Nat}{A A':M}{L:List (Nat×Obj)}
theorem Co.upd{bl:Nat→Prop}(hu:A7 (FB w bl) w w'):Co w w':=
 ⟨fun _ _ _ h=>AL h hu (fun _ hg e=>e.not (Bi h hg) (by decide)),fun _ _ _ _ h=>h.upd hu (fun k hk e=>e.not hk (by decide)) (fun k hk e=>e.not hk (by decide)),L9.upd hu⟩
theorem Co.below(hb:Bw w w'):Co w w':=
 ⟨fun _ _ _ h=>AL h (ub hb) (fun _ _ f=>f),fun _ _ _ _ h=>h.below hb,L9.below hb⟩
theorem Co.trans(h:Co w w1)(k:Co w1 w'):Co w w':=
 ⟨fun a v l r=>k.Tg a v l (h.Tg a v l r),fun a v l L r=>k.uses a v l L (h.uses a v l L r),h.row.trans k.row⟩
theorem aeE{n:Nat}(h:n≤200):Br n≤100000:=by unfold Br sz lg;omega
theorem P8(h:Bl B w0 w b y n N A L):I8 w y A:=by
 obtain⟨bl,h1,_,_⟩:=h.pick;exact aaR h1
theorem N8(h:Bl B w0 w b y n N A L)(hn:n≤200):VK A:=acC (Ah (U5 h).2.2 (aeE hn))
theorem fD{q:Option Addr}{cap:Nat}{roots:List T}(h:Bl B w0 w b y n N A L)(hN:N+2 < 1000000000)(hn:n≤200)(hm:(pm,CQ y)∈L)(hd:(pd,CR y)∈L)(hr:BB w q roots)(hrl:roots.length≤1000000):
  Calls prog 9 #[.pointer (some ⟨pm,0,none⟩),.pointer (some ⟨pd,0,none⟩),.slice q roots.length cap] w fun e w'=>e=.returned (.tuple #[.agg #[.int .i64 ((F7 both A roots).length:Int),.int .i64 ((DY both A roots).length:Int),.int .i64 (GM A (DY both A roots):Int)],.int .i64 0])∧Bl B w0 w' b y n (N+2) (CY both A roots) L∧Co w w':=by
 obtain⟨bl,h1,h2,h3⟩:=h.pick;refine(anf h1 h2 hN (Ah (U5 h).2.2 (aeE hn)) (h.at_ _ _ hm) (h.at_ _ _ hd) hr hrl).mono ?_;rintro e w'⟨c,Bv,rfl,⟨hu,hsw⟩,hs⟩;rcases hsw with⟨rfl,hok⟩|⟨e,_⟩
 ·exact⟨by unfold VL;rw[Ac rfl],(h3 ⟨Bv,hok,hu,hs⟩).1,Co.upd hu⟩
 ·cases e
end
theorem Bl.put{B:Nat}{w0 w w':World}{b y n N k:Nat}{A:M}{L:List (Nat×Obj)}{cs:Array Value}{t:TypeId}{o':Obj}(h:Bl B w0 w b y n N A ((k,.cells cs t) :: L))(ht:t≠9)(hne:∀ o,(k,o)∉L)(hB:B≤k)(hu:A7 (fun j=>j=k) w w')(ho:w'.heap[k]?=some o'):Bl B w0 w' b y n N A ((k,o') :: L):=by
 obtain⟨⟨h1,h2,hx,bl,h3,h4⟩,ha⟩:=h;have hk:=ha k _ Cc;refine⟨⟨Bu h1 hu (fun j hj=>by subst hj;exact hB) h2,Ah h2 hu.size,fun j ⟨o,hj⟩=>?_,bl,h3.upd hu (fun j hj e=>?_) (fun j hj e=>(h4 j hj).2 (by subst e;exact⟨_,Cc⟩)),fun j hj=>⟨(h4 j hj).1,fun⟨o,hm⟩=>?_⟩⟩,fun j o hj=>?_⟩
 ·rcases AZ.1 hj with e|e
  ·cases e;exact(BZ.1 ho).1
  ·exact Di (hx j ⟨o,Dh _ e⟩) hu.size
 ·subst e;exact Ap.ne hj ⟨_,_,hk⟩ (fun e=>ht e.symm) rfl
 ·rcases AZ.1 hm with e|e
  ·cases e;exact(h4 _ hj).2 ⟨_,Cc⟩
  ·exact(h4 j hj).2 ⟨o,Dh _ e⟩
 ·rcases AZ.1 hj with e|e
  ·cases e;exact ho
  ·have hj2:=ha j o (Dh _ e);exact(hu.block j (BZ.1 hj2).1 (fun f=>by subst f;exact hne o e)).trans hj2
def CS(a b c:Int):Obj:=.cells #[.int .i64 a,.int .i64 b,.int .i64 c] 42
theorem Bl.swB{B:Nat}{w0 w:World}{b y n N k:Nat}{A:M}{L:List (Nat×Obj)}{x1 x2 x3:Int}(h:Bl B w0 w b y n N A L)(hin:(k,CS x1 x2 x3)∈L):w.cell? ⟨k,0,none⟩=some (.int .i64 x1)∧w.cell? ⟨k,1,none⟩=some (.int .i64 x2)∧w.cell? ⟨k,2,none⟩=some (.int .i64 x3)∧w.frozen? ⟨k,0,none⟩=false∧w.frozen? ⟨k,1,none⟩=false∧w.frozen? ⟨k,2,none⟩=false:=by
 have hk:=h.at_ k _ hin;exact⟨h.cell hin 0,h.cell hin 1,h.cell hin 2,Cb _ _ 0 _ _ hk,Cb _ _ 1 _ _ hk,Cb _ _ 2 _ _ hk⟩
theorem U8{w:World}{k:Nat}{x1 x2 x3 y1 y2 y3:Int}(h:w.heap[k]?=some (CS x1 x2 x3)):
  A7 (fun j=>j=k) w (((w.setCell ⟨k,0,none⟩ (.int .i64 y1)).setCell ⟨k,1,none⟩ (.int .i64 y2)).setCell ⟨k,2,none⟩ (.int .i64 y3))∧(((w.setCell ⟨k,0,none⟩ (.int .i64 y1)).setCell ⟨k,1,none⟩ (.int .i64 y2)).setCell ⟨k,2,none⟩ (.int .i64 y3)).heap[k]?=some (CS y1 y2 y3):=by
 refine⟨(((A7.refl (fun j=>j=k) w).setCell (p:=⟨k,0,none⟩) (.inl rfl) _).setCell (p:=⟨k,1,none⟩) (.inl rfl) _).setCell (p:=⟨k,2,none⟩) (.inl rfl) _,?_⟩;have h1:=Bh w k 0 _ _ (.int .i64 y1) h;have h2:=Bh _ k 1 _ _ (.int .i64 y2) h1;exact Bh _ k 2 _ _ (.int .i64 y3) h2
theorem Co.box{w w':World}{k:Nat}{o:Int×Int×Int}(hk:w.heap[k]?=some (CS o.1 o.2.1 o.2.2))(hu:A7 (fun j=>j=k) w w'):Co w w':=
 ⟨fun _ _ _ h=>AL h hu (fun j hj e=>by subst e;exact Ap.ne (Bi h hj) ⟨_,_,hk⟩ (by decide) rfl),fun _ _ _ _ h=>h.upd hu (fun j hj e=>by subst e;exact Ap.ne hj ⟨_,_,hk⟩ (by decide) rfl) (fun j hj e=>by subst e;exact Ap.ne hj ⟨_,_,hk⟩ (by decide) rfl),fun _ _ _ h=>AL h hu (fun j hj e=>by subst e;exact Ap.ne (Bi h hj) ⟨_,_,hk⟩ (by decide) rfl)⟩
def aeF:Prop:=∀ w,Calls prog 6 #[] w fun e w'=>e=.returned (.bool true)∧Bw w w'
theorem aq5{N:Int}{a ua fa qr:Option Addr}{cap uc fc cr:Nat}{l:M}{us:Us}{fs:List Af}{roots:List T}{w:World}(aeG:aeF)(hL:Av w a l)(hlen:l.length≤maxLen)(hok:∀ c∈l,c.1.length≤reachBytes∧c.2.length≤reachBytes)
  (hU:IJ w ua us)(Ym:us.length≤maxLen)(Yn:∀ c∈us,c.1.length≤reachBytes∧c.2.length≤maxLen)(hF:D7 w fa fs)(Yo:fs.length≤maxLen)(OZ:∀ c∈fs,c.name.length≤reachBytes∧c.data.length≤reachBytes)(hR:BB w qr roots)(aBb:roots.length≤maxLen):
  Calls prog 3 #[.agg #[.int .i64 N,.slice a l.length cap,.slice ua us.length uc,.slice fa fs.length fc],.slice qr roots.length cr] w fun e w'=>e=.returned (.bool true)∧Bw w w':=by
 have rH:=Hi aeG;have HR:=Hi hR;have HB0:=Hi (Am w (.cells #[.int .i64 N,.slice a l.length cap,.slice ua us.length uc,.slice fa fs.length fc] 26));have HHV:=Hi (fun W (hb:Bw w W)=>ao0 (N:=N) (cap:=cap) (uc:=uc) (fc:=fc) (hL.below hb) hlen hok (hU.below hb) Ym Yn (hF.below hb) Yo OZ);have Jk:=Hi (fun(n:Nat) W (hb:Bw w W) (La:dY n l us fs)=>aep (cap:=cap) (uc:=uc) (fc:=fc) La (hL.below hb) (hU.below hb) (hF.below hb) (fun c hc=>⟨Ah (OZ c hc).1 (by unfold reachBytes maxLen;omega),Ah (OZ c hc).2 (by unfold reachBytes maxLen;omega)⟩));have asc:roots.length≤9223372036854775807:=by unfold maxLen at aBb;omega
 clear aeG hL hlen hok hU Ym Yn hF Yo OZ hR aBb;go_enter func3,ntmps3;go_wp2_with fail;refine(HHV _ HB0).mono ?_;rintro e w1⟨h,rfl,hb1,La⟩;have HB1:=Hi (HB0.trans (hb1.mono HB0.size));have Fp:=Hi La;have hx1:=(hb1.block w.heap.size (by rw[Ai];omega)).trans (Aq w _);have Kt:=Hi hx1;clear hb1 La hx1;cases h with
 |true=>
  go_wp2_with fail;refine(rH _).mono ?_;rintro e w2⟨rfl,hb2⟩;have HB2:=Hi (HB1.trans (hb2.mono HB1.size));clear hb2;go_wp2_with fail;go_ret;exact⟨rfl,HB2⟩
 |false=>
  by_cases h20:20 < roots.length
  ·have Yj:(20:Int) < (roots.length:Int):=(by omega);go_wp2_with fail;refine(rH _).mono ?_;rintro e w2⟨rfl,hb2⟩;have HB2:=Hi (HB1.trans (hb2.mono HB1.size));clear hb2;go_wp2_with fail;go_ret;exact⟨rfl,HB2⟩
  have Yj:¬ (20:Int) < (roots.length:Int):=by omega
  have La:=Fp (by first|rfl|trivial);have jw:=La.n8;have ase:=La.n200;obtain⟨n,rfl⟩:∃ n:Nat,N=(n:Int):=⟨N.toNat,by omega⟩;have aeI:=Hi La;clear La Fp;have c0:w1.cell? ⟨w.heap.size,0,none⟩=some (.int .i64 (n:Int)):=by unfold World.cell?;rw[Kt.out];rfl
  have c1:w1.cell? ⟨w.heap.size,1,none⟩=some (.slice a l.length cap):=by unfold World.cell?;rw[Kt.out];rfl
  have c2:w1.cell? ⟨w.heap.size,2,none⟩=some (.slice ua us.length uc):=by unfold World.cell?;rw[Kt.out];rfl
  have c3:w1.cell? ⟨w.heap.size,3,none⟩=some (.slice fa fs.length fc):=by unfold World.cell?;rw[Kt.out];rfl
  go_wp2_with fail;refine(Jk n _ HB1 aeI).mono ?_;rintro e w2⟨b,y,p,d,r,xb,rfl,hk⟩;obtain⟨A,hA⟩:=ex (VR n l us fs);rw[hA] at hk;have Gn:=Hi hk;have HC:Hid (∀ (W:World) (N:Nat) (A:M) (L:List (Nat×Obj)),Bl w1.heap.size w1 W b y n N A L→(xb,Ed y p d r)∈L→W.cell? ⟨xb,1,none⟩=some (.pointer (some ⟨p,0,none⟩))∧W.cell? ⟨xb,2,none⟩=some (.pointer (some ⟨d,0,none⟩))):=Hi fun W N A L h hin=>by
   have h1:=h.cell (k:=xb) (t:=40) hin 1;have h2:=h.cell (k:=xb) (t:=40) hin 2;exact⟨h1,h2⟩
  have HB2:=Hi (HB1.trans (hk.Ao.mono HB1.size));obtain⟨x1,x2⟩:=HC _ _ _ _ hk (by simp);have Dy:=Hi (U5 hk);have ZV:=Hi (N8 hk (by omega));have Eh:=Hi (fun(W:World) (hb:Bw w2 W)=>apH (show DR W p y from(hk.step hb).at_ p (CQ y) (by simp)) (show Ex W d y from(hk.step hb).at_ d (CR y) (by simp)) (P8 (hk.step hb)) (N8 hk (by omega)));clear hk c0 c1 c2 c3 Kt hA Jk HHV aeI;go_wp2_with fail
  go_region_held3 (fun V=>V.cell? ⟨xb,1,none⟩=some (.pointer (some ⟨p,0,none⟩))∧V.cell? ⟨xb,2,none⟩=some (.pointer (some ⟨d,0,none⟩)))
   (first|exact⟨x1,x2⟩|exact HC _ _ _ _ F3 (by simp))
   (first|(go_at_call 8;refine(Eh _ ((Ad _ _).drew)).mono ?_;rintro e w3 ⟨v1,v2,L,rfl,hp3,hu3,hb3⟩;have OL:=Hi hp3;have EZ:=Hi hu3;have F3:=Hi (Gn.step (((Ad _ w2).drew).trans hb3));clear hp3 hu3 hb3))
  all_goals
   obtain⟨wq,wc0,rfl⟩:=AA OL.out;obtain⟨uq,uc0,rfl⟩:=AA EZ.row;clear Eh;clear x1 x2;obtain⟨x1,x2⟩:=HC _ _ _ _ F3 (by simp);have Rh:=Hi (fun(W:World) (hb:Bw w3 W)=>Y4 (show Ex W d y from(F3.step hb).at_ d (CR y) (by simp)) (P8 (F3.step hb)) (N8 F3 (by omega)).M6);have DV:=Hi (fun(W:World) (L:List (Nat×Obj)) (hk:Bl w1.heap.size w1 W b y n 3 A L) (hp:(p,CQ y)∈L) (hd:(d,CR y)∈L) (q:Option Addr) (c:Nat) (hr:BB W q (Au A8 A))=>fD (cap:=c) (roots:=Au A8 A) hk (by omega) (by omega) hp hd hr (by rw[JW (K:=A8) (U5 hk).1];exact(N8 hk (by omega)).M6));have rJ:=Hi (show F7 both A (Au A8 A)=[] from aks A);rw[rJ.out] at DV;obtain⟨nk,hnk⟩:∃ nk:Nat,(DY both A (Au A8 A)).length=nk:=⟨_,rfl⟩;obtain⟨nb,hnb⟩:∃ nb:Nat,GM A (DY both A (Au A8 A))=nb:=⟨_,rfl⟩;rw[hnk,hnb] at DV;have bS:=Hi hnk;clear hnk hnb;have DW:=Hi (F3.new (CS 0 0 0))
   have Kh:=Hi (show ∀ k o,w3.heap.size≤k→(k,o)∉[(xb,Ed y p d r),(d,CR y),(p,CQ y)] from fun k o hk hin=>by
    have:=(BZ.1 (F3.at_ k o hin)).1;omega)
   go_upto_region 7 with fail
   go_cut [9,10] from 47 to 62 (fun s9 s10 wx=>∃ g,s9=.pointer (some ⟨g,0,none⟩)∧s10=.int .i64 0∧w1.heap.size≤g∧Bl w1.heap.size w1 wx b y n 5 (CY both A (Au A8 A)) [(g,CS 0 nk nb),(xb,Ed y p d r),(d,CR y),(p,CQ y)]∧Co w3 wx)
   case first=>
    go_region_held3 (fun V=>V.cell? ⟨xb,1,none⟩=some (.pointer (some ⟨p,0,none⟩))∧V.cell? ⟨xb,2,none⟩=some (.pointer (some ⟨d,0,none⟩)))
     (first|exact⟨x1,x2⟩|exact HC _ _ _ _ DW (by simp)|exact HC _ _ _ _ (DW.step (Ad _ _).drew) (by simp)|exact HC _ _ _ _ KX (by simp)|exact HC _ _ _ _ aeJ (by simp)|exact HC _ _ _ _ Ea (by simp)|exact HC _ _ _ _ HK6 (by simp)|exact HC _ _ _ _ IE (by simp))
     (first
      |(go_at_call 10;refine(Rh _ ((Ad _ _).drew)).mono ?_;rintro e w4 ⟨v4,rfl,hr4,hb4⟩;obtain⟨rq4,rc4,rfl⟩:=AA hr4;have U9:=Hi (CP hr4);have Ay:=Hi (show Bw w3 w4 from((Ad _ w3).drew).trans hb4);have KX:=Hi (F3.step Ay);have aeJ:=Hi (KX.new (CS 0 0 0));clear hr4 hb4)
      |(go_at_call 10;refine(Rh _ (((Am w3 (CS 0 0 0)).drew))).mono ?_;rintro e w4 ⟨v4,rfl,hr4,hb4⟩;obtain⟨rq4,rc4,rfl⟩:=AA hr4;have U9:=Hi (CP hr4);have hbz:Below (w3.alloc (CS 0 0 0)).heap.size (w3.alloc (CS 0 0 0)) w4:=((Ad _ _).drew).trans hb4;have Ay:=Hi ((Am w3 (CS 0 0 0)).trans (hbz.mono (Am w3 (CS 0 0 0)).size));have KX:=Hi (DW.step hbz);clear hbz;have aqb:=Hi trivial;clear hr4 hb4)
      |(go_at_call 9;have aqc:=aqb.out;refine(DV _ _ KX (by simp) (by simp) _ _ U9).mono ?_;rintro e w5 ⟨rfl,hk5,hs5⟩;have Ea:=Hi hk5;obtain⟨VS,VT,VU,MS,MU,Qx⟩:=Bl.swB hk5 (Cc);have asR:=U8 (y1:=0) (y2:=(nk:Int)) (y3:=(nb:Int)) (hk5.at_ _ _ Cc);have IE:=Hi (Bl.put (t:=42) hk5 (by decide) (fun o=>Kh _ o (Ab _)) F3.Ao.size asR.1 asR.2);have Ki:=Hi (((Co.below Ay).trans hs5).trans (Co.box (o:=(0,0,0)) (hk5.at_ _ _ Cc) asR.1));clear hk5 hs5 aqc asR)
      |(go_at_call 9;refine(DV _ _ KX (by simp) (by simp) _ _ U9).mono ?_;rintro e w5 ⟨rfl,hk5,hs5⟩;have Ea:=Hi hk5;have VV:=Hi ((Co.below Ay).trans hs5);have HK6:=Hi (hk5.new (CS 0 0 0));have IE:=Hi (hk5.new (CS 0 nk nb));have Ki:=Hi (((Co.below Ay).trans hs5).trans (Co.below (Am w5 (CS 0 nk nb))));clear hk5 hs5)
      |(go_at_call 9;refine(DV _ _ aeJ (by simp) (by simp) _ _ (U9.below (Am _ _))).mono ?_;rintro e w5 ⟨rfl,hk5,hs5⟩;have Ea:=Hi hk5;obtain⟨VS,VT,VU,MS,MU,Qx⟩:=Bl.swB hk5 (Cc);have asR:=U8 (y1:=0) (y2:=(nk:Int)) (y3:=(nb:Int)) (hk5.at_ _ _ Cc);have IE:=Hi (Bl.put (t:=42) hk5 (by decide) (fun o=>Kh _ o Ay.size) (Ah F3.Ao.size Ay.size) asR.1 asR.2);have Ki:=Hi (((Co.below (Ay.trans ((Am w4 (CS 0 0 0)).mono Ay.size))).trans hs5).trans (Co.box (o:=(0,0,0)) (hk5.at_ _ _ Cc) asR.1));clear hk5 hs5 asR))
    all_goals
     go_wp2_with fail;go_meet
     case rel=>exact⟨_,rfl,rfl,by first|exact F3.Ao.size|exact Ah F3.Ao.size Ay.size|exact Ea.Ao.size,IE,Ki⟩
   case rest=>
    obtain⟨g9,rfl,rfl,hge,hk,hs⟩:=hcut;have RD:=Hi hk;have HS8:=Hi hs;clear hk hs hge Rh DV DW Kh x1 x2 F3;obtain⟨x1,x2⟩:=HC _ _ _ _ RD (by simp);obtain⟨y1,y2,y3,-⟩:=Bl.swB (k:=g9) (x1:=0) (x2:=nk) (x3:=nb) RD (by simp);have GA:BH.May n A:=⟨Dy.1,Dy.2.1,Dy.2.2⟩;have LH:=Hi GA;obtain⟨S1,hS1⟩:=ex (CY both A (Au A8 A));have aeL:BH.May n S1:=by rw[←hS1];exact MG Ep GA
    have aeM:=Hi (show(Au A8 S1).length=(Lb A).length from by
     have h1:=lu (roots:=Au A8 A) Ep GA;rw[hS1,show F7 both A (Au A8 A)=[] from rJ.out] at h1;rw[YM];exact h1.symm)
    have YO:=Hi aeL;rw[hS1] at RD;have aeN:=Hi hS1;clear GA aeL hS1;go_wp2_with fail;refine(Y4 (show Ex _ d y from RD.at_ d (CR y) (by simp)) (P8 RD) (N8 RD (by omega)).M6).mono ?_;rintro e w6⟨v6,rfl,EK,hb6⟩;obtain⟨rq6,rc6,rfl⟩:=AA EK;have VW:=Hi (RD.step hb6);have HS9:=Hi (HS8.trans (Co.below hb6));clear EK hb6 RD HS8 x1 x2 y1 y2 y3;obtain⟨x1,x2⟩:=HC _ _ _ _ VW (by simp);rw[aeM.out,EZ.len];have EW:(Lb A).length≤1000000:=(by rw[YM,JW (K:=A8) Dy.1];exact ZV.M6);have Ju:Hid (∀ (W:World) (L:List (Nat×Obj)),Bl w1.heap.size w1 W b y n 5 S1 L→(p,CQ y)∈L→(d,CR y)∈L→Calls prog 9 #[.pointer (some ⟨p,0,none⟩),.pointer (some ⟨d,0,none⟩),.slice qr roots.length cr] W fun e w'=>e=.returned (.tuple #[.agg #[.int .i64 ((F7 both S1 roots).length:Int),.int .i64 ((DY both S1 roots).length:Int),.int .i64 (GM S1 (DY both S1 roots):Int)],.int .i64 0])∧Bl w1.heap.size w1 w' b y n 7 (CY both S1 roots) L∧Co W w'):=Hi fun W L hk hp hd=>
     fD hk (by omega) (by omega) hp hd (HR.below (HB1.trans (hk.Ao.mono HB1.size))) (by omega)
    obtain⟨S2,hS2⟩:=ex (CY both S1 roots);obtain⟨r2,hr2⟩:∃ k:Nat,(F7 both S1 roots).length=k:=⟨_,rfl⟩;obtain⟨k2,hk2⟩:∃ k:Nat,(DY both S1 roots).length=k:=⟨_,rfl⟩;obtain⟨b2,hb2⟩:∃ k:Nat,GM S1 (DY both S1 roots)=k:=⟨_,rfl⟩;rw[hS2,hr2,hk2,hb2] at Ju;have HE2:=Hi (BD hS2 (BD hr2 hk2));clear hS2 hr2 hk2 hb2;have DW:=Hi (VW.new (CS 0 0 0))
    have Kh:=Hi (show ∀ o,(w6.heap.size,o)∉[(g9,CS 0 nk nb),(xb,Ed y p d r),(d,CR y),(p,CQ y)] from fun o hin=>by
     have:=(BZ.1 (VW.at_ _ o hin)).1;omega)
    go_upto_region 10 with fail
    go_cut [11,12] from 82 to 93 (fun s11 s12 wx=>∃ g,s11=.pointer (some ⟨g,0,none⟩)∧s12=.int .i64 0∧(∀ o,(g,o)∉[(g9,CS 0 nk nb),(xb,Ed y p d r),(d,CR y),(p,CQ y)])∧Bl w1.heap.size w1 wx b y n 7 S2 ((g,CS (r2:Int) (k2:Int) (b2:Int)) :: [(g9,CS 0 nk nb),(xb,Ed y p d r),(d,CR y),(p,CQ y)])∧Co w6 wx)
    case first=>
     go_region_held3 (fun V=>V.cell? ⟨xb,1,none⟩=some (.pointer (some ⟨p,0,none⟩))∧V.cell? ⟨xb,2,none⟩=some (.pointer (some ⟨d,0,none⟩)))
      (first|exact⟨x1,x2⟩|exact HC _ _ _ _ DW (by simp)|exact HC _ _ _ _ (DW.step (Ad _ _).drew) (by simp)|exact HC _ _ _ _ YP (by simp)|exact HC _ _ _ _ rM (by simp)|exact HC _ _ _ _ Ua (by simp))
      (first
       |(go_at_call 9;refine(Ju _ _ (VW.step (Ad _ _).drew) (by simp) (by simp)).mono ?_;rintro e w5 ⟨rfl,hk5,hs5⟩;have YP:=Hi hk5;have rM:=Hi (hk5.new (CS 0 0 0));have Ua:=Hi (hk5.new (CS (r2:Int) (k2:Int) (b2:Int)));have YQ:=Hi (show ∀ o,(w5.heap.size,o)∉[(g9,CS 0 nk nb),(xb,Ed y p d r),(d,CR y),(p,CQ y)] from fun o hin=>by have:=(BZ.1 (hk5.at_ _ o hin)).1;omega);have Ki:=Hi (((Co.below (Ad _ w6).drew).trans hs5).trans (Co.below (Am w5 (CS (r2:Int) (k2:Int) (b2:Int)))));clear hk5 hs5)
       |(go_at_call 9;refine(Ju _ _ (DW.step (Ad _ _).drew) (by simp) (by simp)).mono ?_;rintro e w5 ⟨rfl,hk5,hs5⟩;have YP:=Hi hk5;obtain⟨VS,VT,VU,MS,MU,Qx⟩:=Bl.swB hk5 (Cc);have asR:=U8 (y1:=(r2:Int)) (y2:=(k2:Int)) (y3:=(b2:Int)) (hk5.at_ _ _ Cc);have Ua:=Hi (Bl.put (t:=42) hk5 (by decide) Kh VW.Ao.size asR.1 asR.2);have YQ:=Hi Kh.out;have Ki:=Hi (((Co.below ((Am w6 (CS 0 0 0)).trans (((Ad _ _).drew).mono (Am w6 (CS 0 0 0)).size))).trans hs5).trans (Co.box (o:=(0,0,0)) (hk5.at_ _ _ Cc) asR.1));clear hk5 hs5 asR))
     all_goals
      go_wp2_with fail;go_meet
      case rel=>exact⟨_,rfl,rfl,YQ,Ua,Ki⟩
    case rest=>
     obtain⟨g11,rfl,rfl,hgn,hk,hs⟩:=hcut;have Ub:=Hi hk;have aeP:=Hi (HS9.trans hs);have aqd:=Hi hgn;clear hk hs hgn VW HS9 Ju DW Kh x1 x2;obtain⟨x1,x2⟩:=HC _ _ _ _ Ub (by simp);have fE:=Hi (show BH.May n S2 from by rw[←HE2.1];exact MG Ep YO);have Qd:=Hi (fun(W:World) (hb:Bw wc W)=>acp (show DR W p y from(Ub.step hb).at_ p (CQ y) (by simp)) (show Ex W d y from(Ub.step hb).at_ d (CR y) (by simp)) (P8 (Ub.step hb)) (N8 Ub (by omega)));rw[show Ra both S2=[] from by rw[←HE2.1];exact akr Ep YO.out] at Qd;go_upto_region 11 with fail
     go_region_held3 (fun V=>V.cell? ⟨xb,1,none⟩=some (.pointer (some ⟨p,0,none⟩))∧V.cell? ⟨xb,2,none⟩=some (.pointer (some ⟨d,0,none⟩)))
      (first|exact⟨x1,x2⟩|exact HC _ _ _ _ Uc (by simp))
      (first|(go_at_call 11;refine(Qd _ ((Ad _ _).drew)).mono ?_;rintro e w7 ⟨v7,rfl,LX,D8⟩;obtain⟨lq7,lc7,rfl⟩:=AA LX;have CX:=Hi (((Ad _ wc).drew).trans D8);have Uc:=Hi (Ub.step CX);clear LX D8))
     have aeQ:=Hi (aeP.trans (Co.below CX));clear Qd x1 x2 Ub aeP CX;obtain⟨x1,x2⟩:=HC _ _ _ _ Uc (by simp);have HT:=Hi (show F7 both S2 roots=[]∧DY both S2 roots=[] from by rw[←HE2.1];exact akq Ep YO);have Ru:Hid (∀ (W:World) (L:List (Nat×Obj)),Bl w1.heap.size w1 W b y n 7 S2 L→(p,CQ y)∈L→(d,CR y)∈L→Calls prog 9 #[.pointer (some ⟨p,0,none⟩),.pointer (some ⟨d,0,none⟩),.slice qr roots.length cr] W fun e w'=>e=.returned (.tuple #[.agg #[.int .i64 0,.int .i64 0,.int .i64 0],.int .i64 0])∧Bl w1.heap.size w1 w' b y n 9 (CY both S2 roots) L∧Co W w'):=Hi fun W L hk hp hd=>by
      have h:=fD (cap:=cr) hk (by omega) (by omega) hp hd (HR.below (HB1.trans (hk.Ao.mono HB1.size))) (by omega);rw[HT.1,HT.2] at h;exact h
     obtain⟨S3,rO⟩:=ex (CY both S2 roots);rw[rO] at Ru;have MW:=Hi rO;clear rO;have DW:=Hi (Uc.new (CS 0 0 0))
     have Kh:=Hi (show ∀ o,(w7.heap.size,o)∉((g11,CS (r2:Int) (k2:Int) (b2:Int)) :: [(g9,CS 0 nk nb),(xb,Ed y p d r),(d,CR y),(p,CQ y)]) from fun o hin=>by
      have:=(BZ.1 (Uc.at_ _ o hin)).1;omega)
     go_upto_region 12 with fail
     go_cut [15,16] from 107 to 118 (fun s15 s16 wx=>∃ g,s15=.pointer (some ⟨g,0,none⟩)∧s16=.int .i64 0∧(∀ o,(g,o)∉((g11,CS (r2:Int) (k2:Int) (b2:Int)) :: [(g9,CS 0 nk nb),(xb,Ed y p d r),(d,CR y),(p,CQ y)]))∧Bl w1.heap.size w1 wx b y n 9 S3 ((g,CS (0:Int) (0:Int) (0:Int)) :: ((g11,CS (r2:Int) (k2:Int) (b2:Int)) :: [(g9,CS 0 nk nb),(xb,Ed y p d r),(d,CR y),(p,CQ y)]))∧Co w7 wx)
     case first=>
      go_region_held3 (fun V=>V.cell? ⟨xb,1,none⟩=some (.pointer (some ⟨p,0,none⟩))∧V.cell? ⟨xb,2,none⟩=some (.pointer (some ⟨d,0,none⟩)))
       (first|exact⟨x1,x2⟩|exact HC _ _ _ _ DW (by simp)|exact HC _ _ _ _ (DW.step (Ad _ _).drew) (by simp)|exact HC _ _ _ _ YP (by simp)|exact HC _ _ _ _ rM (by simp)|exact HC _ _ _ _ Ua (by simp))
       (first
        |(go_at_call 9;refine(Ru _ _ (Uc.step (Ad _ _).drew) (by simp) (by simp)).mono ?_;rintro e w5 ⟨rfl,hk5,hs5⟩;have YP:=Hi hk5;have rM:=Hi (hk5.new (CS 0 0 0));have Ua:=Hi (hk5.new (CS (0:Int) (0:Int) (0:Int)));have YQ:=Hi (show ∀ o,(w5.heap.size,o)∉((g11,CS (r2:Int) (k2:Int) (b2:Int)) :: [(g9,CS 0 nk nb),(xb,Ed y p d r),(d,CR y),(p,CQ y)]) from fun o hin=>by have:=(BZ.1 (hk5.at_ _ o hin)).1;omega);have Ki:=Hi (((Co.below (Ad _ w7).drew).trans hs5).trans (Co.below (Am w5 (CS (0:Int) (0:Int) (0:Int)))));clear hk5 hs5)
        |(go_at_call 9;refine(Ru _ _ (DW.step (Ad _ _).drew) (by simp) (by simp)).mono ?_;rintro e w5 ⟨rfl,hk5,hs5⟩;have YP:=Hi hk5;obtain⟨VS,VT,VU,MS,MU,Qx⟩:=Bl.swB hk5 (Cc);have asR:=U8 (y1:=(0:Int)) (y2:=(0:Int)) (y3:=(0:Int)) (hk5.at_ _ _ Cc);have Ua:=Hi (Bl.put (t:=42) hk5 (by decide) Kh Uc.Ao.size asR.1 asR.2);have YQ:=Hi Kh.out;have Ki:=Hi (((Co.below ((Am w7 (CS 0 0 0)).trans (((Ad _ _).drew).mono (Am w7 (CS 0 0 0)).size))).trans hs5).trans (Co.box (o:=(0,0,0)) (hk5.at_ _ _ Cc) asR.1));clear hk5 hs5 asR))
      all_goals
       go_wp2_with fail;go_meet
       case rel=>exact⟨_,rfl,rfl,YQ,Ua,Ki⟩
     case rest=>
      obtain⟨g15,rfl,rfl,hgn,hk,hs⟩:=hcut;have Ud:=Hi hk;have aeR:=Hi (aeQ.trans hs);have aqe:=Hi hgn;clear hk hs hgn Uc aeQ Ru DW Kh x1 x2;obtain⟨x1,x2⟩:=HC _ _ _ _ Ud (by simp);obtain⟨y1,y2,y3,-⟩:=Bl.swB (k:=g15) (x1:=0) (x2:=0) (x3:=0) Ud (by simp);have aeS:=Hi (show BH.May n S3 from by rw[←MW.out];exact MG Ep fE);go_wp2_with fail;refine(Y4 (show Ex _ d y from Ud.at_ d (CR y) (by simp)) (P8 Ud) (N8 Ud (by omega)).M6).mono ?_;rintro e w8⟨v8,rfl,SL,G7⟩;obtain⟨rq8,rc8,rfl⟩:=AA SL;have HT8:=Hi (CP SL);have fF:=Hi (Ud.step G7);have aeU:=Hi (aeR.trans (Co.below G7));clear SL G7 Ud aeR x1 x2 y1 y2 y3
      have Gh:=Hi (show ∀ r∈Au A8 S3,r∈roots from fun r hr=>by
       have h1:Au A8 S3=(FD both S2).filter fun r=>decide (r∈roots):=by rw[←MW.out];exact Vd Ep fE
       rw[h1] at hr;simpa using(CU.1 hr).2)
      have aCa:(Au A8 S3).length≤1000000:=(by rw[JW (K:=A8) aeS.up];exact(N8 fF (by omega)).M6);have asl:=Hi aCa
      have U7:=Hi (fun(W:World) (hb:Bw w8 W) (x:T) (hx:x∈roots)=>(show Calls _ _ _ _ (fun e w'=>e=.returned (.bool true)∧W=w') from by
       have h:=rF (cap:=cr) x (HR.below (HB1.trans ((fF.step hb).Ao.mono HB1.size))) (by omega);rw[Gs hx] at h;exact h))
      go_wp2_with fail
      go_loopw [18] (fun i wr=>∃ k:Nat,k≤(Au A8 S3).length∧i=.int .i64 (k:Int)∧Bw w8 wr) (fun i _=>(Au A8 S3).length -(intOf i).toNat)
      case atStart=>exact⟨0,Ar _,rfl,Ad _ _⟩
      case round=>
       obtain⟨k,hk,rfl,hb⟩:=hrel;have HB:=Hi hb;by_cases hlt:k < (Au A8 S3).length
       ·obtain⟨q,hix,c0⟩:=(HT8.below hb).index rc8 k hlt;have hin:=Gh _ (BF hlt);have HH:=Hi (U7 _ hb _ hin);clear hb hin;generalize (Au A8 S3)[k]=x at*;go_wp2_with fail;refine HH.mono ?_;rintro e w9⟨rfl,rfl⟩;go_wp2_with fail;go_roundw
        case rel=>exact⟨k+1,by omega,by go_num,HB⟩
        case measure=>
         show(Au A8 S3).length -((k:Int)+1).toNat < (Au A8 S3).length -((k:Int)).toNat
         omega
       ·obtain rfl:k=(Au A8 S3).length:=(by omega);have Qk:=Hi (fF.step hb);have aeV:=Hi (aeU.trans (Co.below hb));clear hb fF aeU;obtain⟨en,hen⟩:=ex ((Cm A9 S3).length);have he6:en≤1000000:=(by rw[←hen];exact(N8 Qk (by omega)).O0);have hWn:(N7 A).length=en+nk+k2:=by
         have g1:=lC (roots:=Au A8 A) Ep LH.out;have g2:=lC (roots:=roots) Ep YO.out;have g3:=lC (roots:=roots) Ep fE.out;have g4:(Jn both S3).length=en:=(by rw[←hen];exact JW (K:=A9) aeS.up);rw[aeN.out] at g1;rw[HE2.1] at g2;rw[MW.out,HT.2] at g3;have g5:(DY both A (Au A8 A)).length=nk:=bS.out;have g6:=HE2.2.2;rw[YL]
         show(Jn both A).length=_
         simp only[FN] at g3;omega
        have hUn:(Lb A).length=(Au A8 S3).length+r2:=by
         have g2:=lu (roots:=roots) Ep YO.out;have g3:=lu (roots:=roots) Ep fE.out;rw[HE2.1] at g2;rw[MW.out,HT.1] at g3;have g6:=HE2.2.1;have g7:=aeM.out;simp only[FN] at g3;have g8:(FD both S1).length=(Lb A).length:=g7
         show _=(FD both S3).length+r2
         omega
        have hwl:(N7 A).length≤1000000:=(by rw[YL,JW (K:=A9) Dy.1];exact ZV.O0);have hd1:decide (((N7 A).length:Int)=(en:Int)+(nk:Int)+(k2:Int))=true:=Gs (by omega);have hd2:decide (((Lb A).length:Int)=((Au A8 S3).length:Int)+(r2:Int))=true:=Gs (by omega);have hw1:IntKind.i64.wrap ((en:Int)+(nk:Int))=(en:Int)+(nk:Int):=CZ _ (by omega);have hw2:IntKind.i64.wrap ((en:Int)+(nk:Int)+(k2:Int))=(en:Int)+(nk:Int)+(k2:Int):=CZ _ (by omega);have hw3:IntKind.i64.wrap (((Au A8 S3).length:Int)+(r2:Int))=((Au A8 S3).length:Int)+(r2:Int):=CZ _ (by omega)
        have D6:=Hi (fun(W:World) (hb:Bw wr W)=>(show W.cell? ⟨xb,1,none⟩=some (.pointer (some ⟨p,0,none⟩))∧W.cell? ⟨g9,1,none⟩=some (.int .i64 (nk:Int))∧W.cell? ⟨g11,0,none⟩=some (.int .i64 (r2:Int))∧W.cell? ⟨g11,1,none⟩=some (.int .i64 (k2:Int)) from by
         have h:=Qk.step hb;obtain⟨e1,_⟩:=HC _ _ _ _ h (by simp);obtain⟨_,e2,_⟩:=Bl.swB (k:=g9) (x1:=0) (x2:=nk) (x3:=nb) h (by simp);obtain⟨e3,e4,_⟩:=Bl.swB (k:=g11) (x1:=r2) (x2:=k2) (x3:=b2) h (by simp);exact⟨e1,e2,e3,e4⟩))
        have TN:=Hi (fun(W:World) (hb:Bw wr W)=>aln (show DR W p y from(Qk.step hb).at_ p (CQ y) (by simp)) (P8 (Qk.step hb)) (N8 Qk (by omega)).O0);have JO:=Hi (fun(W:World) (hb:Bw wr W)=>aq2 (qa:=wq) (ca:=wc0) (cu:=uc0) (cr:=cr) (Av.BU ((aeV.trans (Co.below hb)).Tg _ _ _ OL)) (Hr.at_ ((aeV.trans (Co.below hb)).uses _ _ _ _ EZ)) (HR.below (HB1.trans ((Qk.step hb).Ao.mono HB1.size))) hwl EW (by omega) (fun u hu=>by obtain⟨r,_,rfl⟩:=AV.1 hu;have:=@amU A r;show(getU A r).1.length≤_;omega) (fun q hq=>by obtain⟨k,hk,rfl⟩:=AV.1 hq;have:=ZV.Y7 k hk;show k.length≤_;omega) (show DR W p y from(Qk.step hb).at_ p (CQ y) (by simp)) (P8 (Qk.step hb)).gets (apP Dy.1 (by have:=apO (roots:=roots) LH.out;rw[aeN.out,HE2.1,MW.out] at this;exact this)));rw[hen] at TN;obtain⟨x1,a1,b0,b1⟩:=D6 wr (Ad _ _);have BM:=Hi (HB1.trans (Qk.Ao.mono HB1.size));clear hen hWn hUn HT8 Gh U7 rJ aqd aqe;go_upto_region 21 with fail
        have HS:=Hi (fun(V:World) (hb:Bw wr V)=>(show(fun V:World=>V.cell? ⟨xb,1,none⟩=some (.pointer (some ⟨p,0,none⟩))∧V.cell? ⟨g9,1,none⟩=some (.int .i64 (nk:Int))∧V.cell? ⟨g11,0,none⟩=some (.int .i64 (r2:Int))∧V.cell? ⟨g11,1,none⟩=some (.int .i64 (k2:Int))) V from D6 V hb));clear x1 a1 b0 b1;refine wp_region_held (S:=(fun V:World=>V.cell? ⟨xb,1,none⟩=some (.pointer (some ⟨p,0,none⟩))∧V.cell? ⟨g9,1,none⟩=some (.int .i64 (nk:Int))∧V.cell? ⟨g11,0,none⟩=some (.int .i64 (r2:Int))∧V.cell? ⟨g11,1,none⟩=some (.int .i64 (k2:Int)))) (by kernel_rfl) ?_;have BR:=Hi ((Ad wr.heap.size wr).drew);refine tkH 0 ⟨some 157,.move (.tmp 7),22,"law.go:165",#[],none⟩ (HS _ BR) ?_;try simp only[Act.put,np]
        refine tkH 1 ⟨some 158,.call ⟨.builtin .len,#[.tmp 157],#[22]⟩,3,"law.go:165",#[⟨0,.data⟩],none⟩ (HS _ BR) ?_;try simp only[Act.put,np]
        refine tkH 2 ⟨some 159,.move (.tmp 5),30,"law.go:165",#[],none⟩ (HS _ BR) ?_;try simp only[Act.put,np]
        refine tkH 3 ⟨some 160,.nilCheck (.tmp 159),0,"law.go:165",#[⟨2,.data⟩],none⟩ (HS _ BR) ?_;try simp only[Act.put,np]
        refine tkH 4 ⟨some 161,.fieldAddr 40 (.tmp 160) 1,0,"law.go:165",#[⟨3,.data⟩],none⟩ (HS _ BR) ?_;try simp only[Act.put,np]
        refine tkH 5 ⟨some 162,.load 36 (.tmp 161),36,"law.go:165",#[⟨4,.data⟩],none⟩ (HS _ BR) ?_;try simp only[Act.put,np]
        refine tkH 7 ⟨some 164,.fieldAddr 42 (.tmp 9) 1,0,"law.go:165",#[],none⟩ (HS _ BR) ?_;try simp only[Act.put,np]
        refine tkH 8 ⟨some 165,.load 3 (.tmp 164),3,"law.go:165",#[⟨7,.data⟩],none⟩ (HS _ BR) ?_;try simp only[Act.put,np]
        refine tkH 10 ⟨some 167,.fieldAddr 42 (.tmp 11) 1,0,"law.go:165",#[],none⟩ (HS _ BR) ?_;try simp only[Act.put,np]
        refine tkH 11 ⟨some 168,.load 3 (.tmp 167),3,"law.go:165",#[⟨10,.data⟩],none⟩ (HS _ BR) ?_;try simp only[Act.put,np]
        refine GH (i:=6) (o:=⟨some 163,.call ⟨.value (.func 13),#[.tmp 162],#[36]⟩,3,"law.go:165",#[⟨5,.data⟩],none⟩) (by kernel_rfl) rfl (fun K1 hK1=>?_);go_simp;refine(TN _ BR).mono ?_;rintro e F4⟨rfl,TJ⟩;have Ec:=Hi (BR.trans TJ);clear TJ;refine hK1 _ _ (HS _ Ec) ?_;try simp only[Act.put,np]
        refine tkH 9 ⟨some 166,.binOp .add 3 (.tmp 163) (.tmp 165) 3,3,"law.go:165",#[⟨6,.data⟩,⟨8,.data⟩],none⟩ (HS _ Ec) ?_;try simp only[Act.put,np]
        refine tkH 12 ⟨some 169,.binOp .add 3 (.tmp 166) (.tmp 168) 3,3,"law.go:165",#[⟨9,.data⟩,⟨11,.data⟩],none⟩ (HS _ Ec) ?_;try simp only[Act.put,np]
        refine wpAnyH_take (i:=13) (oi:=⟨some 170,.binOp .eql 3 (.tmp 158) (.tmp 169) 3,4,"law.go:165",#[⟨1,.data⟩,⟨12,.data⟩],none⟩) (v:=.bool true) rfl (by kernel_rfl) (by kernel_rfl) (by kernel_rfl) (fun _ _ _ h=>h) (Or.inl ⟨by rfl,?_⟩) (HS _ Ec) ?_
        ·intro V hV;try dsimp only at hV
         go_simp;all_goals first|done|with_reducible rfl|exact Ld hd1
        try simp only[Act.put,np]
        refine tkH 14 ⟨some 171,.move (.tmp 170),4,"law.go:165",#[⟨13,.data⟩,⟨6,.chain⟩],none⟩ (HS _ Ec) ?_;try simp only[Act.put,np]
        refine tkH 15 ⟨some 172,.move (.tmp 8),23,"law.go:165",#[⟨14,.guard⟩],some (14,true)⟩ (HS _ Ec) ?_;try simp only[Act.put,np]
        refine tkH 16 ⟨some 173,.call ⟨.builtin .len,#[.tmp 172],#[23]⟩,3,"law.go:165",#[⟨15,.data⟩,⟨14,.guard⟩],some (14,true)⟩ (HS _ Ec) ?_;try simp only[Act.put,np]
        refine tkH 17 ⟨some 174,.move (.tmp 17),27,"law.go:165",#[⟨14,.guard⟩],some (14,true)⟩ (HS _ Ec) ?_;try simp only[Act.put,np]
        refine tkH 18 ⟨some 175,.call ⟨.builtin .len,#[.tmp 174],#[27]⟩,3,"law.go:165",#[⟨17,.data⟩,⟨14,.guard⟩],some (14,true)⟩ (HS _ Ec) ?_;try simp only[Act.put,np]
        refine tkH 19 ⟨some 176,.fieldAddr 42 (.tmp 11) 0,0,"law.go:165",#[⟨14,.guard⟩],some (14,true)⟩ (HS _ Ec) ?_;try simp only[Act.put,np]
        refine tkH 20 ⟨some 177,.load 3 (.tmp 176),3,"law.go:165",#[⟨19,.data⟩,⟨14,.guard⟩],some (14,true)⟩ (HS _ Ec) ?_;try simp only[Act.put,np]
        refine tkH 21 ⟨some 178,.binOp .add 3 (.tmp 175) (.tmp 177) 3,3,"law.go:165",#[⟨18,.data⟩,⟨20,.data⟩,⟨14,.guard⟩],some (14,true)⟩ (HS _ Ec) ?_;try simp only[Act.put,np]
        refine wpAnyH_take (i:=22) (oi:=⟨some 179,.binOp .eql 3 (.tmp 173) (.tmp 178) 3,4,"law.go:165",#[⟨16,.data⟩,⟨21,.data⟩,⟨14,.guard⟩],some (14,true)⟩) (v:=.bool true) rfl (by kernel_rfl) (by kernel_rfl) (by kernel_rfl) (fun _ _ _ h=>h) (Or.inl ⟨by rfl,?_⟩) (HS _ Ec) ?_
        ·intro V hV;try dsimp only at hV
         go_simp;all_goals first|done|with_reducible rfl|exact Ld hd2
        try simp only[Act.put,np]
        refine tkH 23 ⟨some 180,.pick (.tmp 171) (.tmp 179) (.const (.bool false)),4,"law.go:165",#[⟨14,.data⟩,⟨22,.data⟩],none⟩ (HS _ Ec) ?_;try simp only[Act.put,np]
        refine tkH 24 ⟨some 181,.move (.tmp 180),4,"law.go:165",#[⟨23,.data⟩,⟨14,.chain⟩],none⟩ (HS _ Ec) ?_;try simp only[Act.put,np]
        refine tkH 25 ⟨some 182,.move (.tmp 7),22,"law.go:165",#[⟨24,.guard⟩],some (24,true)⟩ (HS _ Ec) ?_;try simp only[Act.put,np]
        refine tkH 26 ⟨some 183,.move (.tmp 8),23,"law.go:165",#[⟨24,.guard⟩],some (24,true)⟩ (HS _ Ec) ?_;try simp only[Act.put,np]
        refine tkH 27 ⟨some 184,.move (.tmp 1),27,"law.go:165",#[⟨24,.guard⟩],some (24,true)⟩ (HS _ Ec) ?_;try simp only[Act.put,np]
        refine tkH 28 ⟨some 185,.move (.tmp 5),30,"law.go:165",#[⟨24,.guard⟩],some (24,true)⟩ (HS _ Ec) ?_;try simp only[Act.put,np]
        refine tkH 29 ⟨some 186,.nilCheck (.tmp 185),0,"law.go:165",#[⟨28,.data⟩,⟨24,.guard⟩],some (24,true)⟩ (HS _ Ec) ?_;try simp only[Act.put,np]
        refine tkH 30 ⟨some 187,.fieldAddr 40 (.tmp 186) 1,0,"law.go:165",#[⟨29,.data⟩,⟨24,.guard⟩],some (24,true)⟩ (HS _ Ec) ?_;try simp only[Act.put,np]
        refine tkH 31 ⟨some 188,.load 36 (.tmp 187),36,"law.go:165",#[⟨30,.data⟩,⟨24,.guard⟩],some (24,true)⟩ (HS _ Ec) ?_;try simp only[Act.put,np]
        refine GH (i:=32) (o:=⟨some 189,.call ⟨.value (.func 14),#[.tmp 182,.tmp 183,.tmp 184,.tmp 188],#[22,23,27,36]⟩,4,"law.go:165",#[⟨25,.data⟩,⟨26,.data⟩,⟨27,.data⟩,⟨31,.data⟩,⟨24,.chain⟩,⟨24,.guard⟩],some (24,true)⟩) (by kernel_rfl) rfl (fun K2 hK2=>?_);go_simp;refine(JO _ Ec).mono ?_;rintro e TK⟨rfl,MX⟩;have YR:=Hi (Ec.trans (MX.mono Ec.size));clear MX;refine hK2 _ _ (HS _ YR) ?_;try simp only[Act.put,np]
        refine tkH 33 ⟨some 190,.pick (.tmp 181) (.tmp 189) (.const (.bool false)),4,"law.go:165",#[⟨24,.data⟩,⟨32,.data⟩],none⟩ (HS _ YR) ?_;try simp only[Act.put,np]
        refine tkH 34 ⟨some 191,.move (.tmp 190),4,"law.go:165",#[⟨33,.data⟩,⟨32,.chain⟩],none⟩ (HS _ YR) ?_;try simp only[Act.put,np]
        refine GH (i:=35) (o:=⟨some 192,.call ⟨.value (.func 6),#[],#[]⟩,4,"law.go:165",#[⟨34,.chain⟩,⟨34,.guard⟩],some (34,true)⟩) (by kernel_rfl) rfl (fun K3 hK3=>?_);go_simp;refine(rH _).mono ?_;rintro e dz⟨rfl,NV⟩;have OW:=Hi (YR.trans (NV.mono YR.size));clear NV;refine hK3 _ _ (HS _ OW) ?_;try simp only[Act.put,np]
        refine tkH 36 ⟨some 193,.pick (.tmp 191) (.tmp 192) (.const (.bool false)),4,"law.go:165",#[⟨34,.data⟩,⟨35,.data⟩],none⟩ (HS _ OW) ?_;try simp only[Act.put,np]
        refine tkH 37 ⟨some 4,.assign (.tmp 193),4,"law.go:165",#[⟨36,.data⟩,⟨35,.chain⟩,⟨0,.phase⟩,⟨1,.phase⟩,⟨2,.phase⟩,⟨3,.phase⟩,⟨4,.phase⟩,⟨5,.phase⟩,⟨6,.phase⟩,⟨7,.phase⟩,⟨8,.phase⟩,⟨9,.phase⟩,⟨10,.phase⟩,⟨11,.phase⟩,⟨12,.phase⟩,⟨13,.phase⟩,⟨14,.phase⟩,⟨15,.phase⟩,⟨16,.phase⟩,⟨17,.phase⟩,⟨18,.phase⟩,⟨19,.phase⟩,⟨20,.phase⟩,⟨21,.phase⟩,⟨22,.phase⟩,⟨23,.phase⟩,⟨24,.phase⟩,⟨25,.phase⟩,⟨26,.phase⟩,⟨27,.phase⟩,⟨28,.phase⟩,⟨29,.phase⟩,⟨30,.phase⟩,⟨31,.phase⟩,⟨32,.phase⟩,⟨33,.phase⟩,⟨34,.phase⟩,⟨35,.phase⟩,⟨36,.phase⟩],none⟩ (HS _ OW) ?_;try simp only[Act.put,np]
        refine wpAnyH_done (by kernel_rfl) ?_ _;clear hK1 K1 hK2 K2 hK3 K3;go_wp2_with fail;go_ret;exact⟨rfl,BM.trans (OW.mono BM.size)⟩
end Hv
end Go.Proofs.YtmbbhdebddbhoaaGreat
