/- SwAvX SwCr -/
import Derived.Test.YtmbbhdebddbhoaaGreatR43
set_option maxHeartbeats 8000000
set_option maxRecDepth 100000
set_option linter.all false
namespace Go.Proofs.YtmbbhdebddbhoaaGreat
open Tryz
namespace Hv
open Go.RowKit Go.Maps
open Wal Fil Prs Kp Cm Hex Sha Al Mem Dep IE
open Man hiding T
section
variable {P:Program}{ops:Array Oper}{Q:Exit→Act→World→Prop}{md:Region.Mode}{S:World→Prop}
theorem anZ{i j:Nat}{oi oj:Oper}{fuel:Nat}{listed:Array Bool}{a:Act}{w:World}(hr:Region.ready md ops listed=[i,j])(hi:ops[i]?=some oi)(hj:ops[j]?=some oj)
  (h1:∀ K':Act→World→Prop,Shut (∀ a w,S w→wpAnyH P md ops Q S fuel (listed.setIfInBounds i true) a w→K' a w)→if Region.wanted oi (yielded ops a.tmps)=true then Oper.wp P oi a w K' Q else K' (a.put oi.dst undef) w)
  (h2:∀ K':Act→World→Prop,Shut (∀ a w,S w→wpAnyH P md ops Q S fuel (listed.setIfInBounds j true) a w→K' a w)→if Region.wanted oj (yielded ops a.tmps)=true then Oper.wp P oj a w K' Q else K' (a.put oj.dst undef) w):
  wpAnyH P md ops Q S (fuel+1) listed a w:=
 ⟨fun h0=>(by rw[hr] at h0;cases h0),fun k hk=>by
  rw[hr] at hk;rcases Bt.1 hk with rfl|hk
  ·exact wpOp_step hi (fun K' hK=>h1 K' (fun a w hS hW=>hK a w ⟨hS,hW⟩))
  ·rw[EX] at hk;subst hk;exact wpOp_step hj (fun K' hK=>h2 K' (fun a w hS hW=>hK a w ⟨hS,hW⟩))⟩
end
theorem ac8{B:Nat}{w0 w:World}{b y n N:Nat}{A:M}{L:List (Nat×Obj)}(h:D9 B w0 w b y n N A L)(o:Obj):(w.heap.size,o)∉L:=fun Be=>by
 have:=(CR.1 (h.at_ _ o Be)).1;omega
theorem ug(l:List T)(a a':Option Addr)(cap cap':Nat)(w:World)(hl:Cg w a l)(hm:Cg w a' l)(h1:l.length≤1000):
  Calls prog 24 #[.slice a l.length cap,.slice a' l.length cap'] w fun e w'=>e=.returned (.bool true)∧Bw w w':=by
 have h:=acO l l a a' cap cap' w hl hm (by unfold maxLen;omega) (by unfold maxLen;omega);rw[Kr rfl] at h;exact h
def exO(n:Nat):Obj:=.cells #[.string (bs [114]),.slice (some ⟨n+1,0,none⟩) 2 2,.string (bs [115]),.slice (some ⟨n+1+1,0,none⟩) 2 2] 77
theorem arF(w:World){W1 W2 W3 W4:World}(h1:W1=w.alloc (.cells #[.string (bs [97]),.string (bs []),.string (bs [98]),.string (bs []),.string (bs [99]),.string (bs []),.string (bs [100]),.string (bs [52])] 75))
  (h2:W2=W1.alloc (.cells #[.string (bs [97]),.string (bs [98])] 9))(h3:W3=W2.alloc (.cells #[.string (bs [98]),.string (bs [99])] 9))(h4:W4=W3.alloc (exO w.heap.size)):
  AO W4 (some ⟨w.heap.size,0,none⟩) Na∧Ls W4 (some ⟨w.heap.size+1+1+1,0,none⟩) Nb∧Bw w W4:=by
 have s1:W1.heap.size=w.heap.size+1:=by rw[h1];exact Aq _ _
 have s2:W2.heap.size=w.heap.size+1+1:=by rw[h2,Aq,s1]
 have s3:W3.heap.size=w.heap.size+1+1+1:=by rw[h3,Aq,s2]
 have b1:Bw w W1:=by rw[h1];exact Aw _ _
 have b2:Bw W1 W2:=by rw[h2];exact Aw _ _
 have b3:Bw W2 W3:=by rw[h3];exact Aw _ _
 have b4:Bw W3 W4:=by rw[h4];exact Aw _ _
 have r1:Bo W1 w.heap.size (.slice (some ⟨w.heap.size,0,none⟩) 4 4) Na:=by rw[h1];exact axr (cs:=#[.string (bs [97]),.string (bs []),.string (bs [98]),.string (bs []),.string (bs [99]),.string (bs []),.string (bs [100]),.string (bs [52])]) Na (by decide) (by unfold Da Na;rfl) rfl
 have r2:Man.Bp W2 0 (.slice (some ⟨w.heap.size+1,0,none⟩) 2 2) [[97],[98]]:=by rw[h2];exact VI (n:=2) (AB _) [[97],[98]] (by decide) #[.string (bs [97]),.string (bs [98])] (by unfold strCells;rfl) s1 rfl
 have r3:Man.Bp W3 0 (.slice (some ⟨w.heap.size+1+1,0,none⟩) 2 2) [[98],[99]]:=by rw[h3];exact VI (n:=2) (AB _) [[98],[99]] (by decide) #[.string (bs [98]),.string (bs [99])] (by unfold strCells;rfl) s2 rfl
 have r2':=C9 r2 b3;have r4:Jp W4 0 (.slice (some ⟨w.heap.size+1+1+1,0,none⟩) 2 2) Nb [([114],.slice (some ⟨w.heap.size+1,0,none⟩) 2 2),([115],.slice (some ⟨w.heap.size+1+1,0,none⟩) 2 2)]:=by
  rw[h4];refine aAa [([114],.slice (some ⟨w.heap.size+1,0,none⟩) 2 2),([115],.slice (some ⟨w.heap.size+1+1,0,none⟩) 2 2)] Nb (by simp) rfl (fun i h h2=>?_) rfl s3 rfl
  match i,h with
  |0,_=>exact⟨rfl,r2'⟩
  |1,_=>exact⟨rfl,r3⟩
 exact⟨((((AO.CG r1).below b2).below b3).below b4),Jp.at_ r4,((b1.trans (b2.mono b1.size)).trans (b3.mono (by omega))).trans (b4.mono (by omega))⟩
theorem apR:aeZ:=fun w=>by
 obtain⟨hL,hU,hB⟩:=arF w rfl rfl rfl rfl;have MV:=Hi (akS (cap:=4) (uc:=2) (fc:=0) (fa:=none) (fs:=[]) arH hL hU (fun i hi=>by simp at hi) (by simp));have Bc:=Hi hB;clear hL hU hB;go_enter func6,ntmps6;go_wp2_with fail;refine MV.mono ?_;rintro e w1⟨b,y,p,d,r,xb,rfl,hk⟩;rw[arJ] at hk;have Ty:=Hi (D9.lower hk Bc Bc.size);have E5:=dH hk;have Ot:=Hi (show Cm.May 200 Dw from⟨E5.1,E5.2.1,E5.2.2⟩);have FO:=Hi (kK hk (by omega));clear hk E5 MV Bc;have HC:Hid (∀ (W:World) (N:Nat) (A:M) (L:List (Nat×Obj)),D9 w.heap.size w W b y 200 N A L→(xb,Ic y p d r)∈L→W.cell? ⟨xb,1,none⟩=some (.pointer (some ⟨p,0,none⟩))∧W.cell? ⟨xb,2,none⟩=some (.pointer (some ⟨d,0,none⟩))):=Hi fun W N A L h Be=>by
  have h1:=h.cell (k:=xb) (t:=40) Be 1;have h2:=h.cell (k:=xb) (t:=40) Be 2;exact⟨h1,h2⟩
 obtain⟨x1,x2⟩:=HC _ _ _ _ Ty (by simp);have UF:=Hi (fun(W:World) (hb:Bw w1 W)=>akM (show Fb W p y from(Ty.step hb).at_ p (ES y) (by simp)) (show GM W d y from(Ty.step hb).at_ d (Fq y) (by simp)) (Zx (Ty.step hb)) FO);rw[arI] at UF;go_upto_region 5 with fail
 go_region_held3 (fun V=>V.cell? ⟨xb,1,none⟩=some (.pointer (some ⟨p,0,none⟩))∧V.cell? ⟨xb,2,none⟩=some (.pointer (some ⟨d,0,none⟩)))
  (first|exact⟨x1,x2⟩|exact HC _ _ _ _ IB (by simp))
  (first|(go_at_call 11;refine(UF _ ((Af _ _).drew)).mono ?_;rintro e w2 ⟨v2,rfl,Cy,A8⟩;obtain⟨lq,lc,rfl⟩:=Bg Cy;have F3:=Hi Cy;have IB:=Hi (Ty.step (((Af _ w1).drew).trans A8));clear Cy A8))
 clear UF x1 x2;obtain⟨x1,x2⟩:=HC _ _ _ _ IB (by simp);have Jn:Hid (∀ (W:World),Bw w2 W→∀ (q:Option Addr) (c:Nat),Cg W q [[115]]→Calls prog 23 #[.pointer (some ⟨p,0,none⟩),.pointer (some ⟨d,0,none⟩),.slice q 1 c] W fun e w'=>∃ v1 v2,e=.returned (.tuple #[v1,v2,.int .i64 0])∧Man.Bp w' W.heap.size v1 [[114]]∧Man.Bp w' W.heap.size v2 [[97],[100]]∧Bw W w'):=Hi fun W hb q c hr=>by
  have h:=alx (cap:=c) (show Fb W p y from(IB.step hb).at_ p (ES y) (by simp)) (show GM W d y from(IB.step hb).at_ d (Fq y) (by simp)) (Zx (IB.step hb)) FO hr (by simp);rw[agd (by decide) (by decide),agc (by decide) (by decide)] at h;exact h
 have Y7:=Hi (VI (w:=w2) (g:=w2.heap.size) (n:=1) (AB _) [[115]] (by decide) #[.string (bs [115])] (by unfold strCells;rfl) rfl rfl);have vY:=Hi (IB.step (Aw w2 (.cells #[.string (bs [115])] 9)));go_upto_region 6 with fail
 go_region_held3 (fun V=>V.cell? ⟨xb,1,none⟩=some (.pointer (some ⟨p,0,none⟩))∧V.cell? ⟨xb,2,none⟩=some (.pointer (some ⟨d,0,none⟩)))
  (first|exact⟨x1,x2⟩|exact HC _ _ _ _ vY (by simp)|exact HC _ _ _ _ (vY.step (Af _ _).drew) (by simp)|exact HC _ _ _ _ M8 (by simp))
  (first|(go_at_call 23;refine(Jn _ ((Aw w2 (.cells #[.string (bs [115])] 9)).drew) _ _ (Ea (C9 Y7 ((Af _ _).drew)))).mono ?_;rintro e w3 ⟨v3,v4,rfl,Qh,Hl,Ak⟩;obtain⟨q3,c3,rfl⟩:=Bg Qh;obtain⟨q4,c4,rfl⟩:=Bg Hl;have aG:=Hi Qh;have HT4:=Hi Hl;have Am:=Hi (show Bw w2 w3 from((Aw w2 (.cells #[.string (bs [115])] 9)).drew).trans (Ak.mono ((Aw w2 (.cells #[.string (bs [115])] 9)).drew).size));have M8:=Hi (IB.step Am);clear Qh Hl Ak))
 have Hy:=Hi (DU.below Am);clear Jn Y7 vY x1 x2;obtain⟨x1,x2⟩:=HC _ _ _ _ M8 (by simp);have FL:Hid (∀ (W:World) (L:List (Nat×Obj)),D9 w.heap.size w W b y 200 3 Dw L→(p,ES y)∈L→(d,Fq y)∈L→∀ (q:Option Addr) (c:Nat),Cg W q [[115],[116]]→Calls prog 9 #[.pointer (some ⟨p,0,none⟩),.pointer (some ⟨d,0,none⟩),.slice q 2 c] W fun e w'=>e=.returned (.tuple #[.agg #[.int .i64 1,.int .i64 2,.int .i64 3],.int .i64 0])∧D9 w.heap.size w w' b y 200 5 (Iu both Dw [[115],[116]]) L∧DU W w'):=Hi fun W L hk hp hd q c hr=>by
  have h:=al9 (cap:=c) hk (by omega) (by omega) hp hd hr (by simp);rw[agd (by decide) (by decide),agc (by decide) (by decide),arE] at h;exact h
 clear x1 x2;obtain⟨x1,x2⟩:=HC _ _ _ _ M8 (by simp);go_upto_region 7 with fail
 go_cut [9,10] from 61 to 73 (fun s9 s10 wx=>∃ g,s9=.pointer (some ⟨g,0,none⟩)∧s10=.int .i64 0∧D9 w.heap.size w wx b y 200 5 (Iu both Dw [[115],[116]]) ((g,Tc 1 2 3) :: [(xb,Ic y p d r),(d,Fq y),(p,ES y)])∧Oz w3 wx)
 case first=>
  refine wp_region_held (S:=(fun V:World=>V.cell? ⟨xb,1,none⟩=some (.pointer (some ⟨p,0,none⟩))∧V.cell? ⟨xb,2,none⟩=some (.pointer (some ⟨d,0,none⟩)))) (by kernel_rfl) ?_;generalize hW0:({ heap:=w3.heap,tape:=w3.tape,drawn:=w3.drawn+1,os:=w3.os,output:=w3.output }:World)=W0;have bE:w3.drew=W0:=hW0;have Jk:=Hi (show D9 w.heap.size w W0 b y 200 3 Dw [(xb,Ic y p d r),(d,Fq y),(p,ES y)] from by rw[←bE];exact M8.step (Af w3.heap.size w3).drew);have Gb:=Hi (show DU w3 W0 from by rw[←bE];exact DU.below (Af w3.heap.size w3).drew);clear hW0 bE;clear x1 x2;refine tkH 0 ⟨some 62,.move (.tmp 2),30,"law.go:71",#[],none⟩ (HC _ _ _ _ Jk (by simp)) ?_;try simp only[Act.put,np]
  refine tkH 1 ⟨some 63,.nilCheck (.tmp 62),0,"law.go:71",#[⟨0,.data⟩],none⟩ (HC _ _ _ _ Jk (by simp)) ?_;try simp only[Act.put,np]
  refine tkH 2 ⟨some 64,.fieldAddr 40 (.tmp 63) 1,0,"law.go:71",#[⟨1,.data⟩],none⟩ (HC _ _ _ _ Jk (by simp)) ?_;try simp only[Act.put,np]
  refine tkH 3 ⟨some 65,.load 36 (.tmp 64),36,"law.go:71",#[⟨2,.data⟩],none⟩ (HC _ _ _ _ Jk (by simp)) ?_;try simp only[Act.put,np]
  refine tkH 4 ⟨some 66,.move (.tmp 2),30,"law.go:71",#[],none⟩ (HC _ _ _ _ Jk (by simp)) ?_;try simp only[Act.put,np]
  refine tkH 5 ⟨some 67,.nilCheck (.tmp 66),0,"law.go:71",#[⟨4,.data⟩],none⟩ (HC _ _ _ _ Jk (by simp)) ?_;try simp only[Act.put,np]
  refine tkH 6 ⟨some 68,.fieldAddr 40 (.tmp 67) 2,0,"law.go:71",#[⟨5,.data⟩],none⟩ (HC _ _ _ _ Jk (by simp)) ?_;try simp only[Act.put,np]
  refine tkH 7 ⟨some 69,.load 37 (.tmp 68),37,"law.go:71",#[⟨6,.data⟩],none⟩ (HC _ _ _ _ Jk (by simp)) ?_;try simp only[Act.put,np]
  have ak:=Hi (Jk.step (Aw W0 (.cells #[.string { data:=#[115] },.string { data:=#[116] }] 9)));have xA:=Hi (Gb.trans (DU.below (Aw W0 (.cells #[.string { data:=#[115] },.string { data:=#[116] }] 9))));have xe:=Hi (VI (base:=0) (w:=W0) (g:=W0.heap.size) (n:=2) (AB _) [[115],[116]] (by decide) #[.string { data:=#[115] },.string { data:=#[116] }] (by rw[JE];rfl) rfl rfl);have wG:=Hi (Jk.new (.cells #[.int .i64 0,.int .i64 0,.int .i64 0] 42));have HSz:=Hi (Gb.trans (DU.below (Aw W0 (.cells #[.int .i64 0,.int .i64 0,.int .i64 0] 42))));refine anZ (i:=8) (j:=13) (oi:=({ dst:=some 70,op:=Go.Op.buildSlice 27 2 #[(0,Go.Operand.const (Go.Value.string { data:=#[115] })),(1,Go.Operand.const (Go.Value.string { data:=#[116] }))],type:=27,pos:= "law.go:71",after:=#[],guard:=none }:Oper)) (oj:=({ dst:=some 9,op:=Go.Op.alloc 42,type:=0,pos:= "law.go:71",after:=#[],guard:=none }:Oper)) (by kernel_rfl) rfl rfl (fun Ka iP=>?_) (fun Kz iR=>?_)
  ·clear wG HSz;go_simp;refine iP _ _ (HC _ _ _ _ ak (by simp)) ?_;clear iP Ka;try simp only[Act.put,np]
   generalize W0.alloc (.cells #[.string { data:=#[115] },.string { data:=#[116] }] 9)=Wa at*;have wF:=Hi (ak.new (.cells #[.int .i64 0,.int .i64 0,.int .i64 0] 42));have HSb:=Hi (xA.trans (DU.below (Aw Wa (.cells #[.int .i64 0,.int .i64 0,.int .i64 0] 42))));have HRb:=Hi (C9 xe (Aw Wa (.cells #[.int .i64 0,.int .i64 0,.int .i64 0] 42)));refine anZ (i:=9) (j:=13) (oi:=⟨some 71,.call ⟨.value (.func 9),#[.tmp 65,.tmp 69,.tmp 70],#[36,37,27]⟩,44,"law.go:71",#[⟨3,.data⟩,⟨7,.data⟩,⟨8,.data⟩],none⟩) (oj:=({ dst:=some 9,op:=Go.Op.alloc 42,type:=0,pos:= "law.go:71",after:=#[],guard:=none }:Oper)) (by kernel_rfl) rfl rfl (fun Ka iP=>?_) (fun Kz iR=>?_)
   ·clear wF HSb HRb;go_simp;refine(FL _ _ ak (by simp) (by simp) _ _ (Ea xe)).mono ?_;rintro e w5⟨rfl,Ke,KY⟩;have Gq:=Hi Ke;have Ws:=Hi (xA.trans KY);clear Ke KY;refine iP _ _ (HC _ _ _ _ Gq (by simp)) ?_;clear iP Ka;try simp only[Act.put,np]
    refine tkH 10 ⟨some 61,.move (.tmp 71),44,"law.go:71",#[⟨9,.data⟩],none⟩ (HC _ _ _ _ Gq (by simp)) ?_;try simp only[Act.put,np]
    refine tkH 11 ⟨some 72,.extract (.tmp 61) 0,42,"law.go:71",#[⟨10,.data⟩],none⟩ (HC _ _ _ _ Gq (by simp)) ?_;try simp only[Act.put,np]
    refine tkH 12 ⟨some 73,.extract (.tmp 61) 1,43,"law.go:71",#[⟨10,.data⟩,⟨14,.gcOnly .lateStores⟩],none⟩ (HC _ _ _ _ Gq (by simp)) ?_;try simp only[Act.put,np]
    have gy:=Hi (Gq.new (.cells #[.int .i64 0,.int .i64 0,.int .i64 0] 42));have HSv:=Hi (Ws.trans (DU.below (Aw w5 (.cells #[.int .i64 0,.int .i64 0,.int .i64 0] 42))));refine LW (i:=13) (o:=⟨some 9,.alloc 42,0,"law.go:71",#[],none⟩) (by kernel_rfl) rfl (fun Kv hKv=>?_);go_simp;refine hKv _ _ (HC _ _ _ _ gy (by simp)) ?_;clear hKv Kv;try simp only[Act.put,np]
    generalize w5.alloc (.cells #[.int .i64 0,.int .i64 0,.int .i64 0] 42)=Wv at*;obtain⟨yD,yE,yF,UY,UZ,gZ⟩:=D9.swB (x1:=0) (x2:=0) (x3:=0) gy (Dg);have Dt:=uw (x1:=0) (x2:=0) (x3:=0) (y1:=1) (y2:=2) (y3:=3) (gy.at_ _ _ Dg);have MU:=Hi (D9.put (t:=42) gy (by decide) (ac8 Gq) Gq.Ay.size Dt.1 Dt.2);have RL:=Hi (HSv.trans (DU.box (o:=(0,0,0)) (gy.at_ _ _ Dg) Dt.1)).row;clear Dt;refine LW (i:=14) (o:=⟨none,.store 42 (.tmp 9) (.tmp 72),0,"law.go:71",#[⟨13,.data⟩,⟨11,.data⟩,⟨9,.chain⟩,⟨0,.phase⟩,⟨1,.phase⟩,⟨2,.phase⟩,⟨3,.phase⟩,⟨4,.phase⟩,⟨5,.phase⟩,⟨6,.phase⟩,⟨7,.phase⟩,⟨8,.phase⟩,⟨9,.phase⟩,⟨10,.phase⟩,⟨11,.phase⟩,⟨12,.textOnly .lateStores⟩,⟨13,.phase⟩],none⟩) (by kernel_rfl) rfl (fun Kw WU=>?_);go_simp;refine WU _ _ (HC _ _ _ _ MU (by simp)) ?_;try simp only[Act.put,np]
    refine tkH 15 ⟨some 10,.assign (.tmp 73),43,"law.go:71",#[⟨12,.data⟩,⟨14,.chain⟩,⟨0,.phase⟩,⟨1,.phase⟩,⟨2,.phase⟩,⟨3,.phase⟩,⟨4,.phase⟩,⟨5,.phase⟩,⟨6,.phase⟩,⟨7,.phase⟩,⟨8,.phase⟩,⟨9,.phase⟩,⟨10,.phase⟩,⟨11,.phase⟩,⟨12,.phase⟩,⟨13,.phase⟩,⟨14,.phase⟩],none⟩ (HC _ _ _ _ MU (by simp)) ?_;try simp only[Act.put,np]
    refine wpAnyH_done (by kernel_rfl) ?_ _;clear WU Kw;go_wp2_with fail;go_meet
    case rel=>exact⟨_,rfl,rfl,MU,RL⟩
   ·go_simp;refine iR _ _ (HC _ _ _ _ wF (by simp)) ?_;clear iR Kz;try simp only[Act.put,np]
    generalize Wa.alloc (.cells #[.int .i64 0,.int .i64 0,.int .i64 0] 42)=Wb at*;refine LW (i:=9) (o:=⟨some 71,.call ⟨.value (.func 9),#[.tmp 65,.tmp 69,.tmp 70],#[36,37,27]⟩,44,"law.go:71",#[⟨3,.data⟩,⟨7,.data⟩,⟨8,.data⟩],none⟩) (by kernel_rfl) rfl (fun Kc iQ=>?_);go_simp;refine(FL _ _ wF (by simp) (by simp) _ _ (Ea HRb)).mono ?_;rintro e w5⟨rfl,Ke,KY⟩;have Gq:=Hi Ke;have Ws:=Hi (HSb.trans KY);clear Ke KY;refine iQ _ _ (HC _ _ _ _ Gq (by simp)) ?_;clear iQ Kc;try simp only[Act.put,np]
    refine tkH 10 ⟨some 61,.move (.tmp 71),44,"law.go:71",#[⟨9,.data⟩],none⟩ (HC _ _ _ _ Gq (by simp)) ?_;try simp only[Act.put,np]
    refine tkH 11 ⟨some 72,.extract (.tmp 61) 0,42,"law.go:71",#[⟨10,.data⟩],none⟩ (HC _ _ _ _ Gq (by simp)) ?_;try simp only[Act.put,np]
    refine tkH 12 ⟨some 73,.extract (.tmp 61) 1,43,"law.go:71",#[⟨10,.data⟩,⟨14,.gcOnly .lateStores⟩],none⟩ (HC _ _ _ _ Gq (by simp)) ?_;try simp only[Act.put,np]
    obtain⟨yD,yE,yF,UY,UZ,gZ⟩:=D9.swB (x1:=0) (x2:=0) (x3:=0) Gq (Dg);have Dt:=uw (x1:=0) (x2:=0) (x3:=0) (y1:=1) (y2:=2) (y3:=3) (Gq.at_ _ _ Dg);have MU:=Hi (D9.put (t:=42) Gq (by decide) (ac8 ak) ak.Ay.size Dt.1 Dt.2);have RL:=Hi (Ws.trans (DU.box (o:=(0,0,0)) (Gq.at_ _ _ Dg) Dt.1)).row;clear Dt;refine LW (i:=14) (o:=⟨none,.store 42 (.tmp 9) (.tmp 72),0,"law.go:71",#[⟨13,.data⟩,⟨11,.data⟩,⟨9,.chain⟩,⟨0,.phase⟩,⟨1,.phase⟩,⟨2,.phase⟩,⟨3,.phase⟩,⟨4,.phase⟩,⟨5,.phase⟩,⟨6,.phase⟩,⟨7,.phase⟩,⟨8,.phase⟩,⟨9,.phase⟩,⟨10,.phase⟩,⟨11,.phase⟩,⟨12,.textOnly .lateStores⟩,⟨13,.phase⟩],none⟩) (by kernel_rfl) rfl (fun Kw WU=>?_);go_simp;refine WU _ _ (HC _ _ _ _ MU (by simp)) ?_;try simp only[Act.put,np]
    refine tkH 15 ⟨some 10,.assign (.tmp 73),43,"law.go:71",#[⟨12,.data⟩,⟨14,.chain⟩,⟨0,.phase⟩,⟨1,.phase⟩,⟨2,.phase⟩,⟨3,.phase⟩,⟨4,.phase⟩,⟨5,.phase⟩,⟨6,.phase⟩,⟨7,.phase⟩,⟨8,.phase⟩,⟨9,.phase⟩,⟨10,.phase⟩,⟨11,.phase⟩,⟨12,.phase⟩,⟨13,.phase⟩,⟨14,.phase⟩],none⟩ (HC _ _ _ _ MU (by simp)) ?_;try simp only[Act.put,np]
    refine wpAnyH_done (by kernel_rfl) ?_ _;clear WU Kw;go_wp2_with fail;go_meet
    case rel=>exact⟨_,rfl,rfl,MU,RL⟩
  ·clear ak xA xe;go_simp;refine iR _ _ (HC _ _ _ _ wG (by simp)) ?_;clear iR Kz;try simp only[Act.put,np]
   generalize W0.alloc (.cells #[.int .i64 0,.int .i64 0,.int .i64 0] 42)=Wz at*;have HKc:=Hi (wG.step (Aw Wz (.cells #[.string { data:=#[115] },.string { data:=#[116] }] 9)));have HSc:=Hi (HSz.trans (DU.below (Aw Wz (.cells #[.string { data:=#[115] },.string { data:=#[116] }] 9))));have HRc:=Hi (VI (base:=0) (w:=Wz) (g:=Wz.heap.size) (n:=2) (AB _) [[115],[116]] (by decide) #[.string { data:=#[115] },.string { data:=#[116] }] (by rw[JE];rfl) rfl rfl);refine LW (i:=8) (o:=({ dst:=some 70,op:=Go.Op.buildSlice 27 2 #[(0,Go.Operand.const (Go.Value.string { data:=#[115] })),(1,Go.Operand.const (Go.Value.string { data:=#[116] }))],type:=27,pos:= "law.go:71",after:=#[],guard:=none }:Oper)) (by kernel_rfl) rfl (fun Kb hKb=>?_);go_simp;refine hKb _ _ (HC _ _ _ _ HKc (by simp)) ?_;clear hKb Kb;try simp only[Act.put,np]
   generalize Wz.alloc (.cells #[.string { data:=#[115] },.string { data:=#[116] }] 9)=Wc at*;refine LW (i:=9) (o:=⟨some 71,.call ⟨.value (.func 9),#[.tmp 65,.tmp 69,.tmp 70],#[36,37,27]⟩,44,"law.go:71",#[⟨3,.data⟩,⟨7,.data⟩,⟨8,.data⟩],none⟩) (by kernel_rfl) rfl (fun Kc iQ=>?_);go_simp;refine(FL _ _ HKc (by simp) (by simp) _ _ (Ea HRc)).mono ?_;rintro e w5⟨rfl,Ke,KY⟩;have Gq:=Hi Ke;have Ws:=Hi (HSc.trans KY);clear Ke KY;refine iQ _ _ (HC _ _ _ _ Gq (by simp)) ?_;clear iQ Kc;try simp only[Act.put,np]
   refine tkH 10 ⟨some 61,.move (.tmp 71),44,"law.go:71",#[⟨9,.data⟩],none⟩ (HC _ _ _ _ Gq (by simp)) ?_;try simp only[Act.put,np]
   refine tkH 11 ⟨some 72,.extract (.tmp 61) 0,42,"law.go:71",#[⟨10,.data⟩],none⟩ (HC _ _ _ _ Gq (by simp)) ?_;try simp only[Act.put,np]
   refine tkH 12 ⟨some 73,.extract (.tmp 61) 1,43,"law.go:71",#[⟨10,.data⟩,⟨14,.gcOnly .lateStores⟩],none⟩ (HC _ _ _ _ Gq (by simp)) ?_;try simp only[Act.put,np]
   obtain⟨yD,yE,yF,UY,UZ,gZ⟩:=D9.swB (x1:=0) (x2:=0) (x3:=0) Gq (Dg);have Dt:=uw (x1:=0) (x2:=0) (x3:=0) (y1:=1) (y2:=2) (y3:=3) (Gq.at_ _ _ Dg);have MU:=Hi (D9.put (t:=42) Gq (by decide) (ac8 Jk) Jk.Ay.size Dt.1 Dt.2);have RL:=Hi (Ws.trans (DU.box (o:=(0,0,0)) (Gq.at_ _ _ Dg) Dt.1)).row;clear Dt;refine LW (i:=14) (o:=⟨none,.store 42 (.tmp 9) (.tmp 72),0,"law.go:71",#[⟨13,.data⟩,⟨11,.data⟩,⟨9,.chain⟩,⟨0,.phase⟩,⟨1,.phase⟩,⟨2,.phase⟩,⟨3,.phase⟩,⟨4,.phase⟩,⟨5,.phase⟩,⟨6,.phase⟩,⟨7,.phase⟩,⟨8,.phase⟩,⟨9,.phase⟩,⟨10,.phase⟩,⟨11,.phase⟩,⟨12,.textOnly .lateStores⟩,⟨13,.phase⟩],none⟩) (by kernel_rfl) rfl (fun Kw WU=>?_);go_simp;refine WU _ _ (HC _ _ _ _ MU (by simp)) ?_;try simp only[Act.put,np]
   refine tkH 15 ⟨some 10,.assign (.tmp 73),43,"law.go:71",#[⟨12,.data⟩,⟨14,.chain⟩,⟨0,.phase⟩,⟨1,.phase⟩,⟨2,.phase⟩,⟨3,.phase⟩,⟨4,.phase⟩,⟨5,.phase⟩,⟨6,.phase⟩,⟨7,.phase⟩,⟨8,.phase⟩,⟨9,.phase⟩,⟨10,.phase⟩,⟨11,.phase⟩,⟨12,.phase⟩,⟨13,.phase⟩,⟨14,.phase⟩],none⟩ (HC _ _ _ _ MU (by simp)) ?_;try simp only[Act.put,np]
   refine wpAnyH_done (by kernel_rfl) ?_ _;clear WU Kw;go_wp2_with fail;go_meet
   case rel=>exact⟨_,rfl,rfl,MU,RL⟩
 case rest=>
  obtain⟨g9,rfl,rfl,hk,hs⟩:=hcut;have Wl:=Hi hk;have NP:=Hi hs;clear hk hs FL x1 x2;have apn:=Hi (Ea (NP _ _ _ (Hy.row _ _ _ F3)));have apo:=Hi (Ea (NP _ _ _ aG));have apq:=Hi (Ea (NP _ _ _ HT4));clear NP Hy F3 aG HT4 M8 IB Ty;obtain⟨x1,x2⟩:=HC _ _ _ _ Wl (by simp);go_wp2_with fail;refine(azm d _).mono ?_;rintro e w6⟨rfl,Cx⟩;have Fz:=Hi Cx;clear Cx x1 x2;go_wp2_with fail;have ZY:=Hi (show Bw wc (w6.alloc (.cells #[.int .i64 0,.int .i64 0,.int .i64 0] 42)) from Fz.trans ((Aw w6 (.cells #[.int .i64 0,.int .i64 0,.int .i64 0] 42)).mono Fz.size));refine(ug [[100]] lq (some ⟨w6.heap.size+1,0,none⟩) lc 1 _ ((apn.below ZY).below (Aw (w6.alloc (.cells #[.int .i64 0,.int .i64 0,.int .i64 0] 42)) (.cells #[.string { data:=#[100] }] 9))) (Ea (VI (base:=0) (w:=(w6.alloc (.cells #[.int .i64 0,.int .i64 0,.int .i64 0] 42))) (g:=w6.heap.size+1) (n:=1) (AB _) [[100]] (by decide) #[.string { data:=#[100] }] (by rw[JE];rfl) (Aq _ _) rfl)) (by decide)).mono ?_;rintro e wA⟨rfl,hb⟩;have xQ:=Hi (show Bw wc wA from(ZY.out).trans (((Aw (w6.alloc (.cells #[.int .i64 0,.int .i64 0,.int .i64 0] 42)) (.cells #[.string { data:=#[100] }] 9)).trans (hb.mono (Aw (w6.alloc (.cells #[.int .i64 0,.int .i64 0,.int .i64 0] 42)) (.cells #[.string { data:=#[100] }] 9)).size)).mono (ZY.out).size));clear hb;go_wp2_with fail
  refine(ug [[114]] q3 (some ⟨wA.heap.size,0,none⟩) c3 1 _ ((apo.below xQ).below (Aw wA (.cells #[.string { data:=#[114] }] 9))) (Ea (VI (base:=0) (w:=wA) (g:=wA.heap.size) (n:=1) (AB _) [[114]] (by decide) #[.string { data:=#[114] }] (by rw[JE];rfl) rfl rfl)) (by decide)).mono ?_;rintro e wB⟨rfl,hb⟩;have xR:=Hi (show Bw wc wB from(xQ.out).trans (((Aw wA (.cells #[.string { data:=#[114] }] 9)).trans (hb.mono (Aw wA (.cells #[.string { data:=#[114] }] 9)).size)).mono (xQ.out).size));clear hb;go_wp2_with fail;refine(ug [[97],[100]] q4 (some ⟨wB.heap.size,0,none⟩) c4 2 _ ((apq.below xR).below (Aw wB (.cells #[.string { data:=#[97] },.string { data:=#[100] }] 9))) (Ea (VI (base:=0) (w:=wB) (g:=wB.heap.size) (n:=2) (AB _) [[97],[100]] (by decide) #[.string { data:=#[97] },.string { data:=#[100] }] (by rw[JE];rfl) rfl rfl)) (by decide)).mono ?_;rintro e wC⟨rfl,hb⟩;have xS:=Hi (show Bw wc wC from(xR.out).trans (((Aw wB (.cells #[.string { data:=#[97] },.string { data:=#[100] }] 9)).trans (hb.mono (Aw wB (.cells #[.string { data:=#[97] },.string { data:=#[100] }] 9)).size)).mono (xR.out).size));clear hb;have QH:=Hi (Wl.step xS);obtain⟨x1,x2⟩:=HC _ _ _ _ QH (by simp);obtain⟨y1,y2,y3,-⟩:=D9.swB (k:=g9) (x1:=1) (x2:=2) (x3:=3) QH (by simp);go_wp2_with fail;refine(sD (show Fb wC p y from QH.at_ p (ES y) (by simp)) (Zx QH) (kK QH (by omega)).VK).mono ?_;rintro e wD⟨vD,rfl,rC,hbD⟩;rw[arG Ot (by decide) (by decide)] at rC;obtain⟨qD,cD,rfl⟩:=Bg rC;have HTD:=Hi (Ea rC)
  have HwD:=Hi (xS.trans (hbD.mono xS.size));clear rC hbD x1 x2 y1 y2 y3;go_wp2_with fail;refine(ug [[98],[99]] qD (some ⟨wD.heap.size,0,none⟩) cD 2 _ ((HTD.out).below (Aw wD (.cells #[.string { data:=#[98] },.string { data:=#[99] }] 9))) (Ea (VI (base:=0) (w:=wD) (g:=wD.heap.size) (n:=2) (AB _) [[98],[99]] (by decide) #[.string { data:=#[98] },.string { data:=#[99] }] (by rw[JE];rfl) rfl rfl)) (by decide)).mono ?_;rintro e wE⟨rfl,hb⟩;have HwE:=Hi (show Bw wc wE from(HwD.out).trans (((Aw wD (.cells #[.string { data:=#[98] },.string { data:=#[99] }] 9)).trans (hb.mono (Aw wD (.cells #[.string { data:=#[98] },.string { data:=#[99] }] 9)).size)).mono (HwD.out).size));clear hb;go_wp2_with fail;go_ret;exact⟨rfl,Wl.Ay.trans (HwE.mono Wl.Ay.size)⟩
theorem XT.shrink{w:World}{b y n N:Nat}{bl:Nat→Prop}{A A':M}(h:XT w b y bl n N A A'):XT w b y (fun k=>bl k∧k < w.heap.size) n N A A':=by
 obtain⟨D,fp,m,x,gv,F,D',F',h1,h2,h3,h4,h5,h6,h7,h8,h9,Ij⟩:=h;exact⟨D,fp,m,x,gv,F,D',F',h1,h2,h3,h4,h5,h6,h7,h8,h9,fun k hk=>⟨Ij k hk,hk.elim (h1.lt k) (h2.lt k)⟩⟩
structure DR(P:World→(Nat→Prop)→Prop)(B:Nat)(w0 W:World)(L:List (Nat×Obj)):Prop where
 Ay:Below B w0 W
 low:B≤W.heap.size
 Fs:∃ bl,P W bl∧∀ k,bl k→(B≤k∧k < W.heap.size)∧∀ o,(k,o)∉L
 at_:∀ k o,(k,o)∈L→W.heap[k]?=some o
def PA(dn:Bool)(b y n N:Nat)(A A':M)(W:World)(bl:Nat→Prop):Prop:=IY dn W b y bl n N A A'
def PR(b y n N:Nat)(A A':M)(W:World)(bl:Nat→Prop):Prop:=XT W b y bl n N A A'
def PS(b y n N:Nat)(A:M)(W:World)(bl:Nat→Prop):Prop:=Rt W b y bl n N A
def Three(A:M)(roots:List T)(X:M):Prop:=X=A∨X=LU both A roots∨X=Iu both A roots
section
variable {P P':World→(Nat→Prop)→Prop}{B:Nat}{w0 w w' W W':World}{b y n N pm pd:Nat}{A A':M}{L:List (Nat×Obj)}{dn:Bool}
theorem DR.turn{bl Bu:Nat→Prop}(qw:Below B w0 W)(Xe:B≤W.heap.size)(hat:∀ k o,(k,o)∈L→W.heap[k]?=some o)(hb:∀ k,bl k→(B≤k∧k < W.heap.size)∧∀ o,(k,o)∉L)(hs:P' W' (fun k=>Bu k∧k < W'.heap.size))(hu:A7 (Gt W bl) W W')(De:∀ k,Bu k→bl k∨W.heap.size≤k):DR P' B w0 W' L∧DU W W':=by
 have hlt:∀ k o,(k,o)∈L→k < W.heap.size:=fun k o h=>(CR.1 (hat k o h)).1
 exact⟨⟨Ca qw hu (fun k hk=>(hb k hk.1).1.1) Xe,Ap Xe hu.size,⟨_,hs,fun k hk=>(De k hk.1).elim (fun e=>⟨⟨(hb k e).1.1,hk.2⟩,(hb k e).2⟩) (fun e=>⟨⟨Ap Xe e,hk.2⟩,fun o ho=>by have:=hlt k o ho;omega⟩)⟩,fun k o ho=>(hu.block k (hlt k o ho) (fun hn=>(hb k hn.1).2 o ho)).trans (hat k o ho)⟩,DU.upd hu⟩
theorem DR.cell(h:DR P B w0 w L){k:Nat}{cs:Array Value}{t:TypeId}(hm:(k,.cells cs t)∈L)(i:Nat):w.cell? ⟨k,i,none⟩=cs[i]? :=BA w k i cs t _ (h.at_ _ _ hm)
theorem DR.step(h:DR P B w0 W L)(hb:Bw W W')(hP:∀ bl,P W bl→P W' bl):DR P B w0 W' L:=by
 obtain⟨bl,h1,h2⟩:=h.Fs;exact⟨h.Ay.trans (hb.mono h.low),Ap h.low hb.size,⟨bl,hP bl h1,fun k hk=>⟨⟨(h2 k hk).1.1,DK (h2 k hk).1.2 hb.size⟩,(h2 k hk).2⟩⟩,fun k o ho=>(hb.block k (CR.1 (h.at_ k o ho)).1).trans (h.at_ k o ho)⟩
theorem DR.nT(h:DR (PA dn b y n N A A') B w0 W L)(hb:Bw W W'):DR (PA dn b y n N A A') B w0 W' L:=h.step hb (fun _ h=>IY.below h hb)
theorem DR.anew(h:DR (PA dn b y n N A A') B w0 W L)(o:Obj):DR (PA dn b y n N A A') B w0 (W.alloc o) ((W.heap.size,o) :: L):=by
 have hb:=Aw W o;have h2:=h.nT hb;obtain⟨bl,h3,h4⟩:=h.Fs;refine⟨h2.Ay,h2.low,⟨bl,IY.below h3 hb,fun k hk=>⟨⟨(h4 k hk).1.1,DK (h4 k hk).1.2 hb.size⟩,fun o' ho=>?_⟩⟩,fun k o' ho=>?_⟩
 ·rcases Bt.1 ho with e|e
  ·cases e;have:=(h4 _ hk).1.2;omega
  ·exact(h4 k hk).2 o' e
 ·rcases Bt.1 ho with e|e
  ·cases e;exact AJ W o
  ·exact h2.at_ k o' e
theorem DR.aq0{k:Nat}{cs:Array Value}{t:TypeId}{o':Obj}(h:DR (PA dn b y n N A A') B w0 w ((k,.cells cs t) :: L))(ht:t≠9)(hne:∀ o,(k,o)∉L)(hB:B≤k)(hu:A7 (fun j=>j=k) w w')(ho:w'.heap[k]?=some o'):DR (PA dn b y n N A A') B w0 w' ((k,o') :: L):=by
 obtain⟨h1,h2,⟨bl,h3,h4⟩,ha⟩:=h;have hk:=ha k _ Dg;refine⟨Ca h1 hu (fun j hj=>by subst hj;exact hB) h2,Ap h2 hu.size,⟨bl,IY.upd h3 hu (fun j hj e=>?_) (fun j hj e=>(h4 j hj).2 _ (by subst e;exact Dg)),fun j hj=>⟨⟨(h4 j hj).1.1,DK (h4 j hj).1.2 hu.size⟩,fun o hm=>?_⟩⟩,fun j o hj=>?_⟩
 ·subst e;exact AA.ne hj ⟨_,_,hk⟩ (fun e=>ht e.symm) rfl
 ·rcases Bt.1 hm with e|e
  ·cases e;exact(h4 _ hj).2 _ Dg
  ·exact(h4 j hj).2 o (DT _ e)
 ·rcases Bt.1 hj with e|e
  ·cases e;exact ho
  ·have KN:=ha j o (DT _ e);exact(hu.block j (CR.1 KN).1 (fun f=>by subst f;exact hne o e)).trans KN
theorem DR.swB{k:Nat}{x1 x2 x3:Int}(h:DR P B w0 w L)(Be:(k,Tc x1 x2 x3)∈L):w.cell? ⟨k,0,none⟩=some (.int .i64 x1)∧w.cell? ⟨k,1,none⟩=some (.int .i64 x2)∧w.cell? ⟨k,2,none⟩=some (.int .i64 x3)∧w.frozen? ⟨k,0,none⟩=false∧w.frozen? ⟨k,1,none⟩=false∧w.frozen? ⟨k,2,none⟩=false:=by
 have hk:=h.at_ k _ Be;exact⟨h.cell Be 0,h.cell Be 1,h.cell Be 2,CJ _ _ 0 _ _ hk,CJ _ _ 1 _ _ hk,CJ _ _ 2 _ _ hk⟩
theorem zF(h:D9 B w0 W b y n N A L):DR (PA false b y n N A A) B w0 W L:=by
 obtain⟨⟨h1,h2,hx,bl,h3,h4⟩,ha⟩:=h;exact⟨h1,h2,⟨fun k=>bl k∧k < W.heap.size,⟨rfl,h3.shrink.loosen⟩,fun k hk=>⟨⟨(h4 k hk.1).1,hk.2⟩,fun o ho=>(h4 k hk.1).2 ⟨o,ho⟩⟩⟩,ha⟩
theorem awF(h:DR (PS b y n N A) B w0 W L):D9 B w0 W b y n N A L:=by
 obtain⟨h1,h2,⟨bl,h3,h4⟩,ha⟩:=h;exact⟨⟨h1,h2,fun k ⟨o,ho⟩=>(CR.1 (ha k o ho)).1,bl,h3,fun k hk=>⟨(h4 k hk).1.1,fun⟨o,ho⟩=>(h4 k hk).2 o ho⟩⟩,ha⟩
theorem agW(h:DR (PA dn b y n N A A') B w0 W L):Calls prog 15 #[.pointer (some ⟨y,0,none⟩)] W fun e w'=>e=.returned (.pointer (some ⟨b,0,none⟩))∧W=w':=by
 obtain⟨bl,h1,_⟩:=h.Fs;exact arM h1
theorem asM(h:DR (PR b y n N A A') B w0 W L):Calls prog 15 #[.pointer (some ⟨y,0,none⟩)] W fun e w'=>e=.returned (.pointer (some ⟨b,0,none⟩))∧W=w':=by
 obtain⟨bl,h1,_⟩:=h.Fs;exact asj h1
theorem asz(h:DR (PA dn b y n N A A') B w0 W L)(k:Int)(hk:k≤9223372036854775807):Calls prog 16 #[.pointer (some ⟨b,0,none⟩),.int .i64 k] W fun e w'=>e=.returned (.int .i64 0)∧DR (PA dn b y n N A A') B w0 w' L∧DU W w':=by
 obtain⟨bl,h1,h2⟩:=h.Fs;refine(arN h1 k hk).mono ?_;rintro e w'⟨rfl,g1,g2⟩;exact⟨rfl,DR.turn h.Ay h.low h.at_ h2 (IY.shrink g1) g2 (fun k hk=>.inl hk)⟩
theorem asy(h:DR (PA dn b y n N A A') B w0 W L)(keep:T)(hk:keep.length≤1000000000):Calls prog 17 #[.pointer (some ⟨b,0,none⟩),.string (bs keep)] W fun e w'=>e=.returned (.int .i64 0)∧DR (PR b y n N A A') B w0 w' L∧DU W w':=by
 obtain⟨bl,h1,h2⟩:=h.Fs;refine(arL h1 keep hk).mono ?_;rintro e w'⟨rfl,Bu,g1,g2,g3⟩;exact⟨rfl,DR.turn h.Ay h.low h.at_ h2 (XT.shrink g1) g2 g3⟩
theorem asA(h:DR (PR b y n N A A') B w0 W L):Calls prog 18 #[.pointer (some ⟨b,0,none⟩)] W fun e w'=>∃ y2 A2,e=.returned (.tuple #[.pointer (some ⟨y2,0,none⟩),.int .i64 0])∧(A2=A∨A2=A')∧D9 B w0 w' b y2 n N A2 L∧DU W w':=by
 obtain⟨bl,⟨D,fp,m,x,gv,F,D',F',h1,h2,h3,h4,h5,h6,h7,h8,h9,Ij⟩,hb⟩:=h.Fs;refine(agT h1 h6 h7 h4 h8).mono ?_;rintro e w'⟨y2,Bu,rfl,p1,p2,p3,p4⟩;have hg:DR (PS b y2 n N F'.m) B w0 w' L∧DU W w':=DR.turn h.Ay h.low h.at_ hb (Bu:=Bu) (by rw[h5] at p1;exact p1.shrink) (p2.mono (fun k hk=>dI h1 h2 Ij k (.inl hk))) (fun k hk=>(p3 k hk).imp (fun e=>Ij k (.inl e)) id);exact⟨y2,F'.m,rfl,h9,awF hg.1,hg.2⟩
theorem asB{q:Option Addr}{cap:Nat}{roots:List T}(h:DR (PA false b y n N A A) B w0 W L)(hN:N+2 < 1000000000)(hn:n≤200)(hm:(pm,ES y)∈L)(hd:(pd,Fq y)∈L)(hr:Cg W q roots)(Gi:roots.length≤1000000):
  Calls prog 9 #[.pointer (some ⟨pm,0,none⟩),.pointer (some ⟨pd,0,none⟩),.slice q roots.length cap] W fun e w'=>∃ (x1 x2 x3 c:Int) (dn:Bool) (A1 A2:M),e=.returned (.tuple #[.agg #[.int .i64 x1,.int .i64 x2,.int .i64 x3],.int .i64 c])∧(c=0∨(c=40∧x1=0∧x2=0∧x3=0))∧Three A roots A1∧Three A roots A2∧DR (PA dn b y n (N+2) A1 A2) B w0 w' L∧DU W w':=by
 obtain⟨bl,⟨_,h1⟩,h2⟩:=h.Fs;refine(agI h1 (fun k hk=>(h2 k hk).1.2) hN (Ap h1.up.2.2.1 (acI hn)) (h.at_ _ _ hm) (h.at_ _ _ hd) hr Gi).mono ?_;rintro e w'⟨c,Bu,rfl,⟨hu,LJ⟩,hs⟩;rcases LJ with⟨rfl,Cb⟩|⟨_,rfl,hdn⟩
 ·exact⟨_,_,_,0,false,_,_,by unfold VO;rw[Ab rfl],.inl rfl,.inr (.inr rfl),.inr (.inr rfl),DR.turn (P':=PA false b y n (N+2) (Iu both A roots) (Iu both A roots)) h.Ay h.low h.at_ h2 (Bu:=Bu) ⟨rfl,Cb.shrink⟩ hu hs⟩
 ·have e40:VO A roots 40=.agg #[.int .i64 0,.int .i64 0,.int .i64 0]:=by unfold VO;rw[Aa (by decide)]
  rw[e40];rcases hdn with O0|O0
  ·exact⟨0,0,0,40,true,_,_,rfl,.inr ⟨rfl,rfl,rfl,rfl⟩,.inl rfl,.inr (.inl rfl),DR.turn (P':=PA true b y n (N+2) A (LU both A roots)) h.Ay h.low h.at_ h2 (Bu:=Bu) (IY.shrink (dn:=true) O0) hu hs⟩
  ·exact⟨0,0,0,40,true,_,_,rfl,.inr ⟨rfl,rfl,rfl,rfl⟩,.inr (.inl rfl),.inr (.inr rfl),DR.turn (P':=PA true b y n (N+2) (LU both A roots) (Iu both A roots)) h.Ay h.low h.at_ h2 (Bu:=Bu) (IY.shrink (dn:=true) O0) hu hs⟩
end
section
variable {n:Nat}{A X:M}{roots:List T}
theorem Three.may(hm:Cm.May n A)(h:Three A roots X):Cm.May n X:=by
 rcases h with rfl|rfl|rfl
 ·exact hm
 ·exact XM Mf hm
 ·exact uz Mf hm
theorem Three.marked(hm:Cm.May n A)(h:Three A roots X)(k:T):Gs both X roots k↔Gs both A roots k:=by
 rcases h with rfl|rfl|rfl
 ·exact Iff.rfl
 ·exact azj Mf hm k
 ·exact an4 Mf hm k
theorem Three.kept(hm:Cm.May n A)(h:Three A roots X):∀ k,Gs both A roots k→mV both X k=mV both A k:=fun k hk=>by
 rcases h with rfl|rfl|rfl
 ·rfl
 ·exact ad4 Mf hm k
 ·rw[uy Mf hm,Ab hk]
theorem Three.avu(hm:Cm.May n A)(h:Three A roots X):∀ k,Gs both A roots k→mV both (Iu both X roots) k=mV both A k:=fun k hk=>by
 rw[uy Mf (h.may hm),Ab ((h.marked hm k).2 hk),h.kept hm k hk]
end
end Hv
end Go.Proofs.YtmbbhdebddbhoaaGreat
