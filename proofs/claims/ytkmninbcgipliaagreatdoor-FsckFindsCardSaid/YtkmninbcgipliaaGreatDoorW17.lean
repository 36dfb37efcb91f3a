/- FckAv SwCr FckCr FckG FckS FckFi -/
import Derived.Test.YtkmninbcgipliaaGreatDoorW16
set_option maxHeartbeats 16000000
set_option maxRecDepth 100000
set_option linter.all false
namespace Go.Proofs.YtkmninbcgipliaaGreatDoor
open Go.Proofs.Tryz
namespace Ew
open Go.RowKit Go.Maps
open Aw Ah Bu Kp Bz Hex BH Al Mem Ci Gr Hv
open Aq hiding T
theorem avj(w:World){W1 W2 W3:World}(h1:W1=w.alloc (.cells #[.string (bs [97]),.string (bs [49])] 51))
  (h2:W2=W1.alloc (.cells #[.string (bs [97])] 9))(h3:W3=W2.alloc (.cells #[.string (bs [114]),.slice (some ⟨w.heap.size+1,0,none⟩) 1 1] 63)):
  Bg W3 (some ⟨w.heap.size,0,none⟩) MV∧NF W3 (some ⟨w.heap.size+1+1,0,none⟩) Oe∧Bw w W3:=by
 have s1:W1.heap.size=w.heap.size+1:=by rw[h1];exact Az _ _
 have s2:W2.heap.size=w.heap.size+1+1:=by rw[h2,Az,s1]
 have b1:Bw w W1:=by rw[h1];exact AQ _ _
 have b2:Bw W1 W2:=by rw[h2];exact AQ _ _
 have b3:Bw W2 W3:=by rw[h3];exact AQ _ _
 have r1:BK W1 w.heap.size (.slice w.heap.size 1 1) MV:=by rw[h1];exact aAC (cs:=#[.string (bs [97]),.string (bs [49])]) MV (by decide) (by unfold Dr MV;rfl) rfl
 have r2:Aq.Bt W2 0 (.slice (some ⟨w.heap.size+1,0,none⟩) 1 1) [[97]]:=by rw[h2];exact az9 (n:=1) (AV _) [[97]] (by decide) #[.string (bs [97])] (by unfold strCells;rfl) s1 rfl
 have r4:Lv W3 0 (.slice (some ⟨w.heap.size+1+1,0,none⟩) 1 1) Oe [([114],.slice (some ⟨w.heap.size+1,0,none⟩) 1 1)]:=by
  rw[h3];refine aDR [([114],.slice (some ⟨w.heap.size+1,0,none⟩) 1 1)] Oe (by simp) rfl (fun i h h2=>?_) rfl s2 rfl
  match i,h with
  |0,_=>exact⟨rfl,r2⟩
 exact⟨((Bg.CR r1).below b2).below b3,Lv.at_ r4,(bT b1 b2).trans (b3.mono (by omega))⟩
theorem S9.below{w w':World}{q:Addr}{c:Nat×T×T}(h:S9 w q c)(hb:Bw w w'):S9 w' q c:=h.upd (ub hb) (fun f=>f)
theorem avp{W:World}(nm:T){g:Nat}(hg:W.heap.size=g):Eh (W.alloc (.cells #[nm,.string { data:=#[120] },false] 57)) (some ⟨g,0,none⟩) [⟨nm,[120],false⟩]:=by
 subst hg;exact rO (c:=⟨nm,[120],false⟩) (AU W _)
theorem asi:afj:=fun w WT=>by
 obtain⟨hL,hU,hB⟩:=avj w rfl rfl rfl;have QU:=Hi (amT (cap:=1) (uc:=1) (fc:=0) (fa:=none) (fs:=[]) avk hL hU (fun i hi=>by simp at hi) (by simp));have AP:=Hi hB;have HMX:=Hi WT;clear hL hU hB WT
 go_in
 go_wp2_with fail;refine QU.mono ?_;rintro e w1⟨b,y,p,d,r,xb,rfl,hk⟩;rw[avl] at hk;have Zx:=Hi (Em.lower hk AP AP.size);clear hk QU AP;have HC:Hid (∀ (W:World) (N:Nat) (A:M) (L:List (Nat×Obj)),Em w.heap.size w W b y 100 N A L→(xb,Jb y p d r)∈L→W.cell? xb=some (.pointer y)∧W.cell? ⟨xb,1,none⟩=some (.pointer p)∧W.cell? ⟨xb,2,none⟩=some (.pointer d)):=Hi fun W N A L h Dj=>by
  have h0:=h.cell (k:=xb) (t:=47) Dj 0;have h1:=h.cell (k:=xb) (t:=47) Dj 1;have h2:=h.cell (k:=xb) (t:=47) Dj 2;exact⟨h0,h1,h2⟩
 obtain⟨x0,x1,x2⟩:=HC _ _ _ _ Zx (by simp);have QW:=Hi (fun(W:World) (hW:Bw w1 W)=>nQ Zx (by omega) (show(p,Fp y)∈_ by simp) (show(d,FC y)∈_ by simp) hW);rw[LY avo] at QW;have HNA:=Hi (fun(W:World)=>bI [97] W (by decide))
 have Ns:=Hi (fun(W:World) (N:Nat) (L:List (Nat×Obj)) (hk:Em w.heap.size w W b y 100 N IC L) (hN:N < 1000) (g:Nat) (hg:W.heap.size=g)=>show Calls prog 17 #[y,.slice g 1 1] (W.alloc (.cells #[Jl,.string { data:=#[120] },false] 57)) fun e w'=>e=.returned (.int .i64 0)∧Em w.heap.size w w' b y 100 (N+1) F6 L∧J3 W w' from by
  have h:=anc (cap:=1) (hk.step (AQ W _)) (by omega) (avp Jl hg) (by simp) (by show 8+Jl.length+1+0≤_;rw[sQ];omega);rw[aiM.1,aiM.2] at h;refine h.mono ?_;rintro e w'⟨rfl,h1,h2⟩;exact⟨rfl,h1,(J3.below (AQ W _)).trans h2⟩)
 have Bj:({ data:=#[97] }:ByteArray)=bs [97]:=rfl;have HNB:=Hi (fun(W:World)=>show Calls prog 15 #[.string (bs [97])] W (Rt W Jl) from HNA W);go_upto_region 2 with fail
 go_cut [51] from 23 to 50 (fun s51 wx=>s51= ↑false∧Em w.heap.size w wx b y 100 4 F6 [(xb,Jb y p d r),(d,FC y),(p,Fp y)])
 case first=>
  go_region_held3 (fun V=>V.cell? xb=some (.pointer y)∧V.cell? ⟨xb,1,none⟩=some (.pointer p)∧V.cell? ⟨xb,2,none⟩=some (.pointer d))
   (first|exact⟨x0,x1,x2⟩|exact HC _ _ _ _ OT (by simp)|exact HC _ _ _ _ (PW.step (AQ _ _)) (by simp)|exact HC _ _ _ _ PW (by simp)|exact HC _ _ _ _ PV (by simp))
   (first
    |(go_at_call 14;refine(QW _ ((Ai _ _).drew)).mono ?_;rintro e w2 ⟨rfl,Ac⟩;have PV:=Hi (Zx.step (((Ai _ w1).drew).trans Ac));clear Ac)
    |(go_at_call 15;refine(HNB _).mono ?_;rintro e w3 ⟨rfl,Av⟩;have PW:=Hi (PV.step Av);clear Av)
    |(go_at_call 17;refine(Ns _ _ _ PW (by omega) _ rfl).mono ?_;rintro e w4 ⟨rfl,mr,WW⟩;have OT:=Hi mr;clear mr WW))
  go_wp2_with fail;go_meet
  case rel=>exact⟨rfl,OT⟩
 case rest=>
  obtain⟨rfl,hk⟩:=hcut;have qd:=Hi hk;obtain⟨y0,y1,y2⟩:=HC _ _ _ _ hk (by simp);have DF:=iy hk;have JX:=Hi (show Bz.May 100 F6 from⟨DF.1,DF.2.1,DF.2.2⟩);have Fx:=Hi (fun(W:World) (hW:Bw wc W)=>anf qd (by omega) (show(p,Fp y)∈_ by simp) (show(d,FC y)∈_ by simp) hW);rw[avc] at Fx;clear hk DF x0 x1 x2 QW HNA Ns;go_upto_region 4 with fail
  go_region_held3 (fun V=>V.cell? ⟨xb,1,none⟩=some (.pointer p)∧V.cell? ⟨xb,2,none⟩=some (.pointer d))
   (first|exact⟨y1,y2⟩|exact(HC _ _ _ _ QT (by simp)).2)
   (first|(go_at_call 18;refine(Fx _ ((Ai _ _).drew)).mono ?_;rintro e w5 ⟨v5,rfl,KV,Bl⟩;obtain⟨q5,c5,rfl⟩:=Bp KV;have Lm:=Hi KV;have Cj:=Hi (((Ai _ wc).drew).trans Bl);have QT:=Hi (qd.step Cj);clear KV Bl))
  clear Fx y0 y1 y2;obtain⟨y0,y1,y2⟩:=HC _ _ _ _ QT (by simp);have Sq:=Hi (fun(W:World) (hW:Bw w5 W)=>nQ QT (by omega) (show(p,Fp y)∈_ by simp) (show(d,FC y)∈_ by simp) hW);rw[decide_eq_false avh] at Sq;go_upto_region 5 with fail
  go_region_held3 (fun V=>V.cell? ⟨xb,1,none⟩=some (.pointer p)∧V.cell? ⟨xb,2,none⟩=some (.pointer d))
   (first|exact⟨y1,y2⟩|exact(HC _ _ _ _ XH (by simp)).2)
   (first|(go_at_call 14;refine(Sq _ ((Ai _ _).drew)).mono ?_;rintro e w6 ⟨rfl,Co⟩;have EP:=Hi (((Ai _ w5).drew).trans Co);have XH:=Hi (QT.step EP);clear Co))
  clear Sq y0 y1 y2;have I7:=Hi ((J3.below (EP.out)).br Lm);obtain⟨y0,y1,y2⟩:=HC _ _ _ _ XH (by simp)
  have jO:=Hi (fun(W:World) (hW:Bw w6 W)=>show Calls prog 20 #[p,d] W fun e w'=>e=.returned (.tuple #[.int .i64 1,.int .i64 1,.int .i64 0])∧Em w.heap.size w w' b y 100 6 (Je both F6) [(xb,Jb y p d r),(d,FC y),(p,Fp y)]∧J3 w6 w' from by
   have h:=ane (XH.step hW) (by omega) (by omega) (show(p,Fp y)∈_ by simp) (show(d,FC y)∈_ by simp);rw[ave,aiG] at h;refine h.mono ?_;rintro e w'⟨rfl,h1,h2⟩;exact⟨rfl,h1,(J3.below hW).trans h2⟩)
  go_upto_region 6 with fail
  go_region_held3 (fun V=>V.cell? ⟨xb,1,none⟩=some (.pointer p)∧V.cell? ⟨xb,2,none⟩=some (.pointer d))
   (first|exact⟨y1,y2⟩|exact(HC _ _ _ _ Sj (by simp)).2)
   (first|(go_at_call 20;refine(jO _ ((Ai _ _).drew)).mono ?_;rintro e w7 ⟨rfl,mD,hs7⟩;have Sj:=Hi mD;have qJ:=Hi (hs7.br I7);clear mD hs7))
  clear jO y0 y1 y2;have KG:=Hi (IW.CR qJ);have hrb:Xk [119,97,110,116,32,55,50,32,54,49]=(3,[114],[97]):=by decide+kernel
  have hrc:Xl [119,97,110,116,32,55,50,32,54,49]=0:=by decide+kernel
  have Iz:=Hi (fun(W:World) (hW:Bw w7 W)=>auZ [119,97,110,116,32,55,50,32,54,49] W (by decide) ((HMX.below Sj.AR).below hW));rw[hrb,hrc] at Iz;unfold kF at Iz;obtain⟨a0,Bh,SC,-⟩:=KG.index c5 0 (by simp);obtain⟨a1,uF,fo,-⟩:=KG.index c5 1 (by simp);have Bh:∀ W,(Instr.indexAt 58 (.slice q5 2 c5) (.int .i64 0)).run prog W=.ok (.pointer (some a0)) W:=Bh;have uF:∀ W,(Instr.indexAt 58 (.slice q5 2 c5) (.int .i64 1)).run prog W=.ok (.pointer (some a1)) W:=uF;have HA:=Hi (fun(V:World) (hV:Bw w7 V)=>CB (S9.below SC hV).cells (S9.below fo hV).cells);have HS8:=Hi (fun(W:World) (hW:Bw w7 W)=>nQ Sj (by omega) (show(p,Fp y)∈_ by simp) (show(d,FC y)∈_ by simp) hW);rw[LY (an5 J4 JX)] at HS8;have Iw:=Hi (fun(W:World) (hW:Bw w7 W)=>(iq Sj).names W hW);rw[avd JX.out] at Iw;have Gb:=Hi (fun W=>ain (3,[114],[97]) W (by decide) (by decide) (by decide));have HL9:=Hi (fun W=>ain (9,[],[]) W (by decide) (by decide) (by decide));rw[show Ms (3,[114],[97])=[119,97,110,116,32,55,50,32,54,49] by decide+kernel] at Gb;rw[show Ms (9,[],[])=[63,32,45,32,45] by decide+kernel] at HL9;clear hrb hrc SC fo KG Lm I7 qJ;go_wp2_with fail;refine(aA8 _).mono ?_;rintro e w8⟨rfl,rfl⟩;go_wp2_with fail;refine(Iz _ (Ai _ _)).mono ?_;rintro e w9⟨rfl,FI⟩;have Yh:=FI.trans ((AQ w9 (.cells #[.int .u8 3,.string (bs [114]),.string (bs [97])] 23)).mono FI.size);have HX:=Hi (AU w9 (.cells #[.int .u8 3,.string (bs [114]),.string (bs [97])] 23))
  obtain⟨Fe,YQ⟩:=ex (w9.alloc (.cells #[.int .u8 3,.string (bs [114]),.string (bs [97])] 23));rw[YQ] at Yh HX;have O1:=Hi Yh;clear FI Yh
  have Bo:=Hi (fun(V:World) (hV:Bw Fe V)=>show(V.cell? xb=some (.pointer y)∧V.cell? ⟨xb,1,none⟩=some (.pointer p)∧V.cell? ⟨xb,2,none⟩=some (.pointer d))∧(V.cell? a0=some (.int .u8 1)∧V.cell? ⟨a0.block,a0.off+1,none⟩=some ↑Jl∧V.cell? ⟨a0.block,a0.off+2,none⟩=some (.string (bs [])))∧(V.cell? a1=some (.int .u8 3)∧V.cell? ⟨a1.block,a1.off+1,none⟩=some (.string (bs [114]))∧V.cell? ⟨a1.block,a1.off+2,none⟩=some (.string (bs [97])))∧(V.cell? w9.heap.size=some (.int .u8 3)∧V.cell? ⟨w9.heap.size,1,none⟩=some (.string (bs [114]))∧V.cell? ⟨w9.heap.size,2,none⟩=some (.string (bs [97]))) from by
   have hV7:=O1.trans (hV.mono O1.size);obtain⟨q0,q1⟩:=HA V hV7;have hx:=(hV.block _ (Ao HX)).trans HX;exact⟨HC _ _ _ _ (Sj.step hV7) (by simp),q0,q1,cr hx,cr hx,cr hx⟩)
  obtain⟨⟨y0,y1,y2⟩,⟨p0,p1,p2⟩,⟨r0,r1,r2⟩,s0,s1,s2⟩:=Bo Fe (Ai _ _);have AO:=Hi ((Ai Fe.heap.size Fe).drew);have HBI:=Hi (Ai Fe.heap.size Fe);have TH:=Hi (fun(V:World) (hV:Bw Fe V)=>HS8 V (bT O1 hV));have qw:=Hi (fun(V:World) (hV:Bw Fe V)=>Iw V (bT O1 hV));go_upto_region 9 with fail
  refine wp_region_held (S:=(fun V=>(V.cell? xb=some (.pointer y)∧V.cell? ⟨xb,1,none⟩=some (.pointer p)∧V.cell? ⟨xb,2,none⟩=some (.pointer d))∧(V.cell? a0=some (.int .u8 1)∧V.cell? ⟨a0.block,a0.off+1,none⟩=some ↑Jl∧V.cell? ⟨a0.block,a0.off+2,none⟩=some (.string (bs [])))∧(V.cell? a1=some (.int .u8 3)∧V.cell? ⟨a1.block,a1.off+1,none⟩=some (.string (bs [114]))∧V.cell? ⟨a1.block,a1.off+2,none⟩=some (.string (bs [97])))∧(V.cell? w9.heap.size=some (.int .u8 3)∧V.cell? ⟨w9.heap.size,1,none⟩=some (.string (bs [114]))∧V.cell? ⟨w9.heap.size,2,none⟩=some (.string (bs [97]))))) (by kernel_rfl) ?_;generalize fB:({ heap:=Fe.heap,tape:=Fe.tape,drawn:=Fe.drawn+1,os:=Fe.os,output:=Fe.output }:World)=W0;have Yf:Fe.drew=W0:=fB;rw[Yf] at AO;clear fB Yf y0 y1 y2 p0 p1 p2 r0 r1 r2 s0 s1 s2 YQ;refine Ap 0 (Bo _ AO) ?_;refine Ap 1 (Bo _ AO) ?_;refine Ap 2 (Bo _ AO) ?_;refine Ap 3 (Bo _ AO) ?_;refine Ap 4 (Bo _ AO) ?_;refine Ap 5 (Bo _ AO) ?_;refine Ap 6 (Bo _ AO) ?_;refine Ap 7 (Bo _ AO) ?_;refine Ap 8 (Bo _ AO) ?_;refine Ap 9 (Bo _ AO) ?_;refine Ap 10 (Bo _ AO) ?_;refine MF 11 (fun K1 Gs=>?_);go_simp;refine(HNB _).mono ?_;rintro e v1⟨rfl,LF⟩
  replace AO:=bH AO LF
  clear LF;refine Gs _ _ (Bo _ AO) ?_;clear Gs K1;try simp only[Act.put,np]
  refine Ap 12 (Bo _ AO) ?_;refine Ap 13 (Bo _ AO) ?_;refine Ap 14 (Bo _ AO) ?_;refine Ap 15 (Bo _ AO) ?_;refine Ap 16 (Bo _ AO) ?_;refine Ap 17 (Bo _ AO) ?_;refine Ap 18 (Bo _ AO) ?_;refine MF 19 (fun K2 Dm=>?_);go_simp;refine(Gb _).mono ?_;rintro e v2⟨rfl,LF⟩
  replace AO:=bH AO LF
  clear LF;refine Dm _ _ (Bo _ AO) ?_;clear Dm K2;try simp only[Act.put,np]
  refine Ap 20 (Bo _ AO) ?_;refine Ap 21 (Bo _ AO) ?_;refine Ap 22 (Bo _ AO) ?_;refine Ap 23 (Bo _ AO) ?_;refine Ap 24 (Bo _ AO) ?_;refine Ap 25 (Bo _ AO) ?_;refine Ap 26 (Bo _ AO) ?_;refine Ap 27 (Bo _ AO) ?_;refine Ap 28 (Bo _ AO) ?_;refine Ap 29 (Bo _ AO) ?_;refine Ap 30 (Bo _ AO) ?_;refine Ap 31 (Bo _ AO) ?_;refine Ap 32 (Bo _ AO) ?_;refine Ap 33 (Bo _ AO) ?_;refine Ap 34 (Bo _ AO) ?_;refine Ap 35 (Bo _ AO) ?_;refine Ap 36 (Bo _ AO) ?_;refine Ap 37 (Bo _ AO) ?_;refine Ap 38 (Bo _ AO) ?_;refine Ap 39 (Bo _ AO) ?_;refine Ap 40 (Bo _ AO) ?_;refine Ap 41 (Bo _ AO) ?_;refine Ap 42 (Bo _ AO) ?_;refine Ap 43 (Bo _ AO) ?_;refine Ap 44 (Bo _ AO) ?_;refine Ap 45 (Bo _ AO) ?_;refine Ap 46 (Bo _ AO) ?_;refine MF 47 (fun K3 Qk=>?_);go_simp;refine(TH _ AO).mono ?_;rintro e v3⟨rfl,LF⟩
  replace AO:=bH AO LF
  clear LF;refine Qk _ _ (Bo _ AO) ?_;clear Qk K3;try simp only[Act.put,np]
  refine Ap 48 (Bo _ AO) ?_;refine Ap 49 (Bo _ AO) ?_;refine Ap 50 (Bo _ AO) ?_;refine Ap 51 (Bo _ AO) ?_;refine Ap 52 (Bo _ AO) ?_;refine Ap 53 (Bo _ AO) ?_;refine MF 54 (fun K4 l6=>?_);go_simp;refine(qw _ AO).mono ?_;rintro e v4⟨vn,rfl,WU,LF,-⟩;obtain⟨qn,cn,rfl⟩:=Bp WU;clear WU
  replace AO:=bH AO LF
  clear LF;refine l6 _ _ (Bo _ AO) ?_;clear l6 K4;try simp only[Act.put,np]
  refine Ap 55 (Bo _ AO) ?_;refine Ap 56 (Bo _ AO) ?_;refine Ap 57 (Bo _ AO) ?_;refine Ap 58 (Bo _ AO) ?_;refine Ap 59 (Bo _ AO) ?_;refine Ap 60 (Bo _ AO) ?_;refine Ap 61 (Bo _ AO) ?_;refine Ap 62 (Bo _ AO) ?_;refine Ap 63 (Bo _ AO) ?_;refine Ap 64 (Bo _ AO) ?_;refine Ap 65 (Bo _ AO) ?_;refine Ap 66 (Bo _ AO) ?_;refine Ap 67 (Bo _ AO) ?_;refine Ap 68 (Bo _ AO) ?_;refine Ap 69 (Bo _ AO) ?_;refine Ap 70 (Bo _ AO) ?_;refine Ap 71 (Bo _ AO) ?_;refine Ap 72 (Bo _ AO) ?_;refine Ap 73 (Bo _ AO) ?_;refine Ap 74 (Bo _ AO) ?_;refine MF 75 (fun K5 l7=>?_);go_simp;refine(HL9 _).mono ?_;rintro e v5⟨rfl,LF⟩
  replace AO:=bH AO LF
  clear LF;refine l7 _ _ (Bo _ AO) ?_;clear l7 K5;try simp only[Act.put,np]
  refine Ap 76 (Bo _ AO) ?_;refine Ap 77 (Bo _ AO) ?_;refine Ap 78 (Bo _ AO) ?_;refine wpAnyH_done (by kernel_rfl) ?_ _;go_wp2;go_ret;exact⟨rfl,Sj.AR.trans ((bT O1 AO).mono Sj.AR.size)⟩
end Ew
namespace Hv
open Go.RowKit Go.Maps
open Aw Ah Bu Kp Bz Hex BH Al Mem Ci Gr
open Aq hiding T
section
variable {P P':World→(Nat→Prop)→Prop}{B:Nat}{w0 w w' W W':World}{b y n N pm pd:Nat}{A A':M}{L:List (Nat×Obj)}{dn:Bool}
end
section
variable {n:Nat}{A X:M}{roots:List T}
end
end Hv
namespace Ew
open Go.RowKit Go.Maps
open Aw Ah Bu Kp Bz Hex BH Al Mem Ci Gr Hv
open Aq hiding T
section
variable {B:Nat}{w0 w w' W W':World}{b y n N pm pd:Nat}{A X:M}{L:List (Nat×Obj)}
end
end Ew
namespace Ew
set_option linter.unusedSectionVars false
open Aw Ah Bu Kp Bz Hex BH Al Mem Ci Gr Hv
open Aq hiding T
section
variable {n:Nat}{A:M}{name data bad:T}
theorem aCB(h:Bz.May n A)(hg:Ah.get A name=some data)(hl:bad.length=data.length):FB n A [⟨name,bad,false⟩]=0∧Ep n A [⟨name,bad,false⟩]=I1 A name bad∧Bz.May n (I1 A name bad):=by
 have Jm:=h.good _ (get_some hg);unfold EX at Jm;have hm:(⟨name,bad,false⟩:Am).may=true:=by
  unfold Am.may EX;simp only[decide_eq_true_eq] at Jm;simp[Jm.1,Jm.2.1,hl,Jm.2.2]
 have FL:used (made A [(⟨name,bad,false⟩:Am)])≤used A:=xQ h.up (by simp) fun c hc=>by
  rw[Fu.1 hc];exact⟨data,hg,by simp only;omega⟩
 have hr:=h.room;obtain⟨h1,h2⟩:=ahp (n:=n) (A:=A) hm (show used (made A [(⟨name,bad,false⟩:Am)])≤_ by omega);exact⟨h1,h2,h.up.put _ _,h.good.made h.up (l:=[⟨name,bad,false⟩]) (fun c hc=>by rw[Fu.1 hc];exact hm),Ay FL hr⟩
def Xq(name:T)(u:T×List T):List (Nat×T×T):=(u.2.filter fun k=>decide (Ad.nm k=name)).map fun k=>(3,u.1,k)
def LU(name:T)(us:Us):List (Nat×T×T):=(1,name,[]) :: us.flatMap (Xq name)
theorem aEh(name:T)(us:Us)(u:T×List T):LU name (us++[u])=LU name us++Xq name u:=by
 unfold LU;rw[LV];simp
variable (h:Bz.May n A)(hs:TM both A)(ho:Ad.ours name=true)(hb:Ad.Cm name bad=none)
include h ho in
theorem aph:Aa.ours name=false:=by
 cases e:Aa.ours name with
 |false=>rfl
 |true=>exact(J4.apart name ho e).elim
include h hs ho hb in
theorem aCA:CO Ad (I1 A name bad)=[name]:=anp (ry (h.up.put _ _)) (agY h.up hs.1 ho hb)
include h hs ho in
theorem aCz:CO Aa (I1 A name bad)=[]:=agZ h.up hs.2.1 (aph h ho)
include h hb in
theorem apg(k:T):BU Ad (I1 A name bad) k=if Ad.nm k=name then none else BU Ad A k:=aq3 h.up hb k
include h ho in
theorem apf(r:T):BU Aa (I1 A name bad) r=BU Aa A r:=aq4 Gf h.up (aph h ho) r
include h ho in
theorem aCE:Bn Aa (I1 A name bad)=Bn Aa A:=adt Gf (h.up.put _ _) h.up fun k=>by rw[apf h ho]
include h ho in
theorem aCF(r:T):JR both (I1 A name bad) r=JR both A r:=aeW (apf h ho r)
include h hs ho hb in
theorem api:(MH both (I1 A name bad)).map (fun p=>((3:Nat),p.1,p.2))=(OE A).flatMap (Xq name):=by
 unfold MH OE;rw[show Wx both (I1 A name bad)=Bn Aa A from aCE h ho,List.map_flatMap,List.flatMap_map,List.flatMap_def,List.flatMap_def]
 congr 1
 refine OI fun r hr=>?_
 unfold Xq;rw[aCF h ho,Y6 h.up hr,Kv]
 show List.map (fun k=>(3,r,k)) _=_
 congr 1
 refine List.filter_congr fun k hk=>?_
 show(BU Ad (I1 A name bad) k).isNone=_
 rw[apg h hb];by_cases e:Ad.nm k=name
 ·simp[e]
 ·rw[A9 e,decide_eq_false e];cases hv:BU Ad A k with
  |some v=>rfl
  |none=>
   have hm:=(nN (P:=both) (A:=A) r k).2 ⟨hr,hk,hv⟩;rw[hs.2.2] at hm;cases hm
include h hs ho hb in
theorem aCD:(LA both (I1 A name bad)).filter (fun b=>decide (b.1≠4))=LU name (OE A):=by
 unfold LA LU;rw[←api h hs ho hb,show CO both.m (I1 A name bad)=[name] from aCA h hs ho hb,show CO both.d (I1 A name bad)=[] from aCz h hs ho];rw[IQ,IQ,IQ,SB _ _ _ true (fun x=>rfl),SB _ _ _ true (fun x=>rfl),SB _ _ _ true (fun x=>rfl),SB _ _ _ false (fun x=>rfl)];simp
theorem azA{X:M}(hX:Bz.May n X)(k:T):MW Ad (Je both X) k=((BU Ad X k).getD [],(BU Ad X k).isSome,0):=by
 have hm:=vS J4 hX;have hv:BU Ad (Je both X) k=BU Ad X k:=adL J4 hX k;unfold MW;rw[A9,hv]
 ·cases BU Ad X k<;>rfl
 ·rintro⟨h1,h2⟩;obtain⟨d,hd⟩:=KD.1 h1;have hr:Ad.Cm (Ad.nm k) d=none:=by
   unfold fileOf at h2;rw[hd] at h2;cases hq:Ad.Cm (Ad.nm k) d with
   |none=>rfl
   |some l=>
    rw[show(some d).bind (Ad.Cm (Ad.nm k))=Ad.Cm (Ad.nm k) d from rfl,hq] at h2;cases h2
  have Ac:=(Jd hm.up (Ad.nm k)).2 ⟨Jc.Mt k,d,hd,hr⟩;rw[show CO Ad (Je both X)=[] from kC J4 hX (.inl rfl)] at Ac;cases Ac
theorem aq8(h:Bz.May n A){p:T×T}(hp:p∈GN A):BU Ad A p.1=some p.2:=by
 unfold GN at hp;obtain⟨k,hk,rfl⟩:=Bv.1 hp;have h1:=(RL Jc h.up k).1 hk;obtain⟨v,hv⟩:=KD.1 h1
 show BU Ad A k=some (MW Ad A k).1
 rw[aiV hv,hv]
theorem aEe(h:Bz.May n A){p:T×T}(hp:p∈GN A):∃ data l,Ah.get A (Ad.nm p.1)=some data∧Ad.Cm (Ad.nm p.1) data=some l∧0 < data.length∧data.length≤65535:=by
 have hv:=aq8 h hp;have X7:=hv;unfold BU at hv;cases hf:fileOf Ad A (Ad.nm p.1) with
 |none=>rw[hf] at hv;cases hv
 |some l=>
  unfold fileOf at hf;cases hg:Ah.get A (Ad.nm p.1) with
  |none=>rw[hg] at hf;cases hf
  |some data=>
   rw[hg] at hf;have hr:Ad.Cm (Ad.nm p.1) data=some l:=hf;obtain⟨h1,h2,h3,s,h4,h5⟩:=Ng hr;have Jm:=h.good _ (get_some hg);unfold EX at Jm;simp only[decide_eq_true_eq] at Jm;exact⟨data,l,rfl,hr,by rw[h5,Ab.RP];omega,Jm.2.2⟩
include h hb in
theorem aCC{X:M}(hX:X=I1 A name bad)(hXm:Bz.May n X){p:T×T}(hp:p∈GN A):MW Ad (Je both X) p.1=if Ad.nm p.1=name then([],false,0) else(p.2,true,0):=by
 rw[azA hXm,hX,apg h hb];by_cases e:Ad.nm p.1=name
 ·rw[Ae e,Ae e];rfl
 ·rw[A9 e,A9 e,aq8 h hp];rfl
end
theorem aEg(name:T)(us:Us)(k j:Nat)(hk:k < us.length)(hj:j < us[k].2.length):(LU name (us.take k)).length+((us[k].2.take j).filter fun t=>decide (Ad.nm t=name)).length+(if Ad.nm us[k].2[j]=name then 1 else 0)≤(LU name us).length:=by
 have e1:LU name us=LU name (us.take k)++(Xq name us[k]++(us.drop (k+1)).flatMap (Xq name)):=by
  unfold LU
  conv=>lhs;rw[←Lb k us,LV,OH hk,PL]
  rfl
 have e2:(Xq name us[k]).length=((us[k].2.take j).filter fun t=>decide (Ad.nm t=name)).length+(((us[k].2.drop j)).filter fun t=>decide (Ad.nm t=name)).length:=by
  unfold Xq;rw[Ca]
  conv=>lhs;rw[←Lb j us[k].2,IQ,AA]
 have e3:(if Ad.nm us[k].2[j]=name then 1 else 0)≤(((us[k].2.drop j)).filter fun t=>decide (Ad.nm t=name)).length:=by
  rw[OH hj];by_cases e:Ad.nm us[k].2[j]=name
  ·rw[Ae e,QI (by simpa using e)];simp
  ·rw[A9 e];exact AV _
 have:=congrArg List.length e1;rw[AA,AA] at this;omega
end Ew
namespace Ew
open Go.RowKit Go.Maps
open Aw Ah Bu Kp Bz Hex BH Al Mem Ci Gr Hv
open Aq hiding T
theorem aBZ{w:World}{qa qb:Option Addr}{ca cb:Nat}{l:List (Nat×T×T)}(ha:IW w qa l)(hb:IW w qb l)(hl:l.length≤100000000):
  Calls prog 19 #[.slice qa l.length ca,.slice qb l.length cb] w (Rt w true):=by
 have HA:=Hi ha;have pR:=Hi hb;clear ha hb
 go_in
 go_wp2
 go_loopw [5] (fun i wr=>∃ k:Nat,k≤l.length∧i= ↑(k:Int)∧Bw w wr) (fun i _=>l.length -(intOf i).toNat)
 case atStart=>exact⟨0,AV _,rfl,Ai _ _⟩
 case round=>
  obtain⟨k,hk,rfl,hb⟩:=hrel;have HB:=Hi hb;by_cases hlt:k < l.length
  ·obtain⟨q1,uI,EC,-⟩:=(HA.below hb).index ca k hlt;obtain⟨q2,aI,Dw,-⟩:=(pR.below hb).index cb k hlt;obtain⟨e0,e1,e2⟩:=EC.cells;obtain⟨f0,f1,f2⟩:=Dw.cells;clear hb EC Dw;generalize l[k]=b at*;go_wp2;go_region;go_wp2_with fail;exact⟨⟨k+1,hlt,by go_num,HB.trans ((Ai _ wr).drew.mono HB.size)⟩,by simp only[intOf];omega⟩
  ·obtain rfl:k=l.length:=(by omega);clear hb;go_wp2;go_ret;exact⟨rfl,HB⟩
theorem tkA{P:Program}{ops:Array Oper}{Q:Exit→Act→World→Prop}{md:Region.Mode}{S:World→Prop}(i:Nat){dst sx xx t ty pos af gd}{sv xv v2:Value}{fuel:Nat}{listed:Array Bool}{a a':Act}{w w2:World}(hS:S w2)
  (hrun:(Builtin.append_ #[t,t] ty #[sv,xv]).run P w=.ok v2 w2)(h:wpAnyH P md ops Q S fuel (listed.setIfInBounds i true) a' w2)
  (ho:ops[i]?=some ⟨dst,.call { callee:=.builtin .append,args:=#[sx,xx],argTypes:=#[t,t] },ty,pos,af,gd⟩:=by rfl)(hs:a.eval sx=sv:=by rfl)(hx:a.eval xx=xv:=by rfl)
  (hr:Region.ready md ops listed=[i]:=by kernel_rfl)(hw:Region.wanted ⟨dst,.call { callee:=.builtin .append,args:=#[sx,xx],argTypes:=#[t,t] },ty,pos,af,gd⟩ (yielded ops a.tmps)=true:=by rfl)
  (ha:a.put dst v2=a':=by(try simp only[Act.put,np])<;>rfl):wpAnyH P md ops Q S (fuel+1) listed a w:=
 oW hr ho fun K' hK=>by
  rw[Ae hw];unfold Oper.wp execOp;simp only[resolve,invoke,builtin,Sem.run_bind,Sem.run_pure,Result.andThen_ok,List.map_toArray,Ce,Kw,hs,hx,hrun];subst ha;exact hK _ _ hS h
section
variable {B:Nat}{w0 w:World}{b y n N:Nat}{A:M}{L:List (Nat×Obj)}
theorem auF(h:Em B w0 w b y n N A L)(k:T)(hk:k.length≤maxLen):
  Calls prog 16 #[y,k] w (Rt w (.tuple #[((Ah.get A k).getD []),.bool (Ah.get A k).isSome])):=by
 obtain⟨bl,h1,h3,h2⟩:=h.pick;exact(aiy h1 k hk).mono fun e w' ⟨he,_,hb⟩=>⟨he,hb⟩
end
theorem aq7{A:M}{p:T×T}(hp:p∈GN A):p.1∈Bn Ad A:=by
 unfold GN at hp;obtain⟨k,hk,rfl⟩:=Bv.1 hp;exact hk
theorem aud{cap g:Nat}(n k:Nat)(hk:k < n)(W:World):(Instr.indexAt 54 (.slice g n cap) ↑(k:Int)).run prog W=.ok (.pointer (some ⟨g,k,none⟩)) W:=by
 have h:=Hy prog 54 5 underlying54 1 (by kernel_rfl) ⟨g,0,none⟩ n cap k hk W;rw[add_plain,Nat.mul_one] at h;exact h
theorem at0{W:World}(nm dt:T){g:Nat}(hg:W.heap.size=g):Eh (W.alloc (.cells #[nm,dt,false] 57)) (some ⟨g,0,none⟩) [⟨nm,dt,false⟩]:=by
 subst hg;exact rO (c:=⟨nm,dt,false⟩) (AU W _)
def aqy(w0:World)(nm:T)(U:Us)(s i:Value)(wr:World):Prop:=∃ (k:Nat) (sv:Value),k≤U.length∧i= ↑(k:Int)∧sv=s∧Ir wr w0.heap.size sv (LU nm (U.take k))∧Bw w0 wr
def aqx(w0:World)(nm:T)(L0:List (Nat×T×T))(u:T×List T)(s i:Value)(wr:World):Prop:=∃ (m:Nat) (sv:Value),m≤u.2.length∧i= ↑(m:Int)∧sv=s∧Ir wr w0.heap.size sv (L0++((u.2.take m).filter fun t=>decide (Ad.nm t=nm)).map fun t=>(3,u.1,t))∧Bw w0 wr
def aqw(w0:World)(LB:List (Nat×T×T))(s i:Value)(wr:World):Prop:=∃ (k:Nat) (sv:Value),k≤LB.length∧i= ↑(k:Int)∧sv=s∧Ir wr w0.heap.size sv ((LB.take k).filter fun b=>decide (b.1≠4))∧Bw w0 wr
theorem ahd{w:World}(b:Nat×T×T){x2:ByteArray}(hx:x2=bs b.2.2){g:Nat}(hg:w.heap.size=g):Ir (w.alloc (.cells #[.int .u8 (b.1:Int),b.2.1,.string x2] 23)) w.heap.size (.slice g 1 1) [b]:=by
 subst hg hx;have h:=World.ownsRow_lit (base:=w.heap.size) (e:=23) (size:=3) w (F3 [b]).toArray 1 (Ag _) (by unfold maxLen;omega) (by rw[Kz,aak];rfl);have e:F3 [b]=[.int .u8 (b.1:Int),.string (bs b.2.1),.string (bs b.2.2)]:=by unfold F3;rfl
 show World.ownsRow _ _ _ _ _ 1 (F3 [b])
 rw[e] at h ⊢;exact h
theorem auv{p:Nat×T×T→Bool}{l:List (Nat×T×T)}{k:Nat}(hk:k < l.length)(hp:p l[k]=true):((l.take k).filter p).length+1≤(l.filter p).length:=by
 conv=>rhs;rw[←Lb k l,IQ,AA,OH hk,QI hp]
 simp
theorem auw{p:Nat×T×T→Bool}{l:List (Nat×T×T)}{k:Nat}(hk:k < l.length):(l.take (k+1)).filter p=(l.take k).filter p++(if p l[k]=true then[l[k]] else[]):=by
 rw[Cr hk,IQ]
 congr 1
 by_cases e:p l[k]=true
 ·rw[Ae e,QI e];rfl
 ·rw[A9 e,PK e];rfl
theorem auo{w0 wr w1:World}{sv:Value}{l:List (Nat×T×T)}{b:Nat×T×T}{g' cap':Nat}(Af:Ir wr w0.heap.size sv l)(hb:Bw w0 wr)
  (hown:w1.ownsRow w0.heap.size 23 3 (.slice g' (l.length+1) cap') (l.length+1) (F3 l++[.int .u8 (b.1:Int),.string (bs b.2.1),.string (bs b.2.2)]))
  (AJ:(wr.alloc (.cells #[.int .u8 (b.1:Int),b.2.1,b.2.2] 23)).grownBy w1 sv.ownBlock):
  Ir w1 w0.heap.size (.slice g' (l.length+1) cap') (l++[b])∧Bw w0 w1:=by
 have e:F3 [b]=[.int .u8 (b.1:Int),.string (bs b.2.1),.string (bs b.2.2)]:=by unfold F3;rfl
 refine⟨?_,?_⟩
 ·show w1.ownsRow _ _ _ _ (l++[b]).length (F3 (l++[b]))
  rw[ah8,AA,e];exact hown
 ·have BO:=AQ wr (.cells #[.int .u8 (b.1:Int),b.2.1,b.2.2] 23);have Ac:=hb.trans (BO.mono hb.size);exact Ac.grown AJ Ac.size (fun j hj=>DT (Cc Af BO) hj)
def rE(N:Int)(a ua:Option Addr)(n cap m uc:Nat)(v:Value):Obj:=.cells #[.int .i64 N,.slice a n cap,.slice ua m uc,v] 34
theorem auD{N:Int}{a ua fa:Option Addr}{cap uc fl fc:Nat}{l:M}{us:Us}{w:World}(ajD:afj)(WT:Wn w)(hL:Bg w a l)(hlen:l.length≤maxLen)(hok:∀ c∈l,c.1.length≤reachBytes∧c.2.length≤reachBytes)
  (hU:NF w ua us)(ng:us.length≤maxLen)(nk:∀ c∈us,c.1.length≤reachBytes∧c.2.length≤maxLen)(which at_:Nat)(hwh:which < 65536)(hat:at_ < 65536)(c:UInt8):
  Calls prog 4 #[.agg #[.int .i64 N,.slice a l.length cap,.slice ua us.length uc,.slice fa fl fc],.int .u16 (which:Int),.int .u16 (at_:Int),.int .u8 (c.toNat:Int)] w (Rt w true):=by
 have BO:=AQ w (rE N a ua l.length cap us.length uc (.slice fa fl fc));have Kk:=AU w (rE N a ua l.length cap us.length uc (.slice fa fl fc));obtain⟨w0,EJ⟩:=ex (w.alloc (rE N a ua l.length cap us.length uc (.slice fa fl fc)));rw[EJ] at BO Kk;have Be:=BO.setCell (p:=⟨w.heap.size,3,none⟩) (Ag _) ↑();unfold rE at Kk EJ;have Ox:=aet (i:=3) Kk ↑();have c3:w0.cell? ⟨w.heap.size,3,none⟩=some (.slice fa fl fc):=cr Kk;have f3:w0.frozen? ⟨w.heap.size,3,none⟩=false:=CG _ _ 3 _ _ Kk;obtain⟨w1,Jr⟩:=ex (w0.setCell ⟨w.heap.size,3,none⟩ ↑());rw[Jr] at Be Ox;have P8:=Hi (show w1.heap[w.heap.size]?=some (.cells #[.int .i64 N,.slice a l.length cap,.slice ua us.length uc,()] 34) from Ox);have AP:=Hi Be;have d0:w1.cell? w.heap.size=some (.int .i64 N):=cr P8.out;have d1:w1.cell? ⟨w.heap.size,1,none⟩=some (.slice a l.length cap):=cr P8.out;have d2:w1.cell? ⟨w.heap.size,2,none⟩=some (.slice ua us.length uc):=cr P8.out;have d3:w1.cell? ⟨w.heap.size,3,none⟩=some ↑():=cr P8.out;have jg:=Hi (fun(W:World) (hb:Bw w W)=>ajD W (WT.below hb));have HHV:=Hi (fun W (hb:Bw w W)=>ax3 (N:=N) (cap:=cap) (uc:=uc) (fc:=0) (fa:=none) (fs:=[]) (hL.below hb) hlen hok (hU.below hb) ng nk (fun i hi=>by simp at hi) (by simp) (by simp));have QU:=Hi (fun(n:Nat) W (hb:Bw w W) (Qw:qY n l us [])=>amT (cap:=cap) (uc:=uc) (fc:=0) (fa:=none) (fs:=[]) Qw (hL.below hb) (hU.below hb) (fun i hi=>by simp at hi) (by simp));clear ajD WT hL hlen hok hU ng nk BO Kk Be Ox
 go_in
 go_wp2_with fail;refine(HHV _ AP).mono ?_;rintro e w2⟨h,rfl,Ak,Qw⟩;have HB1:=bH AP Ak;have Iu:=Hi Qw;have Eo:=(Ak.block w.heap.size (Ao P8)).trans P8.out;have Qa:=Hi Eo;clear Ak Qw Eo d0 d1 d2 d3 c3 f3 EJ Jr HHV;cases h with
 |true=>
  go_wp2_with fail;refine(jg _ HB1).mono ?_;rintro e wz⟨rfl,FT⟩;have UD:=bH HB1 FT;clear FT;go_wp2;go_ret;exact⟨rfl,UD⟩
 |false=>
  by_cases WQ:c=0
  ·subst WQ;have hci:(((0:UInt8).toNat:Nat):Int)=0:=(by decide);rw[hci];go_wp2_with fail;refine(jg _ HB1).mono ?_;rintro e wz⟨rfl,FT⟩;have UD:=bH HB1 FT;clear FT;go_wp2;go_ret;exact⟨rfl,UD⟩
  have hcn:c.toNat≠0:=fun e=>WQ (by rw[←UInt8.toNat_inj,e];rfl)
  have hci:¬ ((c.toNat:Nat):Int)=0:=by omega
  have Qw:=Iu (by first|rfl|trivial);have hn8:=Qw.n8;have aG6:=Qw.n200;obtain⟨n,rfl⟩:∃ n:Nat,N=(n:Int):=⟨N.toNat,by omega⟩;have afW:=Hi Qw;clear Qw Iu;have c0:w2.cell? w.heap.size=some ↑(n:Int):=by unfold World.cell?;rw[Qa.out];rfl
  have c1:w2.cell? ⟨w.heap.size,1,none⟩=some (.slice a l.length cap):=by unfold World.cell?;rw[Qa.out];rfl
  have c2:w2.cell? ⟨w.heap.size,2,none⟩=some (.slice ua us.length uc):=by unfold World.cell?;rw[Qa.out];rfl
  have c3:w2.cell? ⟨w.heap.size,3,none⟩=some ↑():=by unfold World.cell?;rw[Qa.out];rfl
  go_wp2_with fail;refine(QU n _ HB1 afW).mono ?_;rintro e w3⟨b,y,p,d,r,xb,rfl,hk⟩;obtain⟨A,hA⟩:=ex (gX n l us []);rw[hA] at hk;have PW:=Hi hk;have HC:Hid (∀ (W:World) (N:Nat) (A:M) (L:List (Nat×Obj)),Em w2.heap.size w2 W b y n N A L→(xb,Jb y p d r)∈L→W.cell? xb=some (.pointer y)∧W.cell? ⟨xb,1,none⟩=some (.pointer p)∧W.cell? ⟨xb,2,none⟩=some (.pointer d)):=Hi fun W N A L h Dj=>by
   have h0:=h.cell (k:=xb) (t:=47) Dj 0;have h1:=h.cell (k:=xb) (t:=47) Dj 1;have h2:=h.cell (k:=xb) (t:=47) Dj 2;exact⟨h0,h1,h2⟩
  obtain⟨x0,x1,x2⟩:=HC _ _ _ _ hk (by simp);have DF:=iy hk;have JX:=Hi (show Bz.May n A from⟨DF.1,DF.2.1,DF.2.2⟩);have Zr:=Hi (il hk (by omega));have Ga:=Hi (fun(W:World) (hb:Bw w3 W)=>asj (show Gq W p y from(hk.step hb).at_ p (Fp y) (by simp)) (show Fj W d y from(hk.step hb).at_ d (FC y) (by simp)) (iq (hk.step hb)) (il hk (by omega)));clear hk c0 c1 c2 c3 Qa hA QU afW DF P8;go_wp2
  go_region_held3 (fun V=>V.cell? ⟨xb,1,none⟩=some (.pointer p)∧V.cell? ⟨xb,2,none⟩=some (.pointer d))
   (first|exact⟨x1,x2⟩|exact(HC _ _ _ _ OT (by simp)).2)
   (first|(go_at_call 13;refine(Ga _ ((Ai _ _).drew)).mono ?_;rintro e w4 ⟨v1,v2,L,rfl,gI,Nc,AB⟩;have Sm:=Hi gI;have P6:=Hi Nc;have OT:=Hi (PW.step (((Ai _ w3).drew).trans AB));clear gI Nc AB))
  obtain⟨wq,wc0,rfl⟩:=Bp Sm.out;obtain⟨uq,uc0,rfl⟩:=Bp P6.row;have AX:=Hi (HB1.trans (OT.AR.mono HB1.size));clear Ga x0 x1 x2 PW;obtain⟨x0,x1,x2⟩:=HC _ _ _ _ OT (by simp);have TH:=Hi (fun(W:World) (hW:Bw w4 W)=>nQ OT (by omega) (show(p,Fp y)∈_ by simp) (show(d,FC y)∈_ by simp) hW);by_cases hsd:¬ TM both A
  ·rw[decide_eq_false hsd] at TH;have HS:=Hi (fun(V:World) (hb:Bw w4 V)=>show(fun V:World=>V.cell? ⟨xb,1,none⟩=some (.pointer p)∧V.cell? ⟨xb,2,none⟩=some (.pointer d)) V from(HC _ _ _ _ (OT.step hb) (by simp)).2);have BR:=Hi ((Ai w4.heap.size w4).drew);clear x0 x1 x2;go_upto_region 8 with fail
   refine wp_region_held (S:=fun V:World=>V.cell? ⟨xb,1,none⟩=some (.pointer p)∧V.cell? ⟨xb,2,none⟩=some (.pointer d)) (by kernel_rfl) ?_;refine Ap 0 (HS _ BR) ?_;refine Ap 1 (HS _ BR) ?_;refine Ap 2 (HS _ BR) ?_;refine Ap 3 (HS _ BR) ?_;refine Ap 4 (HS _ BR) ?_;refine Ap 5 (HS _ BR) ?_;refine Ap 6 (HS _ BR) ?_;refine Ap 7 (HS _ BR) ?_;refine MF 8 (fun K1 Gs=>?_);go_simp;refine(TH _ BR).mono ?_;rintro e w5⟨rfl,Bl⟩;have KE:=Hi (BR.trans Bl);have Cj:=bH AX KE;clear Bl;refine Gs _ _ (HS _ KE) ?_;try simp only[Act.put,np]
   refine Ap 9 (HS _ KE) ?_;refine Ap 10 (HS _ KE) ?_;refine Io 11 (HS _ KE) ?_;refine Io 12 (HS _ KE) ?_;refine Io 13 (HS _ KE) ?_;refine Ap 14 (HS _ KE) ?_;refine wpAnyH_done (by kernel_rfl) ?_ _;go_wp2_with fail;refine(jg _ Cj).mono ?_;rintro e wz⟨rfl,FT⟩;have UD:=bH Cj FT;clear FT;go_wp2;go_ret;exact⟨rfl,UD⟩
  have qN:=Hi (Decidable.not_not.1 hsd);rw[LY qN.out] at TH;clear hsd;by_cases WH:(GN A).length=0
  ·have awg:((GN A).length:Int)=0:=(by omega);clear WH;go_wp2
   go_region_held3 (fun V=>V.cell? ⟨xb,1,none⟩=some (.pointer p)∧V.cell? ⟨xb,2,none⟩=some (.pointer d))
    (first|exact⟨x1,x2⟩|exact(HC _ _ _ _ QT (by simp)).2)
    (first|(go_at_call 14;refine(TH _ ((Ai _ _).drew)).mono ?_;rintro e w5 ⟨rfl,Bl⟩;have KE:=Hi (((Ai _ w4).drew).trans Bl);have QT:=Hi (OT.step KE);have Cj:=bH AX KE;clear Bl))
   go_wp2_with fail;refine(jg _ Cj).mono ?_;rintro e wz⟨rfl,FT⟩;have UD:=bH Cj FT;clear FT;go_wp2;go_ret;exact⟨rfl,UD⟩
  have awg:¬ ((GN A).length:Int)=0:=by omega
  go_wp2
  go_region_held3 (fun V=>V.cell? ⟨xb,1,none⟩=some (.pointer p)∧V.cell? ⟨xb,2,none⟩=some (.pointer d))
   (first|exact⟨x1,x2⟩|exact(HC _ _ _ _ QT (by simp)).2)
   (first|(go_at_call 14;refine(TH _ ((Ai _ _).drew)).mono ?_;rintro e w5 ⟨rfl,Bl⟩;have KE:=Hi (((Ai _ w4).drew).trans Bl);have QT:=Hi (OT.step KE);have Cj:=bH AX KE;clear Bl))
  clear TH x0 x1 x2 OT;have dJ:=Hi (Bg.CR ((Pf.below (show Bw w4 w5 from KE.out)).Xj _ _ _ Sm));have Q9:=Hi (show(GN A).length≤1000000 from by rw[xW,YV (K:=Ad) JX.up];exact Zr.ig);obtain⟨ix,Cn⟩:=ex (which % (GN A).length);have acg:ix < (GN A).length:=by rw[←Cn];exact Nat.mod_lt _ (by omega)
  have akP:(which:Int) % ((GN A).length:Int)=(ix:Int):=by rw[←Cn];simp
  obtain⟨q1,II,EC,-⟩:=dJ.index wc0 ix acg;have acd:∀ W,(Instr.indexAt 30 (.slice wq (GN A).length wc0) (.int .i64 ((which:Int) % ((GN A).length:Int)))).run prog W=.ok (.pointer (some q1)) W:=fun W=>by rw[akP];exact II W
  have KU:=CK acg;have e0:=EC.key;obtain⟨pr,hpr⟩:=ex ((GN A)[ix]);rw[hpr] at KU e0;have Iw:=Hi (bI pr.1 w5 (Ay (Zr.vU _ (aq7 KU)) (by omega)));obtain⟨data,ld,LG,Kh,Yo,awT⟩:=aEe JX KU;have Ei:(Ad.nm pr.1).length≤maxLen:=by rw[nO];decide
  have XL:=Hi (Jc.Mt pr.1);have axI:=nO pr.1;obtain⟨nm,IJ⟩:=ex (Ad.nm pr.1);rw[IJ] at Iw LG Kh Ei XL axI;have JC:=Hi LG;have GX:=Hi Kh;clear LG Kh akP II hpr EC KU Cn IJ;go_wp2_with fail;refine Iw.mono ?_;rintro e w6⟨rfl,Co⟩;have ym:=Hi Co;have XH:=Hi (QT.step Co);clear Co Iw acd e0 QT acg;obtain⟨x0,-,-⟩:=HC _ _ _ _ XH (by simp);go_wp2_with fail;have hp:=auF XH nm Ei;rw[JC.out] at hp;simp only[RZ,Option.isSome_some] at hp;refine hp.mono ?_;clear hp;rintro e w7⟨rfl,F7⟩;have yn:=bH ym F7;have Sj:=Hi (XH.step F7);clear F7 ym XH x0;obtain⟨W8,cap0,lU,Pz,JF⟩:=ahh prog 9 54 underlying9 underlying54 underlying5 w7 data (by omega);obtain⟨jx,hjx⟩:=ex (at_ % data.length);have J7:jx < data.length:=by rw[←hjx];exact Nat.mod_lt _ Yo
  have akR:(at_:Int) % (data.length:Int)=(jx:Int):=by rw[←hjx];simp
  have hbi:=fun W=>aud (cap:=cap0) (g:=w7.heap.size) data.length jx J7 W
  have hcj:=Pz.cell jx J7;have hfj:W8.frozen? ⟨w7.heap.size,jx,none⟩=false:=by
   obtain⟨C,fz,f1,f2,f3,f4⟩:=Pz.row;have:=Pz.le;simp[World.frozen?,f1];omega
  have ayh:bits .xor .u8 ((data[jx].toNat:Nat):Int) ((c.toNat:Nat):Int)=(((data[jx] ^^^ c).toNat:Nat):Int):=by
   rw[u8_xor_nat _ _ data[jx].toNat_lt c.toNat_lt,UInt8.toNat_xor]
  have hdz:¬ (data.length:Int)=0:=by omega
  obtain⟨bad,KL⟩:=ex (data.set jx (data[jx] ^^^ c));have Ct:bad.length=data.length:=by rw[←KL];simp
  have Lf:=Hi (show Ad.Cm nm bad=none from by rw[←KL];exact aF3 GX jx c.toNat J7 hcn c.toNat_lt (data[jx] ^^^ c) (by rw[UInt8.toNat_xor]));have FI:=JF.setCell (p:=⟨w7.heap.size,jx,none⟩) (Ag _) (.int .u8 ((data[jx].toNat ^^^ c.toNat:Nat):Int));obtain⟨W9,hW9⟩:=ex (W8.setCell ⟨w7.heap.size,jx,none⟩ (.int .u8 ((data[jx].toNat ^^^ c.toNat:Nat):Int)));rw[hW9] at FI;obtain⟨C,fz,f1,f2,f3,f4⟩:=Pz.row;have f5:=aet (i:=jx) f1 (.int .u8 ((data[jx].toNat ^^^ c.toNat:Nat):Int));rw[hW9] at f5;obtain⟨bo,Rf⟩:=ex (Obj.cells (C.setIfInBounds jx (.int .u8 ((data[jx].toNat ^^^ c.toNat:Nat):Int))) 5 fz)
  have O4:=Hi (fun(V:World) (hV:V.heap[w7.heap.size]?=some bo)=>show(convert 54 9 (.slice w7.heap.size data.length cap0)).run prog V=.ok ↑bad V from by
   rw[←Rf] at hV;refine Xn prog _ 54 5 9 underlying54 underlying5 underlying9 _ 0 _ cap0 bad Ct (fun i hi=>?_);have hid:i < data.length:=(by omega);have ajZ:=Pz.cell i hid;rw[BJ _ _ _ _ _ _ f1] at ajZ;rw[GQ,BJ _ _ _ _ _ _ hV,Array.getElem?_setIfInBounds];subst KL;by_cases Yw:jx=i
   ·subst Yw;rw[Ae rfl,Ae (by have:=Pz.le;omega)];simp[UInt8.toNat_xor]
   ·rw[A9 Yw,ajZ];simp[Yw])
  rw[Rf] at f5;have jJ:=Hi (aaf Sj FI (Ag _) (o:=bo) f5);have aft:=bH yn FI;obtain⟨x0,-,-⟩:=HC _ _ _ _ jJ (by simp);have NJ:=O4 W9 f5;obtain⟨ak2,ak3,ak4⟩:=aCB (bad:=bad) JX JC Ct;have OV:=Hi ak4
  have Ns:=Hi (fun(W:World) (hW:Bw W9 W) (g:Nat) (hg:W.heap.size=g)=>show Calls prog 17 #[y,.slice g 1 1] (W.alloc (.cells #[nm,bad,false] 57)) fun e w'=>e=.returned (.int .i64 0)∧Em w2.heap.size w2 w' b y n 4 (I1 A nm bad) [(w7.heap.size,bo),(xb,Jb y p d r),(d,FC y),(p,Fp y)]∧J3 W w' from by
   have h:=anc (cap:=1) (l:=[⟨nm,bad,false⟩]) ((jJ.step hW).step (AQ W _)) (by omega) (at0 nm bad hg) (by simp) (by simp[Ff];omega);rw[ak2,ak3] at h;refine h.mono ?_;rintro e w'⟨rfl,h1,h2⟩;exact⟨rfl,h1,(J3.below (AQ W _)).trans h2⟩)
  clear Pz JF FI Sj ak2 ak3 ak4 hjx KL f1 f2 f3 f4 f5 Rf;go_upto_region 17 with fail
  have XA:=Hi ((Ai W9.heap.size W9).drew);have qc:=Hi (jJ.step XA);have hdq:((data.length:Int) == 0)=false:=by simpa using hdz
  simp only[akR,hdq]
  go_cut [128] from 118 to 127 (fun aBX wx=>aBX= ↑false∧Em w2.heap.size w2 wx b y n 4 (I1 A nm bad) [(w7.heap.size,bo),(xb,Jb y p d r),(d,FC y),(p,Fp y)]∧J3 W9 wx)
  case first=>
   go_region_held3 (fun V=>V.cell? xb=some (.pointer y)∧(convert 54 9 (.slice w7.heap.size data.length cap0)).run prog V=.ok ↑bad V)
    (first|exact⟨x0,NJ⟩|exact⟨(HC _ _ _ _ jJ (by simp)).1,O4 _ (qc.at_ _ _ (by simp))⟩|exact⟨(HC _ _ _ _ (qc.step (AQ _ _)) (by simp)).1,O4 _ ((qc.step (AQ _ _)).at_ _ _ (by simp))⟩|exact⟨(HC _ _ _ _ Si (by simp)).1,O4 _ (Si.at_ _ _ (by simp))⟩)
    (first|(go_at_call 17;refine(Ns _ (Ai _ _).drew _ rfl).mono ?_;rintro e Fe ⟨rfl,mq,mX⟩;have Si:=Hi mq;have qL:=Hi ((J3.below (Ai _ W9).drew).trans mX);clear mq mX))
   all_goals
    go_wp2_with fail;go_meet
    case rel=>exact⟨rfl,Si,qL⟩
  case rest=>
   obtain⟨rfl,mq,mX⟩:=hcut;have Si:=Hi mq;have qL:=Hi mX;have Zu:=Hi (aCD JX qN XL Lf);have XC:=Hi (fun(q:T×T) (hq:q∈GN A)=>aCC JX Lf (X:=I1 A nm bad) rfl OV hq);have jP:=Hi (an5 J4 OV);have uj:=aan (iq Si) (il Si (by omega))
   have HWM:=Hi (show(LU nm (OE A)).length≤1000001 from by
    have h:=af3 OV.up (il Si (by omega));unfold LU;rw[BM,←api JX qN XL Lf.out,Ca];omega)
   have zO:=Hi (show(LU nm (OE A)).length≤4000000 from by rw[←Zu.out];exact Ay (LW _ _) uj);clear mq mX Ns O4 NJ lU hbi hcj hfj ayh jJ qc XA Lf Ct hdq akR hdz Yo awT JC GX hW9 x0 Ei;obtain⟨BB,hBB⟩:=ex (I1 A nm bad);rw[hBB] at Si Zu XC jP OV uj;clear hBB;obtain⟨x0,x1,x2⟩:=HC _ _ _ _ Si (by simp);have Fx:=Hi (fun(W:World) (hW:Bw wc W)=>anf Si (by omega) (show(p,Fp y)∈_ by simp) (show(d,FC y)∈_ by simp) hW);rw[P6.len];go_upto_region 19 with fail
   go_region_held3 (fun V=>V.cell? ⟨xb,1,none⟩=some (.pointer p)∧V.cell? ⟨xb,2,none⟩=some (.pointer d))
    (first|exact⟨x1,x2⟩|exact(HC _ _ _ _ pY (by simp)).2)
    (first|(go_at_call 18;refine(Fx _ ((Ai _ _).drew)).mono ?_;rintro e OG ⟨v11,rfl,acL,SF⟩;obtain⟨q11,c11,rfl⟩:=Bp acL;have zw:=Hi (IW.CR acL);have afq:=Hi (((Ai _ wc).drew).trans SF);have pY:=Hi (Si.step afq);clear acL SF))
   have zB:=Hi ((((Pf.below (show Bw w4 w5 from KE.out)).trans (Pf.below aft)).trans qL.apH).trans (Pf.below (show Bw wc OG from afq.out)));have ET:=Hi (Lv.at_ (zB.uses _ _ _ _ P6));have Q0:=Hi (zB.Xj _ _ _ Sm);have aEJ:=Hi (HB1.trans (pY.AR.mono HB1.size));clear Fx x0 x1 x2 Si qL KE aft P6 Sm yn dJ Cj AX zB;have NB:=Hi (show(OE A).length≤1000000 from by rw[xU,YV (K:=Aa) JX.up];exact Zr.eF)
   have GU:=Hi (show ∀ u∈OE A,u.2.length≤1000000∧∀ t∈u.2,t.length≤100000 from fun u hu=>by
    obtain⟨r,hr,rfl⟩:=Bv.1 hu;exact⟨Ay (@aFj A r) (by omega),fun t ht=>apV JX.up Zr hr t (by rw[←Y6 JX.up hr];exact ht)⟩)
   obtain⟨U,hU⟩:=ex (OE A);rw[hU] at ET Zu zO HWM NB GU;rw[hU];clear hU;go_wp2_with fail;have zM:=Hi (ahd (w:=OG) (1,nm,[]) (x2:=bs []) rfl rfl);have Ar:=Hi (AQ OG (.cells #[.int .u8 1,nm,.string (bs [])] 23));have hUL:=NB.out
   go_loopw [20,21] (fun s i wr=>aqy OG nm U s i wr) (fun _ i _=>U.length -(intOf i).toNat)
   case atStart=>exact⟨0,_,AV _,rfl,rfl,zM,Ar⟩
   case round=>
    obtain⟨k,so,hk,rfl,rfl,Af,hb⟩:=hrel;have BF:=Hi Af;have HB:=Hi hb;by_cases hlt:k < U.length
    ·have axA:(k:Int) < (U.length:Int):=(by omega);obtain⟨q1,uI,EC⟩:=ET.index uc0 k hlt;obtain⟨kq,kc,d1,mE,-⟩:=EC.keys;have d0:=EC.run;have HKU:=Hi (GU _ (CK hlt));have M5:=Hi (fun(j:Nat) (hj:j < (U[k]'hlt).2.length)=>Ay (aEg nm U k j hlt hj) zO);have CW:=Hi (show LU nm (U.take (k+1))=LU nm (U.take k)++Xq nm (U[k]'hlt) from by rw[Cr hlt,aEh]);generalize U[k]=u at*;have yG:=Hi (fun(V:World) (hV:Bw OG V)=>show V.cell? q1=some ↑u.1∧V.cell? ⟨q1.block,q1.off+1,none⟩=some (.slice kq u.2.length kc) from⟨(hV.cell (Cv d0)).trans d0,(hV.cell (p:=⟨q1.block,q1.off+1,none⟩) (Cv d1)).trans d1⟩);have yV:=Hi mE;obtain⟨L0,l9⟩:=ex (LU nm (U.take k));rw[l9] at M5 CW BF;have fT:u.2.length≤1000000:=HKU.1;clear Af EC mE d0 d1 l9 hb;go_wp2
     go_loopw [20,22] (fun s j wr2=>aqx OG nm L0 u s j wr2) (fun _ j _=>u.2.length -(intOf j).toNat)
     case atStart=>exact⟨0,_,AV _,rfl,rfl,by simpa using BF.out,HB⟩
     case round=>
      obtain⟨j,sv,hj,rfl,rfl,Af,hb⟩:=hrel;clear BF HB;have BF:=Hi Af;have HB:=Hi hb;obtain⟨d0,d1⟩:=yG _ hb;clear Af hb;by_cases Yz:j < u.2.length
      ·have aFZ:(j:Int) < (u.2.length:Int):=(by omega);obtain⟨q2,aI,d2w⟩:=yV.index kc j Yz;have HLJ:=Hi (M5 j Yz)
       have CL:=Hi (show(u.2.take (j+1)).filter (fun t=>decide (Ad.nm t=nm))=(u.2.take j).filter (fun t=>decide (Ad.nm t=nm))++(if Ad.nm (u.2[j]'Yz)=nm then[u.2[j]'Yz] else[]) from by
        rw[Cr Yz,IQ]
        congr 1
        by_cases e:Ad.nm (u.2[j]'Yz)=nm
        ·rw[Ae e,QI (by simpa using e)];rfl
        ·rw[A9 e,PK (by simpa using e)];rfl)
       have XK:=Hi (fun W=>bI (u.2[j]'Yz) W (Ay (HKU.2 _ (CK Yz)) (by omega)));generalize u.2[j]=key at*;have HS:=Hi (fun(V:World) (hV:Bw OG V)=>show V.cell? q1=some ↑u.1∧V.cell? ⟨q1.block,q1.off+1,none⟩=some (.slice kq u.2.length kc)∧V.cell? q2=some ↑key from⟨(yG V hV).1,(yG V hV).2,(hV.cell (Cv d2w)).trans d2w⟩);obtain⟨-,-,d2⟩:=HS _ HB.out;clear d2w;go_wp2_with fail;refine(XK _).mono ?_;rintro e wn⟨rfl,LF⟩;have pU:=bH HB LF;have zA:=Hi (Cc BF LF);clear LF XK BF HB d0 d1 d2;by_cases he:Ad.nm key=nm
       ·have aV:(Ad.nm key == nm)=true:=(by rw[he];exact beq_self_eq_true _);rw[Ae he] at CL HLJ;clear he;go_upto_region 28 with fail
        refine wp_region_held (S:=fun V:World=>V.cell? q1=some ↑u.1∧V.cell? ⟨q1.block,q1.off+1,none⟩=some (.slice kq u.2.length kc)∧V.cell? q2=some ↑key) (by kernel_rfl) ?_;generalize fB:({ heap:=wn.heap,tape:=wn.tape,drawn:=wn.drawn+1,os:=wn.os,output:=wn.output }:World)=W0;have Yf:wn.drew=W0:=fB;have TV:=(Ai wn.heap.size wn).drew;rw[Yf] at TV;have BR:=bH pU TV;have VY:=Hi (Cc zA TV);clear fB Yf TV pU zA;refine Ap 0 (HS _ BR) ?_;refine Ap 1 (HS _ BR) ?_;refine Ap 2 (HS _ BR) ?_;refine Ap 3 (HS _ BR) ?_;refine Ap 4 (HS _ BR) ?_;refine Ap 5 (HS _ BR) ?_;refine Ap 6 (HS _ BR) ?_;refine Ap 7 (HS _ BR) ?_;refine Ap 8 (HS _ BR) ?_;refine Ap 9 (HS _ BR) ?_;refine Ap 10 (HS _ BR) ?_;refine Ap 11 (HS _ BR) ?_;refine Ap 12 (HS _ BR) ?_;refine Ap 13 (HS _ BR) ?_;refine Ap 14 (HS _ BR) ?_;have BO:=AQ W0 (.cells #[.int .u8 3,u.1,key] 23);have pQ:=bH BR BO;have GV:=Hi (Cc VY BO);have VU:=Hi (IW.CR (ahd (w:=W0) (3,u.1,key) (x2:=bs key) rfl rfl));refine MF 15 (fun K1 Gs=>?_);go_simp;refine Gs _ _ (HS _ pQ) ?_;try simp only[Act.put,np]
        obtain⟨oO,w2',hrun,DC,Ec⟩:=ahe (q:=some ⟨W0.heap.size,0,none⟩) (cap:=1) (k:=[(3,u.1,key)]) GV VU (fun e=>by cases e) (by have:=HLJ.out;simp only[AA,Ca,La];omega) pQ.size;have hrun:(UX #[58,58] 58 #[sv,.slice W0.heap.size 1 1]).run prog (W0.alloc (.cells #[.int .u8 3,u.1,key] 23))=.ok oO w2':=hrun;have Aj:=Hi (pQ.grown Ec pQ.size (fun j hj=>DT GV hj));have BV:=Hi DC;clear DC Ec;refine tkA 16 (HS _ Aj) hrun ?_;refine Ap 17 (HS _ Aj) ?_;refine wpAnyH_done (by kernel_rfl) ?_ _;clear Gs K1 hrun;go_wp2;go_roundw
        case rel=>exact⟨j+1,_,by omega,by go_num,rfl,by rw[CL.out,CQ,←DJ];exact BV.out,Aj⟩
        case measure=>simp[intOf];omega
       ·have aV:(Ad.nm key == nm)=false:=Ev.2 he;rw[A9 he,Eg] at CL;clear he;go_wp2;go_roundw
        case rel=>exact⟨j+1,_,by omega,by go_num,rfl,by rw[CL.out];exact zA.out,pU⟩
        case measure=>simp[intOf];omega
      ·obtain rfl:j=u.2.length:=(by omega);have Lp:=Hi (show Ir wr OG.heap.size sv (LU nm (U.take (k+1))) from by rw[CW.out];have h:=BF.out;rw[D5] at h;exact h);clear BF;go_wp2;go_roundw
       case rel=>exact⟨k+1,_,by omega,by go_num,rfl,Lp,HB⟩
       case measure=>simp[intOf];omega
    ·obtain rfl:k=U.length:=(by omega);rw[D5] at Af;have zP:=Hi Af;clear Af hb BF hlt hk ET GU;obtain⟨LB,hLB⟩:=ex (LA both BB);rw[hLB] at zw Zu uj;rw[hLB];clear hLB;go_wp2_with fail;obtain⟨iY,rfl⟩:∃ x,x=wr:=⟨_,rfl⟩;obtain⟨wtq,wtc,rfl⟩:=Bp zP.out
     go_loopw [23,24] (fun s i wr2=>aqw iY LB s i wr2) (fun _ i _=>LB.length -(intOf i).toNat)
     case atStart=>exact⟨0,_,AV _,rfl,rfl,by rw[Gm];exact aEY _ _,Ai _ _⟩
     case round=>
      obtain⟨k,sv,hk,rfl,rfl,Af,hb⟩:=hrel;have BF:=Hi Af;have Aj:=Hi hb;have Au:=bH HB hb;clear Af hb;by_cases hlt:k < LB.length
      ·obtain⟨q1,uI,EC,-⟩:=(zw.below Au).index c11 k hlt;obtain⟨e0,e1,e2⟩:=EC.cells;have CW:=Hi (auw (p:=fun b=>decide (b.1≠4)) hlt)
       have Lj:=Hi (show(LB[k]'hlt).1≠4→((LB.take k).filter fun b=>decide (b.1≠4)).length≤1000000 from fun h=>by
        have h1:=auv (p:=fun b=>decide (b.1≠4)) hlt (LY h);rw[Zu.out] at h1;have:=HWM.out;omega)
       generalize LB[k]=b at*;clear EC;by_cases h4:b.1=4
       ·have h4i:((b.1:Nat):Int)=4:=by omega
        have JY:=Hi (show(LB.take (k+1)).filter (fun b=>decide (b.1≠4))=(LB.take k).filter (fun b=>decide (b.1≠4)) from by
         have h:=CW.out;rw[A9 (by simp[h4]),Eg] at h;exact h)
        clear h4 Lj CW;go_wp2;go_roundw
        case rel=>exact⟨k+1,_,by omega,by go_num,rfl,by rw[JY.out];exact BF.out,Aj⟩
        case measure=>simp[intOf];omega
       ·have h4i:¬ ((b.1:Nat):Int)=4:=by omega
        have JY:=Hi (show(LB.take (k+1)).filter (fun b=>decide (b.1≠4))=(LB.take k).filter (fun b=>decide (b.1≠4))++[b] from by
         have h:=CW.out;rw[Ae (by simp[h4])] at h;exact h)
        have Li:=Hi (Lj h4);clear h4 Lj CW;obtain⟨F,hF⟩:∃ F,(LB.take k).filter (fun b=>decide (b.1≠4))=F:=⟨_,rfl⟩;rw[hF] at JY Li BF;clear hF;go_wp2_with (at_builtin;refine kz rfl _ _ rfl rfl BF.out Aj.out.size Li.out rfl ?_;intro g' cap' w1 hown AJ;have CJ:=Hi (auo BF Aj hown AJ);clear hown AJ);go_roundw
        case rel=>exact⟨k+1,_,by omega,by go_num,rfl,by rw[JY.out];exact CJ.1,CJ.2⟩
        case measure=>simp[intOf];omega
      ·obtain rfl:k=LB.length:=(by omega);have Lp:=Hi (show Ir wr iY.heap.size sv (LU nm U) from by have h:=BF.out;rw[D5,Zu.out] at h;exact h);clear BF hlt hk;obtain⟨hdq,hdc,rfl⟩:=Bp Lp.out;have MO:=Hi (aBZ (ca:=hdc) (cb:=wtc) (IW.CR Lp) (IW.CR (Cc zP Aj)) (show(LU nm U).length≤100000000 from by have:=zO.out;omega));have afP:=Hi (pY.step Au);clear Lp zP Zu zw pY uj;go_wp2_with fail;refine MO.mono ?_;rintro e w13⟨rfl,abR⟩;have afr:=bH Au abR;have yT:=Hi (afP.step abR);clear abR MO Aj Au afP HB;obtain⟨-,x1,x2⟩:=HC _ _ _ _ yT (by simp);have jO:=Hi (fun(W:World) (hW:Bw w13 W)=>ane (yT.step hW) (by omega) (by omega) (show(p,Fp y)∈_ by simp) (show(d,FC y)∈_ by simp));go_upto_region 37 with fail
       go_region_held3 (fun V=>V.cell? ⟨xb,1,none⟩=some (.pointer p)∧V.cell? ⟨xb,2,none⟩=some (.pointer d))
        (first|exact⟨x1,x2⟩|exact(HC _ _ _ _ VP (by simp)).2)
        (first|(go_at_call 20;refine(jO _ ((Ai _ _).drew)).mono ?_;rintro e w14 ⟨rfl,akS,alI⟩;have VP:=Hi akS;have agi:=Hi ((Pf.below ((Ai _ w13).drew)).trans alI.apH);clear akS alI))
       have dJ:=Hi (Bg.CR (((Pf.below (show Bw OG w13 from afr.out)).trans agi).Xj _ _ _ Q0));have afs:=Hi (HB1.trans (VP.AR.mono HB1.size));have zN:=Hi (show ∀ q∈GN A,q.1.length≤100000 from fun q hq=>Zr.vU _ (aq7 hq));clear jO x1 x2 yT Q0 agi afr Zr JX qN;obtain⟨E,hE⟩:=ex (Je both BB);rw[hE] at VP XC jP;clear hE;obtain⟨R,hR⟩:=ex (GN A);rw[hR] at dJ XC Q9 zN;rw[hR];clear hR;have Rz:=Q9.out;go_wp2
       go_loopw [28,29,30,31,32] (fun i _ _ _ _ wr2=>∃ k:Nat,k≤R.length∧i= ↑(k:Int)∧Bw w14 wr2) (fun i _ _ _ _ _=>R.length -(intOf i).toNat)
       case atStart=>exact⟨0,AV _,rfl,Ai _ _⟩
       case round=>
        obtain⟨k,hk,rfl,hb⟩:=hrel;have KG:=Hi hb;obtain⟨-,x1,x2⟩:=HC _ _ _ _ (VP.step hb) (by simp);by_cases hlt:k < R.length
        ·obtain⟨q2,aI,Dw,-⟩:=(dJ.below hb).index wc0 k hlt;have e0:=Dw.key;have e1:=Dw.val;have axA:(k:Int) < (R.length:Int):=(by omega);have HE:=Hi (XC _ (CK hlt));have GU:=Hi (zN _ (CK hlt));generalize R[k]=pr at*;have HG:=Hi (fun(W:World) (hW:Bw wr W)=>adM (show Gq W p y from((VP.step KG).step hW).at_ p (Fp y) (by simp)) ((iq VP).abh (bT KG hW)) pr.1 (by have:=GU.out;omega));have XK:=Hi (fun W=>bI pr.1 W (by have:=GU.out;omega));have Nt:=Hi (fun(V:World) (hV:Bw wr V)=>CB (HC _ _ _ _ ((VP.step KG).step hV) (by simp)).2.1 (CB ((hV.cell (Cv e0)).trans e0) ((hV.cell (Cv e1)).trans e1)));clear Dw hb x2;by_cases he:Ad.nm pr.1=nm
         ·have aV:(Ad.nm pr.1 == nm)=true:=by rw[he];exact beq_self_eq_true _
          have D7:=Hi (show ∀ W,Bw wr W→Calls prog 21 #[p,pr.1] W (Rt W (.tuple #[.string (bs []),false,.int .i64 0])) from fun W hW=>by
           have h:=HG W hW;rw[HE.out,Ae he] at h;exact h)
          clear he HE HG GU;go_upto_region 41 with fail
          go_region_held3 (fun V=>V.cell? ⟨xb,1,none⟩=some (.pointer p)∧V.cell? q2=some ↑pr.1)
           (first|exact⟨x1,e0⟩|exact⟨(Nt _ OP).1,(Nt _ OP).2.1⟩)
           (first|(go_at_call 21;refine(D7 _ ((Ai _ _).drew)).mono ?_;rintro e w15 ⟨rfl,Yj⟩;have OP:=Hi (show Bw wr w15 from((Ai _ wr).drew).trans Yj);clear Yj))
          clear x1 e0 e1;obtain⟨-,e0,-⟩:=Nt _ OP.out;go_wp2_with fail;refine(XK _).mono ?_;rintro e w16⟨rfl,WM⟩;have Zk:=bH OP WM;clear e0 WM;obtain⟨-,e0,e1⟩:=Nt _ Zk.out;go_wp2;go_roundw
          case rel=>exact⟨k+1,by omega,by go_num,KG.trans (Zk.mono KG.size)⟩
          case measure=>simp[intOf];omega
         ·have aV:(Ad.nm pr.1 == nm)=false:=Ev.2 he
          have D7:=Hi (show ∀ W,Bw wr W→Calls prog 21 #[p,pr.1] W (Rt W (.tuple #[pr.2,true,.int .i64 0])) from fun W hW=>by
           have h:=HG W hW;rw[HE.out,A9 he] at h;exact h)
          clear he HE HG GU;go_upto_region 41 with fail
          go_region_held3 (fun V=>V.cell? ⟨xb,1,none⟩=some (.pointer p)∧V.cell? q2=some ↑pr.1)
           (first|exact⟨x1,e0⟩|exact⟨(Nt _ OP).1,(Nt _ OP).2.1⟩)
           (first|(go_at_call 21;refine(D7 _ ((Ai _ _).drew)).mono ?_;rintro e w15 ⟨rfl,Yj⟩;have OP:=Hi (show Bw wr w15 from((Ai _ wr).drew).trans Yj);clear Yj))
          clear x1 e0 e1;obtain⟨-,e0,-⟩:=Nt _ OP.out;go_wp2_with fail;refine(XK _).mono ?_;rintro e w16⟨rfl,WM⟩;have Zk:=bH OP WM;clear e0 WM;obtain⟨-,e0,e1⟩:=Nt _ Zk.out;go_wp2;go_roundw
          case rel=>exact⟨k+1,by omega,by go_num,KG.trans (Zk.mono KG.size)⟩
          case measure=>simp[intOf];omega
        ·obtain rfl:k=R.length:=(by omega);have JW:=Hi (VP.step hb);have D6:=bH afs hb;have TH:=Hi (fun(W:World) (hW:Bw wr W)=>nQ JW (by omega) (show(p,Fp y)∈_ by simp) (show(d,FC y)∈_ by simp) hW);rw[LY jP.out] at TH;clear hb hlt VP dJ XC zN Q9;go_upto_region 45 with fail
         go_region_held3 (fun V=>V.cell? ⟨xb,1,none⟩=some (.pointer p)∧V.cell? ⟨xb,2,none⟩=some (.pointer d))
          (first|exact⟨x1,x2⟩|exact(HC _ _ _ _ ar7 (by simp)).2|exact(HC _ _ _ _ afQ (by simp)).2)
          (first|(go_at_call 14;refine(TH _ ((Ai _ _).drew)).mono ?_;rintro e w15 ⟨rfl,Yj⟩;have afx:=Hi (((Ai _ wr).drew).trans Yj);have afQ:=Hi (JW.step afx);have OP:=bH D6 afx;clear Yj)|(go_at_call 6;refine(jg _ OP).mono ?_;rintro e w16 ⟨rfl,WM⟩;have ar7:=Hi (afQ.step WM);have Zk:=bH OP WM;clear WM))
         go_wp2;go_ret;exact⟨rfl,Zk⟩
