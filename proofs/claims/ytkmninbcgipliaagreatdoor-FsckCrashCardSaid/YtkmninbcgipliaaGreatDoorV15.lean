/- FckAv SwCr FckCr FckCw SwTrod FsckCrashWalk FsckCrashLift -/
import Derived.Test.YtkmninbcgipliaaGreatDoorV14
set_option maxHeartbeats 16000000
set_option maxRecDepth 100000
set_option linter.all false
namespace Go.Proofs.YtkmninbcgipliaaGreatDoor
open Go.Proofs.Tryz hiding t1 t2
namespace EX
open Go.RowKit Go.Maps
open Av Ag Bt Kp BI Hex BH Al Mem Ch GV Hv
open Ar hiding T
theorem atN(w:World){W1 W2 W3:World}(h1:W1=w.alloc (.cells #[.string (bs [97]),.string (bs [49])] 51))
  (h2:W2=W1.alloc (.cells #[.string (bs [97])] 9))(h3:W3=W2.alloc (.cells #[.string (bs [114]),.slice (some ⟨w.heap.size+1,0,none⟩) 1 1] 63)):
  Bf W3 (some ⟨w.heap.size,0,none⟩) Ml∧MX W3 (some ⟨w.heap.size+1+1,0,none⟩) NI∧Bw w W3:=by
 have s1:W1.heap.size=w.heap.size+1:=by rw[h1];exact Ay _ _
 have s2:W2.heap.size=w.heap.size+1+1:=by rw[h2,Ay,s1]
 have b1:Bw w W1:=by rw[h1];exact AU _ _
 have b2:Bw W1 W2:=by rw[h2];exact AU _ _
 have b3:Bw W2 W3:=by rw[h3];exact AU _ _
 have r1:BJ W1 w.heap.size (.slice (some ⟨w.heap.size,0,none⟩) 1 1) Ml:=by rw[h1];exact az9 (cs:=#[.string (bs [97]),.string (bs [49])]) Ml (by decide) (by unfold Dm Ml;rfl) rfl
 have r2:Ar.Bq W2 0 (.slice (some ⟨w.heap.size+1,0,none⟩) 1 1) [[97]]:=by rw[h2];exact axB (n:=1) (AV _) [[97]] (by decide) #[.string (bs [97])] (by unfold strCells;rfl) s1 rfl
 have r4:Lu W3 0 (.slice (some ⟨w.heap.size+1+1,0,none⟩) 1 1) NI [([114],.slice (some ⟨w.heap.size+1,0,none⟩) 1 1)]:=by
  rw[h3];refine aCd [([114],.slice (some ⟨w.heap.size+1,0,none⟩) 1 1)] NI (by simp) rfl (fun i h h2=>?_) rfl s2 rfl
  match i,h with
  |0,_=>exact⟨rfl,r2⟩
 exact⟨((Bf.CX r1).below b2).below b3,Lu.at_ r4,(bT b1 b2).trans (b3.mono (by omega))⟩
theorem Rm.below{w w':World}{q:Addr}{c:Nat×T×T}(h:Rm w q c)(hb:Bw w w'):Rm w' q c:=h.upd (ub hb) (fun f=>f)
theorem atU{W:World}(nm:T){g:Nat}(hg:W.heap.size=g):Eb (W.alloc (.cells #[.string (bs nm),.string { data:=#[120] },.bool false] 57)) (some ⟨g,0,none⟩) [⟨nm,[120],false⟩]:=by
 subst hg;exact zx (c:=⟨nm,[120],false⟩) (AQ W _)
theorem aqC:aea:=fun w Wp=>by
 obtain⟨hL,hU,hB⟩:=atN w rfl rfl rfl;have Qt:=Hi (alA (cap:=1) (uc:=1) (fc:=0) (fa:=none) (fs:=[]) atO hL hU (fun i hi=>by simp at hi) (by simp));have AR:=Hi hB;have HMX:=Hi Wp;clear hL hU hB Wp
 go_in
 go_wp2_with fail;refine Qt.mono ?_;rintro e w1⟨b,y,p,d,r,xb,rfl,hk⟩;rw[atP] at hk;have YS:=Hi (Er.lower hk AR AR.size);clear hk Qt AR;have HC:Hid (∀ (W:World) (N:Nat) (A:M) (L:List (Nat×Obj)),Er w.heap.size w W b y 100 N A L→(xb,J7 y p d r)∈L→W.cell? ⟨xb,0,none⟩=some (.pointer (some ⟨y,0,none⟩))∧W.cell? ⟨xb,1,none⟩=some (.pointer (some ⟨p,0,none⟩))∧W.cell? ⟨xb,2,none⟩=some (.pointer (some ⟨d,0,none⟩))):=Hi fun W N A L h D6=>by
  have h0:=h.cell (k:=xb) (t:=47) D6 0;have h1:=h.cell (k:=xb) (t:=47) D6 1;have h2:=h.cell (k:=xb) (t:=47) D6 2;exact⟨h0,h1,h2⟩
 obtain⟨x0,x1,x2⟩:=HC _ _ _ _ YS (by simp);have Ot:=Hi (fun(W:World) (hW:Bw w1 W)=>uD YS (by omega) (show(p,F6 y)∈_ by simp) (show(d,F3 y)∈_ by simp) hW);rw[MM atT] at Ot;have HNA:=Hi (fun(W:World)=>uA [97] W (by decide))
 have Ph:=Hi (fun(W:World) (N:Nat) (L:List (Nat×Obj)) (hk:Er w.heap.size w W b y 100 N Ip L) (hN:N < 1000) (g:Nat) (hg:W.heap.size=g)=>show Calls prog 17 #[.pointer (some ⟨y,0,none⟩),.slice (some ⟨g,0,none⟩) 1 1] (W.alloc (.cells #[.string (bs IY),.string { data:=#[120] },.bool false] 57)) fun e w'=>e=.returned (.int .i64 0)∧Er w.heap.size w w' b y 100 (N+1) EP L∧JY W w' from by
  have h:=ayj (cap:=1) (hk.step (AU W _)) (by omega) (atU IY hg) (by simp) (by show 8+IY.length+1+0≤_;rw[qI];omega);rw[ahA.1,ahA.2] at h;refine h.mono ?_;rintro e w'⟨rfl,h1,h2⟩;exact⟨rfl,h1,(JY.below (AU W _)).trans h2⟩)
 have Bc:({ data:=#[97] }:ByteArray)=bs [97]:=rfl;have HNB:=Hi (fun(W:World)=>show Calls prog 15 #[.string (bs [97])] W fun e w'=>e=.returned (.string (bs IY))∧Bw W w' from HNA W);go_upto_region 2 with fail
 go_cut [51] from 23 to 50 (fun s51 wx=>s51=.bool false∧Er w.heap.size w wx b y 100 4 EP [(xb,J7 y p d r),(d,F3 y),(p,F6 y)])
 case first=>
  go_region_held3 (fun V=>V.cell? ⟨xb,0,none⟩=some (.pointer (some ⟨y,0,none⟩))∧V.cell? ⟨xb,1,none⟩=some (.pointer (some ⟨p,0,none⟩))∧V.cell? ⟨xb,2,none⟩=some (.pointer (some ⟨d,0,none⟩)))
   (first|exact⟨x0,x1,x2⟩|exact HC _ _ _ _ bC (by simp)|exact HC _ _ _ _ (Oe.step (AU _ _)) (by simp)|exact HC _ _ _ _ Oe (by simp)|exact HC _ _ _ _ MP (by simp))
   (first
    |(go_at_call 14;refine(Ot _ ((Ai _ _).drew)).mono ?_;rintro e w2 ⟨rfl,Ac⟩;have MP:=Hi (YS.step (((Ai _ w1).drew).trans Ac));clear Ac)
    |(go_at_call 15;refine(HNB _).mono ?_;rintro e w3 ⟨rfl,Ap⟩;have Oe:=Hi (MP.step Ap);clear Ap)
    |(go_at_call 17;refine(Ph _ _ _ Oe (by omega) _ rfl).mono ?_;rintro e w4 ⟨rfl,hk4,RU⟩;have bC:=Hi hk4;clear hk4 RU))
  go_wp2_with fail;go_meet
  case rel=>exact⟨rfl,bC⟩
 case rest=>
  obtain⟨rfl,hk⟩:=hcut;have nX:=Hi hk;obtain⟨y0,y1,y2⟩:=HC _ _ _ _ hk (by simp);have DY:=fK hk;have Pk:=Hi (show BI.May 100 EP from⟨DY.1,DY.2.1,DY.2.2⟩);have FT:=Hi (fun(W:World) (hW:Bw wc W)=>ayk nX (by omega) (show(p,F6 y)∈_ by simp) (show(d,F3 y)∈_ by simp) hW);rw[atG] at FT;clear hk DY x0 x1 x2 Ot HNA Ph;go_upto_region 4 with fail
  go_region_held3 (fun V=>V.cell? ⟨xb,1,none⟩=some (.pointer (some ⟨p,0,none⟩))∧V.cell? ⟨xb,2,none⟩=some (.pointer (some ⟨d,0,none⟩)))
   (first|exact⟨y1,y2⟩|exact(HC _ _ _ _ YT (by simp)).2)
   (first|(go_at_call 18;refine(FT _ ((Ai _ _).drew)).mono ?_;rintro e w5 ⟨v5,rfl,Kg,BF⟩;obtain⟨q5,c5,rfl⟩:=Bo Kg;have KH:=Hi Kg;have CZ:=Hi (((Ai _ wc).drew).trans BF);have YT:=Hi (nX.step CZ);clear Kg BF))
  clear FT y0 y1 y2;obtain⟨y0,y1,y2⟩:=HC _ _ _ _ YT (by simp);have Ry:=Hi (fun(W:World) (hW:Bw w5 W)=>uD YT (by omega) (show(p,F6 y)∈_ by simp) (show(d,F3 y)∈_ by simp) hW);rw[decide_eq_false atL] at Ry;go_upto_region 5 with fail
  go_region_held3 (fun V=>V.cell? ⟨xb,1,none⟩=some (.pointer (some ⟨p,0,none⟩))∧V.cell? ⟨xb,2,none⟩=some (.pointer (some ⟨d,0,none⟩)))
   (first|exact⟨y1,y2⟩|exact(HC _ _ _ _ xN (by simp)).2)
   (first|(go_at_call 14;refine(Ry _ ((Ai _ _).drew)).mono ?_;rintro e w6 ⟨rfl,CS⟩;have EC:=Hi (((Ai _ w5).drew).trans CS);have xN:=Hi (YT.step EC);clear CS))
  clear Ry y0 y1 y2;have Hy:=Hi ((JY.below EC.out).br KH);obtain⟨y0,y1,y2⟩:=HC _ _ _ _ xN (by simp)
  have iT:=Hi (fun(W:World) (hW:Bw w6 W)=>show Calls prog 20 #[.pointer (some ⟨p,0,none⟩),.pointer (some ⟨d,0,none⟩)] W fun e w'=>e=.returned (.tuple #[.int .i64 1,.int .i64 1,.int .i64 0])∧Er w.heap.size w w' b y 100 6 (Iw both EP) [(xb,J7 y p d r),(d,F3 y),(p,F6 y)]∧JY w6 w' from by
   have h:=alW (xN.step hW) (by omega) (by omega) (show(p,F6 y)∈_ by simp) (show(d,F3 y)∈_ by simp);rw[atI,ahu] at h;refine h.mono ?_;rintro e w'⟨rfl,h1,h2⟩;exact⟨rfl,h1,(JY.below hW).trans h2⟩)
  go_upto_region 6 with fail
  go_region_held3 (fun V=>V.cell? ⟨xb,1,none⟩=some (.pointer (some ⟨p,0,none⟩))∧V.cell? ⟨xb,2,none⟩=some (.pointer (some ⟨d,0,none⟩)))
   (first|exact⟨y1,y2⟩|exact(HC _ _ _ _ Ru (by simp)).2)
   (first|(go_at_call 20;refine(iT _ ((Ai _ _).drew)).mono ?_;rintro e w7 ⟨rfl,kM,hs7⟩;have Ru:=Hi kM;have oK:=Hi (hs7.br Hy);clear kM hs7))
  clear iT y0 y1 y2;have Rs:=Hi (Lj.CX oK);have hrb:mD [119,97,110,116,32,55,50,32,54,49]=(3,[114],[97]):=by decide+kernel
  have hrc:mE [119,97,110,116,32,55,50,32,54,49]=0:=by decide+kernel
  have Il:=Hi (fun(W:World) (hW:Bw w7 W)=>att [119,97,110,116,32,55,50,32,54,49] W (by decide) ((HMX.below Ru.AO).below hW));rw[hrb,hrc] at Il;unfold zg at Il;obtain⟨a0,Bl,RI,-⟩:=Rs.index c5 0 (by simp);obtain⟨a1,hi1,dE,-⟩:=Rs.index c5 1 (by simp);have Bl:∀ W,(Instr.indexAt 58 (.slice q5 2 c5) (.int .i64 0)).run prog W=.ok (.pointer (some a0)) W:=Bl;have hi1:∀ W,(Instr.indexAt 58 (.slice q5 2 c5) (.int .i64 1)).run prog W=.ok (.pointer (some a1)) W:=hi1;have HA:=Hi (fun(V:World) (hV:Bw w7 V)=>Cw (Rm.below RI hV).cells (Rm.below dE hV).cells);have iZ:=Hi (fun(W:World) (hW:Bw w7 W)=>uD Ru (by omega) (show(p,F6 y)∈_ by simp) (show(d,F3 y)∈_ by simp) hW);rw[MM (alM Jz Pk)] at iZ;have Ju:=Hi (fun(W:World) (hW:Bw w7 W)=>(lX Ru).names W hW);rw[atH Pk.out] at Ju;have G7:=Hi (fun W=>ah9 (3,[114],[97]) W (by decide) (by decide) (by decide));have HL9:=Hi (fun W=>ah9 (9,[],[]) W (by decide) (by decide) (by decide));rw[show tZ (3,[114],[97])=[119,97,110,116,32,55,50,32,54,49] by decide+kernel] at G7;rw[show tZ (9,[],[])=[63,32,45,32,45] by decide+kernel] at HL9;clear hrb hrc RI dE Rs KH Hy oK;go_wp2_with fail;refine(ayB _).mono ?_;rintro e w8⟨rfl,rfl⟩;go_wp2_with fail;refine(Il _ (Ai _ _)).mono ?_;rintro e w9⟨rfl,FD⟩;have XK:=FD.trans ((AU w9 (.cells #[.int .u8 3,.string (bs [114]),.string (bs [97])] 23)).mono FD.size);have HX:=Hi (AQ w9 (.cells #[.int .u8 3,.string (bs [114]),.string (bs [97])] 23))
  obtain⟨EB,Yi⟩:=ex (w9.alloc (.cells #[.int .u8 3,.string (bs [114]),.string (bs [97])] 23));rw[Yi] at XK HX;have Nw:=Hi XK;clear FD XK
  have Bj:=Hi (fun(V:World) (hV:Bw EB V)=>show(V.cell? ⟨xb,0,none⟩=some (.pointer (some ⟨y,0,none⟩))∧V.cell? ⟨xb,1,none⟩=some (.pointer (some ⟨p,0,none⟩))∧V.cell? ⟨xb,2,none⟩=some (.pointer (some ⟨d,0,none⟩)))∧(V.cell? a0=some (.int .u8 1)∧V.cell? ⟨a0.block,a0.off+1,none⟩=some (.string (bs IY))∧V.cell? ⟨a0.block,a0.off+2,none⟩=some (.string (bs [])))∧(V.cell? a1=some (.int .u8 3)∧V.cell? ⟨a1.block,a1.off+1,none⟩=some (.string (bs [114]))∧V.cell? ⟨a1.block,a1.off+2,none⟩=some (.string (bs [97])))∧(V.cell? ⟨w9.heap.size,0,none⟩=some (.int .u8 3)∧V.cell? ⟨w9.heap.size,1,none⟩=some (.string (bs [114]))∧V.cell? ⟨w9.heap.size,2,none⟩=some (.string (bs [97]))) from by
   have hV7:=Nw.trans (hV.mono Nw.size);obtain⟨q0,q1⟩:=HA V hV7;have hx:=(hV.block _ (Ao HX)).trans HX;exact⟨HC _ _ _ _ (Ru.step hV7) (by simp),q0,q1,cr hx,cr hx,cr hx⟩)
  obtain⟨⟨y0,y1,y2⟩,⟨p0,p1,p2⟩,⟨r0,r1,r2⟩,s0,s1,s2⟩:=Bj EB (Ai _ _);have AP:=Hi ((Ai EB.heap.size EB).drew);have HBI:=Hi (Ai EB.heap.size EB);have oM:=Hi (fun(V:World) (hV:Bw EB V)=>iZ V (bT Nw hV));have og:=Hi (fun(V:World) (hV:Bw EB V)=>Ju V (bT Nw hV));go_upto_region 9 with fail
  refine wp_region_held (S:=(fun V=>(V.cell? ⟨xb,0,none⟩=some (.pointer (some ⟨y,0,none⟩))∧V.cell? ⟨xb,1,none⟩=some (.pointer (some ⟨p,0,none⟩))∧V.cell? ⟨xb,2,none⟩=some (.pointer (some ⟨d,0,none⟩)))∧(V.cell? a0=some (.int .u8 1)∧V.cell? ⟨a0.block,a0.off+1,none⟩=some (.string (bs IY))∧V.cell? ⟨a0.block,a0.off+2,none⟩=some (.string (bs [])))∧(V.cell? a1=some (.int .u8 3)∧V.cell? ⟨a1.block,a1.off+1,none⟩=some (.string (bs [114]))∧V.cell? ⟨a1.block,a1.off+2,none⟩=some (.string (bs [97])))∧(V.cell? ⟨w9.heap.size,0,none⟩=some (.int .u8 3)∧V.cell? ⟨w9.heap.size,1,none⟩=some (.string (bs [114]))∧V.cell? ⟨w9.heap.size,2,none⟩=some (.string (bs [97]))))) (by kernel_rfl) ?_;generalize hW0:({ heap:=EB.heap,tape:=EB.tape,drawn:=EB.drawn+1,os:=EB.os,output:=EB.output }:World)=W0;have jR:EB.drew=W0:=hW0;rw[jR] at AP;clear hW0 jR y0 y1 y2 p0 p1 p2 r0 r1 r2 s0 s1 s2 Yi;refine Az 0 (Bj _ AP) ?_;refine Az 1 (Bj _ AP) ?_;refine Az 2 (Bj _ AP) ?_;refine Az 3 (Bj _ AP) ?_;refine Az 4 (Bj _ AP) ?_;refine Az 5 (Bj _ AP) ?_;refine Az 6 (Bj _ AP) ?_;refine Az 7 (Bj _ AP) ?_;refine Az 8 (Bj _ AP) ?_;refine Az 9 (Bj _ AP) ?_;refine Az 10 (Bj _ AP) ?_;refine OZ 11 (fun K1 Jh=>?_);go_simp;refine(HNB _).mono ?_;rintro e v1⟨rfl,NM⟩
  replace AP:=bH AP NM
  clear NM;refine Jh _ _ (Bj _ AP) ?_;clear Jh K1;try simp only[Act.put,np]
  refine Az 12 (Bj _ AP) ?_;refine Az 13 (Bj _ AP) ?_;refine Az 14 (Bj _ AP) ?_;refine Az 15 (Bj _ AP) ?_;refine Az 16 (Bj _ AP) ?_;refine Az 17 (Bj _ AP) ?_;refine Az 18 (Bj _ AP) ?_;refine OZ 19 (fun K2 Dv=>?_);go_simp;refine(G7 _).mono ?_;rintro e v2⟨rfl,NM⟩
  replace AP:=bH AP NM
  clear NM;refine Dv _ _ (Bj _ AP) ?_;clear Dv K2;try simp only[Act.put,np]
  refine Az 20 (Bj _ AP) ?_;refine Az 21 (Bj _ AP) ?_;refine Az 22 (Bj _ AP) ?_;refine Az 23 (Bj _ AP) ?_;refine Az 24 (Bj _ AP) ?_;refine Az 25 (Bj _ AP) ?_;refine Az 26 (Bj _ AP) ?_;refine Az 27 (Bj _ AP) ?_;refine Az 28 (Bj _ AP) ?_;refine Az 29 (Bj _ AP) ?_;refine Az 30 (Bj _ AP) ?_;refine Az 31 (Bj _ AP) ?_;refine Az 32 (Bj _ AP) ?_;refine Az 33 (Bj _ AP) ?_;refine Az 34 (Bj _ AP) ?_;refine Az 35 (Bj _ AP) ?_;refine Az 36 (Bj _ AP) ?_;refine Az 37 (Bj _ AP) ?_;refine Az 38 (Bj _ AP) ?_;refine Az 39 (Bj _ AP) ?_;refine Az 40 (Bj _ AP) ?_;refine Az 41 (Bj _ AP) ?_;refine Az 42 (Bj _ AP) ?_;refine Az 43 (Bj _ AP) ?_;refine Az 44 (Bj _ AP) ?_;refine Az 45 (Bj _ AP) ?_;refine Az 46 (Bj _ AP) ?_;refine OZ 47 (fun K3 PK=>?_);go_simp;refine(oM _ AP).mono ?_;rintro e v3⟨rfl,NM⟩
  replace AP:=bH AP NM
  clear NM;refine PK _ _ (Bj _ AP) ?_;clear PK K3;try simp only[Act.put,np]
  refine Az 48 (Bj _ AP) ?_;refine Az 49 (Bj _ AP) ?_;refine Az 50 (Bj _ AP) ?_;refine Az 51 (Bj _ AP) ?_;refine Az 52 (Bj _ AP) ?_;refine Az 53 (Bj _ AP) ?_;refine OZ 54 (fun K4 jJ=>?_);go_simp;refine(og _ AP).mono ?_;rintro e v4⟨vn,rfl,Wq,NM,-⟩;obtain⟨qn,cn,rfl⟩:=Bo Wq;clear Wq
  replace AP:=bH AP NM
  clear NM;refine jJ _ _ (Bj _ AP) ?_;clear jJ K4;try simp only[Act.put,np]
  refine Az 55 (Bj _ AP) ?_;refine Az 56 (Bj _ AP) ?_;refine Az 57 (Bj _ AP) ?_;refine Az 58 (Bj _ AP) ?_;refine Az 59 (Bj _ AP) ?_;refine Az 60 (Bj _ AP) ?_;refine Az 61 (Bj _ AP) ?_;refine Az 62 (Bj _ AP) ?_;refine Az 63 (Bj _ AP) ?_;refine Az 64 (Bj _ AP) ?_;refine Az 65 (Bj _ AP) ?_;refine Az 66 (Bj _ AP) ?_;refine Az 67 (Bj _ AP) ?_;refine Az 68 (Bj _ AP) ?_;refine Az 69 (Bj _ AP) ?_;refine Az 70 (Bj _ AP) ?_;refine Az 71 (Bj _ AP) ?_;refine Az 72 (Bj _ AP) ?_;refine Az 73 (Bj _ AP) ?_;refine Az 74 (Bj _ AP) ?_;refine OZ 75 (fun K5 jK=>?_);go_simp;refine(HL9 _).mono ?_;rintro e v5⟨rfl,NM⟩
  replace AP:=bH AP NM
  clear NM;refine jK _ _ (Bj _ AP) ?_;clear jK K5;try simp only[Act.put,np]
  refine Az 76 (Bj _ AP) ?_;refine Az 77 (Bj _ AP) ?_;refine Az 78 (Bj _ AP) ?_;refine wpAnyH_done (by kernel_rfl) ?_ _;go_wp2;go_ret;exact⟨rfl,Ru.AO.trans ((bT Nw AP).mono Ru.AO.size)⟩
end EX
namespace Hv
open Go.RowKit Go.Maps
open Av Ag Bt Kp BI Hex BH Al Mem Ch GV
open Ar hiding T
theorem YI.shrink{w:World}{b y n N:Nat}{bl:Nat→Prop}{A A':M}(h:YI w b y bl n N A A'):YI w b y (fun k=>bl k∧k < w.heap.size) n N A A':=by
 obtain⟨D,fp,m,x,gv,F,D',F',h1,h2,h3,h4,h5,h6,h7,h8,h9,IZ⟩:=h;exact⟨D,fp,m,x,gv,F,D',F',h1,h2,h3,h4,h5,h6,h7,h8,h9,fun k hk=>⟨IZ k hk,hk.elim (h1.lt k) (h2.lt k)⟩⟩
structure Gw(P:World→(Nat→Prop)→Prop)(B:Nat)(w0 W:World)(L:List (Nat×Obj)):Prop where
 AO:Below B w0 W
 low:B≤W.heap.size
 Ga:∃ bl,P W bl∧∀ k,bl k→(B≤k∧k < W.heap.size)∧∀ o,(k,o)∉L
 at_:∀ k o,(k,o)∈L→W.heap[k]?=some o
def PA(dn:Bool)(b y n N:Nat)(A A':M)(W:World)(bl:Nat→Prop):Prop:=Ku dn W b y bl n N A A'
def PR(b y n N:Nat)(A A':M)(W:World)(bl:Nat→Prop):Prop:=YI W b y bl n N A A'
def PS(b y n N:Nat)(A:M)(W:World)(bl:Nat→Prop):Prop:=Qi W b y bl n N A
section
variable {P P':World→(Nat→Prop)→Prop}{B:Nat}{w0 w w' W W':World}{b y n N pm pd:Nat}{A A':M}{L:List (Nat×Obj)}{dn:Bool}
theorem Gw.turn{bl C8:Nat→Prop}(rH:Below B w0 W)(Y4:B≤W.heap.size)(hat:∀ k o,(k,o)∈L→W.heap[k]?=some o)(hb:∀ k,bl k→(B≤k∧k < W.heap.size)∧∀ o,(k,o)∉L)(hs:P' W' (fun k=>C8 k∧k < W'.heap.size))(hu:A7 (Gx W bl) W W')(CP:∀ k,C8 k→bl k∨W.heap.size≤k):Gw P' B w0 W' L∧KO W W':=by
 have hlt:∀ k o,(k,o)∈L→k < W.heap.size:=fun k o h=>(Dq.1 (hat k o h)).1
 exact⟨⟨Cy rH hu (fun k hk=>(hb k hk.1).1.1) Y4,Aw Y4 hu.size,⟨_,hs,fun k hk=>(CP k hk.1).elim (fun e=>⟨⟨(hb k e).1.1,hk.2⟩,(hb k e).2⟩) (fun e=>⟨⟨Aw Y4 e,hk.2⟩,fun o ho=>by have:=hlt k o ho;omega⟩)⟩,fun k o ho=>(hu.block k (hlt k o ho) (fun hn=>(hb k hn.1).2 o ho)).trans (hat k o ho)⟩,KO.upd hu⟩
theorem Gw.cell(h:Gw P B w0 w L){k:Nat}{cs:Array Value}{t:TypeId}(hm:(k,.cells cs t)∈L)(i:Nat):w.cell? ⟨k,i,none⟩=cs[i]? :=BL w k i cs t _ (h.at_ _ _ hm)
theorem Gw.step(h:Gw P B w0 W L)(hb:Bw W W')(hP:∀ bl,P W bl→P W' bl):Gw P B w0 W' L:=by
 obtain⟨bl,h1,h2⟩:=h.Ga;exact⟨h.AO.trans (hb.mono h.low),Aw h.low hb.size,⟨bl,hP bl h1,fun k hk=>⟨⟨(h2 k hk).1.1,Hw (h2 k hk).1.2 hb.size⟩,(h2 k hk).2⟩⟩,fun k o ho=>(hb.block k (Dq.1 (h.at_ k o ho)).1).trans (h.at_ k o ho)⟩
theorem Gw.aqM(h:Gw (PA dn b y n N A A') B w0 W L)(hb:Bw W W'):Gw (PA dn b y n N A A') B w0 W' L:=h.step hb (fun _ h=>Ku.below h hb)
theorem aac(h:Er B w0 W b y n N A L):Gw (PA false b y n N A A) B w0 W L:=by
 obtain⟨⟨h1,h2,hx,bl,h3,h4⟩,ha⟩:=h;exact⟨h1,h2,⟨fun k=>bl k∧k < W.heap.size,⟨rfl,h3.shrink.loosen⟩,fun k hk=>⟨⟨(h4 k hk.1).1,hk.2⟩,fun o ho=>(h4 k hk.1).2 ⟨o,ho⟩⟩⟩,ha⟩
theorem ayl(h:Gw (PS b y n N A) B w0 W L):Er B w0 W b y n N A L:=by
 obtain⟨h1,h2,⟨bl,h3,h4⟩,ha⟩:=h;exact⟨⟨h1,h2,fun k ⟨o,ho⟩=>(Dq.1 (ha k o ho)).1,bl,h3,fun k hk=>⟨(h4 k hk).1.1,fun⟨o,ho⟩=>(h4 k hk).2 o ho⟩⟩,ha⟩
theorem ahH(h:Gw (PA dn b y n N A A') B w0 W L):Calls prog 22 #[.pointer (some ⟨y,0,none⟩)] W fun e w'=>e=.returned (.pointer (some ⟨b,0,none⟩))∧W=w':=by
 obtain⟨bl,h1,_⟩:=h.Ga;exact asE h1
theorem auc(h:Gw (PR b y n N A A') B w0 W L):Calls prog 22 #[.pointer (some ⟨y,0,none⟩)] W fun e w'=>e=.returned (.pointer (some ⟨b,0,none⟩))∧W=w':=by
 obtain⟨bl,h1,_⟩:=h.Ga;exact atq h1
theorem atW(h:Gw (PA dn b y n N A A') B w0 W L)(k:Int)(hk:k≤9223372036854775807):Calls prog 23 #[.pointer (some ⟨b,0,none⟩),.int .i64 k] W fun e w'=>e=.returned (.int .i64 0)∧Gw (PA dn b y n N A A') B w0 w' L∧KO W w':=by
 obtain⟨bl,h1,h2⟩:=h.Ga;refine(asF h1 k hk).mono ?_;rintro e w'⟨rfl,g1,g2⟩;exact⟨rfl,Gw.turn h.AO h.low h.at_ h2 (Ku.shrink g1) g2 (fun k hk=>.inl hk)⟩
theorem atV(h:Gw (PA dn b y n N A A') B w0 W L)(keep:T)(hk:keep.length≤1000000000):Calls prog 24 #[.pointer (some ⟨b,0,none⟩),.string (bs keep)] W fun e w'=>e=.returned (.int .i64 0)∧Gw (PR b y n N A A') B w0 w' L∧KO W w':=by
 obtain⟨bl,h1,h2⟩:=h.Ga;refine(asD h1 keep hk).mono ?_;rintro e w'⟨rfl,C8,g1,g2,g3⟩;exact⟨rfl,Gw.turn h.AO h.low h.at_ h2 (YI.shrink g1) g2 g3⟩
theorem atY(h:Gw (PR b y n N A A') B w0 W L):Calls prog 25 #[.pointer (some ⟨b,0,none⟩)] W fun e w'=>∃ y2 A2,e=.returned (.tuple #[.pointer (some ⟨y2,0,none⟩),.int .i64 0])∧(A2=A∨A2=A')∧Er B w0 w' b y2 n N A2 L∧KO W w':=by
 obtain⟨bl,⟨D,fp,m,x,gv,F,D',F',h1,h2,h3,h4,h5,h6,h7,h8,h9,IZ⟩,hb⟩:=h.Ga;refine(ahl h1 h6 h7 h4 h8).mono ?_;rintro e w'⟨y2,C8,rfl,p1,p2,p3,p4⟩;have hg:Gw (PS b y2 n N F'.m) B w0 w' L∧KO W w':=Gw.turn h.AO h.low h.at_ hb (C8:=C8) (by rw[h5] at p1;exact p1.shrink) (p2.mono (fun k hk=>fM h1 h2 IZ k (.inl hk))) (fun k hk=>(p3 k hk).imp (fun e=>IZ k (.inl e)) id);exact⟨y2,F'.m,rfl,h9,ayl hg.1,hg.2⟩
end
section
variable {n:Nat}{A X:M}{roots:List T}
end
end Hv
namespace EX
open Go.RowKit Go.Maps
open Av Ag Bt Kp BI Hex BH Al Mem Ch GV Hv
open Ar hiding T
section
variable {B:Nat}{w0 w w' W W':World}{b y n N pm pd:Nat}{A X:M}{L:List (Nat×Obj)}
theorem atX(h:Gw (PA false b y n N A A) B w0 W L)(hN:N+2 < 1000000000)(hn:n≤200)(hm:(pm,F6 y)∈L)(hd:(pd,F3 y)∈L):
  Calls prog 20 #[.pointer (some ⟨pm,0,none⟩),.pointer (some ⟨pd,0,none⟩)] W fun e w'=>∃ (x1 x2 c:Int) (dn:Bool) (A1 A2:M),e=.returned (.tuple #[.int .i64 x1,.int .i64 x2,.int .i64 c])∧(c=0∨(c=40∧x1=0∧x2=0))∧Uq both A A1∧Uq both A A2∧Gw (PA dn b y n (N+2) A1 A2) B w0 w' L∧KO W w':=by
 obtain⟨bl,⟨_,h1⟩,h2⟩:=h.Ga;refine(ahb h1 hN (Aw h1.up.2.2.1 (ada hn)) (h.at_ _ _ hm) (h.at_ _ _ hd)).mono ?_;rintro e w'⟨c,rfl,hc,hu,C8,hsw,hs⟩;rcases hsw with⟨rfl,hok⟩|⟨_,rfl,hdn⟩
 ·exact⟨_,_,0,false,_,_,rfl,.inl rfl,.inr (.inr rfl),.inr (.inr rfl),Gw.turn (P':=PA false b y n (N+2) (Iw both A) (Iw both A)) h.AO h.low h.at_ h2 (C8:=C8) ⟨rfl,hok.shrink⟩ hu hs⟩
 ·rw[Yp,Yp];rcases hdn with OC|OC
  ·exact⟨0,0,40,true,_,_,rfl,.inr ⟨rfl,rfl,rfl⟩,.inl rfl,.inr (.inl rfl),Gw.turn (P':=PA true b y n (N+2) A (J9 both A)) h.AO h.low h.at_ h2 (C8:=C8) (Ku.shrink (dn:=true) OC) hu hs⟩
  ·exact⟨0,0,40,true,_,_,rfl,.inr ⟨rfl,rfl,rfl⟩,.inr (.inl rfl),.inr (.inr rfl),Gw.turn (P':=PA true b y n (N+2) (J9 both A) (Iw both A)) h.AO h.low h.at_ h2 (C8:=C8) (Ku.shrink (dn:=true) OC) hu hs⟩
theorem aCA(h:BI.May n A)(hX:Uq both A X):P6 (Iw both X)=P6 A:=by
 have h2:=hX.may Jz h;have hk:Bn Ah (Iw both X)=Bn Ah A:=al3 JL (uy Jz h2).up h.up fun k=>by
  have:=hX.mended Jz h k;unfold mV at this;rw[show Cq Ah (Iw both X) k=Cq Ah A k from this]
 unfold P6;rw[hk];refine P8 fun k hm=>?_
 have h1:=(Sd JL h.up k).1 hm;obtain⟨v,hv⟩:=Lh.1 h1;have J4:Cq Ah (Iw both X) k=some v:=by
  have:=hX.mended Jz h k;unfold mV at this;rw[show Cq Ah (Iw both X) k=Cq Ah A k from this,hv]
 rw[ahK hv,ahK J4]
end
theorem arN{N fu:Int}{a ua fa:Option Addr}{cap uc fc:Nat}{l:M}{us:Us}{fs:List Am}{keep:T}{w:World}(aiu:aea)(Wp:VK w)(hL:Bf w a l)(hlen:l.length≤maxLen)(hok:∀ c∈l,c.1.length≤reachBytes∧c.2.length≤reachBytes)
  (hU:MX w ua us)(lu:us.length≤maxLen)(lC:∀ c∈us,c.1.length≤reachBytes∧c.2.length≤maxLen)(hF:Eb w fa fs)(kG:fs.length≤maxLen)(UO:∀ c∈fs,c.name.length≤reachBytes∧c.data.length≤reachBytes)
  (Dw:keep.length≤reachBytes):
  Calls prog 5 #[.agg #[.int .i64 N,.slice a l.length cap,.slice ua us.length uc,.slice fa fs.length fc],.int .u8 fu,.string (bs keep)] w fun e w'=>e=.returned (.bool true)∧Bw w w':=by
 have wU:=Hi (fun(W:World) (hb:Bw w W)=>aiu W (Wp.below hb));have AR:=Hi (AU w (.cells #[.int .i64 N,.slice a l.length cap,.slice ua us.length uc,.slice fa fs.length fc] 34));have HHV:=Hi (fun W (hb:Bw w W)=>avq (N:=N) (cap:=cap) (uc:=uc) (fc:=fc) (hL.below hb) hlen hok (hU.below hb) lu lC (hF.below hb) kG UO);have Qt:=Hi (fun(n:Nat) W (hb:Bw w W) (PZ:pq n l us fs)=>alA (cap:=cap) (uc:=uc) (fc:=fc) PZ (hL.below hb) (hU.below hb) (hF.below hb) (fun c hc=>⟨Aw (UO c hc).1 (by unfold reachBytes maxLen;omega),Aw (UO c hc).2 (by unfold reachBytes maxLen;omega)⟩));have aEl:keep.length≤9223372036854775807:=by unfold reachBytes at Dw;omega
 clear aiu Wp hL hlen hok hU lu lC hF kG UO Dw
 go_in
 go_wp2_with fail;refine(HHV _ AR).mono ?_;rintro e w1⟨h,rfl,Aj,PZ⟩;have HB1:=bH AR Aj;have Ii:=Hi PZ;have Em:=(Aj.block w.heap.size (by rw[Ay];omega)).trans (AQ w _);have Pv:=Hi Em;clear Aj PZ Em;cases h with
 |true=>
  go_wp2_with fail;refine(wU _ HB1).mono ?_;rintro e w2⟨rfl,Ac⟩;have Ak:=bH HB1 Ac;clear Ac;go_wp2;go_ret;exact⟨rfl,Ak⟩
 |false=>
  by_cases aEk:1024 < keep.length
  ·have avN:(1024:Int) < (keep.length:Int):=(by omega);go_wp2_with fail;refine(wU _ HB1).mono ?_;rintro e w2⟨rfl,Ac⟩;have Ak:=bH HB1 Ac;clear Ac;go_wp2;go_ret;exact⟨rfl,Ak⟩
  have avN:¬ (1024:Int) < (keep.length:Int):=by omega
  have PZ:=Ii (by first|rfl|trivial);have hn8:=PZ.n8;have aEs:=PZ.n200;obtain⟨n,rfl⟩:∃ n:Nat,N=(n:Int):=⟨N.toNat,by omega⟩;have aeO:=Hi PZ;clear PZ Ii;have c0:w1.cell? ⟨w.heap.size,0,none⟩=some (.int .i64 (n:Int)):=by unfold World.cell?;rw[Pv.out];rfl
  have c1:w1.cell? ⟨w.heap.size,1,none⟩=some (.slice a l.length cap):=by unfold World.cell?;rw[Pv.out];rfl
  have c2:w1.cell? ⟨w.heap.size,2,none⟩=some (.slice ua us.length uc):=by unfold World.cell?;rw[Pv.out];rfl
  have c3:w1.cell? ⟨w.heap.size,3,none⟩=some (.slice fa fs.length fc):=by unfold World.cell?;rw[Pv.out];rfl
  go_wp2_with fail;refine(Qt n _ HB1 aeO).mono ?_;rintro e w2⟨b,y,p,d,r,xb,rfl,hk⟩;obtain⟨A,hA⟩:=ex (fF n l us fs);rw[hA] at hk;have MP:=Hi hk;have HC:Hid (∀ (P:World→(Nat→Prop)→Prop) (W:World) (L:List (Nat×Obj)),Gw P w1.heap.size w1 W L→(xb,J7 y p d r)∈L→W.cell? ⟨xb,0,none⟩=some (.pointer (some ⟨y,0,none⟩))∧W.cell? ⟨xb,1,none⟩=some (.pointer (some ⟨p,0,none⟩))∧W.cell? ⟨xb,2,none⟩=some (.pointer (some ⟨d,0,none⟩))):=Hi fun P W L h D6=>by
   have h0:=h.cell (k:=xb) (t:=47) D6 0;have h1:=h.cell (k:=xb) (t:=47) D6 1;have h2:=h.cell (k:=xb) (t:=47) D6 2;exact⟨h0,h1,h2⟩
  obtain⟨-,x1,x2⟩:=HC _ _ _ (aac hk) (by simp);have EM:=Hi (fK hk);have HFW:=Hi (lW hk (by omega));have Fb:=Hi (fun(W:World) (hb:Bw w2 W)=>afF (show Gi W p y from(hk.step hb).at_ p (F6 y) (by simp)) (show EN W d y from(hk.step hb).at_ d (F3 y) (by simp)) (lX (hk.step hb)) (lW hk (by omega)));clear hk c0 c1 c2 c3 Pv hA Qt HHV aeO;go_wp2
  go_region_held3 (fun V=>V.cell? ⟨xb,1,none⟩=some (.pointer (some ⟨p,0,none⟩))∧V.cell? ⟨xb,2,none⟩=some (.pointer (some ⟨d,0,none⟩)))
   (first|exact⟨x1,x2⟩|exact(HC _ _ _ (aac Oe) (by simp)).2)
   (first|(go_at_call 13;refine(Fb _ ((Ai _ _).drew)).mono ?_;rintro e w3 ⟨v1,v2,L,rfl,sO,De,Ap⟩;have SQ:=Hi sO;have JX:=Hi De;have Oe:=Hi (MP.step (((Ai _ w2).drew).trans Ap));clear sO De Ap))
  obtain⟨wq,wc0,rfl⟩:=Bo SQ.out;obtain⟨uq,uc0,rfl⟩:=Bo JX.row;clear Fb x1 x2;have FR:=Hi (aac Oe);obtain⟨x0,-,-⟩:=HC _ _ _ FR (by simp);go_wp2_with fail;refine(ahH FR).mono ?_;rintro e w4⟨rfl,rfl⟩;go_wp2_with fail;refine(atW FR _ (by have:=Int.tmod_lt_of_pos (wrap64 fu) (show(0:Int) < 40 by decide);omega)).mono ?_;rintro e w4⟨rfl,rW,RU⟩;have GR:=Hi rW;have Uj:=Hi RU;clear rW RU x0 Oe FR MP;obtain⟨-,x1,x2⟩:=HC _ _ _ GR (by simp);have Xc:=Hi (fun(W:World) (hk:Gw (PA false b y n 3 A A) w1.heap.size w1 W [(xb,J7 y p d r),(d,F3 y),(p,F6 y)])=>atX hk (by omega) (by omega) (show(p,F6 y)∈_ by simp) (show(d,F3 y)∈_ by simp));go_upto_region 8 with fail
  go_region_held3 (fun V=>V.cell? ⟨xb,1,none⟩=some (.pointer (some ⟨p,0,none⟩))∧V.cell? ⟨xb,2,none⟩=some (.pointer (some ⟨d,0,none⟩)))
   (first|exact⟨x1,x2⟩|exact(HC _ _ _ GU (by simp)).2)
   (first|(go_at_call 20;refine(Xc _ (GR.aqM (Ai _ _).drew)).mono ?_;rintro e w5 ⟨y1,y2,c,dn,A1,A2,rfl,hc,h1,h2,sD,tH⟩;have GU:=Hi sD;have Bj:=Hi hc;have bN:=Hi (Cw h1 h2);have HS5:=Hi ((Uj.trans (KO.below (Ai _ w4).drew)).trans tH);clear sD tH hc h1 h2))
  clear Xc x1 x2 GR Uj;have Pk:=Hi (show BI.May n A from⟨EM.1,EM.2.1,EM.2.2⟩);have RF:=Hi (show(P6 A).length≤1000000 from by rw[wG,av (K:=Ah) EM.1];exact HFW.fJ);obtain⟨x0,-,-⟩:=HC _ _ _ GU (by simp);go_wp2_with fail;refine(ahH GU).mono ?_;rintro e w6⟨rfl,rfl⟩;go_wp2_with fail;refine(atV GU keep (by omega)).mono ?_;rintro e w6⟨rfl,hk,hs⟩;have Qq:=Hi hk;have Xb:=Hi (HS5.trans hs);clear hk hs x0 GU HS5;obtain⟨x0,-,-⟩:=HC _ _ _ Qq (by simp);go_wp2_with fail;refine(auc Qq).mono ?_;rintro e w7⟨rfl,rfl⟩;go_wp2_with fail;refine(atY Qq).mono ?_;rintro e w7⟨Sv,X,rfl,OO,hk,hs⟩;have HX:=Hi (show Uq both A X from OO.elim (fun e=>by rw[e];exact bN.1) (fun e=>by rw[e];exact bN.2));have Ru:=Hi hk;have HS7:=Hi (Xb.trans hs);clear hk hs OO x0 Qq Xb bN;go_wp2_with fail;refine(alU Sv _).mono ?_;rintro e w8⟨p2,rfl,JI,FV,KU⟩;have HK8:=Hi (pF Ru KU FV (o:=F6 Sv) JI);have iZ:=Hi (HS7.trans (KO.below KU));clear JI FV KU Ru HS7;go_wp2_with fail;refine(agC Sv _).mono ?_;rintro e w9⟨d2,rfl,Ms,KV,FD⟩;have HK9:=Hi (pF HK8 FD KV (o:=F3 Sv) Ms);have HS9:=Hi (iZ.trans (KO.below FD));clear Ms KV FD HK8 iZ;go_upto_region 13 with fail
  go_cut [126] from 101 to 125 (fun aAq wx=>aAq=.bool false∧wx=w9)
  case first=>
   rcases Bj.out with rfl|⟨rfl,rfl,rfl⟩
   all_goals
    go_wp2_with fail;go_meet
    case rel=>exact⟨rfl,rfl⟩
  case rest=>
   obtain⟨rfl,rfl⟩:=hcut;clear Bj;obtain⟨S,hS⟩:=ex (Iw both X);have hmd:=alW HK9 (by omega) (by omega) (show(p2,F6 Sv)∈_ by simp) (show(d2,F3 Sv)∈_ by simp);rw[hS] at hmd;have Xc:=Hi (show P6 S=P6 A from by rw[←hS];exact aCA Pk HX);have Ot:=Hi (show Ur both S from by rw[←hS];exact alM Jz (HX.may Jz Pk));have iT:=Hi hmd;clear hmd hS;go_wp2_with fail;refine iT.mono ?_;rintro e EB⟨rfl,hk,hs⟩;have bB:=Hi hk;have af8:=Hi (HS9.trans hs.aBB);clear hk hs iT HK9 HS9;have Fb:=Hi (afF (show Gi EB p2 Sv from bB.at_ p2 (F6 Sv) (by simp)) (show EN EB d2 Sv from bB.at_ d2 (F3 Sv) (by simp)) (lX bB) (lW bB (by omega)));rw[Xc.out] at Fb;go_wp2_with fail;refine Fb.mono ?_;rintro e YG⟨v1,v2,L2,rfl,abA,lq,QI⟩;obtain⟨nq,nc,rfl⟩:=Bo abA;have aeH:=Hi (bB.step QI);have HPN:=Hi (Bf.CX abA);have HPW:=Hi (Bf.CX ((af8.trans (KO.below QI)).aI _ _ _ SQ));clear abA lq QI Fb af8 bB SQ JX;have RZ:=RF.out;go_wp2_with fail;generalize P6 A=R at*
   go_loopw [25] (fun i wr=>∃ k:Nat,k≤R.length∧i=.int .i64 (k:Int)∧Bw YG wr) (fun i _=>R.length -(intOf i).toNat)
   case atStart=>exact⟨0,AV _,rfl,Ai _ _⟩
   case round=>
    obtain⟨k,hk,rfl,hb⟩:=hrel;have HB:=Hi hb;by_cases hlt:k < R.length
    ·obtain⟨q1,avL,Gp,-⟩:=(HPN.below hb).index nc k hlt;obtain⟨q2,sw,DJ,-⟩:=(HPW.below hb).index wc0 k hlt;have e0:=Gp.key;have e1:=Gp.val;have f0:=DJ.key;have f1:=DJ.val;have aEp:(k:Int) < (R.length:Int):=(by omega);have Kk:IntKind.i64.wrap ((k:Int)+1)=((k+1:Nat):Int):=ET _ (by omega);clear hb;generalize R[k]=pr at*;go_wp2;go_region;go_wp2_with fail;exact⟨⟨k+1,hlt,rfl,HB.trans ((Ai _ wr).drew.mono HB.size)⟩,by simp only[intOf];omega⟩
    ·obtain rfl:k=R.length:=(by omega);have hsd:=MM Ot.out;have oM:=Hi (uD aeH (by omega) (show(p2,F6 Sv)∈_ by simp) (show(d2,F3 Sv)∈_ by simp) HB);rw[hsd] at oM;have Ro:=Hi (HB1.trans ((aeH.step HB).AO.mono HB1.size));clear hsd hlt hk hb;go_wp2_with fail;refine oM.mono ?_;rintro e wF⟨rfl,Tk⟩;have Ro:=bH Ro Tk;clear Tk;go_wp2_with fail;refine(wU _ Ro).mono ?_;rintro e w13⟨rfl,aiA⟩;have aoZ:=bH Ro aiA;clear aiA;go_wp2;go_ret;exact⟨rfl,aoZ⟩
end EX
namespace Hv
open Go.RowKit Go.WideShapes Go.ChangeShapes Go.Deep
open Av Ag Bt Kp BI Hex BH Al Mem Ch
open Ar
theorem ayO{H:Type}{enc:TypeId×Value→H}{W:World}{base:Nat}{sp:Nat→Bool}{hd:Bool}{n:Nat}{cs:List Value}{y:DataW H×List MemPlace}(q:Addr)
  (hc:W.cells? base q 2=some cs)(h:DataW.trod enc prog W base sp hd n 51 cs=some y)(hz:∀ n∈DataW.weights prog 51 y.1,n≤reachBytes):
  ∃ x:List UInt8×List UInt8,Py W q x∧x.1.length≤reachBytes∧x.2.length≤reachBytes:=by
 obtain⟨_,hl,hat⟩:=World.cells?_some hc;obtain⟨xs,n',_,rfl,_,Gq,hf⟩:=DataW.trod_struct underlying51 h;have o2:prog.cellsOf 9=1:=by kernel_rfl
 have akP:xs.length=2:=Gq;have g0:DataW.trod enc prog W base sp hd n' 9 ((cs.drop 0).take (prog.cellsOf 9))=xs[0]? :=hf 0 _ rfl;have g1:DataW.trod enc prog W base sp hd n' 9 ((cs.drop 1).take (prog.cellsOf 9))=xs[1]? :=hf 1 _ rfl;rw[o2,WK hl _ (by omega),CJ (by omega)] at g0 g1;obtain⟨v0,e0,y0,_⟩:=DataW.trod_string underlying9 g0;obtain⟨v1,e1,y1,_⟩:=DataW.trod_string underlying9 g1;have cell:∀ j (hj:j < 2) v,[cs[j]'(by omega)]=[v]→W.cell? (q.add j)=some v:=fun j hj v e=>by
  rw[hat j hj,CJ (by omega)];simpa using e
 refine⟨(v0.data.toList,v1.data.toList),⟨by have:=cell 0 (by omega) _ e0;rwa[add_zero'] at this,by have:=cell 1 (by omega) _ e1;exact this⟩,?_,?_⟩
 ·refine hz _ ?_;simp only[DataW.weights,underlying51];refine DataW.weights_mem_each (j:=0) (t:=9) (d:=.lit (.string v0.data.toList)) rfl ?_ _ (by simp[DataW.weights]);rw[Jr,CJ (by omega),y0];rfl
 ·refine hz _ ?_;simp only[DataW.weights,underlying51];refine DataW.weights_mem_each (j:=1) (t:=9) (d:=.lit (.string v1.data.toList)) rfl ?_ _ (by simp[DataW.weights]);rw[Jr,CJ (by omega),y1];rfl
theorem az7{H:Type}{enc:TypeId×Value→H}{W:World}{n:Nat}{cs:List Value}{y:DataW H×List MemPlace}
  (h:DataW.trod enc prog W 0 (fun _=>true) true n 30 cs=some y)(hz:∀ n∈DataW.weights prog 30 y.1,n≤reachBytes):
  ∃ (a:Option Addr) (cap:Nat) (l:List (List UInt8×List UInt8)),cs=[.slice a l.length cap]∧Bf W a l∧l.length≤maxLen∧∀ x∈l,x.1.length≤reachBytes∧x.2.length≤reachBytes:=by
 rcases Go.Deep.open_slice underlying30 h with⟨rfl,_⟩|⟨a,len,cap,m,k,D,Pl,rfl,_,hl,hm,Ng,hx,hi⟩
 ·exact⟨none,0,[],rfl,fun i hi=>by simp at hi,by simp,by simp⟩
 ·have hC:prog.cellsOf 51=2:=by kernel_rfl
  rw[hC] at hi;have Ty:len≤m:=by rw[Ng];split<;>omega
  obtain⟨l,El,hP⟩:=lQ (P:=fun i x=>Py W (a.add (i*2)) x∧x.1.length≤reachBytes∧x.2.length≤reachBytes) len (fun i Jl=>by
   obtain⟨cs',h1,h2⟩:=hi i (by omega)
   exact ayO _ h1 h2 (fun k hk=>hz k (by
    rw[hx];simp only[DataW.weights,underlying30];exact F9 _ (U2 _ (wH (Bz.2 ⟨i,List.mem_range.2 Jl,rfl⟩) hk)))))
  refine⟨some a,cap,l,by rw[El],fun i Jl=>⟨a,rfl,(hP i Jl).1⟩,by omega,fun x V9=>?_⟩;obtain⟨i,Jl,rfl⟩:=Sy V9;exact(hP i Jl).2
theorem aC2{H:Type}{enc:TypeId×Value→H}{W:World}{n:Nat}{cs:List Value}{y:DataW H×List MemPlace}(q:Addr)
  (hc:W.cells? 0 q 2=some cs)(h:DataW.trod enc prog W 0 (fun _=>true) true n 63 cs=some y)(hz:∀ n∈DataW.weights prog 63 y.1,n≤reachBytes):
  ∃ x:List UInt8×List (List UInt8),Zf W q x∧x.1.length≤reachBytes∧x.2.length≤maxLen:=by
 obtain⟨_,hl,hat⟩:=World.cells?_some hc;obtain⟨xs,n',_,rfl,_,Gq,hf⟩:=DataW.trod_struct underlying63 h;have o2:prog.cellsOf 9=1:=by kernel_rfl
 have o3:prog.cellsOf 61=1:=by kernel_rfl
 have akP:xs.length=2:=Gq;have g0:DataW.trod enc prog W 0 (fun _=>true) true n' 9 ((cs.drop 0).take (prog.cellsOf 9))=xs[0]? :=hf 0 _ rfl;have g1:DataW.trod enc prog W 0 (fun _=>true) true n' 61 ((cs.drop 1).take (prog.cellsOf 61))=xs[1]? :=hf 1 _ rfl;rw[o2,WK hl _ (by omega),CJ (by omega)] at g0;rw[o3,WK hl _ (by omega),CJ (by omega)] at g1;obtain⟨v0,e0,y0,_⟩:=DataW.trod_string underlying9 g0
 obtain⟨v1,l1,e1,t1⟩:=aBu g1 (fun k hk=>hz k (by
  simp only[DataW.weights,underlying63];refine DataW.weights_mem_each (j:=1) (t:=61) (d:=(xs[1]'(by omega)).1) rfl ?_ _ hk;rw[Jr,CJ (by omega)];rfl))
 have cell:∀ j (hj:j < 2) v,[cs[j]'(by omega)]=[v]→W.cell? (q.add j)=some v:=fun j hj v e=>by
  rw[hat j hj,CJ (by omega)];simpa using e
 obtain⟨⟨kq,kc,rfl,ht,hq⟩,hlen,_⟩:=t1;refine⟨(v0.data.toList,l1),⟨by have:=cell 0 (by omega) _ e0;rwa[add_zero'] at this,kq,kc,by have:=cell 1 (by omega) _ e1;exact this,ht,hq⟩,?_,hlen⟩;refine hz _ ?_;simp only[DataW.weights,underlying63];refine DataW.weights_mem_each (j:=0) (t:=9) (d:=.lit (.string v0.data.toList)) rfl ?_ _ (by simp[DataW.weights]);rw[Jr,CJ (by omega),y0];rfl
theorem aCa{H:Type}{enc:TypeId×Value→H}{W:World}{n:Nat}{cs:List Value}{y:DataW H×List MemPlace}
  (h:DataW.trod enc prog W 0 (fun _=>true) true n 31 cs=some y)(hz:∀ n∈DataW.weights prog 31 y.1,n≤reachBytes):
  ∃ (a:Option Addr) (cap:Nat) (l:List (List UInt8×List (List UInt8))),cs=[.slice a l.length cap]∧MX W a l∧l.length≤maxLen∧∀ x∈l,x.1.length≤reachBytes∧x.2.length≤maxLen:=by
 rcases Go.Deep.open_slice underlying31 h with⟨rfl,_⟩|⟨a,len,cap,m,k,D,Pl,rfl,_,hl,hm,Ng,hx,hi⟩
 ·exact⟨none,0,[],rfl,fun i hi=>by simp at hi,by simp,by simp⟩
 ·have hC:prog.cellsOf 63=2:=by kernel_rfl
  rw[hC] at hi;have Ty:len≤m:=by rw[Ng];split<;>omega
  obtain⟨l,El,hP⟩:=lQ (P:=fun i x=>Zf W (a.add (i*2)) x∧x.1.length≤reachBytes∧x.2.length≤maxLen) len (fun i Jl=>by
   obtain⟨cs',h1,h2⟩:=hi i (by omega)
   exact aC2 _ h1 h2 (fun k hk=>hz k (by
    rw[hx];simp only[DataW.weights,underlying31];exact F9 _ (U2 _ (wH (Bz.2 ⟨i,List.mem_range.2 Jl,rfl⟩) hk)))))
  refine⟨some a,cap,l,by rw[El],fun i Jl=>⟨a,rfl,(hP i Jl).1⟩,by omega,fun x V9=>?_⟩;obtain⟨i,Jl,rfl⟩:=Sy V9;exact(hP i Jl).2
theorem aru{H:Type}{enc:TypeId×Value→H}{W:World}{n:Nat}{cs:List Value}{y:DataW H×List MemPlace}
  (h:DataW.trod enc prog W 0 (fun _=>true) true n 32 cs=some y)(hz:∀ n∈DataW.weights prog 32 y.1,n≤reachBytes):
  ∃ (a:Option Addr) (cap:Nat) (l:List Am),cs=[.slice a l.length cap]∧Eb W a l∧l.length≤maxLen∧∀ x∈l,x.name.length≤reachBytes∧x.data.length≤reachBytes:=by
 rcases Go.Deep.open_slice underlying32 h with⟨rfl,_⟩|⟨a,len,cap,m,k,D,Pl,rfl,_,hl,hm,Ng,hx,hi⟩
 ·exact⟨none,0,[],rfl,fun i hi=>by simp at hi,by simp,by simp⟩
 ·have hC:prog.cellsOf 57=3:=by kernel_rfl
  rw[hC] at hi;have Ty:len≤m:=by rw[Ng];split<;>omega
  obtain⟨l,El,hP⟩:=lQ (P:=fun i x=>Rn W (a.add (i*3)) x∧x.name.length≤reachBytes∧x.data.length≤reachBytes) len (fun i Jl=>by
   obtain⟨cs',h1,h2⟩:=hi i (by omega)
   exact art _ h1 h2 (fun k hk=>hz k (by
    rw[hx];simp only[DataW.weights,underlying32];exact F9 _ (U2 _ (wH (Bz.2 ⟨i,List.mem_range.2 Jl,rfl⟩) hk)))))
  refine⟨some a,cap,l,by rw[El],fun i Jl=>⟨a,rfl,(hP i Jl).1⟩,by omega,fun x V9=>?_⟩;obtain⟨i,Jl,rfl⟩:=Sy V9;exact(hP i Jl).2
theorem arl{H:Type}{enc:TypeId×Value→H}{W:World}{base:Nat}{v:Value}{d:DataW H}{p:List MemPlace}
  (ho:Value.okWide prog W .any base 34 v)(h:DataW.Trod enc prog W 0 (fun _=>true) true 34 v d p)(hz:∀ n∈DataW.weights prog 34 d,(decide (n≤reachBytes))=true):
  ∃ (N:Int) (a ua fa:Option Addr) (cap uc fc:Nat) (l:List (List UInt8×List UInt8)) (us:List (List UInt8×List (List UInt8))) (fs:List Am),v=.agg #[.int .i64 N,.slice a l.length cap,.slice ua us.length uc,.slice fa fs.length fc]∧
   (Bf W a l∧l.length≤maxLen∧∀ x∈l,x.1.length≤reachBytes∧x.2.length≤reachBytes)∧(MX W ua us∧us.length≤maxLen∧∀ x∈us,x.1.length≤reachBytes∧x.2.length≤maxLen)∧(Eb W fa fs∧fs.length≤maxLen∧∀ x∈fs,x.name.length≤reachBytes∧x.data.length≤reachBytes):=by
 obtain⟨cs,rfl,DF⟩:=okWide_struct underlying34 ho;have K8:cs.size=4:=DF.trans (by kernel_rfl);obtain⟨fuel,OE⟩:=h;have XT:DataW.trod enc prog W 0 (fun _=>true) true fuel 34 cs.toList=some (d,p):=OE;have hl:cs.toList.length=4:=by simpa using K8
 obtain⟨xs,n',_,lI,_,Gq,hf⟩:=DataW.trod_struct underlying34 XT;have o0:prog.cellsOf 3=1:=by kernel_rfl
 have o1:prog.cellsOf 30=1:=by kernel_rfl
 have o2:prog.cellsOf 31=1:=by kernel_rfl
 have o3:prog.cellsOf 32=1:=by kernel_rfl
 have aEP:xs.length=4:=Gq;have g0:DataW.trod enc prog W 0 (fun _=>true) true n' 3 ((cs.toList.drop 0).take (prog.cellsOf 3))=xs[0]? :=hf 0 _ rfl;have g1:DataW.trod enc prog W 0 (fun _=>true) true n' 30 ((cs.toList.drop 1).take (prog.cellsOf 30))=xs[1]? :=hf 1 _ rfl;have g2:DataW.trod enc prog W 0 (fun _=>true) true n' 31 ((cs.toList.drop 2).take (prog.cellsOf 31))=xs[2]? :=hf 2 _ rfl;have g3:DataW.trod enc prog W 0 (fun _=>true) true n' 32 ((cs.toList.drop 3).take (prog.cellsOf 32))=xs[3]? :=hf 3 _ rfl;rw[o0,WK hl _ (by omega),CJ (by omega)] at g0;rw[o1,WK hl _ (by omega),CJ (by omega)] at g1;rw[o2,WK hl _ (by omega),CJ (by omega)] at g2;rw[o3,WK hl _ (by omega),CJ (by omega)] at g3;obtain⟨v0,e0,_,w0⟩:=DataW.trod_int underlying3 g0;have hd:d=.agg (xs.map (·.1)):=congrArg Prod.fst lI
 obtain⟨a,cap,l,e1,t1⟩:=az7 g1 (fun k hk=>O9 (hz k (by
  rw[hd];simp only[DataW.weights,underlying34];refine DataW.weights_mem_each (j:=1) (t:=30) (d:=(xs[1]'(by omega)).1) rfl ?_ _ hk;rw[Jr,CJ (by omega)];rfl)))
 obtain⟨ua,uc,us,e2,t2⟩:=aCa g2 (fun k hk=>O9 (hz k (by
  rw[hd];simp only[DataW.weights,underlying34];refine DataW.weights_mem_each (j:=2) (t:=31) (d:=(xs[2]'(by omega)).1) rfl ?_ _ hk;rw[Jr,CJ (by omega)];rfl)))
 obtain⟨fa,fc,fs,e3,t3⟩:=aru g3 (fun k hk=>O9 (hz k (by
  rw[hd];simp only[DataW.weights,underlying34];refine DataW.weights_mem_each (j:=3) (t:=32) (d:=(xs[3]'(by omega)).1) rfl ?_ _ hk;rw[Jr,CJ (by omega)];rfl)))
 refine⟨v0,a,ua,fa,cap,uc,fc,l,us,fs,?_,t1,t2,t3⟩;have e:cs.toList=[.int .i64 v0,.slice a l.length cap,.slice ua us.length uc,.slice fa fs.length fc]:=by
  apply List.ext_getElem (by rw[hl];rfl);intro i hi _;have hi3:i < 4:=by omega
  match i,hi3 with
  |0,_=>simpa using e0
  |1,_=>simpa using e1
  |2,_=>simpa using e2
  |3,_=>simpa using e3
 obtain⟨LL⟩:=cs;simp only at e;rw[e]
end Hv
section
open Go.RowKit Go.Maps
open Av Ag Bt Kp BI Hex BH Al Mem Ch GV Hv
open Ar hiding T
theorem atw{base:Nat}{H:Type}{enc:TypeId×Value→H}(w:World)(Wp:EX.VK w)(v:Value)(d:DataW H)(p:List MemPlace)
  (ho:Value.okWide prog w .any base 34 v)(h:DataW.Trod enc prog w 0 (fun _=>true) true 34 v d p)(hz:∀ n∈DataW.weights prog 34 d,(decide (n≤reachBytes))=true)
  (fu:Int)(aDi:(Lit.int .u8 fu).wf=true)(keep:List UInt8)(hk:keep.length≤reachBytes):
  Calls prog 5 #[v,.int .u8 fu,.string (bs keep)] w fun e w'=>e=.returned (.bool true)∧Bw w w':=by
 obtain⟨N,a,ua,fa,cap,uc,fc,l,us,fs,rfl,⟨l1,l2,l3⟩,⟨u1,u2,u3⟩,⟨f1,f2,f3⟩⟩:=arl ho h hz;exact EX.arN EX.aqC Wp l1 l2 l3 u1 u2 u3 f1 f2 f3 hk
end
namespace fsckCrash
open Go.ChangeShapes Go.WideShapes Go.ChangeAt Go.RowKit
open Go.ChangeMaps (open_string shut_string)
set_option linter.unusedVariables false
theorem own:ownKnob prog.godebug=none:=by kernel_rfl
theorem laidOut:laidOutB prog=true:=by kernel_rfl
theorem lifted(os:Os)(started:os.Started)(H:Type)(enc:TypeId×Value→H):
  ReturnsInHanded {} Tryz.checked os 5 .any (fun w args=>(Rows.fsckCrashSpec.pre enc prog Tryz.f5 [] false w args∧laidMetH prog [("unicode/utf8.acceptRanges",Rows.laid_unicode_utf8_acceptRanges),("unicode/utf8.first",Rows.laid_unicode_utf8_first)] w)∧sizedMet enc prog Tryz.f5 (OpenSpec.ofChange Rows.fsckCrashSpec) false w args) (Rows.fsckCrashSpec.post enc prog Tryz.f5 false true false false):=by
 refine azR (C:=Tryz.checked) (X:=fun w _=>laidMetH prog [("unicode/utf8.acceptRanges",Rows.laid_unicode_utf8_acceptRanges),("unicode/utf8.first",Rows.laid_unicode_utf8_first)] w) own started (by kernel_rfl) func5
  (ChangeSpec.witness_shaped (enc:=enc) (C:=Tryz.checked) (os:=os) (X:=fun w _=>laidMetH prog [("unicode/utf8.acceptRanges",Rows.laid_unicode_utf8_acceptRanges),("unicode/utf8.first",Rows.laid_unicode_utf8_first)] w) false (World.laidAll prog os zX) #[.agg #[.int .i64 0,.slice none 0 0,.slice none 0 0,.slice none 0 0],.int .u8 0,.string ByteArray.empty] 8 (World.laidAll_os _ _ _) (World.shaped_of_ZipB (by kernel_rfl) (by kernel_rfl)) (by kernel_rfl) (by kernel_rfl) (by kernel_rfl) (asI os _)) ?_
 intro W base args ds gs before hval0 hW Wv auN;have RY:∀ (j:Nat) t v,Tryz.f5.params[j]?=some t→args[j]?=some v→Value.okWide prog W .any base t v:=hval0;have jQ:=hW;obtain⟨p,q,RI,hV,rfl,OG,eO⟩:=hW;have hA:DataW.TrodAll enc prog W 0 (fun _=>true) true Tryz.f5.params.toList args.toList ds p:=RI;have BQ:(DataW.weightsEach prog (Tryz.f5.params.toList++Rows.fsckCrashSpec.plain.varTypes prog) (ds++gs)).all (· ≤reachBytes)=true:=Wv;rw[params5] at hA RY BQ;obtain⟨rfl,rfl⟩:=trodVars_none hV;have hlt:∀ x∈p,x.block < W.heap.size:=fun x hx=>by simpa using jQ.lt x (U2 _ hx)
 obtain⟨v0,vs0,d0,ds0,p0,q0,aDS,rfl,rfl,h0,r0⟩:=trodAll_cons hA;obtain⟨v1,vs1,d1,ds1,p1,q1,rfl,rfl,rfl,h1,r1⟩:=trodAll_cons r0;obtain⟨v2,vs2,d2,ds2,p2,q2,rfl,rfl,rfl,h2,r2⟩:=trodAll_cons r1;obtain⟨rfl,rfl,rfl⟩:=trodAll_nil r2;obtain rfl:args=#[v0,v1,v2]:=by cases args;simp_all
 have Kc:=h0;have F4:=h1;have I6:=h2;have o0:=RY 0 34 v0 rfl rfl;have z0:=fun(n:Nat) (hn:n∈DataW.weights prog 34 d0)=>MH.1 BQ n (DataW.weights_mem_each (j:=0) (t:=34) (d:=d0) rfl rfl n hn)
 obtain⟨a1,rfl,rfl,rfl,w1⟩:=open_int underlying5 (RY 1 5 v1 rfl rfl) h1;have z1:=w1;have Mx:=fun(b:List UInt8) (e:d2=.lit (.string b))=>sized_string BQ (j:=2) (t:=9) (bytes:=b) rfl (by rw[←e];rfl)
 obtain⟨a2,rfl,rfl,rfl,w2⟩:=open_string underlying9 (RY 2 9 v2 rfl rfl) h2;have z2:=Mx _ rfl;refine(atw W (axS auN) v0 d0 p0 o0 h0 z0 a1 z1 a2.data.toList z2).mono fun e W' ⟨he,hb⟩=>?_
 subst he;refine⟨_,rfl,_,_,_,[],p0++(([]:List MemPlace)++(([]:List MemPlace)++([]))),[],jQ,?_,?_,?_,hb.frame _,fun h=>by cases h⟩
 ·exact trodAll_cons_mk (shut_bool underlying4 _) trodAll_mk0
 ·exact(trodAll_cons_mk (Below.trod laidOut (by kernel_rfl) (O9 (by kernel_rfl)) Kc hb (fun x hx=>hlt x (by simp only[Eh];simp[hx]))) (trodAll_cons_mk (Below.trod laidOut (by kernel_rfl) (O9 (by kernel_rfl)) F4 hb (fun x hx=>hlt x (by simp only[Eh];simp[hx]))) (trodAll_cons_mk (Below.trod laidOut (by kernel_rfl) (O9 (by kernel_rfl)) I6 hb (fun x hx=>hlt x (by simp only[Eh];simp[hx]))) trodAll_mk0)))
 ·rfl
