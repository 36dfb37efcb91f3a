/- SwCw SwTrod SweepCrashWalk -/
import Derived.Test.YtmbbhdebddbhoaaGreatR44
set_option maxHeartbeats 16000000
set_option maxRecDepth 100000
set_option linter.all false
namespace Go.Proofs.YtmbbhdebddbhoaaGreat
open Tryz hiding t1 t2
namespace Hv
open Go.RowKit Go.Maps
open Wal Fil Prs Kp Cm Hex Sha Al Mem Dep IE
open Man hiding T
theorem aqO{N fu:Int}{a ua fa qr:Option Addr}{cap uc fc cr:Nat}{l:M}{us:Us}{fs:List Aj}{roots:List T}{keep:T}{w:World}(ahJ:aeZ)(hL:AO w a l)(hlen:l.length≤maxLen)(Cb:∀ c∈l,c.1.length≤reachBytes∧c.2.length≤reachBytes)
  (hU:Ls w ua us)(jV:us.length≤maxLen)(jW:∀ c∈us,c.1.length≤reachBytes∧c.2.length≤maxLen)(hF:DW w fa fs)(jm:fs.length≤maxLen)(U5:∀ c∈fs,c.name.length≤reachBytes∧c.data.length≤reachBytes)(hR:Cg w qr roots)(ajK:roots.length≤maxLen)
  (Db:keep.length≤reachBytes):
  Calls prog 4 #[.agg #[.int .i64 N,.slice a l.length cap,.slice ua us.length uc,.slice fa fs.length fc],.slice qr roots.length cr,.int .u8 fu,.string (bs keep)] w fun e w'=>e=.returned (.bool true)∧Bw w w':=by
 have mq:=Hi ahJ;have HR:=Hi hR;have Bc:=Hi (Aw w (.cells #[.int .i64 N,.slice a l.length cap,.slice ua us.length uc,.slice fa fs.length fc] 26));have HHV:=Hi (fun W (hb:Bw w W)=>au3 (N:=N) (cap:=cap) (uc:=uc) (fc:=fc) (hL.below hb) hlen Cb (hU.below hb) jV jW (hF.below hb) jm U5);have MV:=Hi (fun(n:Nat) W (hb:Bw w W) (P5:nN n l us fs)=>akS (cap:=cap) (uc:=uc) (fc:=fc) P5 (hL.below hb) (hU.below hb) (hF.below hb) (fun c hc=>⟨Ap (U5 c hc).1 (by unfold reachBytes maxLen;omega),Ap (U5 c hc).2 (by unfold reachBytes maxLen;omega)⟩));have aCg:roots.length≤9223372036854775807:=by unfold maxLen at ajK;omega
 have aC2:keep.length≤9223372036854775807:=by unfold reachBytes at Db;omega
 clear ahJ hL hlen Cb hU jV jW hF jm U5 hR ajK Db;go_enter func4,ntmps4;go_wp2_with fail;refine(HHV _ Bc).mono ?_;rintro e w1⟨h,rfl,Ad,P5⟩;have HB1:=Hi (Bc.trans (Ad.mono Bc.size));have Ha:=Hi P5;have EE:=(Ad.block w.heap.size (by rw[Aq];omega)).trans (AJ w _);have Ox:=Hi EE;clear Ad P5 EE;cases h with
 |true=>
  go_wp2_with fail;refine(mq _).mono ?_;rintro e w2⟨rfl,A8⟩;have Ag:=Hi (HB1.trans (A8.mono HB1.size));clear A8;go_wp2_with fail;go_ret;exact⟨rfl,Ag⟩
 |false=>
  by_cases Sc:20 < roots.length
  ·have iJ:(20:Int) < (roots.length:Int):=(by omega);go_wp2_with fail;refine(mq _).mono ?_;rintro e w2⟨rfl,A8⟩;have Ag:=Hi (HB1.trans (A8.mono HB1.size));clear A8;go_wp2_with fail;go_ret;exact⟨rfl,Ag⟩
  have iJ:¬ (20:Int) < (roots.length:Int):=by omega
  by_cases aC1:1024 < keep.length
  ·have aup:(1024:Int) < (keep.length:Int):=(by omega);go_wp2_with fail;refine(mq _).mono ?_;rintro e w2⟨rfl,A8⟩;have Ag:=Hi (HB1.trans (A8.mono HB1.size));clear A8;go_wp2_with fail;go_ret;exact⟨rfl,Ag⟩
  have aup:¬ (1024:Int) < (keep.length:Int):=by omega
  have P5:=Ha (by first|rfl|trivial);have hn8:=P5.n8;have aC9:=P5.n200;obtain⟨n,rfl⟩:∃ n:Nat,N=(n:Int):=⟨N.toNat,by omega⟩;have aed:=Hi P5;clear P5 Ha;have c0:w1.cell? ⟨w.heap.size,0,none⟩=some (.int .i64 (n:Int)):=by unfold World.cell?;rw[Ox.out];rfl
  have c1:w1.cell? ⟨w.heap.size,1,none⟩=some (.slice a l.length cap):=by unfold World.cell?;rw[Ox.out];rfl
  have c2:w1.cell? ⟨w.heap.size,2,none⟩=some (.slice ua us.length uc):=by unfold World.cell?;rw[Ox.out];rfl
  have c3:w1.cell? ⟨w.heap.size,3,none⟩=some (.slice fa fs.length fc):=by unfold World.cell?;rw[Ox.out];rfl
  go_wp2_with fail;refine(MV n _ HB1 aed).mono ?_;rintro e w2⟨b,y,p,d,r,xb,rfl,hk⟩;obtain⟨A,hA⟩:=ex (dD n l us fs);rw[hA] at hk;have IB:=Hi hk;have HC:Hid (∀ (P:World→(Nat→Prop)→Prop) (W:World) (L:List (Nat×Obj)),DR P w1.heap.size w1 W L→(xb,Ic y p d r)∈L→W.cell? ⟨xb,0,none⟩=some (.pointer (some ⟨y,0,none⟩))∧W.cell? ⟨xb,1,none⟩=some (.pointer (some ⟨p,0,none⟩))∧W.cell? ⟨xb,2,none⟩=some (.pointer (some ⟨d,0,none⟩))):=Hi fun P W L h Be=>by
   have h0:=h.cell (k:=xb) (t:=40) Be 0;have h1:=h.cell (k:=xb) (t:=40) Be 1;have h2:=h.cell (k:=xb) (t:=40) Be 2;exact⟨h0,h1,h2⟩
  obtain⟨-,x1,x2⟩:=HC _ _ _ (zF hk) (by simp);have Ey:=Hi (dH hk);have fP:=Hi (kK hk (by omega));have Fy:=Hi (fun(W:World) (hb:Bw w2 W)=>apS (show Fb W p y from(hk.step hb).at_ p (ES y) (by simp)) (show GM W d y from(hk.step hb).at_ d (Fq y) (by simp)) (Zx (hk.step hb)) (kK hk (by omega)));clear hk c0 c1 c2 c3 Ox hA MV HHV aed;go_wp2_with fail
  go_region_held3 (fun V=>V.cell? ⟨xb,1,none⟩=some (.pointer (some ⟨p,0,none⟩))∧V.cell? ⟨xb,2,none⟩=some (.pointer (some ⟨d,0,none⟩)))
   (first|exact⟨x1,x2⟩|exact(HC _ _ _ (zF M8) (by simp)).2)
   (first|(go_at_call 8;refine(Fy _ ((Af _ _).drew)).mono ?_;rintro e w3 ⟨v1,v2,L,rfl,qW,CP,Ak⟩;have RH:=Hi qW;have Gc:=Hi CP;have M8:=Hi (IB.step (((Af _ w2).drew).trans Ak));clear qW CP Ak))
  obtain⟨wq,wc0,rfl⟩:=Bg RH.out;obtain⟨uq,uc0,rfl⟩:=Bg Gc.row;clear Fy x1 x2;have FJ:=Hi (zF M8);obtain⟨x0,-,-⟩:=HC _ _ _ FJ (by simp);go_wp2_with fail;refine(agW FJ).mono ?_;rintro e w4⟨rfl,rfl⟩;go_wp2_with fail;refine(asz FJ _ (by have:=Int.tmod_lt_of_pos (wrap64 fu) (show(0:Int) < 80 by decide);omega)).mono ?_;rintro e w4⟨rfl,hg4,Ub⟩;have FP:=Hi hg4;have NP:=Hi Ub;clear hg4 Ub x0 M8 FJ IB;obtain⟨-,x1,x2⟩:=HC _ _ _ FP (by simp);have FL:=Hi (fun(W:World) (L:List (Nat×Obj)) (hk:DR (PA false b y n 3 A A) w1.heap.size w1 W L) (hp:(p,ES y)∈L) (hd:(d,Fq y)∈L)=>asB (cap:=cr) (roots:=roots) hk (by omega) (by omega) hp hd (HR.below (HB1.trans (hk.Ay.mono HB1.size))) (by omega));have Jl:=Hi (FP.anew (.cells #[.int .i64 0,.int .i64 0,.int .i64 0] 42))
  have az:=Hi (show ∀ o,(w4.heap.size,o)∉[(xb,Ic y p d r),(d,Fq y),(p,ES y)] from fun o Be=>by
   have:=(CR.1 (FP.at_ _ o Be)).1;omega)
  go_upto_region 8 with fail
  go_cut [13,14] from 66 to 78 (fun s13 l7 wx=>∃ (g:Nat) (y1 y2 y3 c:Int) (dn:Bool) (A1 A2:M),s13=.pointer (some ⟨g,0,none⟩)∧l7=.int .i64 c∧(c=0∨(c=40∧y1=0∧y2=0∧y3=0))∧Three A roots A1∧Three A roots A2∧DR (PA dn b y n 5 A1 A2) w1.heap.size w1 wx ((g,Tc y1 y2 y3) :: [(xb,Ic y p d r),(d,Fq y),(p,ES y)])∧DU w4 wx)
  case first=>
   go_region_held3 (fun V=>V.cell? ⟨xb,1,none⟩=some (.pointer (some ⟨p,0,none⟩))∧V.cell? ⟨xb,2,none⟩=some (.pointer (some ⟨d,0,none⟩)))
    (first|exact⟨x1,x2⟩|exact(HC _ _ _ Jl (by simp)).2|exact(HC _ _ _ (Jl.nT (Af _ _).drew) (by simp)).2|exact(HC _ _ _ ae6 (by simp)).2|exact(HC _ _ _ aoH (by simp)).2|exact(HC _ _ _ vZ (by simp)).2)
    (first
     |(go_at_call 9;refine(FL _ _ (FP.nT (Af _ _).drew) (by simp) (by simp)).mono ?_;rintro e w5 ⟨y1,y2,y3,c,dn,A1,A2,rfl,hc,h1,h2,Ke,KY⟩;have ae6:=Hi Ke;have aoH:=Hi (Ke.anew (.cells #[.int .i64 0,.int .i64 0,.int .i64 0] 42));have vZ:=Hi (Ke.anew (Tc y1 y2 y3));have Fa:=Hi hc;have PN:=Hi (Cc h1 h2);have RL:=Hi (((DU.below (Af _ w4).drew).trans KY).trans (DU.below (Aw w5 (Tc y1 y2 y3))));clear Ke KY hc h1 h2)
     |(go_at_call 9;refine(FL _ _ (Jl.nT (Af _ _).drew) (by simp) (by simp)).mono ?_;rintro e w5 ⟨y1,y2,y3,c,dn,A1,A2,rfl,hc,h1,h2,Ke,KY⟩;have ae6:=Hi Ke;obtain⟨yD,yE,yF,UY,UZ,gZ⟩:=DR.swB (x1:=0) (x2:=0) (x3:=0) Ke (Dg);have Dt:=uw (x1:=0) (x2:=0) (x3:=0) (y1:=y1) (y2:=y2) (y3:=y3) (Ke.at_ _ _ Dg);have vZ:=Hi (DR.aq0 (t:=42) Ke (by decide) az FP.Ay.size Dt.1 Dt.2);have Fa:=Hi hc;have PN:=Hi (Cc h1 h2);have RL:=Hi (((DU.below ((Aw w4 (.cells #[.int .i64 0,.int .i64 0,.int .i64 0] 42)).trans (((Af _ _).drew).mono (Aw w4 (.cells #[.int .i64 0,.int .i64 0,.int .i64 0] 42)).size))).trans KY).trans (DU.box (o:=(0,0,0)) (Ke.at_ _ _ Dg) Dt.1));clear Ke KY Dt hc h1 h2))
   all_goals
    go_wp2_with fail;go_meet
    case rel=>exact⟨_,_,_,_,_,_,_,_,rfl,rfl,Fa,PN.1,PN.2,vZ,RL⟩
  case rest=>
   obtain⟨g13,y1,y2,y3,c,dn,A1,A2,rfl,rfl,hc,h1,h2,hk,hs⟩:=hcut;have G9:=Hi hk;have Ws:=Hi (NP.trans hs);have Fa:=Hi hc;have PN:=Hi (Cc h1 h2);clear hk hs hc h1 h2 Jl az FL x1 x2 FP NP;go_upto_region 9 with fail
   go_cut [89] from 79 to 88 (fun s89 wx=>s89=.bool false∧wx=wc)
   case first=>
    obtain⟨z1,z2,z3,-⟩:=DR.swB (k:=g13) (x1:=y1) (x2:=y2) (x3:=y3) G9 (by simp);rcases Fa.out with rfl|⟨rfl,rfl,rfl,rfl⟩
    all_goals
     go_wp2_with fail;go_meet
     case rel=>exact⟨rfl,rfl⟩
   case rest=>
    obtain⟨rfl,rfl⟩:=hcut;have Ot:=Hi (show Cm.May n A from⟨Ey.1,Ey.2.1,Ey.2.2⟩);have NS:=Hi (show(Uq A).length≤1000000 from by rw[uK,Re (K:=A9) Ey.1];exact fP.WK);have RP:=Hi (show(Ur A).length≤1000000 from by rw[uN,Re (K:=Ae) Ey.1];exact fP.VK);obtain⟨x0,-,-⟩:=HC _ _ _ G9 (by simp);go_wp2_with fail;refine(agW G9).mono ?_;rintro e w6⟨rfl,rfl⟩;go_wp2_with fail;refine(asy G9 keep (by omega)).mono ?_;rintro e w6⟨rfl,hk,hs⟩;have Pz:=Hi hk;have Wt:=Hi (Ws.trans hs);clear hk hs x0 G9 Ws;obtain⟨x0,-,-⟩:=HC _ _ _ Pz (by simp);go_wp2_with fail;refine(asM Pz).mono ?_;rintro e w7⟨rfl,rfl⟩;go_wp2_with fail;refine(asA Pz).mono ?_;rintro e w7⟨y2,X,rfl,Za,hk,hs⟩;have HX:=Hi (show Three A roots X from Za.elim (fun e=>by rw[e];exact PN.1) (fun e=>by rw[e];exact PN.2));have MU:=Hi hk;have RL:=Hi (Wt.trans hs);clear hk hs Za x0 Pz Wt PN Fa;go_wp2_with fail;refine(al7 y2 _).mono ?_;rintro e w8⟨p2,rfl,Jb,Fu,II⟩;have HK8:=Hi (nR MU II Fu (o:=ES y2) Jb);have HS8:=Hi (RL.trans (DU.below II));clear Jb Fu II MU RL;go_wp2_with fail;refine(afV y2 _).mono ?_;rintro e w9⟨d2,rfl,Nj,K9,Ff⟩;have gm:=Hi (nR HK8 Ff K9 (o:=Fq y2) Nj);have nz:=Hi (HS8.trans (DU.below Ff));clear Nj K9 Ff HK8 HS8;go_wp2_with fail;rw[Gc.len]
    refine(akp (qa:=wq) (ca:=wc0) (cu:=uc0) (cr:=cr) (AO.CG (nz.XG _ _ _ RH)) (Jp.at_ (nz.uses _ _ _ _ Gc)) (HR.below (HB1.trans (gm.Ay.mono HB1.size))) RP NS (by omega) (fun u hu=>by obtain⟨r,_,rfl⟩:=Bz.1 hu;have:=@agZ A r;show(getU A r).1.length≤_;omega) (fun q hq=>by obtain⟨k,hk,rfl⟩:=Bz.1 hq;have:=fP.dG k hk;show k.length≤_;omega) (show Fb _ p2 y2 from gm.at_ p2 (ES y2) (by simp)) (Zx gm).gets (akr Ey.1 (HX.kept Ot))).mono ?_;rintro e IW⟨rfl,WX⟩;have vX:=Hi (gm.step WX);have aey:=Hi (nz.trans (DU.below WX));clear WX gm nz;go_wp2_with fail;refine(al9 (cap:=cr) (roots:=roots) vX (by omega) (by omega) (show(p2,ES y2)∈_ by simp) (show(d2,Fq y2)∈_ by simp) (HR.below (HB1.trans (vX.Ay.mono HB1.size))) (by omega)).mono ?_;rintro e VR⟨rfl,aaB,ajN⟩;have HMX:=Hi (HX.may Ot);obtain⟨S,hS⟩:=ex (Iu both X roots);rw[hS] at aaB;have HSE:=Hi hS;obtain⟨q1,Ef⟩:∃ k:Nat,(Nc both X roots).length=k:=⟨_,rfl⟩;obtain⟨q2,CV⟩:∃ k:Nat,(I6 both X roots).length=k:=⟨_,rfl⟩;obtain⟨q3,LF⟩:∃ k:Nat,KG X (I6 both X roots)=k:=⟨_,rfl⟩;rw[Ef,CV,LF];have ai:=Hi (aaB.step (Aw VR (Tc (q1:Int) (q2:Int) (q3:Int))));have aez:=Hi ((aey.trans ajN).trans (DU.below (Aw VR (Tc (q1:Int) (q2:Int) (q3:Int)))));clear aaB ajN vX aey hS Ef CV LF;have UF:=Hi (akM (show Fb _ p2 y2 from ai.at_ p2 (ES y2) (by simp)) (show GM _ d2 y2 from ai.at_ d2 (Fq y2) (by simp)) (Zx ai) (kK ai (by omega)));rw[show Xz both S=[] from by rw[←HSE.out];exact azk Mf HMX.out] at UF;go_wp2_with fail;refine UF.mono ?_;rintro e uM⟨v12,rfl,ajF,QW⟩
    obtain⟨lq,lc,rfl⟩:=Bg ajF;have fZ:=Hi (ai.step QW);have aeA:=Hi (aez.trans (DU.below QW));clear ajF QW ai aez UF;go_wp2_with fail;try rw[Gc.len]
    refine(akp (qa:=wq) (ca:=wc0) (cu:=uc0) (cr:=cr) (AO.CG (aeA.XG _ _ _ RH)) (Jp.at_ (aeA.uses _ _ _ _ Gc)) (HR.below (HB1.trans (fZ.Ay.mono HB1.size))) RP NS (by omega) (fun u hu=>by obtain⟨r,_,rfl⟩:=Bz.1 hu;have:=@agZ A r;show(getU A r).1.length≤_;omega) (fun q hq=>by obtain⟨k,hk,rfl⟩:=Bz.1 hq;have:=fP.dG k hk;show k.length≤_;omega) (show Fb _ p2 y2 from fZ.at_ p2 (ES y2) (by simp)) (Zx fZ).gets (akr Ey.1 (by rw[←HSE.out];exact HX.avu Ot))).mono ?_;rintro e w13⟨rfl,ahQ⟩;have adL:=Hi (fZ.Ay.trans (ahQ.mono fZ.Ay.size));clear ahQ;go_wp2_with fail;refine(mq _).mono ?_;rintro e w14⟨rfl,bG⟩;have aoh:=Hi ((HB1.trans (adL.mono HB1.size)).trans (bG.mono (Ap HB1.size adL.size)));clear bG;go_wp2_with fail;go_ret;exact⟨rfl,aoh⟩
end Hv
namespace Hv
open Go.RowKit Go.WideShapes Go.ChangeShapes Go.Deep
open Wal Fil Prs Kp Cm Hex Sha Al Mem Dep
open Man
theorem ax7{H:Type}{enc:TypeId×Value→H}{W:World}{base:Nat}{sp:Nat→Bool}{hd:Bool}{n:Nat}{cs:List Value}{y:DataW H×List MemPlace}(q:Addr)
  (hc:W.cells? base q 2=some cs)(h:DataW.trod enc prog W base sp hd n 75 cs=some y)(hz:∀ n∈DataW.weights prog 75 y.1,n≤reachBytes):
  ∃ x:List UInt8×List UInt8,OC W q x∧x.1.length≤reachBytes∧x.2.length≤reachBytes:=by
 obtain⟨_,hl,hat⟩:=World.cells?_some hc;obtain⟨xs,n',_,rfl,_,FN,hf⟩:=DataW.trod_struct underlying75 h;have o2:prog.cellsOf 9=1:=by kernel_rfl
 have akf:xs.length=2:=FN;have g0:DataW.trod enc prog W base sp hd n' 9 ((cs.drop 0).take (prog.cellsOf 9))=xs[0]? :=hf 0 _ rfl;have g1:DataW.trod enc prog W base sp hd n' 9 ((cs.drop 1).take (prog.cellsOf 9))=xs[1]? :=hf 1 _ rfl;rw[o2,VM hl _ (by omega),Cn (by omega)] at g0 g1;obtain⟨v0,e0,y0,_⟩:=DataW.trod_string underlying9 g0;obtain⟨v1,e1,y1,_⟩:=DataW.trod_string underlying9 g1;have cell:∀ j (hj:j < 2) v,[cs[j]'(by omega)]=[v]→W.cell? (q.add j)=some v:=fun j hj v e=>by
  rw[hat j hj,Cn (by omega)];simpa using e
 refine⟨(v0.data.toList,v1.data.toList),⟨by have:=cell 0 (by omega) _ e0;rwa[add_zero'] at this,by have:=cell 1 (by omega) _ e1;exact this⟩,?_,?_⟩
 ·refine hz _ ?_;simp only[DataW.weights,underlying75];refine DataW.weights_mem_each (j:=0) (t:=9) (d:=.lit (.string v0.data.toList)) rfl ?_ _ (by simp[DataW.weights]);rw[IX,Cn (by omega),y0];rfl
 ·refine hz _ ?_;simp only[DataW.weights,underlying75];refine DataW.weights_mem_each (j:=1) (t:=9) (d:=.lit (.string v1.data.toList)) rfl ?_ _ (by simp[DataW.weights]);rw[IX,Cn (by omega),y1];rfl
theorem axp{H:Type}{enc:TypeId×Value→H}{W:World}{n:Nat}{cs:List Value}{y:DataW H×List MemPlace}
  (h:DataW.trod enc prog W 0 (fun _=>true) true n 22 cs=some y)(hz:∀ n∈DataW.weights prog 22 y.1,n≤reachBytes):
  ∃ (a:Option Addr) (cap:Nat) (l:List (List UInt8×List UInt8)),cs=[.slice a l.length cap]∧AO W a l∧l.length≤maxLen∧∀ x∈l,x.1.length≤reachBytes∧x.2.length≤reachBytes:=by
 rcases Go.Deep.open_slice underlying22 h with⟨rfl,_⟩|⟨a,len,cap,m,k,D,Pl,rfl,_,hl,hm,KR,hx,hi⟩
 ·exact⟨none,0,[],rfl,fun i hi=>by simp at hi,by simp,by simp⟩
 ·have hC:prog.cellsOf 75=2:=by kernel_rfl
  rw[hC] at hi;have Sy:len≤m:=by rw[KR];split<;>omega
  obtain⟨l,EB,hP⟩:=kE (P:=fun i x=>OC W (a.add (i*2)) x∧x.1.length≤reachBytes∧x.2.length≤reachBytes) len (fun i IM=>by
   obtain⟨cs',h1,h2⟩:=hi i (by omega)
   exact ax7 _ h1 h2 (fun k hk=>hz k (by
    rw[hx];simp only[DataW.weights,underlying22];exact DT _ (List.mem_append_left _ (uO (Bz.2 ⟨i,List.mem_range.2 IM,rfl⟩) hk)))))
  refine⟨some a,cap,l,by rw[EB],fun i IM=>⟨a,rfl,(hP i IM).1⟩,by omega,fun x Ug=>?_⟩;obtain⟨i,IM,rfl⟩:=List.getElem_of_mem Ug;exact(hP i IM).2
theorem azZ{H:Type}{enc:TypeId×Value→H}{W:World}{n:Nat}{cs:List Value}{y:DataW H×List MemPlace}(q:Addr)
  (hc:W.cells? 0 q 2=some cs)(h:DataW.trod enc prog W 0 (fun _=>true) true n 77 cs=some y)(hz:∀ n∈DataW.weights prog 77 y.1,n≤reachBytes):
  ∃ x:List UInt8×List (List UInt8),Yw W q x∧x.1.length≤reachBytes∧x.2.length≤maxLen:=by
 obtain⟨_,hl,hat⟩:=World.cells?_some hc;obtain⟨xs,n',_,rfl,_,FN,hf⟩:=DataW.trod_struct underlying77 h;have o2:prog.cellsOf 9=1:=by kernel_rfl
 have o3:prog.cellsOf 27=1:=by kernel_rfl
 have akf:xs.length=2:=FN;have g0:DataW.trod enc prog W 0 (fun _=>true) true n' 9 ((cs.drop 0).take (prog.cellsOf 9))=xs[0]? :=hf 0 _ rfl;have g1:DataW.trod enc prog W 0 (fun _=>true) true n' 27 ((cs.drop 1).take (prog.cellsOf 27))=xs[1]? :=hf 1 _ rfl;rw[o2,VM hl _ (by omega),Cn (by omega)] at g0;rw[o3,VM hl _ (by omega),Cn (by omega)] at g1;obtain⟨v0,e0,y0,_⟩:=DataW.trod_string underlying9 g0
 obtain⟨v1,l1,e1,t1⟩:=ank g1 (fun k hk=>hz k (by
  simp only[DataW.weights,underlying77];refine DataW.weights_mem_each (j:=1) (t:=27) (d:=(xs[1]'(by omega)).1) rfl ?_ _ hk;rw[IX,Cn (by omega)];rfl))
 have cell:∀ j (hj:j < 2) v,[cs[j]'(by omega)]=[v]→W.cell? (q.add j)=some v:=fun j hj v e=>by
  rw[hat j hj,Cn (by omega)];simpa using e
 obtain⟨⟨kq,kc,rfl,ht,hq⟩,hlen,_⟩:=t1;refine⟨(v0.data.toList,l1),⟨by have:=cell 0 (by omega) _ e0;rwa[add_zero'] at this,kq,kc,by have:=cell 1 (by omega) _ e1;exact this,ht,hq⟩,?_,hlen⟩;refine hz _ ?_;simp only[DataW.weights,underlying77];refine DataW.weights_mem_each (j:=0) (t:=9) (d:=.lit (.string v0.data.toList)) rfl ?_ _ (by simp[DataW.weights]);rw[IX,Cn (by omega),y0];rfl
theorem aA7{H:Type}{enc:TypeId×Value→H}{W:World}{n:Nat}{cs:List Value}{y:DataW H×List MemPlace}
  (h:DataW.trod enc prog W 0 (fun _=>true) true n 23 cs=some y)(hz:∀ n∈DataW.weights prog 23 y.1,n≤reachBytes):
  ∃ (a:Option Addr) (cap:Nat) (l:List (List UInt8×List (List UInt8))),cs=[.slice a l.length cap]∧Ls W a l∧l.length≤maxLen∧∀ x∈l,x.1.length≤reachBytes∧x.2.length≤maxLen:=by
 rcases Go.Deep.open_slice underlying23 h with⟨rfl,_⟩|⟨a,len,cap,m,k,D,Pl,rfl,_,hl,hm,KR,hx,hi⟩
 ·exact⟨none,0,[],rfl,fun i hi=>by simp at hi,by simp,by simp⟩
 ·have hC:prog.cellsOf 77=2:=by kernel_rfl
  rw[hC] at hi;have Sy:len≤m:=by rw[KR];split<;>omega
  obtain⟨l,EB,hP⟩:=kE (P:=fun i x=>Yw W (a.add (i*2)) x∧x.1.length≤reachBytes∧x.2.length≤maxLen) len (fun i IM=>by
   obtain⟨cs',h1,h2⟩:=hi i (by omega)
   exact azZ _ h1 h2 (fun k hk=>hz k (by
    rw[hx];simp only[DataW.weights,underlying23];exact DT _ (List.mem_append_left _ (uO (Bz.2 ⟨i,List.mem_range.2 IM,rfl⟩) hk)))))
  refine⟨some a,cap,l,by rw[EB],fun i IM=>⟨a,rfl,(hP i IM).1⟩,by omega,fun x Ug=>?_⟩;obtain⟨i,IM,rfl⟩:=List.getElem_of_mem Ug;exact(hP i IM).2
theorem aqx{H:Type}{enc:TypeId×Value→H}{W:World}{n:Nat}{cs:List Value}{y:DataW H×List MemPlace}
  (h:DataW.trod enc prog W 0 (fun _=>true) true n 24 cs=some y)(hz:∀ n∈DataW.weights prog 24 y.1,n≤reachBytes):
  ∃ (a:Option Addr) (cap:Nat) (l:List Aj),cs=[.slice a l.length cap]∧DW W a l∧l.length≤maxLen∧∀ x∈l,x.name.length≤reachBytes∧x.data.length≤reachBytes:=by
 rcases Go.Deep.open_slice underlying24 h with⟨rfl,_⟩|⟨a,len,cap,m,k,D,Pl,rfl,_,hl,hm,KR,hx,hi⟩
 ·exact⟨none,0,[],rfl,fun i hi=>by simp at hi,by simp,by simp⟩
 ·have hC:prog.cellsOf 65=3:=by kernel_rfl
  rw[hC] at hi;have Sy:len≤m:=by rw[KR];split<;>omega
  obtain⟨l,EB,hP⟩:=kE (P:=fun i x=>QD W (a.add (i*3)) x∧x.name.length≤reachBytes∧x.data.length≤reachBytes) len (fun i IM=>by
   obtain⟨cs',h1,h2⟩:=hi i (by omega)
   exact aqw _ h1 h2 (fun k hk=>hz k (by
    rw[hx];simp only[DataW.weights,underlying24];exact DT _ (List.mem_append_left _ (uO (Bz.2 ⟨i,List.mem_range.2 IM,rfl⟩) hk)))))
  refine⟨some a,cap,l,by rw[EB],fun i IM=>⟨a,rfl,(hP i IM).1⟩,by omega,fun x Ug=>?_⟩;obtain⟨i,IM,rfl⟩:=List.getElem_of_mem Ug;exact(hP i IM).2
theorem aqp{H:Type}{enc:TypeId×Value→H}{W:World}{base:Nat}{v:Value}{d:DataW H}{p:List MemPlace}
  (ho:Value.okWide prog W .any base 26 v)(h:DataW.Trod enc prog W 0 (fun _=>true) true 26 v d p)(hz:∀ n∈DataW.weights prog 26 d,(decide (n≤reachBytes))=true):
  ∃ (N:Int) (a ua fa:Option Addr) (cap uc fc:Nat) (l:List (List UInt8×List UInt8)) (us:List (List UInt8×List (List UInt8))) (fs:List Aj),v=.agg #[.int .i64 N,.slice a l.length cap,.slice ua us.length uc,.slice fa fs.length fc]∧
   (AO W a l∧l.length≤maxLen∧∀ x∈l,x.1.length≤reachBytes∧x.2.length≤reachBytes)∧(Ls W ua us∧us.length≤maxLen∧∀ x∈us,x.1.length≤reachBytes∧x.2.length≤maxLen)∧(DW W fa fs∧fs.length≤maxLen∧∀ x∈fs,x.name.length≤reachBytes∧x.data.length≤reachBytes):=by
 obtain⟨cs,rfl,Dv⟩:=okWide_struct underlying26 ho;have Js:cs.size=4:=Dv.trans (by kernel_rfl);obtain⟨fuel,O3⟩:=h;have U4:DataW.trod enc prog W 0 (fun _=>true) true fuel 26 cs.toList=some (d,p):=O3;have hl:cs.toList.length=4:=by simpa using Js
 obtain⟨xs,n',_,ko,_,FN,hf⟩:=DataW.trod_struct underlying26 U4;have o0:prog.cellsOf 3=1:=by kernel_rfl
 have o1:prog.cellsOf 22=1:=by kernel_rfl
 have o2:prog.cellsOf 23=1:=by kernel_rfl
 have o3:prog.cellsOf 24=1:=by kernel_rfl
 have aCy:xs.length=4:=FN;have g0:DataW.trod enc prog W 0 (fun _=>true) true n' 3 ((cs.toList.drop 0).take (prog.cellsOf 3))=xs[0]? :=hf 0 _ rfl;have g1:DataW.trod enc prog W 0 (fun _=>true) true n' 22 ((cs.toList.drop 1).take (prog.cellsOf 22))=xs[1]? :=hf 1 _ rfl;have g2:DataW.trod enc prog W 0 (fun _=>true) true n' 23 ((cs.toList.drop 2).take (prog.cellsOf 23))=xs[2]? :=hf 2 _ rfl;have g3:DataW.trod enc prog W 0 (fun _=>true) true n' 24 ((cs.toList.drop 3).take (prog.cellsOf 24))=xs[3]? :=hf 3 _ rfl;rw[o0,VM hl _ (by omega),Cn (by omega)] at g0;rw[o1,VM hl _ (by omega),Cn (by omega)] at g1;rw[o2,VM hl _ (by omega),Cn (by omega)] at g2;rw[o3,VM hl _ (by omega),Cn (by omega)] at g3;obtain⟨v0,e0,_,w0⟩:=DataW.trod_int underlying3 g0;have hd:d=.agg (xs.map (·.1)):=congrArg Prod.fst ko
 obtain⟨a,cap,l,e1,t1⟩:=axp g1 (fun k hk=>QC (hz k (by
  rw[hd];simp only[DataW.weights,underlying26];refine DataW.weights_mem_each (j:=1) (t:=22) (d:=(xs[1]'(by omega)).1) rfl ?_ _ hk;rw[IX,Cn (by omega)];rfl)))
 obtain⟨ua,uc,us,e2,t2⟩:=aA7 g2 (fun k hk=>QC (hz k (by
  rw[hd];simp only[DataW.weights,underlying26];refine DataW.weights_mem_each (j:=2) (t:=23) (d:=(xs[2]'(by omega)).1) rfl ?_ _ hk;rw[IX,Cn (by omega)];rfl)))
 obtain⟨fa,fc,fs,e3,t3⟩:=aqx g3 (fun k hk=>QC (hz k (by
  rw[hd];simp only[DataW.weights,underlying26];refine DataW.weights_mem_each (j:=3) (t:=24) (d:=(xs[3]'(by omega)).1) rfl ?_ _ hk;rw[IX,Cn (by omega)];rfl)))
 refine⟨v0,a,ua,fa,cap,uc,fc,l,us,fs,?_,t1,t2,t3⟩;have e:cs.toList=[.int .i64 v0,.slice a l.length cap,.slice ua us.length uc,.slice fa fs.length fc]:=by
  apply List.ext_getElem (by rw[hl];rfl);intro i hi _;have hi3:i < 4:=by omega
  match i,hi3 with
  |0,_=>simpa using e0
  |1,_=>simpa using e1
  |2,_=>simpa using e2
  |3,_=>simpa using e3
 obtain⟨LL⟩:=cs;simp only at e;rw[e]
end Hv
section
open Go.RowKit Go.Maps
open Wal Fil Prs Kp Cm Hex Sha Al Mem Dep IE Hv
open Man hiding T
theorem sweepCrash_any{base:Nat}{H:Type}{enc:TypeId×Value→H}(w:World)(v:Value)(d:DataW H)(p:List MemPlace)
  (ho:Value.okWide prog w .any base 26 v)(h:DataW.Trod enc prog w 0 (fun _=>true) true 26 v d p)(hz:∀ n∈DataW.weights prog 26 d,(decide (n≤reachBytes))=true)
  (v2:Value)(d2:DataW H)(p2:List MemPlace)
  (Dc:Value.okWide prog w .any base 27 v2)(h2:DataW.Trod enc prog w 0 (fun _=>true) true 27 v2 d2 p2)(AV:∀ n∈DataW.weights prog 27 d2,(decide (n≤reachBytes))=true)(fu:Int)(aB1:(Lit.int .u8 fu).wf=true)(keep:List UInt8)(hk:keep.length≤reachBytes):
  Calls prog 4 #[v,v2,.int .u8 fu,.string (bs keep)] w fun e w'=>e=.returned (.bool true)∧Bw w w':=by
 obtain⟨N,a,ua,fa,cap,uc,fc,l,us,fs,rfl,⟨l1,l2,l3⟩,⟨u1,u2,u3⟩,⟨f1,f2,f3⟩⟩:=aqp ho h hz;obtain⟨roots,⟨qr,cr,rfl,hT,_⟩,hl,_⟩:=azz Dc h2 AV;exact aqO apR l1 l2 l3 u1 u2 u3 f1 f2 f3 hT hl hk
end
end Go.Proofs.YtmbbhdebddbhoaaGreat
