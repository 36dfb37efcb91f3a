/- SwTrod FsckFindsWalk FsckFindsLift -/
import Derived.Test.YtkmninbcgipliaaGreatDoorW17
import Derived.Test.YtkmninbcgipliaaGreatDoorCards
import Derived.Test.YtkmninbcgipliaaGreatDoorTie
import Derived.ShutString
import Derived.Carry
import Derived.SevenTiedAt
set_option maxRecDepth 100000
set_option linter.all false
namespace Go.Proofs.YtkmninbcgipliaaGreatDoor
open Go.Proofs.Tryz hiding t1 t2
open Go.RowKit
namespace Hv
open Go.WideShapes Go.ChangeShapes Go.Deep
open Aw Ah Bu Kp Bz Hex BH Al Mem Ci
open Aq
theorem aAk{H:Type}{enc:TypeId×Value→H}{W:World}{base:Nat}{sp:Nat→Bool}{hd:Bool}{n:Nat}{cs:List Value}{y:DataW H×List MemPlace}(q:Addr)
  (hc:W.cells? base q 2=some cs)(h:DataW.trod enc prog W base sp hd n 51 cs=some y)(hz:∀ n∈DataW.weights prog 51 y.1,n≤reachBytes):
  ∃ x:List UInt8×List UInt8,Qd W q x∧x.1.length≤reachBytes∧x.2.length≤reachBytes:=by
 obtain⟨_,hl,hat⟩:=World.cells?_some hc;obtain⟨xs,n',_,rfl,_,Gv,hf⟩:=DataW.trod_struct underlying51 h;have o2:prog.cellsOf 9=1:=by kernel_rfl
 have am9:xs.length=2:=Gv;have g0:DataW.trod enc prog W base sp hd n' 9 ((cs.drop 0).take (prog.cellsOf 9))=xs[0]? :=hf 0 _ rfl;have g1:DataW.trod enc prog W base sp hd n' 9 ((cs.drop 1).take (prog.cellsOf 9))=xs[1]? :=hf 1 _ rfl;rw[o2,Xh hl _ (by omega),CZ (by omega)] at g0 g1;obtain⟨v0,e0,y0,_⟩:=DataW.trod_string underlying9 g0;obtain⟨v1,e1,y1,_⟩:=DataW.trod_string underlying9 g1;have cell:∀ j (hj:j < 2) v,[cs[j]'(by omega)]=[v]→W.cell? (q.add j)=some v:=fun j hj v e=>by
  rw[hat j hj,CZ (by omega)];simpa using e
 refine⟨(v0.data.toList,v1.data.toList),⟨by have:=cell 0 (by omega) _ e0;rwa[add_zero'] at this,by have:=cell 1 (by omega) _ e1;exact this⟩,?_,?_⟩
 ·refine hz _ ?_;simp only[DataW.weights,underlying51];refine DataW.weights_mem_each (j:=0) (t:=9) (d:=.lit (.string v0.data.toList)) rfl ?_ _ (by simp[DataW.weights]);rw[JS,CZ (by omega),y0];rfl
 ·refine hz _ ?_;simp only[DataW.weights,underlying51];refine DataW.weights_mem_each (j:=1) (t:=9) (d:=.lit (.string v1.data.toList)) rfl ?_ _ (by simp[DataW.weights]);rw[JS,CZ (by omega),y1];rfl
theorem aAA{H:Type}{enc:TypeId×Value→H}{W:World}{n:Nat}{cs:List Value}{y:DataW H×List MemPlace}
  (h:DataW.trod enc prog W 0 (fun _=>true) true n 30 cs=some y)(hz:∀ n∈DataW.weights prog 30 y.1,n≤reachBytes):
  ∃ (a:Option Addr) (cap:Nat) (l:List (List UInt8×List UInt8)),cs=[.slice a l.length cap]∧Bg W a l∧l.length≤maxLen∧∀ x∈l,x.1.length≤reachBytes∧x.2.length≤reachBytes:=by
 rcases Go.Deep.open_slice underlying30 h with⟨rfl,_⟩|⟨a,len,cap,m,k,D,Pl,rfl,_,hl,hm,NN,hx,hi⟩
 ·exact⟨none,0,[],rfl,fun i hi=>by simp at hi,by simp,by simp⟩
 ·have hC:prog.cellsOf 51=2:=by kernel_rfl
  rw[hC] at hi;have U7:len≤m:=by rw[NN];split<;>omega
  obtain⟨l,EA,hP⟩:=adC (P:=fun i x=>Qd W (a.add (i*2)) x∧x.1.length≤reachBytes∧x.2.length≤reachBytes) len (fun i JJ=>by
   obtain⟨cs',h1,h2⟩:=hi i (by omega)
   exact aAk _ h1 h2 (fun k hk=>hz k (by
    rw[hx];simp only[DataW.weights,underlying30];exact Fs _ (UA _ (af6 (Bv.2 ⟨i,List.mem_range.2 JJ,rfl⟩) hk)))))
  refine⟨some a,cap,l,by rw[EA],fun i JJ=>⟨a,rfl,(hP i JJ).1⟩,by omega,fun x Vv=>?_⟩;obtain⟨i,JJ,rfl⟩:=Tp Vv;exact(hP i JJ).2
theorem aDG{H:Type}{enc:TypeId×Value→H}{W:World}{n:Nat}{cs:List Value}{y:DataW H×List MemPlace}(q:Addr)
  (hc:W.cells? 0 q 2=some cs)(h:DataW.trod enc prog W 0 (fun _=>true) true n 63 cs=some y)(hz:∀ n∈DataW.weights prog 63 y.1,n≤reachBytes):
  ∃ x:List UInt8×List (List UInt8),ZR W q x∧x.1.length≤reachBytes∧x.2.length≤maxLen:=by
 obtain⟨_,hl,hat⟩:=World.cells?_some hc;obtain⟨xs,n',_,rfl,_,Gv,hf⟩:=DataW.trod_struct underlying63 h;have o2:prog.cellsOf 9=1:=by kernel_rfl
 have o3:prog.cellsOf 61=1:=by kernel_rfl
 have am9:xs.length=2:=Gv;have g0:DataW.trod enc prog W 0 (fun _=>true) true n' 9 ((cs.drop 0).take (prog.cellsOf 9))=xs[0]? :=hf 0 _ rfl;have g1:DataW.trod enc prog W 0 (fun _=>true) true n' 61 ((cs.drop 1).take (prog.cellsOf 61))=xs[1]? :=hf 1 _ rfl;rw[o2,Xh hl _ (by omega),CZ (by omega)] at g0;rw[o3,Xh hl _ (by omega),CZ (by omega)] at g1;obtain⟨v0,e0,y0,_⟩:=DataW.trod_string underlying9 g0
 obtain⟨v1,l1,e1,t1⟩:=aD7 g1 (fun k hk=>hz k (by
  simp only[DataW.weights,underlying63];refine DataW.weights_mem_each (j:=1) (t:=61) (d:=(xs[1]'(by omega)).1) rfl ?_ _ hk;rw[JS,CZ (by omega)];rfl))
 have cell:∀ j (hj:j < 2) v,[cs[j]'(by omega)]=[v]→W.cell? (q.add j)=some v:=fun j hj v e=>by
  rw[hat j hj,CZ (by omega)];simpa using e
 obtain⟨⟨kq,kc,rfl,ht,hq⟩,hlen,_⟩:=t1;refine⟨(v0.data.toList,l1),⟨by have:=cell 0 (by omega) _ e0;rwa[add_zero'] at this,kq,kc,by have:=cell 1 (by omega) _ e1;exact this,ht,hq⟩,?_,hlen⟩;refine hz _ ?_;simp only[DataW.weights,underlying63];refine DataW.weights_mem_each (j:=0) (t:=9) (d:=.lit (.string v0.data.toList)) rfl ?_ _ (by simp[DataW.weights]);rw[JS,CZ (by omega),y0];rfl
theorem aDO{H:Type}{enc:TypeId×Value→H}{W:World}{n:Nat}{cs:List Value}{y:DataW H×List MemPlace}
  (h:DataW.trod enc prog W 0 (fun _=>true) true n 31 cs=some y)(hz:∀ n∈DataW.weights prog 31 y.1,n≤reachBytes):
  ∃ (a:Option Addr) (cap:Nat) (l:List (List UInt8×List (List UInt8))),cs=[.slice a l.length cap]∧NF W a l∧l.length≤maxLen∧∀ x∈l,x.1.length≤reachBytes∧x.2.length≤maxLen:=by
 rcases Go.Deep.open_slice underlying31 h with⟨rfl,_⟩|⟨a,len,cap,m,k,D,Pl,rfl,_,hl,hm,NN,hx,hi⟩
 ·exact⟨none,0,[],rfl,fun i hi=>by simp at hi,by simp,by simp⟩
 ·have hC:prog.cellsOf 63=2:=by kernel_rfl
  rw[hC] at hi;have U7:len≤m:=by rw[NN];split<;>omega
  obtain⟨l,EA,hP⟩:=adC (P:=fun i x=>ZR W (a.add (i*2)) x∧x.1.length≤reachBytes∧x.2.length≤maxLen) len (fun i JJ=>by
   obtain⟨cs',h1,h2⟩:=hi i (by omega)
   exact aDG _ h1 h2 (fun k hk=>hz k (by
    rw[hx];simp only[DataW.weights,underlying31];exact Fs _ (UA _ (af6 (Bv.2 ⟨i,List.mem_range.2 JJ,rfl⟩) hk)))))
  refine⟨some a,cap,l,by rw[EA],fun i JJ=>⟨a,rfl,(hP i JJ).1⟩,by omega,fun x Vv=>?_⟩;obtain⟨i,JJ,rfl⟩:=Tp Vv;exact(hP i JJ).2
theorem at5{H:Type}{enc:TypeId×Value→H}{W:World}{n:Nat}{cs:List Value}{y:DataW H×List MemPlace}
  (h:DataW.trod enc prog W 0 (fun _=>true) true n 32 cs=some y)(hz:∀ n∈DataW.weights prog 32 y.1,n≤reachBytes):
  ∃ (a:Option Addr) (cap:Nat) (l:List Am),cs=[.slice a l.length cap]∧Eh W a l∧l.length≤maxLen∧∀ x∈l,x.name.length≤reachBytes∧x.data.length≤reachBytes:=by
 rcases Go.Deep.open_slice underlying32 h with⟨rfl,_⟩|⟨a,len,cap,m,k,D,Pl,rfl,_,hl,hm,NN,hx,hi⟩
 ·exact⟨none,0,[],rfl,fun i hi=>by simp at hi,by simp,by simp⟩
 ·have hC:prog.cellsOf 57=3:=by kernel_rfl
  rw[hC] at hi;have U7:len≤m:=by rw[NN];split<;>omega
  obtain⟨l,EA,hP⟩:=adC (P:=fun i x=>Sb W (a.add (i*3)) x∧x.name.length≤reachBytes∧x.data.length≤reachBytes) len (fun i JJ=>by
   obtain⟨cs',h1,h2⟩:=hi i (by omega)
   exact at1 _ h1 h2 (fun k hk=>hz k (by
    rw[hx];simp only[DataW.weights,underlying32];exact Fs _ (UA _ (af6 (Bv.2 ⟨i,List.mem_range.2 JJ,rfl⟩) hk)))))
  refine⟨some a,cap,l,by rw[EA],fun i JJ=>⟨a,rfl,(hP i JJ).1⟩,by omega,fun x Vv=>?_⟩;obtain⟨i,JJ,rfl⟩:=Tp Vv;exact(hP i JJ).2
theorem asU{H:Type}{enc:TypeId×Value→H}{W:World}{base:Nat}{v:Value}{d:DataW H}{p:List MemPlace}
  (ho:Value.okWide prog W .any base 34 v)(h:DataW.Trod enc prog W 0 (fun _=>true) true 34 v d p)(hz:∀ n∈DataW.weights prog 34 d,(decide (n≤reachBytes))=true):
  ∃ (N:Int) (a ua fa:Option Addr) (cap uc fc:Nat) (l:List (List UInt8×List UInt8)) (us:List (List UInt8×List (List UInt8))) (fs:List Am),v=.agg #[.int .i64 N,.slice a l.length cap,.slice ua us.length uc,.slice fa fs.length fc]∧
   (Bg W a l∧l.length≤maxLen∧∀ x∈l,x.1.length≤reachBytes∧x.2.length≤reachBytes)∧(NF W ua us∧us.length≤maxLen∧∀ x∈us,x.1.length≤reachBytes∧x.2.length≤maxLen)∧(Eh W fa fs∧fs.length≤maxLen∧∀ x∈fs,x.name.length≤reachBytes∧x.data.length≤reachBytes):=by
 obtain⟨cs,rfl,DV⟩:=okWide_struct underlying34 ho;have KN:cs.size=4:=DV.trans (by kernel_rfl);obtain⟨fuel,Pp⟩:=h;have Yt:DataW.trod enc prog W 0 (fun _=>true) true fuel 34 cs.toList=some (d,p):=Pp;have hl:cs.toList.length=4:=by simpa using KN
 obtain⟨xs,n',_,nC,_,Gv,hf⟩:=DataW.trod_struct underlying34 Yt;have o0:prog.cellsOf 3=1:=by kernel_rfl
 have o1:prog.cellsOf 30=1:=by kernel_rfl
 have o2:prog.cellsOf 31=1:=by kernel_rfl
 have o3:prog.cellsOf 32=1:=by kernel_rfl
 have aGt:xs.length=4:=Gv;have g0:DataW.trod enc prog W 0 (fun _=>true) true n' 3 ((cs.toList.drop 0).take (prog.cellsOf 3))=xs[0]? :=hf 0 _ rfl;have g1:DataW.trod enc prog W 0 (fun _=>true) true n' 30 ((cs.toList.drop 1).take (prog.cellsOf 30))=xs[1]? :=hf 1 _ rfl;have g2:DataW.trod enc prog W 0 (fun _=>true) true n' 31 ((cs.toList.drop 2).take (prog.cellsOf 31))=xs[2]? :=hf 2 _ rfl;have g3:DataW.trod enc prog W 0 (fun _=>true) true n' 32 ((cs.toList.drop 3).take (prog.cellsOf 32))=xs[3]? :=hf 3 _ rfl;rw[o0,Xh hl _ (by omega),CZ (by omega)] at g0;rw[o1,Xh hl _ (by omega),CZ (by omega)] at g1;rw[o2,Xh hl _ (by omega),CZ (by omega)] at g2;rw[o3,Xh hl _ (by omega),CZ (by omega)] at g3;obtain⟨v0,e0,_,w0⟩:=DataW.trod_int underlying3 g0;have hd:d=.agg (xs.map (·.1)):=congrArg Prod.fst nC
 obtain⟨a,cap,l,e1,t1⟩:=aAA g1 (fun k hk=>O0 (hz k (by
  rw[hd];simp only[DataW.weights,underlying34];refine DataW.weights_mem_each (j:=1) (t:=30) (d:=(xs[1]'(by omega)).1) rfl ?_ _ hk;rw[JS,CZ (by omega)];rfl)))
 obtain⟨ua,uc,us,e2,t2⟩:=aDO g2 (fun k hk=>O0 (hz k (by
  rw[hd];simp only[DataW.weights,underlying34];refine DataW.weights_mem_each (j:=2) (t:=31) (d:=(xs[2]'(by omega)).1) rfl ?_ _ hk;rw[JS,CZ (by omega)];rfl)))
 obtain⟨fa,fc,fs,e3,t3⟩:=at5 g3 (fun k hk=>O0 (hz k (by
  rw[hd];simp only[DataW.weights,underlying34];refine DataW.weights_mem_each (j:=3) (t:=32) (d:=(xs[3]'(by omega)).1) rfl ?_ _ hk;rw[JS,CZ (by omega)];rfl)))
 refine⟨v0,a,ua,fa,cap,uc,fc,l,us,fs,?_,t1,t2,t3⟩;have e:cs.toList=[.int .i64 v0,.slice a l.length cap,.slice ua us.length uc,.slice fa fs.length fc]:=by
  apply List.ext_getElem (by rw[hl];rfl);intro i hi _;have hi3:i < 4:=by omega
  match i,hi3 with
  |0,_=>simpa using e0
  |1,_=>simpa using e1
  |2,_=>simpa using e2
  |3,_=>simpa using e3
 obtain⟨LL⟩:=cs;simp only at e;rw[e]
end Hv
section
open Go.Maps
open Aw Ah Bu Kp Bz Hex BH Al Mem Ci Gr Hv
open Aq hiding T
theorem av2{base:Nat}{H:Type}{enc:TypeId×Value→H}(w:World)(WT:Ew.Wn w)(v:Value)(d:DataW H)(p:List MemPlace)
  (ho:Value.okWide prog w .any base 34 v)(h:DataW.Trod enc prog w 0 (fun _=>true) true 34 v d p)(hz:∀ n∈DataW.weights prog 34 d,(decide (n≤reachBytes))=true)
  (which:Int)(hwh:(Lit.int .u16 which).wf=true)(at_:Int)(hat:(Lit.int .u16 at_).wf=true)(rA:Int)(SG:(Lit.int .u8 rA).wf=true):
  Calls prog 4 #[v,.int .u16 which,.int .u16 at_,.int .u8 rA] w (Rt w true):=by
 obtain⟨N,a,ua,fa,cap,uc,fc,l,us,fs,rfl,⟨l1,l2,l3⟩,⟨u1,u2,u3⟩,⟨f1,f2,f3⟩⟩:=asU ho h hz;have h1:0≤which∧which≤65535:=by simp[Lit.wf,IntKind.min,IntKind.max,IntKind.signed,IntKind.bits] at hwh;omega
 have h2:0≤at_∧at_≤65535:=by simp[Lit.wf,IntKind.min,IntKind.max,IntKind.signed,IntKind.bits] at hat;omega
 have h3:0≤rA∧rA≤255:=by simp[Lit.wf,IntKind.min,IntKind.max,IntKind.signed,IntKind.bits] at SG;omega
 obtain⟨x,rfl⟩:=Int.eq_ofNat_of_zero_le h1.1;obtain⟨y,rfl⟩:=Int.eq_ofNat_of_zero_le h2.1;obtain⟨c,rfl⟩:=Int.eq_ofNat_of_zero_le h3.1;have hc:((UInt8.ofNat c).toNat:Nat)=c:=by
  rw[Xp];omega
 have hf:=Ew.auD Ew.asi WT l1 l2 l3 u1 u2 u3 x y (by omega) (by omega) (UInt8.ofNat c) (N:=N) (cap:=cap) (uc:=uc) (fa:=fa) (fl:=fs.length) (fc:=fc);rw[hc] at hf;exact hf
end
namespace fsckFinds
open Go.ChangeShapes Go.WideShapes Go.ChangeAt
open Go.ChangeMaps (open_string shut_string)
set_option linter.unusedVariables false
theorem own:ownKnob prog.godebug=none:=by kernel_rfl
theorem laidOut:laidOutB prog=true:=by kernel_rfl
theorem lifted(os:Os)(started:os.Started)(H:Type)(enc:TypeId×Value→H):
  ReturnsInHanded {} Tryz.checked os 4 .any (fun w args=>(Rows.fsckFindsSpec.pre enc prog Tryz.f4 [] false w args∧laidMetH prog [("unicode/utf8.acceptRanges",Rows.laid_unicode_utf8_acceptRanges),("unicode/utf8.first",Rows.laid_unicode_utf8_first)] w)∧sizedMet enc prog Tryz.f4 (OpenSpec.ofChange Rows.fsckFindsSpec) false w args) (Rows.fsckFindsSpec.post enc prog Tryz.f4 false true false false):=by
 refine aBm (C:=Tryz.checked) (X:=fun w _=>laidMetH prog [("unicode/utf8.acceptRanges",Rows.laid_unicode_utf8_acceptRanges),("unicode/utf8.first",Rows.laid_unicode_utf8_first)] w) own started (by kernel_rfl) func4
  (ChangeSpec.witness_shaped (enc:=enc) (C:=Tryz.checked) (os:=os) (X:=fun w _=>laidMetH prog [("unicode/utf8.acceptRanges",Rows.laid_unicode_utf8_acceptRanges),("unicode/utf8.first",Rows.laid_unicode_utf8_first)] w) false (World.laidAll prog os aaY) #[.agg #[.int .i64 0,(),(),()],.int .u16 0,.int .u16 0,.int .u8 0] 8 (World.laidAll_os _ _ _) (World.shaped_of_ZipB (by kernel_rfl) (by kernel_rfl)) (by kernel_rfl) (by kernel_rfl) (by kernel_rfl) (auf os _)) ?_
 intro W base args ds gs before hval0 hW X0 awl;have Ry:∀ (j:Nat) t v,Tryz.f4.params[j]?=some t→args[j]?=some v→Value.okWide prog W .any base t v:=hval0;have lD:=hW;obtain⟨p,q,SC,hV,rfl,Pq,gD⟩:=hW;have hA:DataW.TrodAll enc prog W 0 (fun _=>true) true Tryz.f4.params.toList args.toList ds p:=SC;have BS:(DataW.weightsEach prog (Tryz.f4.params.toList++Rows.fsckFindsSpec.plain.varTypes prog) (ds++gs)).all (· ≤reachBytes)=true:=X0;rw[params4] at hA Ry BS;obtain⟨rfl,rfl⟩:=trodVars_none hV;have hlt:∀ x∈p,x.block < W.heap.size:=fun x hx=>by simpa using lD.lt x (UA _ hx)
 obtain⟨v0,vs0,d0,ds0,p0,q0,aFA,rfl,rfl,h0,r0⟩:=trodAll_cons hA;obtain⟨v1,vs1,d1,ds1,p1,q1,rfl,rfl,rfl,h1,r1⟩:=trodAll_cons r0;obtain⟨v2,vs2,d2,ds2,p2,q2,rfl,rfl,rfl,h2,r2⟩:=trodAll_cons r1;obtain⟨v3,vs3,d3,ds3,p3,q3,rfl,rfl,rfl,h3,r3⟩:=trodAll_cons r2;obtain⟨rfl,rfl,rfl⟩:=trodAll_nil r3;obtain rfl:args=#[v0,v1,v2,v3]:=by cases args;simp_all
 have KQ:=h0;have F8:=h1;have J8:=h2;have Vj:=h3;have o0:=Ry 0 34 v0 rfl rfl;have z0:=fun(n:Nat) (hn:n∈DataW.weights prog 34 d0)=>Nl.1 BS n (DataW.weights_mem_each (j:=0) (t:=34) (d:=d0) rfl rfl n hn)
 obtain⟨a1,rfl,rfl,rfl,w1⟩:=open_int underlying35 (Ry 1 35 v1 rfl rfl) h1;have z1:=w1;obtain⟨a2,rfl,rfl,rfl,w2⟩:=open_int underlying35 (Ry 2 35 v2 rfl rfl) h2;have z2:=w2;obtain⟨a3,rfl,rfl,rfl,w3⟩:=open_int underlying5 (Ry 3 5 v3 rfl rfl) h3;have z3:=w3;refine(av2 W (azq awl) v0 d0 p0 o0 h0 z0 a1 z1 a2 z2 a3 z3).mono fun e W' ⟨he,hb⟩=>?_
 subst he;refine⟨_,rfl,_,_,_,[],p0++(([]:List MemPlace)++(([]:List MemPlace)++(([]:List MemPlace)++([])))),[],lD,?_,?_,?_,hb.frame _,fun h=>by cases h⟩
 ·exact trodAll_cons_mk (shut_bool underlying4 _) trodAll_mk0
 ·exact(trodAll_cons_mk (Below.trod laidOut (by kernel_rfl) (O0 (by kernel_rfl)) KQ hb (fun x hx=>hlt x (by simp only[Es];simp[hx]))) (trodAll_cons_mk (Below.trod laidOut (by kernel_rfl) (O0 (by kernel_rfl)) F8 hb (fun x hx=>hlt x (by simp only[Es];simp[hx]))) (trodAll_cons_mk (Below.trod laidOut (by kernel_rfl) (O0 (by kernel_rfl)) J8 hb (fun x hx=>hlt x (by simp only[Es];simp[hx]))) (trodAll_cons_mk (Below.trod laidOut (by kernel_rfl) (O0 (by kernel_rfl)) Vj hb (fun x hx=>hlt x (by simp only[Es];simp[hx]))) trodAll_mk0))))
 ·rfl
