/- FsckLinesWalk FsckLinesLift -/
import Derived.Test.YtkmninbcgipliaaGreatDoorQ20
import Derived.Test.YtkmninbcgipliaaGreatDoorCards
import Derived.Test.YtkmninbcgipliaaGreatDoorTie
import Derived.ShutString
import Derived.Carry
import Derived.SevenTiedAt
set_option maxRecDepth 100000
set_option linter.all false
namespace Go.Proofs.YtkmninbcgipliaaGreatDoor
open Go.Proofs.Tryz
open Go.RowKit
namespace ER
open Go.WideShapes Go.ChangeShapes Go.Deep
open Aq Af Bu Kp BM Hex BD Al Mem Cg
open Ap hiding T
theorem aq2{H:Type}{enc:TypeId×Value→H}{W:World}{base:Nat}{v:Value}{d:DataW H}{p:List MemPlace}
  (ho:Value.okWide prog W .any base 23 v)(h:DataW.Trod enc prog W 0 (fun _=>true) true 23 v d p)(hz:∀ n∈DataW.weights prog 23 d,(decide (n≤reachBytes))=true):
  ∃ b:Br,v=.agg #[.int .u8 (b.1:Int),.string (bs b.2.1),.string (bs b.2.2)]∧b.1≤255∧b.2.1.length≤reachBytes∧b.2.2.length≤reachBytes:=by
 obtain⟨cs,rfl,DK⟩:=okWide_struct underlying23 ho;have KO:cs.size=3:=DK.trans (by kernel_rfl);obtain⟨fuel,Ov⟩:=h;have Xr:DataW.trod enc prog W 0 (fun _=>true) true fuel 23 cs.toList=some (d,p):=Ov;have hl:cs.toList.length=3:=by simpa using KO
 obtain⟨xs,n',_,kG,_,IK,hf⟩:=DataW.trod_struct underlying23 Xr;have o1:prog.cellsOf 5=1:=by kernel_rfl
 have o2:prog.cellsOf 9=1:=by kernel_rfl
 have aDl:xs.length=3:=IK;have g0:DataW.trod enc prog W 0 (fun _=>true) true n' 5 ((cs.toList.drop 0).take (prog.cellsOf 5))=xs[0]? :=hf 0 _ rfl;have g1:DataW.trod enc prog W 0 (fun _=>true) true n' 9 ((cs.toList.drop 1).take (prog.cellsOf 9))=xs[1]? :=hf 1 _ rfl;have g2:DataW.trod enc prog W 0 (fun _=>true) true n' 9 ((cs.toList.drop 2).take (prog.cellsOf 9))=xs[2]? :=hf 2 _ rfl;rw[o1,ac5 hl _ (by omega),Ei (by omega)] at g0;rw[o2,ac5 hl _ (by omega),Ei (by omega)] at g1;rw[o2,ac5 hl _ (by omega),Ei (by omega)] at g2;obtain⟨v0,e0,_,w0⟩:=DataW.trod_int underlying5 g0;obtain⟨v1,e1,y1,_⟩:=DataW.trod_string underlying9 g1;obtain⟨v2,e2,y2,_⟩:=DataW.trod_string underlying9 g2;have hd:d=.agg (xs.map (·.1)):=congrArg Prod.fst kG
 have h1:v1.data.toList.length≤reachBytes:=Q4 (hz _ (by
  rw[hd];simp only[DataW.weights,underlying23];refine DataW.weights_mem_each (j:=1) (t:=9) (d:=.lit (.string v1.data.toList)) rfl ?_ _ (by simp[DataW.weights]);rw[O3,Ei (by omega),y1];rfl))
 have h2:v2.data.toList.length≤reachBytes:=Q4 (hz _ (by
  rw[hd];simp only[DataW.weights,underlying23];refine DataW.weights_mem_each (j:=2) (t:=9) (d:=.lit (.string v2.data.toList)) rfl ?_ _ (by simp[DataW.weights]);rw[O3,Ei (by omega),y2];rfl))
 have hr:0≤v0∧v0≤255:=by simp[Lit.wf,IntKind.min,IntKind.max,IntKind.signed,IntKind.bits] at w0;omega
 obtain⟨n,rfl⟩:=Int.eq_ofNat_of_zero_le hr.1;refine⟨(n,v1.data.toList,v2.data.toList),?_,by simp only;omega,h1,h2⟩;have e:cs.toList=[.int .u8 (n:Int),.string v1,.string v2]:=by
  apply List.ext_getElem (by rw[hl];rfl);intro i hi _;have hi3:i < 3:=by omega
  match i,hi3 with
  |0,_=>simpa using e0
  |1,_=>simpa using e1
  |2,_=>simpa using e2
 obtain⟨L⟩:=cs;simp only at e;rw[e];rfl
end ER
section
theorem asf{H:Type}{enc:TypeId×Value→H}{base0:Nat}(W:World)(Uy:ER.Vm W)(v0:Value)(d0:DataW H)(p0:List MemPlace)
  (II:Value.okWide prog W .any base0 23 v0)(h0:DataW.Trod enc prog W 0 (fun _=>true) true 23 v0 d0 p0)(AX:∀ n∈DataW.weights prog 23 d0,(decide (n≤reachBytes))=true)
  (s:List UInt8)(hs:s.length≤reachBytes):
  Calls prog 3 #[v0,.string (bs s)] W fun e W'=>e=.returned (.bool true)∧Bw W W':=by
 obtain⟨b,rfl,hk,h1,h2⟩:=ER.aq2 II h0 AX;exact ER.asg ER.apF W Uy b s hk h1 h2 hs
end
namespace fsckLines
open Go.ChangeShapes Go.WideShapes Go.ChangeAt
open Go.ChangeMaps (open_string shut_string)
set_option linter.unusedVariables false
theorem own:ownKnob prog.godebug=none:=by kernel_rfl
theorem laidOut:laidOutB prog=true:=by kernel_rfl
theorem lifted(os:Os)(started:os.Started)(H:Type)(enc:TypeId×Value→H):
  ReturnsInHanded {} Tryz.checked os 3 .any (fun w args=>(Rows.fsckLinesSpec.pre enc prog Tryz.f3 [] false w args∧laidMetH prog [("unicode/utf8.acceptRanges",Rows.laid_unicode_utf8_acceptRanges),("unicode/utf8.first",Rows.laid_unicode_utf8_first)] w)∧sizedMet enc prog Tryz.f3 (OpenSpec.ofChange Rows.fsckLinesSpec) false w args) (Rows.fsckLinesSpec.post enc prog Tryz.f3 false true false false):=by
 refine ayH (C:=Tryz.checked) (X:=fun w _=>laidMetH prog [("unicode/utf8.acceptRanges",Rows.laid_unicode_utf8_acceptRanges),("unicode/utf8.first",Rows.laid_unicode_utf8_first)] w) own started (by kernel_rfl) func3
  (ChangeSpec.witness_shaped (enc:=enc) (C:=Tryz.checked) (os:=os) (X:=fun w _=>laidMetH prog [("unicode/utf8.acceptRanges",Rows.laid_unicode_utf8_acceptRanges),("unicode/utf8.first",Rows.laid_unicode_utf8_first)] w) false (World.laidAll prog os zn) #[.agg #[.int .u8 0,.string ByteArray.empty,.string ByteArray.empty],.string ByteArray.empty] 8 (World.laidAll_os _ _ _) (World.shaped_of_ZipB (by kernel_rfl) (by kernel_rfl)) (by kernel_rfl) (by kernel_rfl) (by kernel_rfl) (ary os _)) ?_
 intro W base args ds gs before hval0 hW VS atD;have Tv:∀ (j:Nat) t v,Tryz.f3.params[j]?=some t→args[j]?=some v→Value.okWide prog W .any base t v:=hval0;have jl:=hW;obtain⟨p,q,Rq,hV,rfl,Ow,dG⟩:=hW;have hA:DataW.TrodAll enc prog W 0 (fun _=>true) true Tryz.f3.params.toList args.toList ds p:=Rq;have BL:(DataW.weightsEach prog (Tryz.f3.params.toList++Rows.fsckLinesSpec.plain.varTypes prog) (ds++gs)).all (· ≤reachBytes)=true:=VS;rw[params3] at hA Tv BL;obtain⟨rfl,rfl⟩:=trodVars_none hV;have hlt:∀ x∈p,x.block < W.heap.size:=fun x hx=>by simpa using jl.lt x (List.mem_append_left _ hx)
 obtain⟨v0,vs0,d0,ds0,p0,q0,aCu,rfl,rfl,h0,r0⟩:=trodAll_cons hA;obtain⟨v1,vs1,d1,ds1,p1,q1,rfl,rfl,rfl,h1,r1⟩:=trodAll_cons r0;obtain⟨rfl,rfl,rfl⟩:=trodAll_nil r1;obtain rfl:args=#[v0,v1]:=by cases args;simp_all
 have IZ:=h0;have EX:=h1;have o0:=Tv 0 23 v0 rfl rfl;have z0:=fun(n:Nat) (hn:n∈DataW.weights prog 23 d0)=>Mr.1 BL n (DataW.weights_mem_each (j:=0) (t:=23) (d:=d0) rfl rfl n hn)
 have PR:=fun(b:List UInt8) (e:d1=.lit (.string b))=>sized_string BL (j:=1) (t:=9) (bytes:=b) rfl (by rw[←e];rfl)
 obtain⟨a1,rfl,rfl,rfl,w1⟩:=open_string underlying9 (Tv 1 9 v1 rfl rfl) h1;have z1:=PR _ rfl;refine(asf W (awK atD) v0 d0 p0 o0 h0 z0 a1.data.toList z1).mono fun e W' ⟨he,hb⟩=>?_
 subst he;refine⟨_,rfl,_,_,_,[],p0++(([]:List MemPlace)++([])),[],jl,?_,?_,?_,hb.frame _,fun h=>by cases h⟩
 ·exact trodAll_cons_mk (shut_bool underlying4 _) trodAll_mk0
 ·exact(trodAll_cons_mk (Below.trod laidOut (by kernel_rfl) (Q4 (by kernel_rfl)) IZ hb (fun x hx=>hlt x (by simp only[EG];simp[hx]))) (trodAll_cons_mk (Below.trod laidOut (by kernel_rfl) (Q4 (by kernel_rfl)) EX hb (fun x hx=>hlt x (by simp only[EG];simp[hx]))) trodAll_mk0))
 ·rfl
