/- SwTrod SweepKeepsWalk -/
import Derived.Test.YtmbbhdebddbhoaaGreatQ47
set_option maxRecDepth 100000
set_option linter.all false
namespace Go.Proofs.YtmbbhdebddbhoaaGreat
open Tryz hiding t1 t2
namespace Hv
open Go.RowKit Go.WideShapes Go.ChangeShapes Go.Deep
open Wal Fil Prs Kp BH Hex Sha Al Mem Dep
open Man
theorem aqz{H:Type}{enc:TypeId×Value→H}{W:World}{base:Nat}{sp:Nat→Bool}{hd:Bool}{n:Nat}{cs:List Value}{y:DataW H×List MemPlace}(q:Addr)
  (hc:W.cells? base q 2=some cs)(h:DataW.trod enc prog W base sp hd n 75 cs=some y)(hz:∀ n∈DataW.weights prog 75 y.1,n≤reachBytes):
  ∃ x:List UInt8×List UInt8,KV W q x∧x.1.length≤reachBytes∧x.2.length≤reachBytes:=by
 obtain⟨_,hl,hat⟩:=World.cells?_some hc;obtain⟨xs,n',_,rfl,_,hxl,hf⟩:=DataW.trod_struct underlying75 h;have o2:prog.cellsOf 9=1:=by kernel_rfl
 have acJ:xs.length=2:=hxl;have g0:DataW.trod enc prog W base sp hd n' 9 ((cs.drop 0).take (prog.cellsOf 9))=xs[0]? :=hf 0 _ rfl;have g1:DataW.trod enc prog W base sp hd n' 9 ((cs.drop 1).take (prog.cellsOf 9))=xs[1]? :=hf 1 _ rfl;rw[o2,Po hl _ (by omega),BP (by omega)] at g0 g1;obtain⟨v0,e0,y0,_⟩:=DataW.trod_string underlying9 g0;obtain⟨v1,e1,y1,_⟩:=DataW.trod_string underlying9 g1;have cell:∀ j (hj:j < 2) v,[cs[j]'(by omega)]=[v]→W.cell? (q.add j)=some v:=fun j hj v e=>by
  rw[hat j hj,BP (by omega)];simpa using e
 refine⟨(v0.data.toList,v1.data.toList),⟨by have:=cell 0 (by omega) _ e0;rwa[add_zero'] at this,by have:=cell 1 (by omega) _ e1;exact this⟩,?_,?_⟩
 ·refine hz _ ?_;simp only[DataW.weights,underlying75];refine DataW.weights_mem_each (j:=0) (t:=9) (d:=.lit (.string v0.data.toList)) rfl ?_ _ (by simp[DataW.weights]);rw[Gt,BP (by omega),y0];rfl
 ·refine hz _ ?_;simp only[DataW.weights,underlying75];refine DataW.weights_mem_each (j:=1) (t:=9) (d:=.lit (.string v1.data.toList)) rfl ?_ _ (by simp[DataW.weights]);rw[Gt,BP (by omega),y1];rfl
theorem aqA{H:Type}{enc:TypeId×Value→H}{W:World}{n:Nat}{cs:List Value}{y:DataW H×List MemPlace}
  (h:DataW.trod enc prog W 0 (fun _=>true) true n 22 cs=some y)(hz:∀ n∈DataW.weights prog 22 y.1,n≤reachBytes):
  ∃ (a:Option Addr) (cap:Nat) (l:List (List UInt8×List UInt8)),cs=[.slice a l.length cap]∧Av W a l∧l.length≤maxLen∧∀ x∈l,x.1.length≤reachBytes∧x.2.length≤reachBytes:=by
 rcases Go.Deep.open_slice underlying22 h with⟨rfl,_⟩|⟨a,len,cap,m,k,D,Pl,rfl,_,hl,hm,hmm,hx,hi⟩
 ·exact⟨none,0,[],rfl,fun i hi=>by simp at hi,by simp,by simp⟩
 ·have hC:prog.cellsOf 75=2:=by kernel_rfl
  rw[hC] at hi;have hlm:len≤m:=by rw[hmm];split<;>omega
  obtain⟨l,hll,hP⟩:=WE (P:=fun i x=>KV W (a.add (i*2)) x∧x.1.length≤reachBytes∧x.2.length≤reachBytes) len (fun i hil=>by
   obtain⟨cs',h1,h2⟩:=hi i (by omega)
   exact aqz _ h1 h2 (fun k hk=>hz k (by
    rw[hx];simp only[DataW.weights,underlying22];exact Dh _ (List.mem_append_left _ (Zq (AV.2 ⟨i,List.mem_range.2 hil,rfl⟩) hk)))))
  refine⟨some a,cap,l,by rw[hll],fun i hil=>⟨a,rfl,(hP i hil).1⟩,by omega,fun x hxm=>?_⟩;obtain⟨i,hil,rfl⟩:=List.getElem_of_mem hxm;exact(hP i hil).2
theorem aqB{H:Type}{enc:TypeId×Value→H}{W:World}{n:Nat}{cs:List Value}{y:DataW H×List MemPlace}(q:Addr)
  (hc:W.cells? 0 q 2=some cs)(h:DataW.trod enc prog W 0 (fun _=>true) true n 77 cs=some y)(hz:∀ n∈DataW.weights prog 77 y.1,n≤reachBytes):
  ∃ x:List UInt8×List (List UInt8),TW W q x∧x.1.length≤reachBytes∧x.2.length≤maxLen:=by
 obtain⟨_,hl,hat⟩:=World.cells?_some hc;obtain⟨xs,n',_,rfl,_,hxl,hf⟩:=DataW.trod_struct underlying77 h;have o2:prog.cellsOf 9=1:=by kernel_rfl
 have o3:prog.cellsOf 27=1:=by kernel_rfl
 have acJ:xs.length=2:=hxl;have g0:DataW.trod enc prog W 0 (fun _=>true) true n' 9 ((cs.drop 0).take (prog.cellsOf 9))=xs[0]? :=hf 0 _ rfl;have g1:DataW.trod enc prog W 0 (fun _=>true) true n' 27 ((cs.drop 1).take (prog.cellsOf 27))=xs[1]? :=hf 1 _ rfl;rw[o2,Po hl _ (by omega),BP (by omega)] at g0;rw[o3,Po hl _ (by omega),BP (by omega)] at g1;obtain⟨v0,e0,y0,_⟩:=DataW.trod_string underlying9 g0
 obtain⟨v1,l1,e1,t1⟩:=adr g1 (fun k hk=>hz k (by
  simp only[DataW.weights,underlying77];refine DataW.weights_mem_each (j:=1) (t:=27) (d:=(xs[1]'(by omega)).1) rfl ?_ _ hk;rw[Gt,BP (by omega)];rfl))
 have cell:∀ j (hj:j < 2) v,[cs[j]'(by omega)]=[v]→W.cell? (q.add j)=some v:=fun j hj v e=>by
  rw[hat j hj,BP (by omega)];simpa using e
 obtain⟨⟨kq,kc,rfl,ht,hq⟩,hlen,_⟩:=t1;refine⟨(v0.data.toList,l1),⟨by have:=cell 0 (by omega) _ e0;rwa[add_zero'] at this,kq,kc,by have:=cell 1 (by omega) _ e1;exact this,ht,hq⟩,?_,hlen⟩;refine hz _ ?_;simp only[DataW.weights,underlying77];refine DataW.weights_mem_each (j:=0) (t:=9) (d:=.lit (.string v0.data.toList)) rfl ?_ _ (by simp[DataW.weights]);rw[Gt,BP (by omega),y0];rfl
theorem aqC{H:Type}{enc:TypeId×Value→H}{W:World}{n:Nat}{cs:List Value}{y:DataW H×List MemPlace}
  (h:DataW.trod enc prog W 0 (fun _=>true) true n 23 cs=some y)(hz:∀ n∈DataW.weights prog 23 y.1,n≤reachBytes):
  ∃ (a:Option Addr) (cap:Nat) (l:List (List UInt8×List (List UInt8))),cs=[.slice a l.length cap]∧IJ W a l∧l.length≤maxLen∧∀ x∈l,x.1.length≤reachBytes∧x.2.length≤maxLen:=by
 rcases Go.Deep.open_slice underlying23 h with⟨rfl,_⟩|⟨a,len,cap,m,k,D,Pl,rfl,_,hl,hm,hmm,hx,hi⟩
 ·exact⟨none,0,[],rfl,fun i hi=>by simp at hi,by simp,by simp⟩
 ·have hC:prog.cellsOf 77=2:=by kernel_rfl
  rw[hC] at hi;have hlm:len≤m:=by rw[hmm];split<;>omega
  obtain⟨l,hll,hP⟩:=WE (P:=fun i x=>TW W (a.add (i*2)) x∧x.1.length≤reachBytes∧x.2.length≤maxLen) len (fun i hil=>by
   obtain⟨cs',h1,h2⟩:=hi i (by omega)
   exact aqB _ h1 h2 (fun k hk=>hz k (by
    rw[hx];simp only[DataW.weights,underlying23];exact Dh _ (List.mem_append_left _ (Zq (AV.2 ⟨i,List.mem_range.2 hil,rfl⟩) hk)))))
  refine⟨some a,cap,l,by rw[hll],fun i hil=>⟨a,rfl,(hP i hil).1⟩,by omega,fun x hxm=>?_⟩;obtain⟨i,hil,rfl⟩:=List.getElem_of_mem hxm;exact(hP i hil).2
theorem aqD{H:Type}{enc:TypeId×Value→H}{W:World}{n:Nat}{cs:List Value}{y:DataW H×List MemPlace}
  (h:DataW.trod enc prog W 0 (fun _=>true) true n 24 cs=some y)(hz:∀ n∈DataW.weights prog 24 y.1,n≤reachBytes):
  ∃ (a:Option Addr) (cap:Nat) (l:List Af),cs=[.slice a l.length cap]∧D7 W a l∧l.length≤maxLen∧∀ x∈l,x.name.length≤reachBytes∧x.data.length≤reachBytes:=by
 rcases Go.Deep.open_slice underlying24 h with⟨rfl,_⟩|⟨a,len,cap,m,k,D,Pl,rfl,_,hl,hm,hmm,hx,hi⟩
 ·exact⟨none,0,[],rfl,fun i hi=>by simp at hi,by simp,by simp⟩
 ·have hC:prog.cellsOf 65=3:=by kernel_rfl
  rw[hC] at hi;have hlm:len≤m:=by rw[hmm];split<;>omega
  obtain⟨l,hll,hP⟩:=WE (P:=fun i x=>Mq W (a.add (i*3)) x∧x.name.length≤reachBytes∧x.data.length≤reachBytes) len (fun i hil=>by
   obtain⟨cs',h1,h2⟩:=hi i (by omega)
   exact ani _ h1 h2 (fun k hk=>hz k (by
    rw[hx];simp only[DataW.weights,underlying24];exact Dh _ (List.mem_append_left _ (Zq (AV.2 ⟨i,List.mem_range.2 hil,rfl⟩) hk)))))
  refine⟨some a,cap,l,by rw[hll],fun i hil=>⟨a,rfl,(hP i hil).1⟩,by omega,fun x hxm=>?_⟩;obtain⟨i,hil,rfl⟩:=List.getElem_of_mem hxm;exact(hP i hil).2
theorem aqE{H:Type}{enc:TypeId×Value→H}{W:World}{base:Nat}{v:Value}{d:DataW H}{p:List MemPlace}
  (ho:Value.okWide prog W .any base 26 v)(h:DataW.Trod enc prog W 0 (fun _=>true) true 26 v d p)(hz:∀ n∈DataW.weights prog 26 d,(decide (n≤reachBytes))=true):
  ∃ (N:Int) (a ua fa:Option Addr) (cap uc fc:Nat) (l:List (List UInt8×List UInt8)) (us:List (List UInt8×List (List UInt8))) (fs:List Af),v=.agg #[.int .i64 N,.slice a l.length cap,.slice ua us.length uc,.slice fa fs.length fc]∧
   (Av W a l∧l.length≤maxLen∧∀ x∈l,x.1.length≤reachBytes∧x.2.length≤reachBytes)∧(IJ W ua us∧us.length≤maxLen∧∀ x∈us,x.1.length≤reachBytes∧x.2.length≤maxLen)∧(D7 W fa fs∧fs.length≤maxLen∧∀ x∈fs,x.name.length≤reachBytes∧x.data.length≤reachBytes):=by
 obtain⟨cs,rfl,hcs⟩:=okWide_struct underlying26 ho;have hc3:cs.size=4:=hcs.trans (by kernel_rfl);obtain⟨fuel,hf0⟩:=h;have hf1:DataW.trod enc prog W 0 (fun _=>true) true fuel 26 cs.toList=some (d,p):=hf0;have hl:cs.toList.length=4:=by simpa using hc3
 obtain⟨xs,n',_,hxe,_,hxl,hf⟩:=DataW.trod_struct underlying26 hf1;have o0:prog.cellsOf 3=1:=by kernel_rfl
 have o1:prog.cellsOf 22=1:=by kernel_rfl
 have o2:prog.cellsOf 23=1:=by kernel_rfl
 have o3:prog.cellsOf 24=1:=by kernel_rfl
 have aso:xs.length=4:=hxl;have g0:DataW.trod enc prog W 0 (fun _=>true) true n' 3 ((cs.toList.drop 0).take (prog.cellsOf 3))=xs[0]? :=hf 0 _ rfl;have g1:DataW.trod enc prog W 0 (fun _=>true) true n' 22 ((cs.toList.drop 1).take (prog.cellsOf 22))=xs[1]? :=hf 1 _ rfl;have g2:DataW.trod enc prog W 0 (fun _=>true) true n' 23 ((cs.toList.drop 2).take (prog.cellsOf 23))=xs[2]? :=hf 2 _ rfl;have g3:DataW.trod enc prog W 0 (fun _=>true) true n' 24 ((cs.toList.drop 3).take (prog.cellsOf 24))=xs[3]? :=hf 3 _ rfl;rw[o0,Po hl _ (by omega),BP (by omega)] at g0;rw[o1,Po hl _ (by omega),BP (by omega)] at g1;rw[o2,Po hl _ (by omega),BP (by omega)] at g2;rw[o3,Po hl _ (by omega),BP (by omega)] at g3;obtain⟨v0,e0,_,w0⟩:=DataW.trod_int underlying3 g0;have hd:d=.agg (xs.map (·.1)):=congrArg Prod.fst hxe
 obtain⟨a,cap,l,e1,t1⟩:=aqA g1 (fun k hk=>Ld (hz k (by
  rw[hd];simp only[DataW.weights,underlying26];refine DataW.weights_mem_each (j:=1) (t:=22) (d:=(xs[1]'(by omega)).1) rfl ?_ _ hk;rw[Gt,BP (by omega)];rfl)))
 obtain⟨ua,uc,us,e2,t2⟩:=aqC g2 (fun k hk=>Ld (hz k (by
  rw[hd];simp only[DataW.weights,underlying26];refine DataW.weights_mem_each (j:=2) (t:=23) (d:=(xs[2]'(by omega)).1) rfl ?_ _ hk;rw[Gt,BP (by omega)];rfl)))
 obtain⟨fa,fc,fs,e3,t3⟩:=aqD g3 (fun k hk=>Ld (hz k (by
  rw[hd];simp only[DataW.weights,underlying26];refine DataW.weights_mem_each (j:=3) (t:=24) (d:=(xs[3]'(by omega)).1) rfl ?_ _ hk;rw[Gt,BP (by omega)];rfl)))
 refine⟨v0,a,ua,fa,cap,uc,fc,l,us,fs,?_,t1,t2,t3⟩;have e:cs.toList=[.int .i64 v0,.slice a l.length cap,.slice ua us.length uc,.slice fa fs.length fc]:=by
  apply List.ext_getElem (by rw[hl];rfl);intro i hi _;have hi3:i < 4:=by omega
  match i,hi3 with
  |0,_=>simpa using e0
  |1,_=>simpa using e1
  |2,_=>simpa using e2
  |3,_=>simpa using e3
 obtain⟨LL⟩:=cs;simp only at e;rw[e]
end Hv
section
open Go.RowKit Go.Maps
open Wal Fil Prs Kp BH Hex Sha Al Mem Dep GL Hv
open Man hiding T
theorem sweepKeeps_any{base:Nat}{H:Type}{enc:TypeId×Value→H}(w:World)(v:Value)(d:DataW H)(p:List MemPlace)
  (ho:Value.okWide prog w .any base 26 v)(h:DataW.Trod enc prog w 0 (fun _=>true) true 26 v d p)(hz:∀ n∈DataW.weights prog 26 d,(decide (n≤reachBytes))=true)
  (v2:Value)(d2:DataW H)(p2:List MemPlace)
  (ho2:Value.okWide prog w .any base 27 v2)(h2:DataW.Trod enc prog w 0 (fun _=>true) true 27 v2 d2 p2)(hz2:∀ n∈DataW.weights prog 27 d2,(decide (n≤reachBytes))=true):
  Calls prog 3 #[v,v2] w fun e w'=>e=.returned (.bool true)∧Bw w w':=by
 obtain⟨N,a,ua,fa,cap,uc,fc,l,us,fs,rfl,⟨l1,l2,l3⟩,⟨u1,u2,u3⟩,⟨f1,f2,f3⟩⟩:=aqE ho h hz;obtain⟨roots,⟨qr,cr,rfl,hT,_⟩,hl,_⟩:=ao1 ho2 h2 hz2;exact aq5 aqr l1 l2 l3 u1 u2 u3 f1 f2 f3 hT hl
end
end Go.Proofs.YtmbbhdebddbhoaaGreat
