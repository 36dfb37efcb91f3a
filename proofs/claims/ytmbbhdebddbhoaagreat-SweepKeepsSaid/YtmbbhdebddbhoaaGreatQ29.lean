/- PrsDel -/
import Derived.Test.YtmbbhdebddbhoaaGreatQ23
import Derived.Lib.SliceRun
set_option maxHeartbeats 4000000
set_option maxRecDepth 100000
set_option linter.all false
namespace Go.Proofs.YtmbbhdebddbhoaaGreat
open Tryz
namespace Prs
open Go.RowKit Go.Maps
open Fil Man
def Ro(K:World→Prop)(v:Value)(f:T×T→Bool):Prop:=
 ∃ F recv Im,v=.func (.func F) recv Im∧(∀ args w,(callFunc F args).run prog w=.ok (.enter F args) w)∧
  ∀ W p,K W→Calls prog F (recv++ #[.agg #[.string (bs p.1),.string (bs p.2)]]++Im) W fun e W'=>e=.returned (.bool (f p))∧Bw W W'
def KZ(f:T×T→Bool)(l:M):Int:=match l.findIdx? f with
 |some i=>(i:Int)
 |none=> -1
theorem alO{f:T×T→Bool}{l:M}{k:Nat}(hk:k < l.length)(h:f l[k]=true)(hn:∀ j (hj:j < k),f (l[j]'(by omega))=false):KZ f l=(k:Int):=by
 have:l.findIdx? f=some k:=List.findIdx?_eq_some_iff_getElem.2 ⟨hk,h,fun j hj=>by rw[hn j hj];decide⟩;unfold KZ;rw[this]
theorem alP{f:T×T→Bool}{l:M}(hn:∀ j (hj:j < l.length),f l[j]=false):KZ f l= -1:=by
 have:l.findIdx? f=none:=List.findIdx?_eq_none_iff.2 fun x hx=>by
  obtain⟨i,hi,rfl⟩:=List.getElem_of_mem hx;exact hn i hi
 unfold KZ;rw[this]
theorem alQ(f:T×T→Bool)(l:M):decide (0≤KZ f l)=l.any f:=by
 unfold KZ;cases h:l.findIdx? f with
 |none=>
  have:=List.findIdx?_eq_none_iff.1 h;have e:l.any f=false:=by simpa using this
  rw[e];rfl
 |some i=>
  obtain⟨hi,h1,_⟩:=List.findIdx?_eq_some_iff_getElem.1 h;have e:l.any f=true:=List.any_eq_true.2 ⟨_,BF hi,h1⟩;rw[e];simp
theorem alR(f:T×T→Bool)(l:M):(KZ f l= -1∧l.filter (fun x=>!f x)=l)∨∃ k,∃ hk:k < l.length,KZ f l=(k:Int)∧f l[k]=true∧∀ j (hj:j < k),f (l[j]'(by omega))=false:=by
 unfold KZ;cases h:l.findIdx? f with
 |none=>
  refine .inl ⟨rfl,List.filter_eq_self.2 fun x hx=>?_⟩;rw[List.findIdx?_eq_none_iff.1 h x hx];rfl
 |some k=>
  obtain⟨hk,h1,h2⟩:=List.findIdx?_eq_some_iff_getElem.1 h;exact .inr ⟨k,hk,rfl,h1,fun j hj=>by simpa using h2 j hj⟩
theorem ng{w:World}{K:World→Prop}{v:Value}{f:T×T→Bool}{a:Option Addr}{l:M}(cap:Nat)(hl:Av w a l)(hf:Ro K v f)(hK:∀ W,Bw w W→K W)(hlen:l.length≤1000000000):
  Calls prog 145 #[.slice a l.length cap,v] w fun e w'=>e=.returned (.int .i64 (KZ f l))∧Bw w w':=by
 obtain⟨F,recv,Im,rfl,auy,auL⟩:=hf;have HL:=Hi hl;have HC:=Hi auL;have HK:=Hi hK;clear hl auL hK;go_enter func145,ntmps145;go_wp2_with fail
 go_loopw [5,8] (fun _ i wr=>∃ k:Nat,k≤l.length∧i=.int .i64 k∧Bw w wr∧∀ j (hj:j < k),(h:j < l.length)→f l[j]=false) (fun _ i _=>l.length -(intOf i).toNat)
 case atStart=>exact⟨0,Ar _,rfl,Ad _ _,fun j hj=>by omega⟩
 case round=>
  obtain⟨k,hk,rfl,hb,hno⟩:=hrel;have Dc:=Hi hno;have HB:=Hi hb;clear hno;by_cases hlt:k < l.length
  ·obtain⟨q,hix,hq,-⟩:=(HL.below hb).index cap k hlt;have c0:=hq.key;have c1:=hq.val;have hcl:=HC wr l[k] (HK wr hb);have Sz:=Hi (show f l[k]=true→KZ f l=(k:Int) from fun h=>alO hlt h (fun j hj=>Dc j hj (by omega)))
   have Eg:=Hi (show f l[k]=false→∀ j (hj:j < k+1),(h:j < l.length)→f l[j]=false from fun h j hj h'=>by
    by_cases e:j=k
    ·subst e;exact h
    ·exact Dc j (by omega) h')
   generalize l[k]=x at*;have D6:=Hi hcl;clear hcl hq hb;go_wp2_with fail;refine D6.mono ?_;rintro e w1⟨rfl,hb1⟩;have HB1:=Hi (HB.trans (hb1.mono HB.size));generalize f x=s at*;clear hb1;cases s with
   |true=>
    have HI2:=Hi (Sz rfl);clear Sz Eg;go_wp2_with fail;go_ret;exact⟨by rw[HI2.out];rfl,HB1⟩
   |false=>
    have HN:=Hi (Eg rfl);clear Sz Eg;go_wp2_with fail;go_roundw
    case rel=>exact⟨k+1,by omega,by go_num,HB1,HN⟩
    case measure=>simp[intOf];omega
  ·obtain rfl:k=l.length:=(by omega);have HN:=Hi (show KZ f l= -1 from alP (fun j hj=>Dc j hj hj));clear hb;go_wp2_with fail;go_ret;exact⟨by rw[HN.out];rfl,HB⟩
theorem alS{w:World}{K:World→Prop}{v:Value}{f:T×T→Bool}{a:Option Addr}{l:M}(cap:Nat)(hl:Av w a l)(hf:Ro K v f)(hK:∀ W,Bw w W→K W)(hlen:l.length≤1000000000):
  Calls prog 108 #[.slice a l.length cap,v] w fun e w'=>e=.returned (.bool (l.any f))∧Bw w w':=by
 have HI:=Hi (ng cap hl hf hK hlen);have HE:=Hi (alQ f l);clear hl hf hK;generalize KZ f l=i at*;go_enter func108,ntmps108;go_wp2_with fail;refine HI.mono ?_;rintro e w1⟨rfl,hb⟩;have HB:=Hi hb;clear hb;go_wp2_with fail;go_ret;exact⟨by rw[←HE.out];rfl,HB⟩
theorem alT(w:World)(ty:TypeId)(b o n c:Nat)(hn:0 < n)(hc:∀ j,j < n*2→(w.cell? ⟨b,o+j,none⟩).isSome=true)(hf:∀ j,j < n*2→w.frozen? ⟨b,o+j,none⟩=false):
  (Builtin.clear_ #[22] ty #[.slice (some ⟨b,o,none⟩) n c]).run prog w=.ok (.tuple #[]) (w.setCells b o (List.replicate (n*2) (.string ByteArray.empty))):=by
 have hzc:(Builtin.zeroCells (Value.agg #[.string ByteArray.empty,.string ByteArray.empty]).cells n).toList=List.replicate (n*2) (.string ByteArray.empty):=by
  simp[Builtin.zeroCells,Value.cells];apply List.ext_getElem
  ·simp
  ·intro i h1 h2;simp;rcases Nat.mod_two_eq_zero_or_one i with e|e<;>simp[e]
 have hst:=run_storeCells_cells (P:=prog) b o (List.replicate (n*2) (.string ByteArray.empty)) 0 w (by simpa using hc) (by simpa using hf) (by intro v hv';rw[List.eq_of_mem_replicate hv'];rfl);simp only[Nat.add_zero] at hst;obtain⟨m,rfl⟩:∃ m,n=m+1:=⟨n -1,by omega⟩;have alU:(Builtin.zeroCells (Value.agg #[.string { data:=#[] },.string { data:=#[] }]).cells (m+1)).toList=List.replicate ((m+1)*2) (.string ByteArray.empty):=hzc;simp[Builtin.clear_,ER underlying22,Tryz.zeroValue75];rw[alU,hst];rfl
theorem alV(C:Array Value)(a:Nat)(x y:Value)(t:Nat)(ha:a+1 < C.size):((C.setIfInBounds a x).setIfInBounds (a+1) y)[t]?=if t=a+1 then some y else if t=a then some x else C[t]? :=by
 rw[Array.getElem?_setIfInBounds];by_cases e1:a+1=t
 ·subst e1;rw[Ac rfl,Ac rfl,Ac (by rw[Array.size_setIfInBounds];exact ha)]
 ·have e1':¬ t=a+1:=fun h=>e1 h.symm
  rw[Aa e1,Aa e1',Array.getElem?_setIfInBounds];by_cases e2:a=t
  ·subst e2;rw[Ac rfl,Ac rfl,Ac (by omega)]
  ·have e2':¬ t=a:=fun h=>e2 h.symm
   rw[Aa e2,Aa e2']
structure Jq(w wr:World)(g cap:Nat)(f:T×T→Bool)(l:M)(i j:Nat):Prop where
 upd:A7 (fun k=>k=g) w wr
 blk:∃ cur,wr.heap[g]?=some (.cells cur 75 (0,0))∧cur.size=cap*2
 kept:i=((l.take j).filter (fun x=>!f x)).length
 front:∀ t (h:t < ((l.take j).filter (fun x=>!f x)).length),KV wr ⟨g,t*2,none⟩ (((l.take j).filter (fun x=>!f x))[t])
 back:∀ t,j≤t→(h:t < l.length)→KV wr ⟨g,t*2,none⟩ l[t]
 lt:i < j
 le:j≤l.length
 cap:l.length≤cap
theorem abf{f:T×T→Bool}{l:M}{j:Nat}(h:j < l.length)(hf:f l[j]=true):(l.take (j+1)).filter (fun x=>!f x)=(l.take j).filter (fun x=>!f x):=by
 rw[BS h,O1];simp[hf]
theorem alW{f:T×T→Bool}{l:M}{j:Nat}(h:j < l.length)(hf:f l[j]=false):(l.take (j+1)).filter (fun x=>!f x)=(l.take j).filter (fun x=>!f x)++[l[j]]:=by
 rw[BS h,O1];simp[hf]
section
variable {w wr wr':World}{g cap:Nat}{f:T×T→Bool}{l:M}{i j:Nat}
theorem Jq.below(h:Jq w wr g cap f l i j)(hb:Bw wr wr'):Jq w wr' g cap f l i j:=by
 obtain⟨cur,hc,hs⟩:=h.blk;exact⟨h.upd.trans (ub hb) (fun _ f=>f.elim),⟨cur,(hb.block g (Ae hc)).trans hc,hs⟩,h.kept,fun t ht=>(h.front t ht).upd (ub hb) (fun f=>f),fun t ht hl=>(h.back t ht hl).upd (ub hb) (fun f=>f),h.lt,h.le,h.cap⟩
theorem Jq.strike(h:Jq w wr g cap f l i j)(hj:j < l.length)(hf:f l[j]=true):Jq w wr g cap f l i (j+1):=by
 have e:=abf hj hf;exact⟨h.upd,h.blk,by rw[e];exact h.kept,fun t ht=>by simp only[e];exact h.front t (by rw[e] at ht;exact ht),fun t ht hl=>h.back t (by omega) hl,by have:=h.lt;omega,hj,h.cap⟩
theorem Jq.keep(h:Jq w wr g cap f l i j)(hj:j < l.length)(hf:f l[j]=false):Jq w ((wr.setCell ⟨g,i*2,none⟩ (.string (bs l[j].1))).setCell ⟨g,i*2+1,none⟩ (.string (bs l[j].2))) g cap f l (i+1) (j+1):=by
 have e:=alW hj hf;obtain⟨cur,hb,hs⟩:=h.blk;have hlt:=h.lt;have hle:=h.le;have hcp:=h.cap;have alX:=Bh wr g (i*2) _ _ (.string (bs l[j].1)) hb;have asR:=Bh _ g (i*2+1) _ _ (.string (bs l[j].2)) alX;have atE:∀ t,((wr.setCell ⟨g,i*2,none⟩ (.string (bs l[j].1))).setCell ⟨g,i*2+1,none⟩ (.string (bs l[j].2))).cell? ⟨g,t,none⟩=if t=i*2+1 then some (.string (bs l[j].2)) else if t=i*2 then some (.string (bs l[j].1)) else wr.cell? ⟨g,t,none⟩:=fun t=>by
  rw[AY _ g _ _ _ _ asR,AY _ g _ _ _ _ hb];exact alV cur (i*2) _ _ t (by omega)
 have hk:=h.kept;have stay:∀ t (p:T×T),t≠i→KV wr ⟨g,t*2,none⟩ p→KV ((wr.setCell ⟨g,i*2,none⟩ (.string (bs l[j].1))).setCell ⟨g,i*2+1,none⟩ (.string (bs l[j].2))) ⟨g,t*2,none⟩ p:=fun t p hne hp=>
  ⟨by rw[atE,Aa (by omega),Aa (by omega)];exact hp.key,by show World.cell? _ ⟨g,t*2+1,none⟩=_;rw[atE,Aa (by omega),Aa (by omega)];exact hp.val⟩
 refine⟨(h.upd.setCell (p:=⟨g,i*2,none⟩) (.inl rfl) _).setCell (p:=⟨g,i*2+1,none⟩) (.inl rfl) _,⟨_,asR,by rw[Array.size_setIfInBounds,Array.size_setIfInBounds];exact hs⟩,by rw[e,Aj];simp;omega,fun t ht=>?_,fun t ht hl=>stay t _ (by omega) (h.back t (by omega) hl),by omega,hj,hcp⟩;simp only[e];rw[e,Aj] at ht;simp only[AX,FN] at ht;by_cases ht2:t=i
 ·subst ht2;rw[Qm (by omega)];simp only[hk,Nat.sub_self,List.getElem_cons_zero];rw[←hk];exact⟨by rw[atE,Aa (by omega),Ac rfl],by show World.cell? _ ⟨g,t*2+1,none⟩=_;rw[atE,Ac rfl]⟩
 ·rw[O3 (by omega)];exact stay t _ ht2 (h.front t (by omega))
theorem Jq.cells(h:Jq w wr g cap f l i j):(∀ t,t < cap*2→(wr.cell? ⟨g,t,none⟩).isSome=true)∧∀ t,wr.frozen? ⟨g,t,none⟩=false:=by
 obtain⟨cur,hb,hs⟩:=h.blk;refine⟨fun t ht=>?_,fun t=>Cb wr g t _ _ hb⟩;rw[AY wr g _ _ _ _ hb,RG (by omega)];rfl
end
theorem abg(b:Nat):∀ (vs:List Value) (o:Nat) (w:World) (cur:Array Value),w.heap[b]?=some (.cells cur 75 (0,0))→∃ cur',(w.setCells b o vs).heap[b]?=some (.cells cur' 75 (0,0))∧cur'.size=cur.size
 |[],_,_,cur,h=>⟨cur,h,rfl⟩
 |v :: r,o,w,cur,h=>by
  obtain⟨c2,h2,s2⟩:=abg b r (o+1) (w.setCell ⟨b,o,none⟩ v) (cur.setIfInBounds o v) (Bh w b o _ _ v h);exact⟨c2,h2,by rw[s2,Array.size_setIfInBounds]⟩
theorem alY{w:World}{g cap:Nat}{f:T×T→Bool}{l:M}{k:Nat}(hb:∃ cur,w.heap[g]?=some (.cells cur 75 (0,0))∧cur.size=cap*2)(hl:∀ t,(h:t < l.length)→KV w ⟨g,t*2,none⟩ l[t])(hc:l.length≤cap)(hk:k < l.length)(hf:f l[k]=true)(hn:∀ j (hj:j < k),f (l[j]'(by omega))=false):Jq w w g cap f l k (k+1):=by
 have e0:(l.take k).filter (fun x=>!f x)=l.take k:=List.filter_eq_self.2 fun x hx=>by
  obtain⟨i,hi,rfl⟩:=List.getElem_of_mem hx;rw[Aw] at hi;rw[List.getElem_take,hn i (by omega)];rfl
 have e:=(abf hk hf).trans e0;refine⟨A7.refl _ _,hb,by rw[e,Aw];omega,fun t ht=>?_,fun t ht h=>hl t h,by omega,hk,hc⟩;simp only[e];rw[e,Aw] at ht;rw[List.getElem_take];exact hl t (by omega)
theorem alZ{w:World}{base:Nat}{g n cap:Nat}{l:M}(h:AP w base (.slice (some ⟨g,0,none⟩) n cap) l)(t:Nat)(ht:t < l.length):KV w ⟨g,t*2,none⟩ l[t]:=by
 obtain⟨p,e,hp⟩:=(Av.BU h) t ht;cases e;rwa[add_plain] at hp
theorem am0{w:World}{base g cap:Nat}{cur:Array Value}{l:M}(hg:w.heap[g]?=some (.cells cur 75 (0,0)))(hs:cur.size=cap*2)(hb:base≤g)(hc:l.length≤cap)(hm:cap≤maxLen)(hl:∀ t,(h:t < l.length)→KV w ⟨g,t*2,none⟩ l[t]):AP w base (.slice (some ⟨g,0,none⟩) l.length cap) l:=by
 refine⟨Ve l,.inr ⟨g,cap,cur,rfl,hb,hg,hc,hm,hs,?_⟩⟩;apply List.ext_getElem?;intro j;by_cases hj:j < l.length*2
 ·obtain⟨i,r,hr,rfl⟩:∃ i r,r < 2∧j=i*2+r:=⟨j / 2,j % 2,by omega,by omega⟩;have hi:i < l.length:=by omega
  rw[aN l i hi r hr,List.getElem?_take,Ac (by omega),CB];have hp:=hl i hi;have h0:=hp.key;have h1:=hp.val;rw[AY w g _ _ _ _ hg] at h0;have h1':w.cell? ⟨g,i*2+1,none⟩=some (.string (bs l[i].2)):=h1;rw[AY w g _ _ _ _ hg] at h1'
  match r,hr with
  |0,_=>simpa using h0
  |1,_=>simpa using h1'
 ·rw[List.getElem?_eq_none (by rw[Aw];omega),List.getElem?_eq_none (by rw[Ve];omega)]
theorem am1{w:World}{base g cap:Nat}{K:World→Prop}{v:Value}{f:T×T→Bool}{l:M}(h:AP w base (.slice (some ⟨g,0,none⟩) l.length cap) l)(hf:Ro K v f)(hK:∀ W,A7 (fun k=>k=g) w W→K W)(hlen:l.length≤1000000):
  Calls prog 68 #[.slice (some ⟨g,0,none⟩) l.length cap,v] w fun e w'=>
   e=.returned (.slice (some ⟨g,0,none⟩) (l.filter fun x=>!f x).length cap)∧AP w' base (.slice (some ⟨g,0,none⟩) (l.filter fun x=>!f x).length cap) (l.filter fun x=>!f x)∧A7 (fun k=>k=g) w w':=by
 have ast:=h;obtain⟨cur,hgb,hgg,hcl,hcm,hcs⟩:∃ cur,base≤g∧w.heap[g]?=some (.cells cur 75 (0,0))∧l.length≤cap∧cap≤maxLen∧cur.size=cap*2:=by
  rcases h.2 with⟨e1,_⟩|⟨g',cap',cur,e1,h1,h2,h3,h4,h5,_⟩
  ·cases e1
  ·injection e1 with e2 _ e3
   injection e2 with e4
   injection e4 with e5
   subst e5;subst e3;exact⟨cur,h1,h2,h3,h4,h5⟩
 have hat:=Av.BU h;have HI:=Hi (ng cap hat hf (fun W hb=>hK W (A7.of_below hb)) (by omega));obtain⟨F,recv,Im,rfl,auy,auL⟩:=hf;rcases alR f l with⟨e1,e2⟩|⟨k0,hk0,e1,e2,e3⟩
 ·rw[e1] at HI;have HR:=Hi ast;have HE:=Hi e2;clear h hK hat auy auL e1 e2 ast hgg;go_enter func68,ntmps68;go_wp2_with fail;refine HI.mono ?_;rintro e w1⟨rfl,hb⟩;have HB:=Hi hb;clear hb;go_wp2_with fail;go_ret;refine⟨by rw[HE.out];rfl,by rw[HE.out];exact Bp HR HB,A7.of_below HB⟩
 ·rw[e1] at HI;have HST:=Hi (alY ⟨cur,hgg,hcs⟩ (fun t ht=>alZ ast t ht) hcl hk0 e2 e3);have HC:=Hi auL;have HK:=Hi hK;have HGB:=Hi hgb;have HCM:=Hi hcm;clear h hK hat auL e1 e2 e3 ast hgg hcs hgb hcm;go_enter func68,ntmps68;go_wp2_with fail;refine HI.mono ?_;rintro e w1⟨rfl,hb⟩;have EF:=Hi (HST.below hb);have Bb:=Hi (show Jq w w1 g cap f l k0 (k0+1) from EF.out);clear hb EF;go_wp2_with fail
  go_loopw [5,6] (fun i j wr=>∃ a b:Nat,i=.int .i64 a∧j=.int .i64 b∧Jq w wr g cap f l a b) (fun _ j _=>l.length -(intOf j).toNat)
  case atStart=>exact⟨k0,k0+1,rfl,by go_num,Bb⟩
  case round=>
   clear HST HI Bb;obtain⟨i,j,rfl,rfl,hst⟩:=hrel;have hij:=hst.lt;have hjl:=hst.le;by_cases hlt:j < l.length
   ·have hx:=hst.back j (Ab _) hlt;have hx0:=hx.key;have hx1:wr.cell? ⟨g,j*2+1,none⟩=some (.string (bs l[j].2)):=hx.val;have au8:=fun W=>Fw prog 22 75 underlying22 2 (by kernel_rfl) ⟨g,0,none⟩ l.length cap j hlt W
    have am3:=fun W=>Fw prog 22 75 underlying22 2 (by kernel_rfl) ⟨g,0,none⟩ l.length cap i (by omega) W
    simp only[add_plain] at au8 am3;have Bj:=Am wr (.cells #[.string (bs l[j].1),.string (bs l[j].2)] 75);have MM:=Hi (hst.below Bj);have D6:=Hi (HC (wr.alloc (.cells #[.string (bs l[j].1),.string (bs l[j].2)] 75)) l[j] (HK _ MM.upd));have HY:=Hi (fun(W:World) (hb:Below (wr.alloc (.cells #[.string (bs l[j].1),.string (bs l[j].2)] 75)).heap.size (wr.alloc (.cells #[.string (bs l[j].1),.string (bs l[j].2)] 75)) W)=>(show f l[j]=true→Jq w W g cap f l i (j+1) from(MM.below hb).strike hlt));have HN:=Hi (fun(W:World) (hb:Below (wr.alloc (.cells #[.string (bs l[j].1),.string (bs l[j].2)] 75)).heap.size (wr.alloc (.cells #[.string (bs l[j].1),.string (bs l[j].2)] 75)) W)=>(show f l[j]=false→Jq w ((W.setCell ⟨g,i*2,none⟩ (.string (bs l[j].1))).setCell ⟨g,i*2+1,none⟩ (.string (bs l[j].2))) g cap f l (i+1) (j+1) from(MM.below hb).keep hlt));have FZ:=Hi (fun(W:World) (hb:Below (wr.alloc (.cells #[.string (bs l[j].1),.string (bs l[j].2)] 75)).heap.size (wr.alloc (.cells #[.string (bs l[j].1),.string (bs l[j].2)] 75)) W)=>(MM.below hb).cells);have EC:=Hi (Aq wr (.cells #[.string (bs l[j].1),.string (bs l[j].2)] 75));clear hst hx Bj;generalize l[j]=x at*;go_wp2_with fail;refine D6.mono ?_;rintro e w2⟨rfl,hb2⟩;have Tm:=(hb2.block _ (Ae EC)).trans EC.out;have hv0:w2.cell? ⟨wr.heap.size,0,none⟩=some (.string (bs x.1)):=cr Tm;have hv1:w2.cell? ⟨wr.heap.size,1,none⟩=some (.string (bs x.2)):=cr Tm;obtain⟨Vv,Vw⟩:=FZ w2 hb2;have art:=Vw (i*2);have aru:=Vw (i*2+1)
    obtain⟨o0,ho0⟩:=JD.1 (Vv (i*2) (by omega));obtain⟨o1,ho1⟩:=JD.1 (Vv (i*2+1) (by omega));have Og:=Hi (HY w2 hb2);have Jh:=Hi (HN w2 hb2);clear hb2 Tm Vv Vw HY HN FZ D6;generalize f x=s at*;cases s with
    |true=>
     have Mt:=Hi (Og rfl);clear Og Jh;go_wp2_with fail;go_roundw
     case rel=>first
      |exact⟨i,j+1,rfl,by go_num,Mt⟩
      |(repeat apply Exists.intro
        refine⟨?_,rfl⟩;exact⟨i,j+1,rfl,by go_num,Mt⟩)
     case measure=>simp[intOf];omega
    |false=>
     have RS:=Hi (Jh rfl);clear Og Jh;go_wp2_with fail;refine⟨?_,?measure⟩
     ·repeat apply Exists.intro
      refine⟨?rel,rfl⟩
      case rel=>exact⟨i+1,j+1,by go_num,by go_num,RS⟩
     case measure=>simp[intOf];omega
   ·obtain rfl:j=l.length:=(by omega);obtain⟨Vv,Vw⟩:=hst.cells;have xB:=fun ty=>alT wr ty g (i*2) (l.length -i) (cap -i) (by omega) (fun t ht=>Vv (i*2+t) (by omega)) (fun t _=>Vw (i*2+t))
    have hbk:∀ W,(Instr.slice 22 (.slice (some ⟨g,0,none⟩) l.length cap) (some (.int .i64 (i:Int))) none none).run prog W=.ok (.slice (some ⟨g,i*2,none⟩) (l.length -i) (cap -i)) W:=fun W=>by
     have:=Vf W (some ⟨g,0,none⟩) l.length cap i (by omega);unfold FT at this;rw[Aa (by omega)] at this;simp only[Dm,add_plain] at this;exact this
    have hft:=fun W=>lJ W (some ⟨g,0,none⟩) l.length cap i (by omega) hcl
    have ayy:=hst.kept;rw[Ck] at ayy;have HS:=Hi hst;have DW:=Hi ayy;clear hst ayy Vv Vw;go_wp2_with fail;go_ret;obtain⟨h1,h2,h3,h4,h5⟩:=fU g (List.replicate ((l.length -i)*2) (Value.string ByteArray.empty)) (i*2) wr;have hu:A7 (fun k=>k=g) wr (wr.setCells g (i*2) (List.replicate ((l.length -i)*2) (Value.string ByteArray.empty))):=⟨h2,h3,h4,Nat.le_of_eq h1.symm,fun k _ hk=>h5 k hk⟩;obtain⟨am4,g2,s2⟩:=HS.blk;have hlen:(l.filter fun x=>!f x).length≤cap:=(by rw[←DW.out];omega);refine⟨by rw[←DW.out];rfl,?_,HS.upd.trans hu (fun k hk=>.inl hk)⟩;obtain⟨arv,g3,s3⟩:=abg g (List.replicate ((l.length -i)*2) (Value.string ByteArray.empty)) (i*2) wr am4 g2;refine am0 g3 (by rw[s3];exact s2) HGB hlen HCM (fun t ht=>?_);have hf:=HS.front;rw[Ck] at hf;have hp:=hf t ht;have hti:t < i:=(by rw[DW.out];exact ht);exact⟨(World.cell?_setCells_out g _ (i*2) wr ⟨g,t*2,none⟩ (fun _ _=>.inl (by show t*2 < i*2;omega))).trans hp.key,(World.cell?_setCells_out g _ (i*2) wr ⟨g,t*2+1,none⟩ (fun _ _=>.inl (by show t*2+1 < i*2;omega))).trans hp.val⟩
theorem nu{w:World}{base:Nat}{s:Value}{K:World→Prop}{v:Value}{f:T×T→Bool}{l:M}(h:AP w base s l)(hf:Ro K v f)(hK:∀ W,A7 (fun k=>s.ownBlock=some k) w W→K W)(hlen:l.length≤1000000):
  Calls prog 68 #[s,v] w fun e w'=>∃ s',e=.returned s'∧AP w' base s' (l.filter fun x=>!f x)∧A7 (fun k=>s.ownBlock=some k) w w'∧s'.ownBlock=s.ownBlock:=by
 rcases h.2 with⟨e1,e2⟩|⟨g,cap,cur,e1,_⟩
 ·subst e1;obtain rfl:l=[]:=IL.1 e2;have HI:=Hi (ng (a:=none) (l:=[]) 0 (Av.nil w none) hf (fun W hb=>hK W (A7.of_below hb)) (by simp));have HH:=Hi h;clear hK h;go_enter func68,ntmps68;go_wp2_with fail;refine HI.mono ?_;rintro e w1⟨rfl,hb⟩;have HB:=Hi hb;clear hb;have hx:KZ f []= -1:=rfl;rw[hx];go_wp2_with fail;go_ret;exact⟨_,rfl,Bp HH HB,A7.of_below HB,rfl⟩
 ·subst e1;have Vx:∀ k,(Value.slice (some ⟨g,0,none⟩) l.length cap).ownBlock=some k↔k=g:=fun k=>by simp[Value.ownBlock];exact eq_comm
  refine(am1 h hf (fun W hu=>hK W (hu.mono fun k hk=>(Vx k).2 hk)) hlen).mono ?_;rintro e w'⟨rfl,h5,h6⟩;exact⟨_,rfl,h5,h6.mono fun k hk=>(Vx k).2 hk,rfl⟩
end Prs
end Go.Proofs.YtmbbhdebddbhoaaGreat
