/- PrsDel MemD MemP MemQ DepN BrW TkI TkS -/
import Derived.Lib.SliceRun
import Derived.Test.YtkmninbcgipliaaGreatDoorQ14
set_option maxHeartbeats 8000000
set_option maxRecDepth 100000
set_option linter.all false
namespace Go.Proofs.YtkmninbcgipliaaGreatDoor
open Tryz
open Go.RowKit
open Go.Maps
namespace Bu
open Af Ap
def fP(K:World→Prop)(v:Value)(f:T×T→Bool):Prop:=
 ∃ F recv JC,v=.func (.func F) recv JC∧(∀ args w,(callFunc F args).run prog w=.ok (.enter F args) w)∧
  ∀ W p,K W→Calls prog F (recv++ #[.agg #[.string (bs p.1),.string (bs p.2)]]++JC) W fun e W'=>e=.returned (.bool (f p))∧Bw W W'
def Tz(f:T×T→Bool)(l:M):Int:=match l.findIdx? f with
 |some i=>(i:Int)
 |none=> -1
theorem avK{f:T×T→Bool}{l:M}{k:Nat}(hk:k < l.length)(h:f l[k]=true)(hn:∀ j (hj:j < k),f (l[j]'(by omega))=false):Tz f l=(k:Int):=by
 have:l.findIdx? f=some k:=List.findIdx?_eq_some_iff_getElem.2 ⟨hk,h,fun j hj=>by rw[hn j hj];decide⟩;unfold Tz;rw[this]
theorem avJ{f:T×T→Bool}{l:M}(hn:∀ j (hj:j < l.length),f l[j]=false):Tz f l= -1:=by
 have:l.findIdx? f=none:=List.findIdx?_eq_none_iff.2 fun x hx=>by
  obtain⟨i,hi,rfl⟩:=List.getElem_of_mem hx;exact hn i hi
 unfold Tz;rw[this]
theorem avI(f:T×T→Bool)(l:M):(Tz f l= -1∧l.filter (fun x=>!f x)=l)∨∃ k,∃ hk:k < l.length,Tz f l=(k:Int)∧f l[k]=true∧∀ j (hj:j < k),f (l[j]'(by omega))=false:=by
 unfold Tz;cases h:l.findIdx? f with
 |none=>
  refine .inl ⟨rfl,List.filter_eq_self.2 fun x hx=>?_⟩;rw[List.findIdx?_eq_none_iff.1 h x hx];rfl
 |some k=>
  obtain⟨hk,h1,h2⟩:=List.findIdx?_eq_some_iff_getElem.1 h;exact .inr ⟨k,hk,rfl,h1,fun j hj=>by simpa using h2 j hj⟩
theorem alo{w:World}{K:World→Prop}{v:Value}{f:T×T→Bool}{a:Option Addr}{l:M}(cap:Nat)(hl:Bj w a l)(hf:fP K v f)(hK:∀ W,Bw w W→K W)(hlen:l.length≤1000000000):
  Calls prog 176 #[.slice a l.length cap,v] w fun e w'=>e=.returned (.int .i64 (Tz f l))∧Bw w w':=by
 obtain⟨F,recv,JC,rfl,NL,K7⟩:=hf;have HL:=Hi hl;have HC:=Hi K7;have HK:=Hi hK;clear hl K7 hK
 go_in
 go_wp2
 go_loopw [5,8] (fun _ i wr=>∃ k:Nat,k≤l.length∧i=.int .i64 k∧Bw w wr∧∀ j (hj:j < k),(h:j < l.length)→f l[j]=false) (fun _ i _=>l.length -(intOf i).toNat)
 case atStart=>exact⟨0,AZ _,rfl,Ah _ _,fun j hj=>by omega⟩
 case round=>
  obtain⟨k,hk,rfl,hb,Cv⟩:=hrel;have DJ:=Hi Cv;have HB:=Hi hb;clear Cv;by_cases hlt:k < l.length
  ·obtain⟨q,Cx,hq,-⟩:=(HL.below hb).index cap k hlt;have c0:=hq.key;have c1:=hq.val;have BJ:=HC wr l[k] (HK wr hb);have Sr:=Hi (show f l[k]=true→Tz f l=(k:Int) from fun h=>avK hlt h (fun j hj=>DJ j hj (by omega)))
   have Dh:=Hi (show f l[k]=false→∀ j (hj:j < k+1),(h:j < l.length)→f l[j]=false from fun h j hj h'=>by
    by_cases e:j=k
    ·subst e;exact h
    ·exact DJ j (by omega) h')
   generalize l[k]=x at*;have EL:=Hi BJ;clear BJ hq hb;go_wp2_with fail;refine EL.mono ?_;rintro e w1⟨rfl,Ai⟩;have HB1:=bH HB Ai;generalize f x=s at*;clear Ai;cases s with
   |true=>
    have gQ:=Hi (Sr rfl);clear Sr Dh;go_wp2;go_ret;exact⟨by rw[gQ.out];rfl,HB1⟩
   |false=>
    have HN:=Hi (Dh rfl);clear Sr Dh;go_wp2;go_roundw
    case rel=>exact⟨k+1,by omega,by go_num,HB1,HN⟩
    case measure=>simp[intOf];omega
  ·obtain rfl:k=l.length:=(by omega);have HN:=Hi (show Tz f l= -1 from avJ (fun j hj=>DJ j hj hj));clear hb;go_wp2;go_ret;exact⟨by rw[HN.out];rfl,HB⟩
theorem az6(w:World)(ty:TypeId)(b o n c:Nat)(hn:0 < n)(hc:∀ j,j < n*2→(w.cell? ⟨b,o+j,none⟩).isSome=true)(hf:∀ j,j < n*2→w.frozen? ⟨b,o+j,none⟩=false):
  (Builtin.clear_ #[30] ty #[.slice (some ⟨b,o,none⟩) n c]).run prog w=.ok (.tuple #[]) (w.setCells b o (List.replicate (n*2) (.string ByteArray.empty))):=by
 have hzc:(Builtin.zeroCells (Value.agg #[.string ByteArray.empty,.string ByteArray.empty]).cells n).toList=List.replicate (n*2) (.string ByteArray.empty):=by
  simp[Builtin.zeroCells,Value.cells];apply List.ext_getElem
  ·simp
  ·intro i h1 h2;simp;rcases Nat.mod_two_eq_zero_or_one i with e|e<;>simp[e]
 have Bl:=run_storeCells_cells (P:=prog) b o (List.replicate (n*2) (.string ByteArray.empty)) 0 w (by simpa using hc) (by simpa using hf) (by intro v JK;rw[List.eq_of_mem_replicate JK];rfl);simp only[Nat.add_zero] at Bl;obtain⟨m,rfl⟩:∃ m,n=m+1:=⟨n -1,by omega⟩;have avA:(Builtin.zeroCells (Value.agg #[.string { data:=#[] },.string { data:=#[] }]).cells (m+1)).toList=List.replicate ((m+1)*2) (.string ByteArray.empty):=hzc;simp[Builtin.clear_,GK underlying30,Tryz.zeroValue51];rw[avA,Bl];rfl
theorem azx(C:Array Value)(a:Nat)(x y:Value)(t:Nat)(ha:a+1 < C.size):((C.setIfInBounds a x).setIfInBounds (a+1) y)[t]?=if t=a+1 then some y else if t=a then some x else C[t]? :=by
 rw[Array.getElem?_setIfInBounds];by_cases e1:a+1=t
 ·subst e1;rw[Ac rfl,Ac rfl,Ac (by rw[Array.size_setIfInBounds];exact ha)]
 ·have e1':¬ t=a+1:=fun h=>e1 h.symm
  rw[Aa e1,Aa e1',Array.getElem?_setIfInBounds];by_cases e2:a=t
  ·subst e2;rw[Ac rfl,Ac rfl,Ac (by omega)]
  ·have e2':¬ t=a:=fun h=>e2 h.symm
   rw[Aa e2,Aa e2']
structure Nw(w wr:World)(g cap:Nat)(f:T×T→Bool)(l:M)(i j:Nat):Prop where
 upd:A7 (fun k=>k=g) w wr
 blk:∃ cur,wr.heap[g]?=some (.cells cur 51 (0,0))∧cur.size=cap*2
 kept:i=((l.take j).filter (fun x=>!f x)).length
 front:∀ t (h:t < ((l.take j).filter (fun x=>!f x)).length),Rn wr ⟨g,t*2,none⟩ (((l.take j).filter (fun x=>!f x))[t])
 back:∀ t,j≤t→(h:t < l.length)→Rn wr ⟨g,t*2,none⟩ l[t]
 lt:i < j
 le:j≤l.length
 cap:l.length≤cap
theorem alk{f:T×T→Bool}{l:M}{j:Nat}(h:j < l.length)(hf:f l[j]=true):(l.take (j+1)).filter (fun x=>!f x)=(l.take j).filter (fun x=>!f x):=by
 rw[CQ h,LJ];simp[hf]
theorem axO{f:T×T→Bool}{l:M}{j:Nat}(h:j < l.length)(hf:f l[j]=false):(l.take (j+1)).filter (fun x=>!f x)=(l.take j).filter (fun x=>!f x)++[l[j]]:=by
 rw[CQ h,LJ];simp[hf]
section
variable {w wr wr':World}{g cap:Nat}{f:T×T→Bool}{l:M}{i j:Nat}
theorem Nw.below(h:Nw w wr g cap f l i j)(hb:Bw wr wr'):Nw w wr' g cap f l i j:=by
 obtain⟨cur,hc,hs⟩:=h.blk;exact⟨h.upd.trans (ub hb) (fun _ f=>f.elim),⟨cur,(hb.block g (Ao hc)).trans hc,hs⟩,h.kept,fun t ht=>(h.front t ht).upd (ub hb) (fun f=>f),fun t ht hl=>(h.back t ht hl).upd (ub hb) (fun f=>f),h.lt,h.le,h.cap⟩
theorem Nw.strike(h:Nw w wr g cap f l i j)(hj:j < l.length)(hf:f l[j]=true):Nw w wr g cap f l i (j+1):=by
 have e:=alk hj hf;exact⟨h.upd,h.blk,by rw[e];exact h.kept,fun t ht=>by simp only[e];exact h.front t (by rw[e] at ht;exact ht),fun t ht hl=>h.back t (by omega) hl,by have:=h.lt;omega,hj,h.cap⟩
theorem Nw.keep(h:Nw w wr g cap f l i j)(hj:j < l.length)(hf:f l[j]=false):Nw w ((wr.setCell ⟨g,i*2,none⟩ (.string (bs l[j].1))).setCell ⟨g,i*2+1,none⟩ (.string (bs l[j].2))) g cap f l (i+1) (j+1):=by
 have e:=axO hj hf;obtain⟨cur,hb,hs⟩:=h.blk;have hlt:=h.lt;have hle:=h.le;have hcp:=h.cap;have avc:=Cf wr g (i*2) _ _ (.string (bs l[j].1)) hb;have Jq:=Cf _ g (i*2+1) _ _ (.string (bs l[j].2)) avc;have FW:∀ t,((wr.setCell ⟨g,i*2,none⟩ (.string (bs l[j].1))).setCell ⟨g,i*2+1,none⟩ (.string (bs l[j].2))).cell? ⟨g,t,none⟩=if t=i*2+1 then some (.string (bs l[j].2)) else if t=i*2 then some (.string (bs l[j].1)) else wr.cell? ⟨g,t,none⟩:=fun t=>by
  rw[BF _ g _ _ _ _ Jq,BF _ g _ _ _ _ hb];exact azx cur (i*2) _ _ t (by omega)
 have hk:=h.kept;have stay:∀ t (p:T×T),t≠i→Rn wr ⟨g,t*2,none⟩ p→Rn ((wr.setCell ⟨g,i*2,none⟩ (.string (bs l[j].1))).setCell ⟨g,i*2+1,none⟩ (.string (bs l[j].2))) ⟨g,t*2,none⟩ p:=fun t p hne hp=>
  ⟨by rw[FW,Aa (by omega),Aa (by omega)];exact hp.key,by show World.cell? _ ⟨g,t*2+1,none⟩=_;rw[FW,Aa (by omega),Aa (by omega)];exact hp.val⟩
 refine⟨(h.upd.setCell (p:=⟨g,i*2,none⟩) (.inl rfl) _).setCell (p:=⟨g,i*2+1,none⟩) (.inl rfl) _,⟨_,Jq,by rw[Array.size_setIfInBounds,Array.size_setIfInBounds];exact hs⟩,by rw[e,Az];simp;omega,fun t ht=>?_,fun t ht hl=>stay t _ (by omega) (h.back t (by omega) hl),by omega,hj,hcp⟩;simp only[e];rw[e,Az] at ht;simp only[BN,Iu] at ht;by_cases ht2:t=i
 ·subst ht2;rw[List.getElem_append_right (by omega)];simp only[hk,Nat.sub_self,List.getElem_cons_zero];rw[←hk];exact⟨by rw[FW,Aa (by omega),Ac rfl],by show World.cell? _ ⟨g,t*2+1,none⟩=_;rw[FW,Ac rfl]⟩
 ·rw[List.getElem_append_left (by omega)];exact stay t _ ht2 (h.front t (by omega))
theorem Nw.cells(h:Nw w wr g cap f l i j):(∀ t,t < cap*2→(wr.cell? ⟨g,t,none⟩).isSome=true)∧∀ t,wr.frozen? ⟨g,t,none⟩=false:=by
 obtain⟨cur,hb,hs⟩:=h.blk;refine⟨fun t ht=>?_,fun t=>Cu wr g t _ _ hb⟩;rw[BF wr g _ _ _ _ hb,Ws (by omega)];rfl
end
theorem amD(b:Nat):∀ (vs:List Value) (o:Nat) (w:World) (cur:Array Value),w.heap[b]?=some (.cells cur 51 (0,0))→∃ cur',(w.setCells b o vs).heap[b]?=some (.cells cur' 51 (0,0))∧cur'.size=cur.size
 |[],_,_,cur,h=>⟨cur,h,rfl⟩
 |v :: r,o,w,cur,h=>by
  obtain⟨c2,h2,s2⟩:=amD b r (o+1) (w.setCell ⟨b,o,none⟩ v) (cur.setIfInBounds o v) (Cf w b o _ _ v h);exact⟨c2,h2,by rw[s2,Array.size_setIfInBounds]⟩
theorem axM{w:World}{g cap:Nat}{f:T×T→Bool}{l:M}{k:Nat}(hb:∃ cur,w.heap[g]?=some (.cells cur 51 (0,0))∧cur.size=cap*2)(hl:∀ t,(h:t < l.length)→Rn w ⟨g,t*2,none⟩ l[t])(hc:l.length≤cap)(hk:k < l.length)(hf:f l[k]=true)(hn:∀ j (hj:j < k),f (l[j]'(by omega))=false):Nw w w g cap f l k (k+1):=by
 have e0:(l.take k).filter (fun x=>!f x)=l.take k:=List.filter_eq_self.2 fun x hx=>by
  obtain⟨i,hi,rfl⟩:=List.getElem_of_mem hx;rw[Be] at hi;rw[List.getElem_take,hn i (by omega)];rfl
 have e:=(alk hk hf).trans e0;refine⟨A7.refl _ _,hb,by rw[e,Be];omega,fun t ht=>?_,fun t ht h=>hl t h,by omega,hk,hc⟩;simp only[e];rw[e,Be] at ht;rw[List.getElem_take];exact hl t (by omega)
theorem axU{w:World}{base:Nat}{g n cap:Nat}{l:M}(h:BK w base (.slice (some ⟨g,0,none⟩) n cap) l)(t:Nat)(ht:t < l.length):Rn w ⟨g,t*2,none⟩ l[t]:=by
 obtain⟨p,e,hp⟩:=(Bj.D9 h) t ht;cases e;rwa[add_plain] at hp
theorem axT{w:World}{base g cap:Nat}{cur:Array Value}{l:M}(hg:w.heap[g]?=some (.cells cur 51 (0,0)))(hs:cur.size=cap*2)(hb:base≤g)(hc:l.length≤cap)(hm:cap≤maxLen)(hl:∀ t,(h:t < l.length)→Rn w ⟨g,t*2,none⟩ l[t]):BK w base (.slice (some ⟨g,0,none⟩) l.length cap) l:=by
 refine⟨bD l,.inr ⟨g,cap,cur,rfl,hb,hg,hc,hm,hs,?_⟩⟩;apply List.ext_getElem?;intro j;by_cases hj:j < l.length*2
 ·obtain⟨i,r,hr,rfl⟩:∃ i r,r < 2∧j=i*2+r:=⟨j / 2,j % 2,by omega,by omega⟩;have hi:i < l.length:=by omega
  rw[oV l i hi r hr,List.getElem?_take,Ac (by omega),Dx];have hp:=hl i hi;have h0:=hp.key;have h1:=hp.val;rw[BF w g _ _ _ _ hg] at h0;have YV:w.cell? ⟨g,i*2+1,none⟩=some (.string (bs l[i].2)):=h1;rw[BF w g _ _ _ _ hg] at YV
  match r,hr with
  |0,_=>simpa using h0
  |1,_=>simpa using YV
 ·rw[List.getElem?_eq_none (by rw[Be];omega),List.getElem?_eq_none (by rw[bD];omega)]
theorem axN{w:World}{base g cap:Nat}{K:World→Prop}{v:Value}{f:T×T→Bool}{l:M}(h:BK w base (.slice (some ⟨g,0,none⟩) l.length cap) l)(hf:fP K v f)(hK:∀ W,A7 (fun k=>k=g) w W→K W)(hlen:l.length≤1000000):
  Calls prog 94 #[.slice (some ⟨g,0,none⟩) l.length cap,v] w fun e w'=>
   e=.returned (.slice (some ⟨g,0,none⟩) (l.filter fun x=>!f x).length cap)∧BK w' base (.slice (some ⟨g,0,none⟩) (l.filter fun x=>!f x).length cap) (l.filter fun x=>!f x)∧A7 (fun k=>k=g) w w':=by
 have Ag:=h;obtain⟨cur,NM,Ox,BJ,PD,DK⟩:∃ cur,base≤g∧w.heap[g]?=some (.cells cur 51 (0,0))∧l.length≤cap∧cap≤maxLen∧cur.size=cap*2:=by
  rcases h.2 with⟨e1,_⟩|⟨g',cap',cur,e1,h1,h2,h3,h4,h5,_⟩
  ·cases e1
  ·injection e1 with e2 _ e3
   injection e2 with e4
   injection e4 with e5
   subst e5;subst e3;exact⟨cur,h1,h2,h3,h4,h5⟩
 have hat:=Bj.D9 h;have HI:=Hi (alo cap hat hf (fun W hb=>hK W (A7.of_below hb)) (by omega));obtain⟨F,recv,JC,rfl,NL,K7⟩:=hf;rcases avI f l with⟨e1,e2⟩|⟨k0,IZ,e1,e2,e3⟩
 ·rw[e1] at HI;have HR:=Hi Ag;have HE:=Hi e2;clear h hK hat NL K7 e1 e2 Ag Ox
  go_in
  go_wp2_with fail;refine HI.mono ?_;rintro e w1⟨rfl,hb⟩;have HB:=Hi hb;clear hb;go_wp2;go_ret;refine⟨by rw[HE.out];rfl,by rw[HE.out];exact Ch HR HB,A7.of_below HB⟩
 ·rw[e1] at HI;have Bi:=Hi (axM ⟨cur,Ox,DK⟩ (fun t ht=>axU Ag t ht) BJ IZ e2 e3);have HC:=Hi K7;have HK:=Hi hK;have aD:=Hi NM;have OY:=Hi PD;clear h hK hat K7 e1 e2 e3 Ag Ox DK NM PD
  go_in
  go_wp2_with fail;refine HI.mono ?_;rintro e w1⟨rfl,hb⟩;have Ie:=Hi (Bi.below hb);have BQ:=Hi (show Nw w w1 g cap f l k0 (k0+1) from Ie.out);clear hb Ie;go_wp2
  go_loopw [5,6] (fun i j wr=>∃ a b:Nat,i=.int .i64 a∧j=.int .i64 b∧Nw w wr g cap f l a b) (fun _ j _=>l.length -(intOf j).toNat)
  case atStart=>exact⟨k0,k0+1,rfl,by go_num,BQ⟩
  case round=>
   clear Bi HI BQ;obtain⟨i,j,rfl,rfl,Bl⟩:=hrel;have qR:=Bl.lt;have K8:=Bl.le;by_cases hlt:j < l.length
   ·have hx:=Bl.back j (Ae _) hlt;have RI:=hx.key;have Ee:wr.cell? ⟨g,j*2+1,none⟩=some (.string (bs l[j].2)):=hx.val;have Jm:=fun W=>IM prog 30 51 underlying30 2 (by kernel_rfl) ⟨g,0,none⟩ l.length cap j hlt W
    have auD:=fun W=>IM prog 30 51 underlying30 2 (by kernel_rfl) ⟨g,0,none⟩ l.length cap i (by omega) W
    simp only[add_plain] at Jm auD;have C8:=AV wr (.cells #[.string (bs l[j].1),.string (bs l[j].2)] 51);have Rf:=Hi (Bl.below C8);have EL:=Hi (HC (wr.alloc (.cells #[.string (bs l[j].1),.string (bs l[j].2)] 51)) l[j] (HK _ Rf.upd));have HY:=Hi (fun(W:World) (hb:Below (wr.alloc (.cells #[.string (bs l[j].1),.string (bs l[j].2)] 51)).heap.size (wr.alloc (.cells #[.string (bs l[j].1),.string (bs l[j].2)] 51)) W)=>(show f l[j]=true→Nw w W g cap f l i (j+1) from(Rf.below hb).strike hlt));have HN:=Hi (fun(W:World) (hb:Below (wr.alloc (.cells #[.string (bs l[j].1),.string (bs l[j].2)] 51)).heap.size (wr.alloc (.cells #[.string (bs l[j].1),.string (bs l[j].2)] 51)) W)=>(show f l[j]=false→Nw w ((W.setCell ⟨g,i*2,none⟩ (.string (bs l[j].1))).setCell ⟨g,i*2+1,none⟩ (.string (bs l[j].2))) g cap f l (i+1) (j+1) from(Rf.below hb).keep hlt));have Bh:=Hi (fun(W:World) (hb:Below (wr.alloc (.cells #[.string (bs l[j].1),.string (bs l[j].2)] 51)).heap.size (wr.alloc (.cells #[.string (bs l[j].1),.string (bs l[j].2)] 51)) W)=>(Rf.below hb).cells);have EK:=Hi (AP wr (.cells #[.string (bs l[j].1),.string (bs l[j].2)] 51));clear Bl hx C8;generalize l[j]=x at*;go_wp2_with fail;refine EL.mono ?_;rintro e w2⟨rfl,Ad⟩;have Z6:=(Ad.block _ (Ao EK)).trans EK.out;have XM:w2.cell? ⟨wr.heap.size,0,none⟩=some (.string (bs x.1)):=cr Z6;have J4:w2.cell? ⟨wr.heap.size,1,none⟩=some (.string (bs x.2)):=cr Z6;obtain⟨bZ,cu⟩:=Bh w2 Ad;have aCJ:=cu (i*2);have aCK:=cu (i*2+1);obtain⟨o0,II⟩:=LM.1 (bZ (i*2) (by omega))
    obtain⟨o1,DL⟩:=LM.1 (bZ (i*2+1) (by omega));have U8:=Hi (HY w2 Ad);have LZ:=Hi (HN w2 Ad);clear Ad Z6 bZ cu HY HN Bh EL;generalize f x=s at*;cases s with
    |true=>
     have Rm:=Hi (U8 rfl);clear U8 LZ;go_wp2;go_roundw
     case rel=>first
      |exact⟨i,j+1,rfl,by go_num,Rm⟩
      |(repeat apply Exists.intro
        refine⟨?_,rfl⟩;exact⟨i,j+1,rfl,by go_num,Rm⟩)
     case measure=>simp[intOf];omega
    |false=>
     have Yw:=Hi (LZ rfl);clear U8 LZ;go_wp2_with fail;refine⟨?_,?measure⟩
     ·repeat apply Exists.intro
      refine⟨?rel,rfl⟩
      case rel=>exact⟨i+1,j+1,by go_num,by go_num,Yw⟩
     case measure=>simp[intOf];omega
   ·obtain rfl:j=l.length:=(by omega);obtain⟨bZ,cu⟩:=Bl.cells;have ahT:=fun ty=>az6 wr ty g (i*2) (l.length -i) (cap -i) (by omega) (fun t ht=>bZ (i*2+t) (by omega)) (fun t _=>cu (i*2+t))
    have Oo:∀ W,(Instr.slice 30 (.slice (some ⟨g,0,none⟩) l.length cap) (some (.int .i64 (i:Int))) none none).run prog W=.ok (.slice (some ⟨g,i*2,none⟩) (l.length -i) (cap -i)) W:=fun W=>by
     have:=eG W (some ⟨g,0,none⟩) l.length cap i (by omega);unfold IW at this;rw[Aa (by omega)] at this;simp only[EP,add_plain] at this;exact this
    have C9:=fun W=>acf W (some ⟨g,0,none⟩) l.length cap i (by omega) BJ
    have aaF:=Bl.kept;rw[Dq] at aaF;have HS:=Hi Bl;have IU:=Hi aaF;clear Bl aaF bZ cu;go_wp2;go_ret;obtain⟨h1,h2,h3,h4,h5⟩:=ade g (List.replicate ((l.length -i)*2) (Value.string ByteArray.empty)) (i*2) wr;have hu:A7 (fun k=>k=g) wr (wr.setCells g (i*2) (List.replicate ((l.length -i)*2) (Value.string ByteArray.empty))):=⟨h2,h3,h4,Nat.le_of_eq h1.symm,fun k _ hk=>h5 k hk⟩;obtain⟨aqK,g2,s2⟩:=HS.blk;have hlen:(l.filter fun x=>!f x).length≤cap:=(by rw[←IU.out];omega);refine⟨by rw[←IU.out];rfl,?_,HS.upd.trans hu (fun k hk=>.inl hk)⟩;obtain⟨aCc,g3,s3⟩:=amD g (List.replicate ((l.length -i)*2) (Value.string ByteArray.empty)) (i*2) wr aqK g2;refine axT g3 (by rw[s3];exact s2) aD hlen OY (fun t ht=>?_);have hf:=HS.front;rw[Dq] at hf;have hp:=hf t ht;have hti:t < i:=(by rw[IU.out];exact ht);exact⟨(World.cell?_setCells_out g _ (i*2) wr ⟨g,t*2,none⟩ (fun _ _=>.inl (by show t*2 < i*2;omega))).trans hp.key,(World.cell?_setCells_out g _ (i*2) wr ⟨g,t*2+1,none⟩ (fun _ _=>.inl (by show t*2+1 < i*2;omega))).trans hp.val⟩
theorem alh{w:World}{base:Nat}{s:Value}{K:World→Prop}{v:Value}{f:T×T→Bool}{l:M}(h:BK w base s l)(hf:fP K v f)(hK:∀ W,A7 (fun k=>s.ownBlock=some k) w W→K W)(hlen:l.length≤1000000):
  Calls prog 94 #[s,v] w fun e w'=>∃ s',e=.returned s'∧BK w' base s' (l.filter fun x=>!f x)∧A7 (fun k=>s.ownBlock=some k) w w'∧s'.ownBlock=s.ownBlock:=by
 rcases h.2 with⟨e1,e2⟩|⟨g,cap,cur,e1,_⟩
 ·subst e1;obtain rfl:l=[]:=JW.1 e2;have HI:=Hi (alo (a:=none) (l:=[]) 0 (Bj.nil w none) hf (fun W hb=>hK W (A7.of_below hb)) (by simp));have HH:=Hi h;clear hK h
  go_in
  go_wp2_with fail;refine HI.mono ?_;rintro e w1⟨rfl,hb⟩;have HB:=Hi hb;clear hb;have hx:Tz f []= -1:=rfl;rw[hx];go_wp2;go_ret;exact⟨_,rfl,Ch HH HB,A7.of_below HB,rfl⟩
 ·subst e1;have dI:∀ k,(Value.slice (some ⟨g,0,none⟩) l.length cap).ownBlock=some k↔k=g:=fun k=>by simp[Value.ownBlock];exact eq_comm
  refine(axN h hf (fun W hu=>hK W (hu.mono fun k hk=>(dI k).2 hk)) hlen).mono ?_;rintro e w'⟨rfl,h5,h6⟩;exact⟨_,rfl,h5,h6.mono fun k hk=>(dI k).2 hk,rfl⟩
end Bu
namespace Mem
open Aq Af Ap Bu Kp BM Hex BD Al
section
variable {w w':World}{base m:Nat}{L:List (T×M)}{f:T→Nat}
theorem F4.made(w:World)(base:Nat)(f:T→Nat)(hb:base≤w.heap.size):F4 (w.alloc (.map #[] 0)) base w.heap.size [] f:=
 ⟨⟨[],List.Perm.nil,FU.made w⟩,by simp,fun x hx=>by simp at hx,fun x hx=>by simp at hx,hb⟩
theorem F4.Dp(h:F4 w base m L f){t:TypeId}:¬ Bf w m t:=by
 obtain⟨kv,_,_,D,⟨es,clock,hm,_⟩,_⟩:=h.map;rintro⟨cs,fr,hb⟩;rw[hm] at hb;injection hb with hb
 cases hb
theorem F4.insert(h:F4 w base m L f){name:T}{l:M}{b:Nat}(hn:name∉L.map (·.1))(hl:name.length≤maxLen)(he:Vp w base b l)(hb:∀ x∈L,f x.1≠b)(J2:L.length < maxLen):
  ∃ w',(Instr.mapUpdate 175 (.map (some m)) (.string (bs name)) (.pointer (some ⟨b,0,none⟩))).run prog w=.ok () w'∧F4 w' base m ((name,l) :: L) (fun t=>if t=name then b else f t)∧w.grownBy w' (some m):=by
 obtain⟨kv,h1,h2⟩:=h.map;have KR:DW kv name=none:=by
  cases hs:DW kv name with
  |none=>rfl
  |some v=>exact absurd ((F4.keys h1).mem_iff.1 (BA.2 ⟨_,uD hs,rfl⟩)) hn
 have CJ:kv.length < maxLen:=by
  have e:kv.length=L.length:=by rw[h1.length_eq,Ca]
  rw[e];exact J2
 obtain⟨w',hrun,h3,h4⟩:=h2.update underlying9 underlying175 name hl (.pointer (some ⟨b,0,none⟩)) CJ;have hu:A7 (fun k=>k=m) w w':=A7.of_grownBy (F:=fun k=>k=m) h4 (fun k e=>(Gu e).symm);have hne:∀ x∈L,x.1≠name:=fun x hx e=>hn (by rw[←e];exact Hl hx)
 have Zo:∀ k,k=m→∀ t,¬ Bf w k t:=fun k e t=>by rw[e];exact h.Dp
 refine⟨w',hrun,⟨⟨_,?_,h3⟩,Ju.2 ⟨hn,h.nodup⟩,fun x hx=>?_,fun x hx y hy e=>?_,h.low⟩,h4⟩
 ·have hd:J9 name kv=kv:=List.filter_eq_self.2 fun p hp=>by
   have:p.1≠name:=fun e=>hn ((F4.keys h1).mem_iff.1 (by rw[←e];exact Hl hp))
   simpa using this
  unfold QS;rw[hd,Ce];simp only[Ac];refine List.Perm.cons _ (h1.trans (List.Perm.of_eq (Q3 fun x hx=>?_)));rw[Aa (hne x hx)]
 ·rcases BZ.1 hx with rfl|hx
  ·simp only[Ac];exact he.upd hu (fun k e=>Zo k e _) (fun k e=>Zo k e _)
  ·rw[Aa (hne x hx)];exact(h.X3 x hx).upd hu (fun k e=>Zo k e _) (fun k e=>Zo k e _)
 ·rcases BZ.1 hx with rfl|hx<;>rcases BZ.1 hy with rfl|hy
  ·rfl
  ·simp only[Ac] at e;rw[Aa (hne y hy)] at e;exact absurd e.symm (hb y hy)
  ·simp only[Ac] at e;rw[Aa (hne x hx)] at e;exact absurd e (hb x hx)
  ·rw[Aa (hne x hx),Aa (hne y hy)] at e;exact h.inj x hx y hy e
theorem F4.set(h:F4 w base m L f){x:T×M}(hx:x∈L){v:Value}{l:M}(hv:BK w base v l):F4 (w.setCell ⟨f x.1,0,none⟩ v) base m (setRow L x.1 l) f:=by
 obtain⟨v0,Bb,dO,Rz⟩:=h.X3 x hx;have hu:=(A7.refl (fun k=>k=f x.1) w).setCell (p:=⟨f x.1,0,none⟩) (.inl rfl) v;have dm:∀ k,k=f x.1→¬ Bf w k 51:=fun k e hb=>by
  obtain⟨cs,fr,hb⟩:=hb;rw[e,Bb] at hb;injection hb with hb
  injection hb with _ hb
  exact absurd hb (by decide)
 obtain⟨kv,h1,h2⟩:=h.map;have Uw:(setRow L x.1 l).map (fun y=>(y.1,Value.pointer (some ⟨f y.1,0,none⟩)))=L.map fun y=>(y.1,Value.pointer (some ⟨f y.1,0,none⟩)):=by
  unfold setRow;rw[Ko];exact Q3 fun y _=>by
   show(fun y:T×M=>(y.1,Value.pointer (some ⟨f y.1,0,none⟩))) (if y.1=x.1 then(y.1,l) else y)=_
   split<;>rfl
 refine⟨⟨kv,by rw[Uw];exact h1,h2.upd hu (fun e=>h.Dp (t:=179) (by rw[e];exact⟨_,_,Bb⟩))⟩,by rw[uC];exact h.nodup,fun y hy=>?_,fun y hy z hz e=>?_,h.low⟩
 ·unfold setRow at hy;obtain⟨z,hz,rfl⟩:=BA.1 hy;by_cases e:z.1=x.1
  ·rw[Ac e]
   show Vp _ base (f z.1) l
   rw[e];exact⟨v,Cf w (f x.1) 0 _ _ v Bb,BH hv hu (fun k hk e=>dm k e (CB hv hk)),Rz⟩
  ·rw[Aa e];obtain⟨v1,Ai,UA,GR⟩:=h.X3 z hz;exact⟨v1,(hu.block _ (Ao Ai) (fun e'=>e (h.inj z hz x hx e'))).trans Ai,BH UA hu (fun k hk e=>dm k e (CB UA hk)),GR⟩
 ·have DV:∀ y∈setRow L x.1 l,∃ z∈L,z.1=y.1:=fun y hy=>by
   have:y.1∈(setRow L x.1 l).map (·.1):=Hl hy;rw[uC] at this;exact BA.1 this
  obtain⟨a,ha,ea⟩:=DV y hy;obtain⟨c,hc,ec⟩:=DV z hz;rw[←ea,←ec] at e ⊢;exact h.inj a ha c hc e
end
theorem azt{L:List (T×M)}{name:T}{l r:M}(h:name∉L.map (·.1)):setRow ((name,l) :: L) name r=(name,r) :: L:=by
 unfold setRow;rw[Ce,Ac rfl]
 congr 1
 conv=>rhs;rw[←List.map_id L]
 exact Q3 fun x hx=>Aa (fun e=>h (by rw[←e];exact Hl hx))
theorem arL{K:Kind}{A:M}(hg:Af.Good A){name:T}{l:M}(h:fileOf K A name=some l):Up l∧l.length≤65535∧rowLen (flat l)≤65537:=by
 unfold fileOf at h;cases hx:Af.get A name with
 |none=>rw[hx] at h;cases h
 |some d=>
  rw[hx] at h;obtain⟨_,hu,_,s,hs,hd⟩:=Nf h;have Ot:d.length≤65535:=by
   have:=hg _ (get_some hx);unfold Fq at this;exact(Q4 this).2.2
  have CZ:s.length+4=d.length:=by rw[hd,A9.RU]
  refine⟨hu,(eT h).1,?_⟩;unfold FI at hs;split at hs
  ·cases ht:BB (flat l) with
   |none=>rw[ht] at hs;cases hs
   |some a=>
    rw[ht] at hs;simp only[EP,Ci] at hs;have h1:=lQ ht;subst hs;rw[Az,A9.BV] at CZ;omega
  ·cases hs
theorem arM{K:Kind}{A:M}{name:T}{l:M}(h:fileOf K A name=some l):∃ a,BB (flat l)=some a:=by
 unfold fileOf at h;cases hx:Af.get A name with
 |none=>rw[hx] at h;cases h
 |some d=>
  rw[hx] at h;obtain⟨_,_,_,s,hs,_⟩:=Nf h;unfold FI at hs;split at hs
  ·cases ht:BB (flat l) with
   |none=>rw[ht] at hs;cases hs
   |some a=>exact⟨a,rfl⟩
  ·cases hs
theorem akn{K:Kind}{A:M}(hg:Af.Good A)(ks:List T)(name:T):CR (J6 K A ks name)∧(J6 K A ks name).length≤1000000∧rowLen (flat (J6 K A ks name))≤1000000000:=by
 unfold J6;cases h:fileOf K A name with
 |none=>exact⟨List.Pairwise.nil,by simp,by simp[flat,rowLen]⟩
 |some l=>
  obtain⟨h1,h2,h3⟩:=arL hg h;have QI:(l.filter fun p=>decide (p.1∉ks)).Sublist l:=List.filter_sublist;refine⟨CR.QR (List.Pairwise.sublist QI h1),?_,?_⟩
  ·have:=QI.length_le
   show(l.filter _).length≤_
   omega
  ·obtain⟨a,ht⟩:=arM h;obtain⟨b,hb,Ct⟩:=ang QI ht;have e1:=lQ ht;have e2:=lQ hb
   show rowLen (flat (l.filter _))≤_
   omega
theorem aAn{K:Kind}{A:M}{ks:List T}(h:There K A ks){k:T}(hk:k∈ks):k.length≤65535:=by
 have h1:=h k hk;rw[lX] at h1;obtain⟨v,hv⟩:=LM.1 h1;exact((bE (K:=K)).2 _ (get_some hv)).1
theorem aAm{K:Kind}{A:M}{ks:List T}(h:There K A ks){k:T}(hk:k∈ks):(Af.get A (K.nm k)).isSome=true∧(fileOf K A (K.nm k)).isSome=true∧((fileOf K A (K.nm k)).getD []).any (fun p=>decide (p.1∈ks))=true:=by
 obtain⟨d,l,h1,_,h3⟩:=agd h (name:=K.nm k) ((Eg _ _).2 (Hl hk));refine⟨by rw[h1];rfl,by rw[h3];rfl,?_⟩;have h4:=h k hk;rw[lX] at h4;obtain⟨v,hv⟩:=LM.1 h4;exact List.any_eq_true.2 ⟨_,get_some hv,by simpa using hk⟩
theorem z8{K:Kind}{A:M}{kt:List T}{L:List (T×M)}(h:O6 K A kt L):L.length≤kt.length:=by
 have h1:(Da L).length=L.length:=tq L;rw[tu h.nodup] at h1;have h2:Bc (L.map (·.1))=Bc (kt.map K.nm):=QU (JQ _) (JQ _) fun t=>by rw[Eg,Eg];exact h.names t
 have h3:=UM (kt.map K.nm);rw[←h2,h1,Ca] at h3;exact h3
section
variable {w w':World}{base m:Nat}{L:List (T×M)}{f:T→Nat}
theorem F4.tK(h:F4 w base m L f){x:T×M}(hx:x∈L)(hn:x.1.length≤maxLen):
  (Instr.lookup 175 (.map (some m)) (.string (bs x.1)) true).run prog w=.ok (.tuple #[.pointer (some ⟨f x.1,0,none⟩),.bool true]) w:=by
 obtain⟨kv,h1,h2⟩:=h.map;rw[h2.ZK underlying9 underlying175 (zh w) x.1 hn,ZY (h1.map (·.1) |>.nodup_iff.2 h.Wi) h1,(Y7 h.Wi).2 (BA.2 ⟨x,hx,rfl⟩)];rfl
theorem F4.tL(h:F4 w base m L f){t:T}(hx:t∉L.map (·.1))(hn:t.length≤maxLen):
  (Instr.lookup 175 (.map (some m)) (.string (bs t)) true).run prog w=.ok (.tuple #[.pointer none,.bool false]) w:=by
 obtain⟨kv,h1,h2⟩:=h.map;have:DW kv t=none:=by
  cases hs:DW kv t with
  |none=>rfl
  |some v=>exact absurd ((F4.keys h1).mem_iff.1 (BA.2 ⟨_,uD hs,rfl⟩)) hx
 rw[h2.ZK underlying9 underlying175 (zh w) t hn,this];rfl
end
theorem ay0(pb:Nat)(pr p:T×T)(W:World)(hk:W.heap[pb]?=some (.cells #[.string (bs pr.1),.string (bs pr.2)] 51)):
  Calls prog 96 #[.agg #[.string (bs p.1),.string (bs p.2)],.pointer (some ⟨pb,0,none⟩)] W fun e W'=>e=.returned (.bool (p.1 == pr.1))∧Bw W W':=by
 have EX:W.cell? ⟨pb,0,none⟩=some (.string (bs pr.1)):=cr hk;have di:=D7 EX
 go_in
 go_wp2;go_ret;exact⟨by simp,AV W _⟩
theorem axZ(pb:Nat)(pr:T×T):fP (fun W=>W.heap[pb]?=some (.cells #[.string (bs pr.1),.string (bs pr.2)] 51)) (.func (.func 96) #[] #[.pointer (some ⟨pb,0,none⟩)]) (fun p=>p.1 == pr.1):=
 ⟨_,_,_,rfl,enters_of func96 (by kernel_rfl) rfl,fun W p h=>ay0 pb pr p W h⟩
theorem pU(K:Kind)(l:M)(name:T):(BG K l name).length≤l.length:=by
 induction l using UN with
 |h0=>exact Ae _
 |h1 l p ih=>
  rw[NH,Az,Kn];split
  ·rw[(ZT (v:=p.2) (SL l name) p.1).length_eq,BN];have:(del p.1 (BG K l name)).length≤(BG K l name).length:=LK _ _;omega
  ·omega
theorem aye{w:World}{base b2 fb:Nat}{q:Option Addr}{c:Nat}{l:M}{pr:T×T}{pb:Nat}{ev:Array Value}(hr:BK w b2 (.slice q l.length c) l)(Ad:base≤b2)(_:w.heap[pb]?=some (.cells #[.string (bs pr.1),.string (bs pr.2)] 51))(he:w.heap[fb]?=some (.cells ev 179))
  (hq:q=none→c=0)(hc:l.length≤c)(Mc:base≤w.heap.size)(hl:l.length≤1000):
  Calls prog 97 #[.slice (some ⟨w.heap.size+1,0,none⟩) 2 2] ((w.alloc (.cells #[.string (bs pr.1),.string (bs pr.2)] 51)).alloc (.cells #[.slice q l.length c,.slice (some ⟨w.heap.size,0,none⟩) 1 1] 30)).drew fun e w'=>
   ∃ q' c',e=.returned (.slice q' (KX [l,[pr]]).length c')∧BK w' base (.slice q' (KX [l,[pr]]).length c') (KX [l,[pr]])∧Bw w w'∧w'.cell? ⟨fb,0,none⟩=w.cell? ⟨fb,0,none⟩∧w'.frozen? ⟨fb,0,none⟩=false:=by
 have C8:=AV w (.cells #[.string (bs pr.1),.string (bs pr.2)] 51);have BL:=Ar w (.cells #[.string (bs pr.1),.string (bs pr.2)] 51);have Et:=AP w (.cells #[.string (bs pr.1),.string (bs pr.2)] 51);have Gh:=AV (w.alloc (.cells #[.string (bs pr.1),.string (bs pr.2)] 51)) (.cells #[.slice q l.length c,.slice (some ⟨w.heap.size,0,none⟩) 1 1] 30);have Gm:=AP (w.alloc (.cells #[.string (bs pr.1),.string (bs pr.2)] 51)) (.cells #[.slice q l.length c,.slice (some ⟨w.heap.size,0,none⟩) 1 1] 30);rw[BL] at Gm;have auX:=(Gh.block _ (by rw[BL];omega)).trans Et;have CY:=C8.trans (Gh.mono C8.size);generalize (w.alloc (.cells #[.string (bs pr.1),.string (bs pr.2)] 51)).alloc (.cells #[.slice q l.length c,.slice (some ⟨w.heap.size,0,none⟩) 1 1] 30)=U at*;have bU:Bw w U.drew:=CY.drew;have e1:U.drew.heap[w.heap.size]?=some (.cells #[.string (bs pr.1),.string (bs pr.2)] 51):=auX;have e2:U.drew.heap[w.heap.size+1]?=some (.cells #[.slice q l.length c,.slice (some ⟨w.heap.size,0,none⟩) 1 1] 30):=Gm;have ab8:y7 U.drew (some ⟨w.heap.size+1,0,none⟩) [l,[pr]]:=by
  intro i hi;have Oz:i < 2:=hi;refine⟨_,rfl,?_⟩;rw[add_plain]
  match i,Oz with
  |0,_=>exact⟨q,c,cr e2,(Bj.D9 hr).below bU,hq,hc⟩
  |1,_=>
   refine⟨some ⟨w.heap.size,0,none⟩,1,cr e2,?_,(fun e=>by cases e),Ae _⟩;intro j hj;obtain rfl:j=0:=(by simpa using hj);refine⟨_,rfl,?_,?_⟩
   ·rw[add_plain,BF _ _ _ _ _ _ e1];rfl
   ·rw[add_plain]
    show U.drew.cell? ⟨w.heap.size,0+0*2+1,none⟩=_
    rw[BF _ _ _ _ _ _ e1];rfl
 refine(akO (cap:=2) ab8 (by simp;omega) (by simp)).mono ?_;rintro e w'⟨v,rfl,h1,h2,h3⟩;obtain⟨q',c',rfl,-,-⟩:=Fz h1;have JG:=bU.trans (h2.mono bU.size);have he':=(JG.block fb (Ao he)).trans he;refine⟨q',c',rfl,⟨h1.1,?_⟩,JG,JG.cell (p:=⟨fb,0,none⟩) (Ao he),Cu w' fb 0 _ _ he'⟩;rcases h1.2 with h|⟨g,cap,cur,k1,k2,k3⟩
 ·exact .inl h
 ·refine .inr ⟨g,cap,cur,k1,?_,k3⟩;have:=h3 g (by rw[k1];rfl);have:=bU.size;omega
theorem setRow_setRow(L:List (T×M))(name:T)(a b:M):setRow (setRow L name a) name b=setRow L name b:=by
 unfold setRow;rw[Ko];refine Q3 fun x _=>?_
 show(if(if x.1=name then(x.1,a) else x).1=name then((if x.1=name then(x.1,a) else x).1,b) else(if x.1=name then(x.1,a) else x))=_
 by_cases h:x.1=name
 ·simp[h]
 ·simp[h]
theorem arS(t:T)(l:M):Ps [(t,l)]=MN l:=by
 unfold Ps Da;simp[rowOf]
theorem F4.avX{w w':World}{base m m2:Nat}{L:List (T×M)}{f:T→Nat}(h:F4 w base m L f){o:Obj}(hb:Bw w (w.alloc o))(hg:(w.alloc o).grownBy w' (some m2))(hm:m2=w.heap.size:=by rfl):F4 w' base m L f:=by
 subst hm;exact h.below (hb.grown hg (by rw[Ar];omega) (fun k e=>by rw[←Gu e];exact Ae _))
def PF(w:World)(base m:Nat)(k:Nat):Prop:=base≤k∧(k=m∨Bf w k 179)
def Small(l:M):Prop:=l.length≤1000∧rowLen (flat l)≤1000000000
theorem ax8{w:World}{base m mc pc p y:Nat}{A:M}{L:List (T×M)}{f:T→Nat}{lt:M}{pr:T×T}
  (hE:F4 w base m L f)(hS:Kp.EM Aj lt L)(Ux:w.heap[mc]?=some (.cells #[.map (some m)] 175))(Zq:w.heap[pc]?=some (.cells #[.pointer (some ⟨p,0,none⟩)] 43))
  (hm:GN w p y)(hg:Ap.OV w y A)(Cv:∀ k,Af.get A (Aj.nm k)=none)(Mc:base≤w.heap.size)(hk:pr.1.length≤1000000)(hl:lt.length≤1000)(GZ:∀ name,Small (BG Aj (lt++[pr]) name))(VJ:base≤m):
  Calls prog 93 #[.agg #[.string (bs pr.1),.string (bs pr.2)],.pointer (some ⟨mc,0,none⟩),.pointer (some ⟨pc,0,none⟩)] w fun e w'=>
   e=.returned (.int .i64 (if(BS (BG Aj (lt++[pr]) (Aj.nm pr.1))).isSome=true then 0 else 5))∧∃ L' f',F4 w' base m L' f'∧Kp.EM Aj (lt++[pr]) L'∧A7 (PF w base m) w w':=by
 have HE:=Hi hE;have HS:=Hi hS;have HM:=Hi hm;have HG:=Hi hg;have DJ:=Hi Cv;have SA:=Hi GZ;have avf:=GZ;have yL:w.cell? ⟨mc,0,none⟩=some (.map (some m)):=cr Ux;have cpc:w.cell? ⟨pc,0,none⟩=some (.pointer (some ⟨p,0,none⟩)):=cr Zq;have gY:=Hi Ux;have aN:=Hi Zq;have Jv:=Hi (fun(W:World)=>sV pr.1 W hk);have EB:(Aj.nm pr.1).length=17:=abX pr.1;have U1:=Hi (AP w (.cells #[.string (bs pr.1),.string (bs pr.2)] 51));have Au:=Hi (AV w (.cells #[.string (bs pr.1),.string (bs pr.2)] 51));have dE:=Ao Ux;have jZ:=Ao Zq;obtain⟨res,ab6⟩:∃ r:Int,(if(BS (BG Aj (lt++[pr]) (Aj.nm pr.1))).isSome=true then 0 else 5)=r:=⟨_,rfl⟩;rw[ab6];have Ej:=Hi ab6;clear hE hS hm hg Cv GZ Ux Zq ab6
 go_in
 go_wp2_with fail;refine(Jv _).mono ?_;rintro e w1⟨rfl,Ai⟩;have kE:Bw w w1:=Au.trans (Ai.mono Au.size);have aje:=(Ai.block _ (Ao U1)).trans U1.out;have aM:=Hi aje;have afo:w1.cell? ⟨mc,0,none⟩=some (.map (some m)):=(kE.cell (p:=⟨mc,0,none⟩) dE).trans yL;have aC8:w1.cell? ⟨pc,0,none⟩=some (.pointer (some ⟨p,0,none⟩)):=(kE.cell (p:=⟨pc,0,none⟩) jZ).trans cpc;have HB1:=Hi kE;have Jd:=Hi (HE.below kE);obtain⟨pb,QE⟩:=ex (w.heap.size);rw[QE] at aM;clear Ai kE aje U1 Au yL cpc;have KE:=Hi (avf (Aj.nm pr.1));by_cases DV:Aj.nm pr.1∈L.map (·.1)
 case' pos=>
  obtain⟨⟨t,l1⟩,hx,H9⟩:=BA.1 DV;have H9:t=Aj.nm pr.1:=H9;subst H9;have NQ:=Jd.tK hx (by rw[EB];decide);have Qz:l1=BG Aj lt (Aj.nm pr.1):=HS.rows _ hx;have FL:=Hi (show Up l1 from by rw[Qz];exact SL _ _);have MB:=Hi (show BG Aj (lt++[pr]) (Aj.nm pr.1)=put pr.1 pr.2 l1 from by rw[NH,Ac rfl,Qz])
  have V7:=Hi (show Kp.EM Aj (lt++[pr]) (setRow L (Aj.nm pr.1) (put pr.1 pr.2 l1)) from by
   rw[Qz];exact HS.more DV)
  obtain⟨w5,hw5⟩:∃ w5,w5=w1:=⟨_,rfl⟩;subst hw5;obtain⟨L1,jf⟩:∃ L1,L1=L:=⟨_,rfl⟩;subst jf;obtain⟨f1,Xr⟩:∃ f1,f1=f:=⟨_,rfl⟩;subst Xr;have mO:=Jd;have ic:=aM;have WO:=Hi (A7.of_below (F:=PF w base m) HB1);have TV:=Hi hx
  have Sq:=Hi (show PF w base m (f1 (Aj.nm pr.1))∨w.heap.size≤f1 (Aj.nm pr.1) from by
   obtain⟨v,h1,_,h2⟩:=HE.X3 _ hx;exact .inl ⟨h2,.inr ⟨_,_,h1⟩⟩)
  have GR:l1.length≤1000:=by
   rw[Qz];exact Ay (pU _ _ _) hl
  obtain⟨v5,NL,Ag,-⟩:=mO.X3 _ hx;obtain⟨q3,c3,rfl,Tk,-⟩:=Fz Ag;have c1:w5.cell? ⟨f1 (Aj.nm pr.1),0,none⟩=some (.slice q3 l1.length c3):=cr NL;have aC:=Hi NL;have vU:=Hi (l5 (Bj.D9 Ag) Tk (Ay GR (by decide)));clear hx DV HS HE Jd aM Jv NL Ag Qz;generalize Aj.nm pr.1=name at*;obtain⟨fb,jK⟩:=ex (f1 name);have gI:=Hi jK;rw[jK] at NQ c1 aC Sq;clear jK;go_wp2_with fail
 case' neg=>
  have NQ:=Jd.tL DV (by rw[EB];decide);have HNI:=Hi DV;have FK:=Hi (abY (HM.below HB1) (Xa HG HB1) (Aj.nm pr.1) (by rw[EB];decide));unfold Ql at FK;have PK:fileOf Aj A (Aj.nm pr.1)=none:=by unfold fileOf;rw[DJ.out];rfl
  rw[DJ.out,PK] at FK;simp only[Option.getD_none,Iu,Option.isSome_none] at FK;obtain⟨l1,Qz⟩:∃ l1:M,l1=[]:=⟨_,rfl⟩;have GR:l1.length≤1000:=by rw[Qz];exact AZ _
  have FL:=Hi (show Up l1 from by rw[Qz];exact Up.nil)
  have MB:=Hi (show BG Aj (lt++[pr]) (Aj.nm pr.1)=put pr.1 pr.2 l1 from by
   rw[NH,Ac rfl,Qz,j3 (fun e=>DV ((HS.names _).2 e))])
  have adO:=Hi (show Kp.EM Aj (lt++[pr]) ((Aj.nm pr.1,put pr.1 pr.2 l1) :: L) from by
   rw[Qz];exact HS.new DV)
  have Xe:L.length≤1000:=Ay (tY HS) hl;clear DV HS Jv PK;generalize Aj.nm pr.1=name at*;go_wp2_with fail;refine FK.mono ?_;rintro e w2⟨q3,c3,rfl,Ag,Tk,Ad⟩;have ajh:Value.slice q3 0 c3=.slice q3 l1.length c3:=by rw[Qz];rfl
  have Tm:BK w2 w1.heap.size (.slice q3 l1.length c3) l1:=by rw[Qz];exact Ag
  rw[ajh];have AB:Bw w1 (w2.alloc (.cells #[.slice q3 l1.length c3] 179)):=Ad.alloc Ad.size _;have ahE:=HB1.trans (AB.mono HB1.size);have aas:=AP w2 (.cells #[.slice q3 l1.length c3] 179);have aiJ:w.heap.size≤w2.heap.size:=Ay HB1.size Ad.size;have Hy:BK (w2.alloc (.cells #[.slice q3 l1.length c3] 179)) base (.slice q3 l1.length c3) l1:=Fu (Ch Tm (AV w2 _)) (Ay Mc HB1.size);have aC7:(w2.alloc (.cells #[.slice q3 l1.length c3] 179)).cell? ⟨mc,0,none⟩=some (.map (some m)):=(AB.cell (p:=⟨mc,0,none⟩) (D7 afo)).trans afo
  obtain⟨w5,ava,hE5,PN⟩:=(Jd.below AB).insert (name:=name) (l:=l1) (b:=w2.heap.size) HNI (by rw[EB];decide) ⟨_,aas,Hy,Ay Mc aiJ⟩ (fun x hx e=>by
   obtain⟨v,h1,_⟩:=Jd.X3 x hx;have h2:=Ao h1;have h3:=Ad.size;omega) (by unfold maxLen;omega)
  have Lx:A7 (fun k=>k=m) (w2.alloc (.cells #[.slice q3 l1.length c3] 179)) w5:=A7.of_grownBy (F:=fun k=>k=m) PN (fun k e=>(Gu e).symm)
  have aak:∀ {b:Nat} {cs:Array Value} {t:TypeId},(w2.alloc (.cells #[.slice q3 l1.length c3] 179)).heap[b]?=some (.cells cs t)→w5.heap[b]?=some (.cells cs t):=fun {b cs t} h=>(Lx.block b (Ao h) (fun e=>by
   rw[e] at h;exact(Jd.below AB).Dp ⟨_,_,h⟩)).trans h
  have ic:=Hi (aak ((AB.block _ (Ao aM)).trans aM));have aC:=Hi (aak aas);have WO:=Hi ((A7.of_below (F:=PF w base m) ahE).trans Lx (fun i e=>.inl ⟨by rw[e];exact VJ,.inl e⟩))
  have ajo:=BH Hy Lx (fun j hj e=>by
   have h:=CB Hy hj;rw[e] at h;exact(Jd.below AB).Dp h)
  have c1:w5.cell? ⟨w2.heap.size,0,none⟩=some (.slice q3 l1.length c3):=cr aC.out;have vU:=Hi (l5 (Bj.D9 ajo) Tk (Ay GR (by decide)))
  have V7:=Hi (show Kp.EM Aj (lt++[pr]) (setRow ((name,l1) :: L) name (put pr.1 pr.2 l1)) from by
   rw[azt HNI.out];exact adO.out)
  have mO:=Hi hE5;have gI:=Hi (show(fun t=>if t=name then w2.heap.size else f t) name=w2.heap.size from Ac rfl);generalize (fun t=>if t=name then w2.heap.size else f t)=f1 at*;obtain⟨L1,jf⟩:=ex ((name,l1) :: L);have TV:=Hi (show(name,l1)∈L1 from by rw[←jf];simp);rw[jf] at mO V7;have Sq:=Hi (show PF w base m w2.heap.size∨w.heap.size≤w2.heap.size from .inr aiJ);obtain⟨fb,jK⟩:=ex (w2.heap.size);rw[jK] at c1 aC gI ava Sq;clear Ad AB ahE aas hE5 PN Lx aak Ag Tm ajo Hy jf adO Jd aM FK Qz ajh HE NQ;go_wp2_with fail
 all_goals
  refine vU.mono ?_;rintro e w6⟨v6,rfl,Kc,Cb⟩;obtain⟨q6,c6,rfl,hq6,-⟩:=Fz Kc;have ajf:=(Cb.block _ (Ao ic)).trans ic.out;have nA:=Hi ajf
  have V6:=Hi (alh Kc (axZ pb pr) (fun W hW=>(hW.block _ (Ao nA) (fun e=>by
    have:=Ec Kc e;have:=Ao ic;omega)).trans nA) (Ay GR (by decide)))
  have Ho:=Hi Kc;have EJ:=Hi Cb;clear Kc Cb ajf vU;go_wp2_with fail;refine V6.mono ?_;rintro e w7⟨v7,rfl,ky,dR,-⟩;have EW:Bw w5 w7:=Cq EJ dR (fun i e=>Ec Ho e) EJ.size
  have rF:=(dR.block _ (Ao nA) (fun e=>by
    have:=Ec Ho e;have:=Ao ic;omega)).trans nA.out
  obtain⟨q7,c7,rfl,hq7,Xm⟩:=Fz ky;have jJ:=(EW.block _ (Ao aC)).trans aC.out;have c17:w7.cell? ⟨fb,0,none⟩=some (.slice q3 l1.length c3):=cr jJ;have Zc:=Cu w7 fb 0 _ _ jJ;have Jq:=(mO.below EW).set TV (Fu ky (Ay Mc (WO.size)));rw[gI.out] at Jq;have ajG:=WO.trans (A7.of_below (F:=PF w base m) EW) (fun _ f=>.inl f);have PT:=ajG.setCell (p:=⟨fb,0,none⟩) Sq (.slice q7 (l1.filter fun p=>!(p.1 == pr.1)).length c7);have abn:=(A7.refl (fun k=>k=fb) w7).setCell (p:=⟨fb,0,none⟩) (.inl rfl) (.slice q7 (l1.filter fun p=>!(p.1 == pr.1)).length c7);have KR:∀ k,k=fb→¬ Bf w7 k 51:=fun k e hb=>by
   obtain⟨cs,fr,hb⟩:=hb;rw[e,jJ] at hb;injection hb with hb
   injection hb with _ hb
   exact absurd hb (by decide)
  have dL:=(abn.block pb (Ao rF) (fun e=>KR _ e ⟨_,_,rF⟩)).trans rF;have Zy:=BH ky abn (fun k hk e=>KR k e (CB ky hk));have Xp:=Cf w7 fb 0 _ _ (.slice q7 (l1.filter fun p=>!(p.1 == pr.1)).length c7) jJ;obtain⟨l8,Lp⟩:∃ l8,l1.filter (fun p=>!(p.1 == pr.1))=l8:=⟨_,rfl⟩;rw[Lp] at Jq PT dL Zy Xp Xm;have WH:=Hi (show KX [l8,[pr]]=put pr.1 pr.2 l1 from by rw[←Lp];exact akQ FL pr);rw[Lp];have auJ:l8.length≤1000:=by rw[←Lp];exact Ay (LK _ _) GR
  clear Lp ajG abn KR ky dR EW rF;go_wp2_with fail;have afv:(w7.setCell ⟨fb,0,none⟩ (.slice q7 l8.length c7)).cell? ⟨pb,0,none⟩=some (.string (bs pr.1)):=cr dL;have afw:(w7.setCell ⟨fb,0,none⟩ (.slice q7 l8.length c7)).cell? ⟨pb,1,none⟩=some (.string (bs pr.2)):=cr dL;have yI:(w7.setCell ⟨fb,0,none⟩ (.slice q7 l8.length c7)).cell? ⟨fb,0,none⟩=some (.slice q7 l8.length c7):=cr Xp;obtain⟨w8,hw8⟩:=ex (w7.setCell ⟨fb,0,none⟩ (.slice q7 l8.length c7));rw[hw8] at Jq PT dL Zy Xp afv afw yI ⊢;clear hw8 c17 Zc jJ;have wP:=Hi (aye (base:=base) (fb:=fb) Zy (Ay Mc WO.size) dL Xp hq7 Xm (by have:=WO.size;have:=PT.size;omega) auJ);rw[WH.out] at wP;have aqm:(w8.alloc (.cells #[.string (bs pr.1),.string (bs pr.2)] 51)).cell? ⟨fb,0,none⟩=some (.slice q7 l8.length c7):=((AV w8 _).cell (p:=⟨fb,0,none⟩) (Ao Xp)).trans yI;refine aj ?_
  go_region_law
   (first
    |(go_simp;go_at_call 97;refine wP.mono ?_;rintro e w9 ⟨q9,c9,rfl,PQ,Ez,c19,cK⟩;go_wp2_with fail))
  all_goals
   dsimp only[XZ];have ai4:=(Ez.block _ (Ao Xp)).trans Xp;have aiB:(name,l8)∈setRow L1 name l8:=BA.2 ⟨_,TV,Ac rfl⟩;have kz:=(Jq.below Ez).set aiB PQ;rw[gI.out,setRow_setRow] at kz;have hu9:=(PT.trans (A7.of_below (F:=PF w base m) Ez) (fun _ f=>.inl f)).setCell (p:=⟨fb,0,none⟩) Sq (.slice q9 (put pr.1 pr.2 l1).length c9);have ai3:=Cf w9 fb 0 _ _ (.slice q9 (put pr.1 pr.2 l1).length c9) ai4;have aiA:(name,put pr.1 pr.2 l1)∈setRow L1 name (put pr.1 pr.2 l1):=BA.2 ⟨_,TV,Ac rfl⟩;have rG:=kz.X3 _ aiA;rw[gI.out] at rG;obtain⟨F7,XP⟩:=ex (w9.setCell ⟨fb,0,none⟩ (.slice q9 (put pr.1 pr.2 l1).length c9));rw[XP] at kz hu9 ai3 rG ⊢;have HPE:=Hi rG;have nN:=Hi kz;have aR:=Hi hu9;clear XP PQ Ez c19 cK ai4 aiB hu9 aiA rG kz Jq PT dL Zy Xp afv afw yI aqm wP ai3;have VN:=@run_makeMap prog;have Xh:base≤F7.heap.size:=Ay Mc aR.size;have qA:=AV F7 (.map #[] 0);obtain⟨fF,aD6,ahc,aaz⟩:=(F4.made F7 base (fun _=>fb) Xh).insert (name:=name) (l:=put pr.1 pr.2 l1) (b:=fb) (by simp) (by rw[EB];decide) (HPE.below qA) (fun x hx=>by simp at hx) (by unfold maxLen;decide);have abm:A7 (PF w base m) F7 fF:=(A7.of_below (F:=PF w base m) qA).trans (A7.of_grownBy (F:=fun k=>k=F7.heap.size) aaz (fun k e=>(Gu e).symm)) (fun i e=>.inr (by rw[e];exact Ae _));have aDb:=abm.size
   have LW:=Hi (akG ahc (fun x hx=>by
    obtain rfl:x=(name,put pr.1 pr.2 l1):=(by simpa using hx);have hs:=SA name;rw[MB.out] at hs;exact⟨CR.QR (FL.put _ _),Ay hs.1 (by decide),hs.2⟩) (fun x hx=>by
    obtain rfl:x=(name,put pr.1 pr.2 l1):=by simpa using hx
    show name.length≤1000
    rw[EB];decide) (by simp))
   have hne:put pr.1 pr.2 l1≠[]:=List.ne_nil_of_mem ((TC FL).2 (.inl rfl));have PK:Ps [(name,put pr.1 pr.2 l1)]=(BS (put pr.1 pr.2 l1)).isSome:=(by rw[arS];unfold MN;simp[hne]);unfold aV at LW;rw[PK] at LW;have iq:=Hi (aR.trans abm (fun _ f=>.inl f));have aex:=Hi (show F4 fF base m (setRow L1 name (put pr.1 pr.2 l1)) f1 from nN.avX qA aaz);have nM:=Hi (show(if(BS (put pr.1 pr.2 l1)).isSome=true then(0:Int) else 5)=res from by rw[←MB.out];exact Ej.out);clear Ej;clear qA ahc aaz abm hne PK HPE nN aR;generalize (KL [(name,put pr.1 pr.2 l1)])=chs at*;cases DK:(BS (put pr.1 pr.2 l1)).isSome with
   |true=>
    have dO:res=0:=(by rw[←nM.out,Ac DK]);subst dO;clear nM;simp only[DK,if_true] at LW;go_wp2_with fail;refine LW.mono ?_;rintro e w12⟨q12,c12,rfl,-,Xi⟩;have fZ:=Hi Xi;clear Xi;go_wp2;go_ret;exact⟨rfl,_,f1,aex.below fZ,V7,iq.trans (A7.of_below (F:=PF w base m) fZ) (fun _ f=>.inl f)⟩
   |false=>
    have MV:res=5:=(by rw[←nM.out,Aa (by rw[DK];simp)]);subst MV;clear nM;simp only[DK,Bool.false_eq_true,if_false] at LW;go_wp2_with fail;refine LW.mono ?_;rintro e w12⟨rfl,Xi⟩;have fZ:=Hi Xi;clear Xi;go_wp2;go_ret;exact⟨rfl,_,f1,aex.below fZ,V7,iq.trans (A7.of_below (F:=PF w base m) fZ) (fun _ f=>.inl f)⟩
def xW(w:World)(p:Nat)(l:M)(i:Value)(wr:World):Prop:=
 ∃ (k:Nat) (L:List (T×M)) (f:T→Nat),k≤l.length∧i=.int .i64 (k:Int)∧F4 wr w.heap.size (w.heap.size+1) L f∧Kp.EM Aj (l.take k) L∧Bw w wr∧Fits Aj (l.take k)∧
  wr.heap[w.heap.size]?=some (.cells #[.pointer (some ⟨p,0,none⟩)] 43)∧wr.heap[w.heap.size+1+1]?=some (.cells #[.map (some (w.heap.size+1))] 175)
theorem alj{wr w':World}{base m:Nat}{L:List (T×M)}{f:T→Nat}(h:F4 wr base m L f)(hu:A7 (PF wr base m) wr w'){b:Nat}{cs:Array Value}{t:TypeId}(hb:wr.heap[b]?=some (.cells cs t))(ht:t≠179):w'.heap[b]?=some (.cells cs t):=
 (hu.block b (Ao hb) (fun hf=>by
  rcases hf.2 with e|⟨c2,f2,e⟩
  ·rw[e] at hb;exact h.Dp ⟨_,_,hb⟩
  ·rw[hb] at e;injection e with e
   injection e with _ e
   exact ht e)).trans hb
theorem ax9{w:World}{p y:Nat}{A:M}{q:Option Addr}{cap:Nat}{l:M}{Q:Int→World→Prop}(hm:GN w p y)(hg:Ap.OV w y A)(Cv:∀ k,Af.get A (Aj.nm k)=none)(hk:Bj w q l)(hl:l.length≤1000)(DX:∀ x∈l,x.1.length≤1000000)(GZ:∀ j name,Small (BG Aj (l.take j) name))
  (hf:∀ W,Bw w W→Calls prog 175 #[.pointer (some ⟨y,0,none⟩)] W fun e w'=>e=.returned (.int .i64 0)∧W=w')
  (h5:¬ Fits Aj l→∀ w',Bw w w'→Q 5 w')
  (hc:Fits Aj l→∀ W q c,Bw w W→Ew W q (EZ Aj l)→Calls prog 17 #[.pointer (some ⟨y,0,none⟩),.slice q (EZ Aj l).length c] W fun e w'=>∃ c,e=.returned (.int .i64 c)∧Q c w'):
  Calls prog 40 #[.pointer (some ⟨p,0,none⟩),.slice q l.length cap] w fun e w'=>∃ c,e=.returned (.int .i64 c)∧Q c w':=by
 have HF:=Hi hf;have H5:=Hi h5;have HC:=Hi hc;have HM:=Hi hm;have HG:=Hi hg;have HK:=Hi hk;have DJ:=Hi Cv;have LX:=Hi DX;have SA:=Hi GZ;have jZ:=hm.lt;clear hf h5 hc hm hg hk Cv DX GZ
 go_in
 go_wp2_with fail;have Bb:=AV w (.cells #[.pointer (some ⟨p,0,none⟩)] 43);refine(awN (P:=fun W w'=>W=w') (HM.below Bb) (HF _ Bb)).mono ?_;rintro e w1⟨rfl,Jr⟩;subst Jr;have VN:=@run_makeMap prog;go_wp2_with fail;have PS:=Ar w (.cells #[.pointer (some ⟨p,0,none⟩)] 43);have XD:=AP w (.cells #[.pointer (some ⟨p,0,none⟩)] 43);have hmp:=F4.made (w.alloc (.cells #[.pointer (some ⟨p,0,none⟩)] 43)) w.heap.size (fun _=>0) Bb.size;have Ai:=Bb.alloc Bb.size (.map #[] 0);have Et:=((AV (w.alloc (.cells #[.pointer (some ⟨p,0,none⟩)] 43)) (.map #[] 0)).block _ (Ao XD)).trans XD;rw[PS] at hmp;have Tn:=Ar (w.alloc (.cells #[.pointer (some ⟨p,0,none⟩)] 43)) (.map #[] 0);rw[PS] at Tn;generalize (w.alloc (.cells #[.pointer (some ⟨p,0,none⟩)] 43)).alloc (.map #[] 0)=V1 at*;have Gm:=AP V1 (.cells #[.map (some (w.heap.size+1))] 175);have qB:=AV V1 (.cells #[.map (some (w.heap.size+1))] 175);rw[Tn] at Gm
 have Pg:=Hi (show xW w p l (.int .i64 0) (V1.alloc (.cells #[.map (some (w.heap.size+1))] 175)) from
  ⟨0,[],_,AZ _,rfl,hmp.below qB,by rw[I8];exact Kp.EM.nil,Ai.trans (qB.mono Ai.size),by rw[I8];exact fun j hj=>by simp at hj,(qB.block _ (Ao Et)).trans Et,Gm⟩)
 generalize V1.alloc (.cells #[.map (some (w.heap.size+1))] 175)=V2 at*;clear Bb Ai XD Et hmp PS Tn Gm qB
 go_loopw [22] (fun i wr=>xW w p l i wr) (fun i _=>l.length -(intOf i).toNat)
 case atStart=>exact Pg.out
 case round=>
  obtain⟨k,L,f,hk,rfl,he,GA,hb,C9,Zq,Ux⟩:=hrel;have HE:=Hi he;have WK:=Hi GA;have HB:=Hi hb;have L9:=Hi C9;have aN:=Hi Zq;have gY:=Hi Ux;clear he GA hb C9 Zq Ux Pg;by_cases hlt:k < l.length
  ·obtain⟨a,Cx,ha,-⟩:=(HK.below HB).index cap k hlt;have c0:=ha.key;have c1:=ha.val;have hkx:=LX _ (Dc hlt);have CX:=Hi (CQ hlt)
   have Nr:=Hi (show Fits Aj l→(BS (BG Aj (l.take k++[l[k]]) (Aj.nm l[k].1))).isSome=true from fun h=>by
    have:=h k hlt;rwa[CQ hlt] at this)
   generalize l[k]=x at*;have C8:=AV wr (.cells #[.string (bs x.1),.string (bs x.2)] 51);have CY:=HB.trans (C8.mono HB.size);have aaX:=(C8.block _ (Ao aN)).trans aN.out;have aaL:=(C8.block _ (Ao gY)).trans gY.out;have ap1:=Hi aaX;have aoI:=Hi aaL;have CL:=Hi CY;have R9:=Hi (HE.below C8);have HP:=Hi (ax8 (pr:=x) R9 WK aaL aaX (HM.below CY) (Xa HG CY) DJ CY.size hkx (by rw[Be];omega) (fun name=>by rw[←CX.out];exact SA (k+1) name) (Nat.le_succ _));clear C8 CY aaX aaL ha aN gY HE;have NL:∀ args w,(callFunc 93 args).run prog w=.ok (.enter 93 args) w:=enters_of func93 (by kernel_rfl) rfl;have TT:=Hi (@Fits.kY Aj (l.take k) x);generalize Pz:(BS (BG Aj (l.take k++[x]) (Aj.nm x.1))).isSome=cc at*;cases cc with
   |true=>
    simp only[if_true] at HP;go_wp2_with fail;refine HP.mono ?_;rintro e w3⟨rfl,L',f',qI,rM,Dk⟩;have Cz:=Hi (show xW w p l (.int .i64 ((k:Int)+1)) w3 from⟨k+1,L',f',by omega,by go_num,qI,by rw[CX.out];exact rM,Cq CL Dk (fun i hi=>hi.1) CL.size,by rw[CX.out];exact TT.2 ⟨L9,by trivial⟩,alj R9 Dk ap1 (by decide),alj R9 Dk aoI (by decide)⟩);clear qI rM Dk;go_wp2;go_roundw
    case rel=>exact Cz.out
    case measure=>
     show l.length -((k:Int)+1).toNat < l.length -((k:Int)).toNat
     omega
   |false=>
    simp only[Bool.false_eq_true,if_false] at HP;have Vg:=Hi (show ¬ Fits Aj l from fun h=>by have:=Nr h;cases this);go_wp2_with fail;refine HP.mono ?_;rintro e w3⟨rfl,L',f',qI,rM,Dk⟩;have HQ:=Hi (H5 Vg w3 (Cq CL Dk (fun i hi=>hi.1) CL.size));clear qI rM Dk;go_wp2;go_ret;exact⟨5,rfl,HQ⟩
  ·obtain rfl:k=l.length:=(by omega);have aid:Fits Aj l:=(by have:=L9.out;rwa[Dq] at this);have GA:=WK.out;rw[Dq] at GA;have yL:wr.cell? ⟨w.heap.size+1+1,0,none⟩=some (.map (some (w.heap.size+1))):=cr gY.out;have Xe:L.length≤100000:=Ay (tY GA) (by omega)
   have LW:=Hi (akG HE (fun z hz=>by
    have h1:=SA l.length z.1;rw[Dq] at h1;rw[GA.rows z hz];exact⟨CR.QR (SL _ _),Ay h1.1 (by decide),h1.2⟩) (fun z hz=>by
    obtain⟨r,_,hr⟩:=BA.1 ((GA.names z.1).1 (Hl hz));rw[←hr,abX];decide) Xe)
   unfold aV at LW;have e1:=GA.oz;have e2:=GA.fits aid;simp only[Ac e2,e1] at LW;clear GA e1 e2;go_wp2_with fail;refine LW.mono ?_;rintro e w8⟨q8,c8,rfl,Zy,Ji⟩;have Kw:=bH HB Ji;have Bh:=Hi (HC aid w8 q8 c8 Kw (Ew.D9 Zy));have aCX:=(HM.below Kw).cell;have aD0:w8.cell? ⟨w.heap.size,0,none⟩=some (.pointer (some ⟨p,0,none⟩)):=by
    have h:=(Ji.block _ (Ao aN)).trans aN.out;rw[BF _ _ _ _ _ _ h];rfl
   generalize (EZ Aj l).length=dn at*;clear Zy Ji;go_wp2_with fail;refine Bh.mono ?_;rintro e w9⟨cc,rfl,Zt⟩;go_wp2;go_ret;exact⟨cc,rfl,Zt⟩
end Mem
namespace Cg
open Go.Shelf
open Aq Af Ap Bu Kp BM Hex BD Al Mem
attribute [local go_sem] O4
attribute [local go_sem ↓] bf
theorem QT:strCells []=[]:=by unfold strCells;rfl
theorem acU{W:World}{B n:Nat}{v:Value}{cs:List Value}{k:List T}(h:W.ownsRow B 9 1 v n cs){q:Option Addr}{cap:Nat}(hk:Dv W q k)(hq:q=none→cap=0)(hn:n+k.length≤1000000000)(hb:B≤W.heap.size):
  ∃ v' w2,(Vt #[61,61] 61 #[v,.slice q k.length cap]).run prog W=.ok v' w2∧w2.ownsRow B 9 1 v' (n+k.length) (cs++strCells k)∧W.grownBy w2 v.ownBlock:=by
 obtain⟨i0,Bg,AX,AY,Ba⟩:=DI RX;cases q with
 |none=>
  obtain rfl:k=[]:=by
   cases k with
   |nil=>rfl
   |cons y k=>
    obtain⟨p,hp,_⟩:=hk 0 (by simp);cases hp
  rw[hq rfl];refine⟨v,W,run_append_owned_none (P:=prog) (w:=W) B 61 61 9 i0 1 underlying61 Bg v n cs h,?_,World.grownBy.refl W _⟩;rw[QT,En];exact h
 |some ad=>
  obtain⟨v',w2,h1,h2,h3,_,_⟩:=run_append_own_at (P:=prog) W B 61 61 9 i0 _ 1 16 underlying61 Bg AX AY Ba rfl (by decide) v n cs h ad k.length cap (strCells k) (by rw[strCells_length,Nat.mul_one]) (fun j u hj=>by
   have K8:j < k.length:=by
    have:=(TK.1 hj).1;rwa[strCells_length] at this
   rw[Y8 k j K8] at hj;obtain⟨p,hp,hc⟩:=hk j K8;cases hp;rw[hc,←hj]) (acQ _) (by unfold maxLen;omega) (by omega) hb
  exact⟨v',w2,h1,h2,h3⟩
def Hd(K:Kind)(A:M)(ks:List T):List T:=ks.flatMap fun t=>Eb ((fileOf K A t).getD [])
theorem amw(K:Kind)(A:M)(ks:List T)(t:T):Hd K A (ks++[t])=Hd K A ks++Eb ((fileOf K A t).getD []):=by
 unfold Hd;rw[Nk];simp
theorem abJ(l:M):(Eb l).length≤l.length:=by
 unfold Eb;have:=UM (l.map (·.1));rwa[Ca] at this
theorem amx{K:Kind}(A:M)(ks:List T):(Hd K A ks).length≤(JR K A ks).length:=by
 induction ks using UN with
 |h0=>exact Ae _
 |h1 ks t ih=>
  rw[amw,lD,Az,Az];have:=abJ ((fileOf K A t).getD []);omega
theorem azc{K:Kind}{A:M}(hu:Up A):Bc (Hd K A (I4 K A))=Cm K A:=by
 unfold Cm Eb;rw[←uu hu];refine QU (JQ _) (JQ _) fun t=>?_
 rw[Eg,Eg,BA];unfold Hd JR;rw[Nl];constructor
 ·rintro⟨n,hn,h⟩;unfold Eb at h;rw[Eg,BA] at h;obtain⟨p,hp,e⟩:=h;exact⟨p,Nl.2 ⟨n,hn,hp⟩,e⟩
 ·rintro⟨p,hp,e⟩;obtain⟨n,hn,hp⟩:=Nl.1 hp;exact⟨n,hn,by unfold Eb;rw[Eg,BA];exact⟨p,hp,e⟩⟩
def JT(K:Kind)(A:M)(w:World)(oc B:Nat)(ks:List T)(W:World):Prop:=
 ∃ v,Ex 9 61 1 w oc B W (Hd K A ks).length (strCells (Hd K A ks)) v∧(ks=[]→v=.slice none 0 0)
theorem abE(K:Kind)(A:M)(w:World)(oc:Nat):WT w oc (JT K A w oc) where
 below:=fun B ks W W' ⟨v,h1,h2⟩ hb=>⟨v,h1.below hb,h2⟩
 raise:=fun B B' W ⟨v,h1,h2⟩ hb hs=>by
  have e:=h2 rfl;subst e;have e2:Hd K A []=[]:=rfl;rw[e2,QT] at h1;exact⟨_,by rw[e2,QT];exact Ex.raise h1 hb hs,fun _=>rfl⟩
 put:=fun B ks W k o o' ⟨v,h1,h2⟩ ho hc hk=>⟨v,h1.put ho hc hk,h2⟩
theorem afW{w:World}{q:Option Addr}{cap:Nat}{l:M}(h:Bj w q l)(hq:q=none→cap=0)(hl:l.length≤1000000):
  Calls prog 124 #[.slice q l.length cap] w fun e w'=>∃ v,e=.returned v∧Ap.Bq w' w.heap.size v (Eb l)∧Bw w w':=by
 have HK:=Hi (eF h hq hl);clear h hq
 go_in
 go_wp2_with fail;refine HK.mono ?_;rintro e w1⟨v,rfl,hr,hb⟩;have HR:=Hi hr;have HB:=Hi hb;obtain⟨q,c,rfl⟩:=Bp hr;clear hr hb;go_wp2;go_ret;exact⟨_,rfl,HR,HB⟩
theorem aze{w W V:World}{Bx p:Nat}{A:M}{pre:List Gb}{x:Gb}{qv:Option Addr}{cv:Nat}(hO:Ex 9 61 1 w w.heap.size x.B W (Hd Ab A (pre.map (·.name))).length (strCells (Hd Ab A (pre.map (·.name)))) (.slice qv (Hd Ab A (pre.map (·.name))).length cv))
  (hS:LP w w.heap.size Bx x.B (.pointer (some ⟨p,0,none⟩)) 44 x.q x.c (A.map (·.1)) W)(hG:∀ z∈pre,z.B=x.B∧z.q=x.q∧z.c=x.c)(hT:∃ ts,pre.map (·.name)++x.name :: ts=I4 Ab A)(hV:Bw W V){kq:Option Addr}{kc:Nat}{kr:List T}
  (CJ:Ap.Bq V W.heap.size (.slice kq kr.length kc) kr)(hlen:(Hd Ab A (pre.map (·.name))).length+kr.length≤1000000)(Zh:kr=Eb ((fileOf Ab A x.name).getD []):=by rfl):
  ∃ q7 c7 w7,(Vt #[61,61] 61 #[.slice qv (Hd Ab A (pre.map (·.name))).length cv,.slice kq kr.length kc]).run prog V=.ok (.slice q7 ((Hd Ab A (pre.map (·.name))).length+kr.length) c7) w7∧
   V.cell? ⟨w.heap.size,0,none⟩=some (.slice qv (Hd Ab A (pre.map (·.name))).length cv)∧w7.cell? ⟨w.heap.size,0,none⟩=some (.slice qv (Hd Ab A (pre.map (·.name))).length cv)∧w7.frozen? ⟨w.heap.size,0,none⟩=false∧
   O5 w w.heap.size Bx (.pointer (some ⟨p,0,none⟩)) 44 Ab A (JT Ab A w w.heap.size) (pre++[x]) (w7.setCell ⟨w.heap.size,0,none⟩ (.slice q7 ((Hd Ab A (pre.map (·.name))).length+kr.length) c7))∧
   KeepsOthers W (w7.setCell ⟨w.heap.size,0,none⟩ (.slice q7 ((Hd Ab A (pre.map (·.name))).length+kr.length) c7)):=by
 have Qs:=hO.below hV;have dz:kq=none→kc=0:=fun e=>by
  rcases CJ.2 with⟨e1,_⟩|⟨g,cap,cur,e1,_⟩
  ·injection e1
  ·rw[e] at e1;injection e1 with e1;cases e1
 obtain⟨v7,w7,QG,Ls,Im⟩:=acU (W:=V) Qs.row (I6 CJ) dz (by omega) Qs.size;obtain⟨q7,c7,rfl⟩:=Bp Ls;have NK:=(Im.block w.heap.size (Ao Qs.box) (fun e=>(Qs.ne e.symm).1 rfl)).trans Qs.box;have bR:=hO.add hV Im Ls;refine⟨q7,c7,w7,QG,cr Qs.box,cr NK,Cu w7 w.heap.size 0 _ _ NK,?_,hO.keeps hV Im _⟩;refine iI hS hG hT (hO.turned hV Im _) ⟨.slice q7 ((Hd Ab A (pre.map (·.name))).length+kr.length) c7,?_,fun e=>by simp at e⟩;rw[amw,Az,←Zh,show strCells (Hd Ab A (pre.map (·.name))++kr)=strCells (Hd Ab A (pre.map (·.name)))++strCells kr by unfold strCells;rw[D6]];exact bR
theorem ar8{w:World}{p y:Nat}{A:M}(hm:Fx w p y)(hf:Hm w y A)(hl:(EN Ab A).length≤1000000):
  Calls prog 46 #[.pointer (some ⟨p,0,none⟩)] w fun e w'=>∃ v,e=.returned v∧Ap.Bq w' w.heap.size v (Cm Ab A)∧Bw w w':=by
 refine(Dr (n:=3)).1 ?_;have QA:prog.follows .mixedOrders=true:=by kernel_rfl
 have HM:=Hi hm;have HF:=Hi hf;have HE:=Hi (uu (K:=Ab) hf.up);have HL:=Hi hl;clear hm hf hl;refine callsIn_of_wp_marks func46 rfl trivial ?_ rfl;simp only[ntmps46,Kr,BN,Iu,Nat.reduceAdd,Nat.reduceSub,Mm,Mq,Mv,Ms,Ev,Hf]
 gi_wp2
 have Bb:=AV w (.cells #[.slice none 0 0] 61);have II:Ex 9 61 1 w w.heap.size (w.heap.size+1) (w.alloc (.cells #[.slice none 0 0] 61)) 0 [] (.slice none 0 0):=⟨Bb,Ae _,Nat.lt_succ_self _,by rw[Ar];exact Ae _,AP w _,E5 _ _ _ _⟩;have P8:=Hi II;refine⟨trivial,(Dr.2 (yT p _)).mono ?_⟩;rintro e w2⟨rfl,Kh⟩;subst Kh
 gi_wp2
 have EK:=Hi (AP (w.alloc (.cells #[.slice none 0 0] 61)) (.cells #[.pointer (some ⟨p,0,none⟩)] 44));have Ad:=AV (w.alloc (.cells #[.slice none 0 0] 61)) (.cells #[.pointer (some ⟨p,0,none⟩)] 44);have CW:=Hi (P8.below Ad);have Dz:=Hi (Ar w (.cells #[.slice none 0 0] 61));obtain⟨Bx,Ik⟩:=ex ((w.alloc (.cells #[.slice none 0 0] 61)).heap.size);rw[Ik] at EK Dz;rw[show w.heap.size+1=Bx from Dz.symm];obtain⟨U,hU⟩:=ex ((w.alloc (.cells #[.slice none 0 0] 61)).alloc (.cells #[.pointer (some ⟨p,0,none⟩)] 44));rw[hU] at EK CW ⊢;clear Bb Ad II P8 Ik hU;refine adq (s:=4) (by omega) (gf:=201) (lb:=#[.pointer (some ⟨Bx,0,none⟩)]) rfl (enters_of func201 (by kernel_rfl) rfl) (e1:=fun x:Gb=>.string (bs x.name)) (e2:=fun x:Gb=>x.row)
  (Ia:=O5 w w.heap.size Bx (.pointer (some ⟨p,0,none⟩)) 44 Ab A (JT Ab A w w.heap.size)) (Iy:=TL w w.heap.size Bx (.pointer (some ⟨p,0,none⟩)) 44 Ab A (JT Ab A w w.heap.size))
  (fun xs=>iF (abE _ _ _ _) CW.AQ.size xs) (fun xs x=>iH (abE _ _ _ _) CW.AQ.size xs x)
  (yS 2 (by omega) HM HF w.heap.size Bx (abE _ _ _ _) U) (.inl ⟨rfl,CW.AQ,Ae _,by have:=Dz.out;omega,EK,w.heap.size+1,CW.size,.slice none 0 0,by rw[show Hd Ab A []=[] from rfl,QT];exact CW.out,fun _=>rfl⟩)
  ?assign ?body ?done
 case assign=>
  intro l x W K hK;simp only[np] at hK ⊢
  gi_wp2
  exact hK
 case body=>
  intro l2 pre x W hy;obtain⟨hS,hG,hT,⟨v,hO,-⟩,⟨q2,c2,FH,hP,Fp,-⟩⟩:=hy;have hlen:(Hd Ab A (pre.map (·.name))).length+(Eb ((fileOf Ab A x.name).getD [])).length≤1000000:=by
   obtain⟨ts,J3⟩:=hT;have h1:=amm (K:=Ab) (A:=A) (ks:=pre.map (·.name)++[x.name]) (ts:=ts);rw[Dy,List.singleton_append,J3,HE.out,lD,Az] at h1;have h2:=amx (K:=Ab) A (pre.map (·.name));have h3:=abJ ((fileOf Ab A x.name).getD []);have:=HL.out;omega
  have IE:=(bE (K:=Ab) (A:=A) (name:=x.name)).1;have Ld:=Hi (fun(V:World) (hV:Bw W V)=>afW (w:=V) (hP.below hV) Fp (by omega));obtain⟨qv,cv,rfl⟩:=Bp hO.row;have cb:W.cell? ⟨w.heap.size,0,none⟩=some (.slice qv (Hd Ab A (pre.map (·.name))).length cv):=cr hO.box;have ahQ:=Ao hO.box;have HO:=Hi hO;have HS:=Hi hS;have HG:=Hi hG;have HT:=Hi hT;simp only[np];rw[FH];clear hP Fp FH
  gi_wp2
  have cbd:W.drew.cell? ⟨w.heap.size,0,none⟩=some (.slice qv (Hd Ab A (pre.map (·.name))).length cv):=cb;have vF:=Hi (fun(V:World) (hV:Bw W V) (kq:Option Addr) (kc:Nat) (CJ:Ap.Bq V W.heap.size (.slice kq (Eb ((fileOf Ab A x.name).getD [])).length kc) (Eb ((fileOf Ab A x.name).getD [])))=>aze hO hS hG hT hV CJ hlen)
  gi_region_with_o (refine⟨trivial,(CallsIn.inRound l2 ((Dr (n:=0)).2 (Ld _ (by first|exact Ah _ _|exact(Ah _ _).drew)))).mono ?_⟩;rintro e w4 ⟨kv,rfl,CJ,AB⟩;obtain⟨kq,kc,rfl⟩:=Bp CJ;have AB:Bw W w4:=(by first|exact AB|exact((Ah _ W).drew).trans (AB.mono (Ae _)));obtain⟨q7,c7,w7,QG,Md,Xm,Zc,Gn,Xz⟩:=vF w4 AB kq kc CJ;have Dh:=Hi Gn;have V9:=Hi Xz;clear Gn Xz CJ AB;gi_wp2)
  all_goals
   exact⟨V9,Dh⟩
 case done=>
  intro D xs W hD hS hI Df;obtain⟨B,v,hO,-⟩:=iG hI;rw[hS] at hO;obtain⟨q,c,rfl⟩:=Bp hO.row;have Pf:=Hi (azc (K:=Ab) HF.up);have hRl:(Hd Ab A (I4 Ab A)).length≤1000000:=by
   have:=amx (K:=Ab) A (I4 Ab A);rw[HE.out] at this;exact Ay this HL.out
  have Ej:=Hi (yZ (w:=W) (base:=B) hO.row hRl);have HO:=Hi hO;have Sw:=Hi Df;have HD:=Hi (show w.heap.size≤D from Ay (Ay (Nat.le_succ _) CW.size) hD);generalize Hd Ab A (I4 Ab A)=R at*;have cb:W.cell? ⟨w.heap.size,0,none⟩=some (.slice q R.length c):=cr hO.box;clear hS hI Df hD hO
  gi_wp2
  refine⟨trivial,(Dr.2 Ej).mono ?_⟩;rintro e w5⟨rv,rfl,FP,Bo⟩;obtain⟨rq,rc,rfl⟩:=Bp FP;have SS:=(Bo.block _ (Ao HO.box)).trans HO.box;have c5:w5.cell? ⟨w.heap.size,0,none⟩=some (.slice q R.length c):=cr SS;have hf5:=Cu w5 w.heap.size 0 _ _ SS;have Te:=(Bo.block D (Dm.1 Sw).1).trans Sw.out;have Kg:=(A7.refl (fun k=>k=w.heap.size) w5).setCell (p:=⟨w.heap.size,0,none⟩) (.inl rfl) (.slice rq (Bc R).length rc);have SV:=Cf w5 w.heap.size 0 _ _ (.slice rq (Bc R).length rc) SS
  have IU:=Hi ((Kg.block D (Dm.1 Te).1 (fun e=>by
   rw[e,SS] at Te;cases Te)).trans Te)
  have jW:=HO.lt
  have Kc:=BH (Fu FP HO.AQ.size) Kg (fun k hk e=>by
   have h1:=Ec FP hk;have h2:=Ao HO.box;omega)
  have EJ:=Hi ((HO.AQ.trans (Bo.mono HO.AQ.size)).setCell (p:=⟨w.heap.size,0,none⟩) (Ae _) (.slice rq (Bc R).length rc));have Ho:=Hi Kc
  have V4:=Hi (show((w5.setCell ⟨w.heap.size,0,none⟩ (.slice rq (Bc R).length rc)).putObj D (.deferred none)).cell? ⟨w.heap.size,0,none⟩=some (.slice rq (Bc R).length rc) from by
   rw[BF _ _ _ _ _ _ (RP SV IU rfl)];rfl)
  clear FP Bo SS Te Kg SV Kc
  gi_wp2
  refine⟨by simp,.inl ⟨_,_,rfl,run_takeDeferred IU,?_⟩⟩;have hu:A7 (fun i=>i=D) (w5.setCell ⟨w.heap.size,0,none⟩ (.slice rq (Bc R).length rc)) ((w5.setCell ⟨w.heap.size,0,none⟩ (.slice rq (Bc R).length rc)).putObj D (.deferred none)):=A7.of_grownBy (F:=fun i=>i=D) (grownBy_putObj' _ D (.deferred none)) (fun i e=>by cases e;rfl);refine⟨_,(by simp[results,results46,go_sem,V4.out]),.slice rq (Bc R).length rc,rfl,?_,Cq EJ hu (fun i e=>by rw[e];exact HD.out) EJ.size⟩;rw[←Pf.out]
  exact BH Ho hu (fun k hk e=>by
   obtain⟨cs,fz,h2⟩:=CB Ho hk;rw[e,IU.out] at h2;cases h2)
end Cg
namespace ER
open Aq Af Ap Bu Kp BM Hex BD Al Mem Cg
structure R3(w:World)(q:Addr)(b:Nat×T×T):Prop where
 kind:w.cell? (q.add 0)=some (.int .u8 (b.1:Int))
 who:w.cell? (q.add 1)=some (.string (bs b.2.1))
 key:w.cell? (q.add 2)=some (.string (bs b.2.2))
theorem R3.cells{w:World}{q:Addr}{b:Nat×T×T}(h:R3 w q b):w.cell? q=some (.int .u8 (b.1:Int))∧w.cell? ⟨q.block,q.off+1,none⟩=some (.string (bs b.2.1))∧w.cell? ⟨q.block,q.off+2,none⟩=some (.string (bs b.2.2)):=by
 have h1:=h.kind;rw[add_zero'] at h1;exact⟨h1,h.who,h.key⟩
def L6(w:World)(a:Option Addr)(l:List (Nat×T×T)):Prop:=∀ i,(h:i < l.length)→∃ p:Addr,a=some p∧R3 w (p.add (i*3)) l[i]
theorem R3.upd{F:Nat→Prop}{w w':World}{q:Addr}{c:Nat×T×T}(h:R3 w q c)(hu:A7 F w w')(hF:¬ F q.block):R3 w' q c:=by
 have b:∀ i,(q.add i).block=q.block:=add_block q;have hlt:=D7 h.kind;exact⟨(hu.cell hlt (by rw[b];exact hF)).trans h.kind,(hu.cell (by rw[b];rw[b] at hlt;exact hlt) (by rw[b];exact hF)).trans h.who,(hu.cell (by rw[b];rw[b] at hlt;exact hlt) (by rw[b];exact hF)).trans h.key⟩
theorem L6.upd{F:Nat→Prop}{w w':World}{a:Option Addr}{l:List (Nat×T×T)}(h:L6 w a l)(hu:A7 F w w')(hF:∀ p,a=some p→l≠[]→¬ F p.block):L6 w' a l:=fun i hi=>by
 obtain⟨p,hp,h1⟩:=h i hi;exact⟨p,hp,h1.upd hu (by rw[add_block];exact hF p hp (by intro e;rw[e] at hi;simp at hi))⟩
theorem L6.below{w w':World}{a:Option Addr}{l:List (Nat×T×T)}(h:L6 w a l)(hb:Bw w w'):L6 w' a l:=h.upd (ub hb) (fun _ _ _ f=>f)
theorem L6.index{w:World}{a:Option Addr}{l:List (Nat×T×T)}(h:L6 w a l)(cap k:Nat)(hk:k < l.length):
  ∃ q:Addr,(∀ W,(Instr.indexAt 58 (.slice a l.length cap) (.int .i64 (k:Int))).run prog W=.ok (.pointer (some q)) W)∧R3 w q l[k]∧∃ p:Addr,a=some p∧q.block=p.block:=by
 obtain⟨p,rfl,h1⟩:=h k hk;exact⟨_,fun W=>IM prog _ 23 underlying58 3 (by kernel_rfl) p l.length cap k hk W,h1,p,rfl,add_block _ _⟩
@[irreducible] def Gd (l:List (Nat×T×T)):List Value:=l.flatMap fun c=>[.int .u8 (c.1:Int),.string (bs c.2.1),.string (bs c.2.2)]
theorem iK:Gd []=[]:=by unfold Gd;rfl
theorem aq0(a b:List (Nat×T×T)):Gd (a++b)=Gd a++Gd b:=by unfold Gd;rw[Nk]
theorem aff(l:List (Nat×T×T))(c:Nat×T×T):Gd (l++[c])=Gd l++[.int .u8 (c.1:Int),.string (bs c.2.1),.string (bs c.2.2)]:=by unfold Gd;simp
theorem afe(l:List (Nat×T×T)):(Gd l).length=l.length*3:=by
 unfold Gd
 induction l with
 |nil=>rfl
 |cons p l ih=>rw[Q0,Az,ih,BN];simp;omega
theorem aq1(l:List (Nat×T×T)):∀ u∈Gd l,u.oneCell'=true:=by
 unfold Gd;intro u hu;obtain⟨p,_,hp⟩:=Nl.1 hu;simp only[BZ,List.not_mem_nil,or_false] at hp;rcases hp with rfl|rfl|rfl<;>rfl
theorem afd(l:List (Nat×T×T))(k:Nat)(hk:k < l.length)(j:Nat)(hj:j < 3):(Gd l)[k*3+j]?=([.int .u8 (l[k].1:Int),.string (bs l[k].2.1),.string (bs l[k].2.2)]:List Value)[j]? :=by
 unfold Gd
 induction l generalizing k with
 |nil=>simp at hk
 |cons c l ih=>
  rw[Q0];cases k with
  |zero=>
   rw[Nat.zero_mul,GJ,List.getElem?_append_left (by simp;omega)];rfl
  |succ k=>
   rw[List.getElem?_append_right (by simp;omega),show(k+1)*3+j -([Value.int .u8 (c.1:Int),.string (bs c.2.1),.string (bs c.2.2)]:List Value).length=k*3+j by simp;omega];exact ih k (by simpa using hk)
abbrev LQ(w:World)(base:Nat)(v:Value)(l:List (Nat×T×T)):Prop:=w.ownsRow base 23 3 v l.length (Gd l)
theorem L6.D9{w:World}{base:Nat}{q:Option Addr}{c n:Nat}{l:List (Nat×T×T)}(h:LQ w base (.slice q n c) l):L6 w q l:=fun i hi=>by
 rcases h.2 with⟨e1,e2⟩|⟨g,cap,cur,e1,_⟩
 ·omega
 ·have e2:q=some ⟨g,0,none⟩:=by injection e1
  subst e2;have hc:∀ j,j < 3→∀ v,([.int .u8 (l[i].1:Int),.string (bs l[i].2.1),.string (bs l[i].2.2)]:List Value)[j]?=some v→w.cell? (((⟨g,0,none⟩:Addr).add (i*3)).add j)=some v:=fun j hj v hv=>by
   rw[←afd l i hi j hj] at hv;have:=h.cells (g:=g) rfl _ _ hv;rw[add_plain] at this ⊢;rw[Vs];exact this
  exact⟨_,rfl,hc 0 (by omega) _ rfl,hc 1 (by omega) _ rfl,hc 2 (by omega) _ rfl⟩
theorem L6.cells{w:World}{l:List (Nat×T×T)}{p:Addr}(h:L6 w (some p) l):∀ j u,(Gd l)[j]?=some u→w.cell? (p.add j)=some u:=fun j u hj=>by
 have hlt:j < l.length*3:=by
  have:=(TK.1 hj).1;rwa[afe] at this
 obtain⟨i,r,hr,rfl⟩:∃ i r,r < 3∧j=i*3+r:=⟨j / 3,j % 3,by omega,by omega⟩;obtain⟨q,e,hp⟩:=h i (by omega);cases e;have hg:=afd l i (by omega) r hr;rw[hj] at hg;rw[←Addr.add_add];rcases(show r=0∨r=1∨r=2 by omega) with rfl|rfl|rfl
 ·rw[show u=.int .u8 (l[i].1:Int) by simpa using hg];exact hp.kind
 ·rw[show u=.string (bs l[i].2.1) by simpa using hg];exact hp.who
 ·rw[show u=.string (bs l[i].2.2) by simpa using hg];exact hp.key
theorem afg:(prog.info? 23).map (fun i=>(i.zero,i.size,i.bytes))=some (some (.agg #[.int .u8 0,.string ByteArray.empty,.string ByteArray.empty]),3,40):=by kernel_rfl
theorem aq3{w:World}{base c n:Nat}{q:Option Addr}{l:List (Nat×T×T)}(h:LQ w base (.slice q n c) l):q=none→c=0:=fun e=>by
 rcases h.2 with⟨e1,_⟩|⟨g,cap,cur,e1,_⟩
 ·injection e1
 ·rw[e] at e1;injection e1 with e1;cases e1
theorem aq4{W:World}{B:Nat}{v:Value}{l k:List (Nat×T×T)}(h:LQ W B v l){q:Option Addr}{cap:Nat}(hk:L6 W q k)(hq:q=none→cap=0)(hn:l.length+k.length≤1000000000)(hb:B≤W.heap.size):
  ∃ v' w2,(Vt #[58,58] 58 #[v,.slice q k.length cap]).run prog W=.ok v' w2∧LQ w2 B v' (l++k)∧W.grownBy w2 v.ownBlock:=by
 obtain⟨i0,Bg,AX,AY,Ba⟩:=DI afg;have e:∀ (w2:World) (v':Value),LQ w2 B v' (l++k)↔w2.ownsRow B 23 3 v' (l.length+k.length) (Gd l++Gd k):=fun w2 v'=>by
  show w2.ownsRow _ _ _ _ (l++k).length (Gd (l++k))↔_
  rw[aq0,Az]
 cases q with
 |none=>
  obtain rfl:k=[]:=by
   cases k with
   |nil=>rfl
   |cons y k=>
    obtain⟨p,hp,_⟩:=hk 0 (by simp);cases hp
  rw[hq rfl];refine⟨v,W,run_append_owned_none (P:=prog) (w:=W) B 58 58 23 i0 3 underlying58 Bg v l.length (Gd l) h,?_,World.grownBy.refl W _⟩;rw[En];exact h
 |some ad=>
  obtain⟨v',w2,h1,h2,h3,_,_⟩:=run_append_own_at (P:=prog) W B 58 58 23 i0 _ 3 40 underlying58 Bg AX AY Ba rfl (by decide) v l.length (Gd l) h ad k.length cap (Gd k) (afe k) hk.cells (aq1 k) (by unfold maxLen;omega) (by omega) hb;exact⟨v',w2,h1,(e _ _).2 h2,h3⟩
theorem acZ{W W2:World}{base b2:Nat}{nv ov:Value}{N:List T}{n:Nat}{cs:List Value}(h:Ap.Bq W base nv N)(ho:W.ownsRow b2 23 3 ov n cs)(hg:W.grownBy W2 ov.ownBlock):Ap.Bq W2 base nv N:=
 BH h (A7.of_grownBy (F:=fun k=>ov.ownBlock=some k) hg (fun k e=>e)) (fun g Qw f=>by
  obtain⟨c1,f1,e1⟩:=CB h Qw;obtain⟨c2,f2,e2⟩:=CB ho f;rw[e1] at e2;injection e2 with e2
  injection e2 with _ e2
  exact absurd e2 (by decide))
def mF(w:World)(nv:Value)(N:List T)(f:T→Nat×T×T)(s i:Value)(wr:World):Prop:=
 ∃ (k:Nat) (q:Option Addr) (c:Nat),k≤N.length∧i=.int .i64 (k:Int)∧s=.slice q k c∧wr.ownsRow w.heap.size 23 3 (.slice q k c) k (Gd ((N.take k).map f))∧Bw w wr∧Ap.Bq wr w.heap.size nv N
theorem yt{w wr W2 w1:World}{nv ov:Value}{N:List T}{f:T→Nat×T×T}{k cap':Nat}{q':Option Addr}(hk:k < N.length)(hb:Bw w wr)(Ag:wr.ownsRow w.heap.size 23 3 ov k (Gd ((N.take k).map f)))(hW:Bw wr W2)(hg:W2.grownBy w1 ov.ownBlock)
  (ho:w1.ownsRow w.heap.size 23 3 (.slice q' (k+1) cap') (k+1) (Gd ((N.take k).map f)++[.int .u8 ((f N[k]).1:Int),.string (bs (f N[k]).2.1),.string (bs (f N[k]).2.2)]))(hn:Ap.Bq wr w.heap.size nv N):
  mF w nv N f (.slice q' (k+1) cap') (.int .i64 ((k:Int)+1)) w1:=by
 refine⟨k+1,q',cap',by omega,by go_num,rfl,?_,?_,?_⟩
 ·rw[CQ hk,D6,List.map_singleton,aff];exact ho
 ·exact(bT hb hW).grown hg (Ay hb.size hW.size) (fun j hj=>Ec Ag hj)
 ·exact acZ (Ch hn hW) (Ch Ag hW) hg
end ER
section
section
variable {P:Program}{ops:Array Oper}{Q:Exit→Act→World→Prop}{md:Region.Mode}{S:World→Prop}
theorem Av(i:Nat){dst op ty pos af gd}{v:Value}{fuel:Nat}{listed l':Array Bool}{a a':Act}{w:World}(hS:S w)(h:wpAnyH P md ops Q S fuel l' a' w)
  (hi:ops[i]?=some ⟨dst,op,ty,pos,af,gd⟩:=by rfl)(hs:Region.noSelect ops=true:=by kernel_rfl)(hf:Region.free md ops listed i=true:=by kernel_rfl)(hr:(Region.ready md ops listed).contains i=true:=by kernel_rfl)
  (hw:Region.wanted ⟨dst,op,ty,pos,af,gd⟩ (yielded ops a.tmps)=true:=by rfl)
  (hy:∀ w,S w→(execOp a.eval ⟨dst,op,ty,pos,af,gd⟩).run P w=.ok (.value v) w:=by intro V hV;(try dsimp only at hV);go_simp;all_goals with_reducible rfl)
  (ha:a.put dst v=a':=by(try simp only[Act.put,np])<;>rfl)
  (hl:listed.setIfInBounds i true=l':=by(try simp only[np])<;>rfl)
  (hQ:∀ c a w,Q (.panic c) (a.put dst v) w→Q (.panic c) a w:=by exact fun _ _ _ h=>h):wpAnyH P md ops Q S (fuel+1) listed a w:=by
 subst ha hl;exact wpAnyH_take hi hs hf hr hQ (Or.inl ⟨hw,hy⟩) hS h
theorem Ja(i:Nat){dst op ty pos af gd}{fuel:Nat}{listed l':Array Bool}{a a':Act}{w:World}(hS:S w)(h:wpAnyH P md ops Q S fuel l' a' w)
  (hi:ops[i]?=some ⟨dst,op,ty,pos,af,gd⟩:=by rfl)(hs:Region.noSelect ops=true:=by kernel_rfl)(hf:Region.free md ops listed i=true:=by kernel_rfl)(hr:(Region.ready md ops listed).contains i=true:=by kernel_rfl)
  (hw:Region.wanted ⟨dst,op,ty,pos,af,gd⟩ (yielded ops a.tmps)=false:=by rfl)
  (ha:a.put dst undef=a':=by(try simp only[Act.put,np])<;>rfl)
  (hl:listed.setIfInBounds i true=l':=by(try simp only[np])<;>rfl)
  (hQ:∀ c a w,Q (.panic c) (a.put dst undef) w→Q (.panic c) a w:=by exact fun _ _ _ h=>h):wpAnyH P md ops Q S (fuel+1) listed a w:=by
 subst ha hl;exact wpAnyH_take hi hs hf hr hQ (Or.inr ⟨hw,rfl⟩) hS h
theorem Nh(i:Nat){dst op ty pos af gd}{fuel:Nat}{listed:Array Bool}{a:Act}{w:World}
  (h:∀ K':Act→World→Prop,Shut (∀ a w,S w→wpAnyH P md ops Q S fuel (listed.setIfInBounds i true) a w→K' a w)→if Region.wanted ⟨dst,op,ty,pos,af,gd⟩ (yielded ops a.tmps)=true then Oper.wp P ⟨dst,op,ty,pos,af,gd⟩ a w K' Q else K' (a.put dst undef) w)
  (ho:ops[i]?=some ⟨dst,op,ty,pos,af,gd⟩:=by rfl)(hr:Region.ready md ops listed=[i]:=by kernel_rfl):
  wpAnyH P md ops Q S (fuel+1) listed a w:=uX hr ho h
end
end
section
section
variable {P:Program}{ops:Array Oper}{Q:Exit→Act→World→Prop}{md:Region.Mode}{S:World→Prop}
theorem Ya(i:Nat){dst x y t u ty pos af gd}{l k:List UInt8}{vx vy:Value}{fuel:Nat}{listed l':Array Bool}{a a':Act}{w:World}(hS:S w)(Jn:l.length+k.length≤1000000000)(hvx:vx=.string (bs l))(hvy:vy=.string (bs k))(h:wpAnyH P md ops Q S fuel l' a' w)
  (hi:ops[i]?=some ⟨dst,.binOp .add t x y u,ty,pos,af,gd⟩:=by rfl)(hs:Region.noSelect ops=true:=by kernel_rfl)(hf:Region.free md ops listed i=true:=by kernel_rfl)(hr:(Region.ready md ops listed).contains i=true:=by kernel_rfl)
  (hw:Region.wanted ⟨dst,.binOp .add t x y u,ty,pos,af,gd⟩ (yielded ops a.tmps)=true:=by rfl)
  (hx:a.eval x=vx:=by rfl)(hy:a.eval y=vy:=by rfl)
  (ha:a.put dst (.string (bs (l++k)))=a':=by(try simp only[Act.put,np])<;>rfl)
  (hl:listed.setIfInBounds i true=l':=by(try simp only[np])<;>rfl)
  (hQ:∀ c a w,Q (.panic c) (a.put dst (.string (bs (l++k)))) w→Q (.panic c) a w:=by exact fun _ _ _ h=>h):wpAnyH P md ops Q S (fuel+1) listed a w:=by
 subst ha hl;refine wpAnyH_take hi hs hf hr hQ (Or.inl ⟨hw,?_⟩) hS h;intro V hV;unfold execOp;simp only[hx,hy,hvx,hvy];go_simp;omega
