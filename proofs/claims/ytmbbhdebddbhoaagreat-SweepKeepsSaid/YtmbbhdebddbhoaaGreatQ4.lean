/- DiskF DiskFill Copies Ref -/
import Derived.Test.YtmbbhdebddbhoaaGreatQ3
import Derived.RangeFuncNested
import Derived.RangeFuncBound
import Derived.RangeFuncCalls
import Derived.RangeFuncLeaves
import Derived.RangeFuncBox
import Derived.Shelf.Abstract
import Derived.Shelf.RegionOpen
import Derived.OwnWalkIn
import Derived.TacticsInMore
import Derived.LoopNIn
import Derived.LoopIn
import Derived.Laws.MakeOwn
import Derived.OneCell
import Derived.Laws.OwnMore
set_option maxHeartbeats 2000000
set_option maxRecDepth 100000
set_option linter.all false
namespace Go.Proofs.YtmbbhdebddbhoaaGreat
open Tryz hiding t1 t2
section
open Go.RowKit Go.Maps Go.Shelf
attribute [local go_sem] Le
def gJ(p:Value):Sem Value:=Instr.loadAt 195 p
theorem uB(p:Value):Instr.loadAt 195 p=gJ p:=rfl
def uC(p v:Value):Sem Unit:=Instr.storeAt 195 p v
theorem uD(p v:Value):Instr.storeAt 195 p v=uC p v:=rfl
theorem uE{W:World}{g o:Nat}{p:Nat×List UInt8}(h:p.2.length=64)(hr:W.rangeAt g o (Value.int .i64 (p.1:Int) :: Bn p.2)):(gJ (.pointer (some ⟨g,o,none⟩))).run prog W=.ok (.agg (putRow p)) W:=by
 have:=run_loadAt_mid (P:=prog) W g o 195 _ _ hr underlying195 rfl (Z5 p h);rw[Z6] at this;exact this
theorem agj(W:World){p:Nat×List UInt8}(h:p.2.length=64):(gJ (.pointer (some ⟨W.heap.size,0,none⟩))).run prog (W.alloc (.cells (putRow p) 195))=.ok (.agg (putRow p)) (W.alloc (.cells (putRow p) 195)):=by
 refine uE h (fun j v hv=>?_);rw[Fs,CV,←CB,RQ];exact hv
theorem uF(W:World){p:Nat×List UInt8}(h:p.2.length=64)(Z:Array Value)(hZ:Z.size=65):(uC (.pointer (some ⟨W.heap.size,0,none⟩)) (.agg (putRow p))).run prog (W.alloc (.cells Z 195))=.ok () (W.alloc (.cells (putRow p) 195)):=
 run_storeAt_new W _ Z (putRow p) (Z0 p h) (by rw[hZ,fZ p h]) (YZ p)
attribute [local go_sem ↓] uB uD
abbrev Item(N:Nat):={ p:Nat×List UInt8 // p.1 < N∧p.2.length=64 }
def encI{N:Nat}(x:Item N):Array Value:=#[.agg (putRow x.1)]
def agk(m n₀ k:Nat):Prop:=k=m∨n₀≤k
def Kp(m n₀:Nat)(W W':World):Prop:=A7 (agk m n₀) W W'
theorem gK{m n₀:Nat}{A B C:World}(h:Kp m n₀ A B)(k:Kp m n₀ B C):Kp m n₀ A C:=h.trans k (fun _ h=>.inl h)
theorem agl{m n₀ M:Nat}(hM:n₀≤M):∀ (W:World) (l:Nat) (o o':Obj),M≤l→W.heap[l]?=some o→o.isCells=false→o.isWalk=false→Kp m n₀ W (W.putObj l o'):=fun W l o o' h _ _ _=>by
 have hg:=grownBy_putObj' W l o';exact A7.of_grownBy hg (fun k e=>.inr (by cases e;omega))
structure Ul(m n₀:Nat)(W:World)(lv:Value)(L:List (Nat×List UInt8)):Prop where
 row:W.ownsRow 0 195 65 lv L.length (Jf L)
 old:∀ g,lv.ownBlock=some g→g < n₀∧g≠m
 len:∀ p∈L,p.2.length=64
theorem Ul.upd{m n₀:Nat}{W W':World}{lv:Value}{L:List (Nat×List UInt8)}(h:Ul m n₀ W lv L)(hk:Kp m n₀ W W'):Ul m n₀ W' lv L:=
 ⟨AL h.row hk (fun g hg f=>by obtain⟨h1,h2⟩:=h.old g hg;rcases f with f|f;exact h2 f;omega),h.old,h.len⟩
theorem values_in(F:Fence)(n:Nat)(hf:F.fn 187)(hro:F.round=none)(a:Option Addr)(len cap:Nat)(w:World):
  CallsIn F n prog 187 #[.slice a len cap] w fun e w'=>e=.returned (.func (.func 228) #[] #[.pointer (some ⟨w.heap.size,0,none⟩)])∧w'=w.alloc (.cells #[.slice a len cap] 115):=by
 refine callsIn_of_wp func187 rfl hf ?_ hro;simp only[ntmps187,Ih,AX,FN,Nat.reduceAdd,Nat.reduceSub,JB,JA,Jz,JC,DI,FL]
 gi_wp2
 go_ret;exact⟨rfl,rfl⟩
theorem values_stops(F:Fence)(n:Nat)(hf:F.fn 228)(hro:F.round=none)(hn:1≤n)(N m n₀ Bs:Nat)(lv:Value)(L:List (Item N))(w:World)(hc:w.cell? ⟨Bs,0,none⟩=some lv)(hL:Ul m n₀ w lv (L.map (·.1)))(hlen:L.length≤1000000000):
  SeqStopsK F n prog 228 #[.pointer (some ⟨Bs,0,none⟩)] (encI (N:=N)) (Kp m n₀) (fun ys=>ys=L) (fun _=>True) L.length w:=fun l J Jx W hW hJ _ hY h0=>by
 have hc':=(hW.cell (p:=⟨Bs,0,none⟩) (Bz hc)).trans hc;have hL':Ul m n₀ W lv (L.map (·.1)):=⟨AL hL.row (ub hW) (fun _ _ f=>f),hL.old,hL.len⟩;obtain⟨q,cap,rfl⟩:∃ q cap,lv=.slice q L.length cap:=by
  rcases hL.row.2 with⟨e1,e2⟩|⟨g,cap,_,e1,_⟩
  ·rw[BQ] at e2;exact⟨none,0,by rw[e1,e2]⟩
  ·rw[BQ] at e1;exact⟨_,cap,e1⟩
 have HL:=Hi hL';clear hL hL' hc;refine callsIn_of_wp func228 rfl hf ?_ hro;simp only[ntmps228,Ih,AX,FN,Nat.reduceAdd,Nat.reduceSub,JB,JA,Jz,JC,DI,FL]
 gi_wp2
 gi_loopw [7] (fun i wr=>∃ k:Nat,k≤L.length∧i=.int .i64 k∧J (L.take k) wr∧Kp m n₀ W wr)
  (fun i _=>L.length -(intOf i).toNat)
 case atStart=>exact⟨0,Ar _,rfl,by rw[FJ];exact h0,A7.refl _ _⟩
 case round=>
  obtain⟨k,hk,rfl,hJs,hnx⟩:=hrel;by_cases hlt:k < L.length
  ·have hlo:=(HL.upd hnx).row;obtain⟨g,rfl⟩:∃ g,q=some ⟨g,0,none⟩:=by
    rcases hlo.2 with⟨e1,e2⟩|⟨g,cap,_,e1,_⟩
    ·rw[BQ] at e2;omega
    ·exact⟨g,by injection e1⟩
   have hlk:k < (L.map (·.1)).length:=(by rw[BQ];exact hlt);have hr:=tN (by rw[BQ] at hlo ⊢;exact hlo) HL.len k hlk;have au8:=Fw prog 115 195 underlying115 65 tO ⟨g,0,none⟩ L.length cap k hlt;have Wq:(⟨g,0,none⟩:Addr).add (k*65)=⟨g,k*65,none⟩:=(by unfold Addr.add;split<;>simp_all);rw[Wq] at au8;rw[List.getElem_map] at hr;have htk:L.take (k+1)=L.take k++[L[k]]:=(by rw[List.take_add_one,BP hlt];rfl);have Bo:=Hi htk;have hl1:=uE L[k].2.2 hr;have hs1:=uF wr L[k].2.2 Tryz.zeroCells195 Z4;have hl2:=agj wr L[k].2.2;generalize L[k]=x at*;have hJ':J (L.take k) (wr.alloc (.cells (putRow x.1) 195)):=hJ _ _ _ none hJs (World.grownBy_alloc _ _ none) (fun r e=>by cases e);obtain⟨fn,tmps,assign,body,hy,hR⟩:=hY _ x _ hJ' (by rw[Aw];omega);unfold encI at hy;have Eg:=Hi hnx;clear hr hlo Wq htk hnx hJs
   gi_wp2
   refine hR.mono ?_;rintro e W3 (⟨rfl,hJ3,hk3⟩|⟨rfl,azn⟩)
   ·gi_wp2
    go_roundw
    case rel=>
     have h1:Kp m n₀ wr (wr.alloc (.cells (putRow x.1) 195)):=(A7.refl _ wr).alloc _;exact⟨k+1,by omega,by simp,by rw[Bo.out];exact hJ3,gK Eg (gK h1 hk3)⟩
    case measure=>simp[intOf];omega
   ·gi_wp2
    refine Dt (results_none rfl _ _ _) rfl ?_;exact⟨⟨_,rfl⟩,.inr ⟨_,trivial,azn⟩⟩
  ·obtain rfl:k=L.length:=by omega
   gi_wp2
   go_end0
   exact⟨⟨_,rfl⟩,.inl ⟨_,rfl,by rw[Ck] at hJs;exact hJs⟩⟩
end
section
open Go.RowKit Go.Maps Go.Shelf
attribute [local go_sem] Le
attribute [local go_sem ↓] uB uD gG
def laid(D:Dsk)(pre:List (Item D.n)):Dsk:={ D with base:=Dsk.lay D.base (pre.map (·.1)) }
theorem uG(D:Dsk)(pre:List (Item D.n))(x:Item D.n):laid D (pre++[x])={ laid D pre with base:=fun k=>if k=x.1.1 then x.1.2 else(laid D pre).base k }:=by
 unfold laid;rw[C8,Bg,List.map_nil,Dsk.sM]
theorem agm{D:Dsk}(h:D.Bf)(pre:List (Item D.n)):(laid D pre).Bf:=
 ⟨h.n1,h.n2,Dsk.Wh h.base (fun p hp=>by obtain⟨y,_,rfl⟩:=AV.1 hp;exact y.2),h.loose,h.left⟩
theorem Dv.put{w:World}{b m:Nat}{lv:Value}{D:Dsk}(h:Dv w b m lv D){f:Nat→List UInt8}{w':World}(hs:Jg w' m D.n f)(hg:w.grownBy w' (some m))(hf:Dsk.Bf { D with base:=f }):Dv w' b m lv { D with base:=f }:=by
 have hu:A7 (fun k=>k=m) w w':=A7.of_grownBy hg (fun k e=>by cases e;rfl);refine⟨?_,hs,AL h.loose hu (fun g hgg e=>h.lm (by rw[hgg,e])),h.mb,h.lb,h.lm,hf⟩;rw[hu.block b (BZ.1 h.struct).1 (Ne.symm h.mb)];exact h.struct
theorem agn{W:World}{g o:Nat}{x:List UInt8}(h:x.length=64)(hr:W.rangeAt g o (Bn x)):(gF (.pointer (some ⟨g,o,none⟩))).run prog W=.ok (.agg (Cf x)) W:=by
 have:=run_loadAt_mid (P:=prog) W g o 193 _ _ hr underlying193 rfl (Wp x h);rw[Ug] at this;exact this
theorem agp{w:World}{b m:Nat}{lv:Value}{D:Dsk}(h:Dv w b m lv D){gf:Nat}{lb:Array Value}(he:∀ args w,(callFunc gf args).run prog w=.ok (.enter gf args) w){n₀:Nat}(aC5:n₀≤w.heap.size){L:List (Item D.n)}{N n:Nat}(hn:3≤n)
  (hs:SeqStopsK Fence.wide (n -1) prog gf lb (encI (N:=D.n)) (Kp m n₀) (fun ys=>ys=L) (fun _=>True) N w):
  CallsIn Fence.wide n prog 49 #[.pointer (some ⟨b,0,none⟩),.func (.func gf) #[] lb] w fun e w'=>(∃ v,e=.returned v)∧Dv w' b m lv (laid D L)∧A7 (fun k=>k=m) w w':=by
 have h1:1≤n:=by omega
 have Mh:prog.follows .mixedOrders=true:=by kernel_rfl
 have Ku:=h.fine;have HD:=Hi h;have hb:b < w.heap.size:=(BZ.1 h.struct).1;have hm:m < w.heap.size:=h.base.lt;clear h;refine callsIn_of_wp_marks func49 rfl trivial ?_ rfl;simp only[ntmps49,Ih,AX,FN,Nat.reduceAdd,Nat.reduceSub,JB,JA,Jz,JC,DI,FL]
 gi_wp2
 have RU:=Boxed.new w 53 (.pointer (some ⟨b,0,none⟩));have hU0:A7 (fun k=>k=m) w (w.alloc (.cells #[.pointer (some ⟨b,0,none⟩)] 53)):=(A7.refl _ w).alloc _;have hD0:Dv (w.alloc (.cells #[.pointer (some ⟨b,0,none⟩)] 53)) b m lv (laid D []):=HD.upd ((A7.refl (fun _=>False) w).alloc _) (fun _ _ f=>f);have hsz:(w.alloc (.cells #[.pointer (some ⟨b,0,none⟩)] 53)).heap.size=w.heap.size+1:=Ai _ _;refine wpIn_rangeFunc_ownH rfl h1 (gf:=gf) (lb:=lb) rfl trivial he hs gK (agl (by omega)) ((Ad _ w).alloc (Ab _) _) (fun _=>rfl)
  (fun pre W=>(Dv W b m lv (laid D pre)∧Boxed W w.heap.size 53 (.pointer (some ⟨b,0,none⟩)))∧A7 (fun k=>k=m) w W)
  (fun _ _ _=>False)
  (fun s A B row hs hg hr=>?hown)
  (fun _ _ _ _ _ hs _ _=>hs)
  ⟨⟨hD0,RU⟩,hU0⟩
  (fun x a' W=>∃ Bx,w.heap.size < Bx∧W.heap[Bx]?=some (.cells (putRow x.1) 195 (0,0))∧a'={ tmps:=#[.pointer (some ⟨b,0,none⟩),.func (.func gf) #[] lb,.pointer (some ⟨w.heap.size,0,none⟩),undef,.pointer (some ⟨Bx,0,none⟩),.func (.func gf) #[] lb,.agg (putRow x.1),undef,undef,undef,undef,undef,undef,undef,undef],defers:=[] })
  (fun x a' _ X Y row hs hg hr=>?hAx)
  ?assign ?body ?done ?stop
 case hown=>
  have hu:A7 (fun k=>w.heap.size+1≤k) A B:=A7.of_grownBy hg (fun k e=>by have:=(hr k e).1;omega);obtain⟨⟨g1,g2⟩,g3⟩:=hs;refine⟨⟨g1.upd hu (fun k hk=>?_),g2.kept hg (fun e=>?_)⟩,g3.trans hu (fun i hi=>.inr (by omega))⟩
  ·rcases hk with rfl|rfl|hk
   ·omega
   ·omega
   ·have:=RO HD.loose hk;omega
  ·have:=(hr _ e.symm).1;omega
 case hAx=>
  obtain⟨Bx,g1,g2,g3⟩:=hs;refine⟨Bx,g1,(hg.block Bx (BZ.1 g2).1 (fun e=>?_)).trans g2,g3⟩;obtain⟨_,o,ho,hc⟩:=hr Bx e.symm;rw[g2] at ho;cases ho;cases hc
 case assign=>
  rintro l pre x W K⟨⟨hD,hB⟩,hU⟩ hK;have hs1:=uF W x.2.2 Tryz.zeroCells195 Z4;unfold encI
  gi_wp2
  exact hK _ _ ((KeepsOthers.alloc _ _).from _) ((A7.refl _ W).alloc _) ⟨⟨hD.upd ((A7.refl (fun _=>False) W).alloc _) (fun _ _ f=>f),hB.alloc _⟩,hU.alloc _⟩ ⟨W.heap.size,hB.lt,World.alloc_heap_new W _,rfl⟩
 case body=>
  rintro l pre x a' W hl⟨r,hr⟩ ⟨⟨hD,hB⟩,hU⟩ ⟨Bx,hBx,hx,rfl⟩ hlt;have c0:=hB.cell;obtain⟨_,c1,_,_,_,_⟩:=hD.cells;have hx0:W.cell? ⟨Bx,0,none⟩=some (.int .i64 (x.1.1:Int)):=by rw[AY W Bx 0 _ _ _ hx];exact tL x.1
  have hxs:W.rangeAt Bx 1 (Bn x.1.2):=fun j v hv=>by
   rw[AY W Bx (1+j) _ _ _ hx,←CB,RQ,Nat.add_comm 1 j];exact hv
  have hls:=agn (W:=W.drew) x.2.2 (fun j v hv=>hxs j v hv);obtain⟨w2,ay8,hS2,hg2⟩:=Jg.put (w:=W.drew) (hD.base.kept rfl) x.1.1 x.2.1 (by exact hD.fine.n2) x.1.2
  gi_wp2
  refine wpIn_region_any Mh ?_;refine agf (m:=8) (d:=7) (vals:=#[.pointer (some ⟨b,0,none⟩),.pointer (some ⟨b,0,none⟩),.pointer (some ⟨b,1,none⟩),.map (some m),.pointer (some ⟨Bx,0,none⟩),.int .i64 (x.1.1:Int),.pointer (some ⟨Bx,1,none⟩),.agg (Cf x.1.2)]) rfl (by simp) ?hops (by kernel_rfl) (by kernel_rfl) ?hrun ?hfin
  case hops=>
   intro j hj;have:j=0∨j=1∨j=2∨j=3∨j=4∨j=5∨j=6∨j=7:=(by omega);rcases this with rfl|rfl|rfl|rfl|rfl|rfl|rfl|rfl<;>exact⟨_,rfl,rfl,rfl⟩
  case hrun=>
   intro j hj;have:j=0∨j=1∨j=2∨j=3∨j=4∨j=5∨j=6∨j=7:=(by omega);have a2:∀ a:Act,(∀ s,(s < 7∨7+8≤s)→a.tmps.getD s undef=(#[Value.pointer (some ⟨b,0,none⟩),.func (.func gf) #[] lb,.pointer (some ⟨w.heap.size,0,none⟩),undef,.pointer (some ⟨Bx,0,none⟩),.func (.func gf) #[] lb,.agg (putRow x.1),undef,undef,undef,undef,undef,undef,undef,undef]:Array Value).getD s undef)→a.tmps.getD 2 undef=.pointer (some ⟨w.heap.size,0,none⟩)∧a.tmps.getD 4 undef=.pointer (some ⟨Bx,0,none⟩):=fun a h=>⟨h 2 (by omega),h 4 (by omega)⟩
   rcases this with rfl|rfl|rfl|rfl|rfl|rfl|rfl|rfl<;>(intro o ho;cases ho;intro a _ hout hin;obtain⟨t2,t4⟩:=a2 a hout;simp[Region.binds] at hin;refine⟨fun f hf=>(by simp[Oper.about] at hf),?_⟩;simp[go_sem, *])
  case hfin=>
   intro a hdf aCy hout Zd;have t10:=Zd 3 (by omega);have t12:=Zd 5 (by omega);have t14:=Zd 7 (by omega);clear Zd hout;simp at t10 t12 t14;unfold wpOpIn;simp[Region.wanted,Oper.wpIn,go_sem,t10,t12,t14,ay8];have hD1:Dv W.drew b m lv (laid D pre):=hD.upd ((A7.refl (fun _=>False) W).drew) (fun _ _ f=>f);have hfin:(laid D (pre++[x])).Bf:=agm Ku _;rw[uG] at hfin;have hD2:=hD1.put hS2 hg2 hfin;rw[←uG] at hD2;have hu2:A7 (fun k=>k=m) W w2:=((A7.refl _ W).drew).trans (A7.of_grownBy (F:=fun k=>k=m) hg2 (fun k e=>by cases e;rfl)) (fun _ h=>.inl h);refine⟨?_,hu2.mono (fun i e=>.inl e),⟨hD2,?_⟩,hU.trans hu2 (fun _ h=>.inl h)⟩
   ·exact((KeepsOthers.drew W).from _).trans (KeepsFrom.of_grownBy hg2 (fun j e=>by cases e;omega))
   ·exact(hu2.block _ hB.lt (by omega)).trans hB
 case done=>
  rintro DD ys W uH rfl⟨⟨hD,hB⟩,hU⟩ hK
  gi_wp2
  refine⟨by simp,.inl ⟨_,_,rfl,run_takeDeferred hK,?_⟩⟩;have hu:A7 (fun k=>k=DD) W (W.putObj DD (.deferred none)):=A7.of_grownBy (grownBy_putObj' W DD (.deferred none)) (fun k e=>by cases e;rfl);refine⟨_,results_none rfl _ _ _,⟨_,rfl⟩,hD.upd hu (fun k hk e=>?_),hU.trans hu (fun i hi=>.inr (by omega))⟩;subst e;rcases hk with rfl|rfl|hk
  ·omega
  ·omega
  ·have:=RO HD.loose hk;omega
 case stop=>
  rintro DD c pre W _ _ h _;exact h.elim
end
section
open Go.RowKit Go.Maps Go.Shelf
theorem uI{N:Nat}:∀ (l:List (Nat×List UInt8)),(∀ p∈l,p.1 < N∧p.2.length=64)→∃ L:List (Item N),L.map (·.1)=l
 |[],_=>⟨[],rfl⟩
 |p :: l,h=>by
  obtain⟨L,hL⟩:=uI l (fun q hq=>h q (Dh _ hq));exact⟨⟨p,h p Cc⟩ :: L,by rw[Bg,hL]⟩
theorem Dv.looseAt{w:World}{b m:Nat}{lv:Value}{D:Dsk}(h:Dv w b m lv D):Ul m w.heap.size w lv D.loose:=
 ⟨h.loose,fun _ hg=>⟨RO h.loose hg,fun e=>h.lm (by rw[hg,e])⟩,fun p hp=>(h.fine.loose p hp).2⟩
theorem Dv.drop{w:World}{b m:Nat}{lv:Value}{D:Dsk}(h:Dv w b m lv D):Dv (w.setCell ⟨b,2,none⟩ (.slice none 0 0)) b m (.slice none 0 0) { D with loose:=[] }:=by
 have hu:A7 (fun k=>k=b) w (w.setCell ⟨b,2,none⟩ (.slice none 0 0)):=(A7.refl (fun k=>k=b) w).setCell (p:=⟨b,2,none⟩) (.inl rfl) _;refine⟨?_,h.base.kept (hu.block m h.base.lt h.mb),?_,h.mb,by simp[Value.ownBlock],by simp[Value.ownBlock],⟨h.fine.n1,h.fine.n2,h.fine.base,fun p hp=>by simp at hp,h.fine.left⟩⟩
 ·exact Bh w b 2 _ _ (.slice none 0 0) h.struct
 ·show World.ownsRow _ 0 _ 65 (.slice none 0 0) 0 _
  rw[tK];exact DJ _ _ _ _
theorem agr(a:Option Addr)(len cap:Nat)(w:World):
  Calls prog 187 #[.slice a len cap] w fun e w'=>e=.returned (.func (.func 228) #[] #[.pointer (some ⟨w.heap.size,0,none⟩)])∧w'=w.alloc (.cells #[.slice a len cap] 115):=
 Cu.1 (values_in Fence.wide 3 trivial rfl a len cap w)
theorem ags{w:World}{b m:Nat}{q:Option Addr}{cap:Nat}{D:Dsk}(h:Dv w b m (.slice q D.loose.length cap) D)(hlen:D.loose.length≤1000000000):
  Calls prog 49 #[.pointer (some ⟨b,0,none⟩),.func (.func 228) #[] #[.pointer (some ⟨w.heap.size,0,none⟩)]] (w.alloc (.cells #[.slice q D.loose.length cap] 115)) fun e w'=>(∃ v,e=.returned v)∧Dv w' b m (.slice q D.loose.length cap) { D with base:=Dsk.lay D.base D.loose }∧A7 (fun k=>k=m) w w':=by
 obtain⟨L,hL⟩:=uI (N:=D.n) D.loose h.fine.loose;have hb:=(Ad w.heap.size w).alloc (Ab _) (.cells #[.slice q D.loose.length cap] 115);have h':=h.below hb;have RU:=Boxed.new w 115 (.slice q D.loose.length cap);have hll:L.length=D.loose.length:=by rw[←hL,BQ]
 have hs:=values_stops Fence.wide 2 trivial rfl (by omega) D.n m (w.alloc (.cells #[.slice q D.loose.length cap] 115)).heap.size w.heap.size (.slice q D.loose.length cap) L _ RU.cell (by rw[hL];exact h'.looseAt) (by omega);refine(Cu.1 (agp h' (enters_of func228 (by kernel_rfl) rfl) (Ab _) (n:=3) (by omega) hs)).mono ?_;rintro e w'⟨g1,g2,g3⟩;refine⟨g1,?_,(A7.of_below hb).trans g3 (fun _ h=>.inl h)⟩;unfold laid at g2;rw[hL] at g2;exact g2
theorem Ze{w:World}{b:Nat}{D:Dsk}{fp:Nat→Prop}(h:AU w b D fp)(hlen:D.loose.length≤1000000000):
  Calls prog 135 #[.pointer (some ⟨b,0,none⟩)] w fun e w'=>e=.returned (.int .i64 D.flush.2)∧∃ fp',AU w' b D.flush.1 fp'∧A7 fp w w'∧Cg fp fp' w:=by
 obtain⟨m,lv,hI,rfl⟩:=h;have HI:=Hi hI;by_cases hd:D.down=true
 ·have hu:Hid (D.up=40):=Hi (by unfold Dsk.up;rw[hd];rfl);have hF:D.flush=(D,40):=by unfold Dsk.flush;rw[Ac hd]
  rw[hF];clear hF hd;go_enter func135,ntmps135;go_wp2_with fail;refine(Qt hI).mono ?_;rw[hu.out];rintro e w1⟨rfl,rfl⟩;go_wp2_with fail;go_ret;exact⟨rfl,_,⟨m,lv,HI,rfl⟩,A7.refl _ _,fun _ h=>.inl h⟩
 ·have hd':D.down=false:=by simpa using hd
  have hu:Hid (D.up=0):=Hi (by unfold Dsk.up;rw[hd'];rfl);have hF:D.flush=({ D with base:=Dsk.lay D.base D.loose,loose:=[] },0):=by unfold Dsk.flush;rw[Aa hd]
  rw[hF];clear hF hd hd';obtain⟨q,cap,rfl⟩:∃ q cap,lv=.slice q D.loose.length cap:=by
   rcases hI.loose.2 with⟨e1,e2⟩|⟨g,cap,_,e1,_⟩
   ·exact⟨none,0,by rw[e1,e2]⟩
   ·exact⟨_,cap,e1⟩
  obtain⟨_,_,c2,_,_,_⟩:=hI.cells;go_enter func135,ntmps135;go_wp2_with fail;refine(Qt hI).mono ?_;rw[hu.out];rintro e w1⟨rfl,rfl⟩;go_wp2_with fail;refine(agr _ _ _ _).mono ?_;rintro e w1⟨rfl,rfl⟩;go_wp2_with fail;refine(ags HI hlen).mono ?_;rintro e w1⟨⟨v,rfl⟩,hD,hU⟩;have HD:=Hi hD;have HU:=Hi hU;obtain⟨_,_,d2,_,_,df⟩:=hD.cells;have df2:=df 2;clear hI hD hU df c2;go_wp2_with fail;go_ret;refine⟨rfl,_,⟨m,_,HD.drop,rfl⟩,(HU.mono (fun _ e=>.inr (.inl e))).setCell (p:=⟨b,2,none⟩) (.inl (.inl rfl)) _,?_⟩;rintro k (rfl|rfl|hk)
  ·exact .inl (.inl rfl)
  ·exact .inl (.inr (.inl rfl))
  ·simp[Value.ownBlock] at hk
end
section
open Go.RowKit Go.Maps Go.Shelf
end
section
open Go.RowKit Go.Maps
theorem uJ(w:World)(n:Nat)(hn:n≤1000000000):∃ C,(Instr.makeSlice 232 (.int .i64 (n:Int)) (.int .i64 (n:Int))).run prog w=.ok (.slice (some ⟨w.heap.size,0,none⟩) n n) (w.alloc (.cells C 5))∧
  BytesAt (w.alloc (.cells C 5)) w.heap.size (List.replicate n 0):=by
 have axw:(prog.info? 5).map (fun i=>(i.zero,i.size,i.bytes))=some (some (.int .u8 0),1,1):=by kernel_rfl
 obtain⟨i0,hi,hz0,hz1,hz2⟩:=Cz axw;have hrun:=run_make (P:=prog) w 232 5 i0 _ underlying232 hi hz0 .i64 .i64 n n (by omega) (Int.le_refl _) (by rw[hz2];omega) (by omega);rw[Int.toNat_natCast] at hrun;refine⟨_,hrun,tC w _ _ _ (fun i hi=>?_)⟩;rw[List.length_replicate] at hi;rw[hz1,List.getElem_replicate];simp[madeCells,Value.cells];exact⟨i,by rw[Array.getElem?_range,Ac hi],by rw[Nat.mod_one];rfl⟩
theorem AA{w:World}{base e s:Nat}{v:Value}{n:Nat}{xs:List Value}(h:w.ownsRow base e s v n xs):∃ q cap,v=.slice q n cap:=by
 rcases h.2 with⟨e1,e2⟩|⟨g,cap,_,e1,_⟩
 ·exact⟨none,0,by rw[e1,e2]⟩
 ·exact⟨_,cap,e1⟩
theorem Bp{w w':World}{base e s:Nat}{v:Value}{n:Nat}{xs:List Value}(h:w.ownsRow base e s v n xs)(hb:Bw w w'):w'.ownsRow base e s v n xs:=AL h (ub hb) (fun _ _ f=>f)
end
section
open Go.RowKit Go.Maps
@[irreducible] def strCells (l:List (List UInt8)):List Value:=l.map fun s=>Value.string (bs s)
theorem strCells_length(l:List (List UInt8)):(strCells l).length=l.length:=by unfold strCells;simp
theorem QA(l:List (List UInt8))(i:Nat)(h:i < l.length):(strCells l)[i]?=some (.string (bs l[i])):=by
 unfold strCells;rw[Gt,BP h];rfl
theorem Mi(l:List (List UInt8))(s:List UInt8):strCells (l++[s])=strCells l++[.string (bs s)]:=by unfold strCells;simp
theorem gL(l:List (List UInt8)):∀ u∈strCells l,u.oneCell'=true:=by
 intro u hu;unfold strCells at hu;obtain⟨s,_,rfl⟩:=AV.1 hu;rfl
@[irreducible] def aqM (l:List (Nat×List UInt8)):List Value:=l.flatMap fun p=>[Value.int .i64 (p.1:Int),.string (bs p.2)]
end
section
open Go.RowKit Go.Maps
end
section
open Go.RowKit Go.Maps
theorem gM:(prog.info? 9).map (fun i=>(i.zero,i.size,i.bytes))=some (some (.string ByteArray.empty),1,16):=by kernel_rfl
end
section
open Go.RowKit Go.Maps
end
section
open Go.RowKit Go.Maps
end
section
open Go.RowKit Go.Maps
end
section
open Go.RowKit Go.Maps
end
section
open Go.RowKit Go.Maps
end
section
open Go.RowKit Go.Maps
end
section
open Go.RowKit Go.Maps
end
section
open Go.RowKit Go.Maps
end
end Go.Proofs.YtmbbhdebddbhoaaGreat
