/- DiskF DiskFill Copies Ref -/
import Derived.Test.YtmbbhdebddbhoaaGreatR3
import Derived.RangeFuncNested
import Derived.RangeFuncBound
import Derived.RangeFuncCalls
import Derived.RangeFuncLeaves
import Derived.RangeFuncBox
import Derived.Shelf.Abstract
import Derived.Shelf.RegionOpen
import Derived.OwnWalkIn
import Derived.TacticsInMore
import Derived.LoopNIn
import Derived.LoopIn
import Derived.Laws.MakeOwn
import Derived.OneCell
import Derived.Laws.OwnMore
set_option maxHeartbeats 2000000
set_option maxRecDepth 100000
set_option linter.all false
namespace Go.Proofs.YtmbbhdebddbhoaaGreat
open Tryz hiding t1 t2
section
open Go.RowKit Go.Maps Go.Shelf
attribute [local go_sem] Om
def tq(p:Value):Sem Value:=Instr.loadAt 195 p
theorem alP(p:Value):Instr.loadAt 195 p=tq p:=rfl
def alN(p v:Value):Sem Unit:=Instr.storeAt 195 p v
theorem alQ(p v:Value):Instr.storeAt 195 p v=alN p v:=rfl
theorem tu{W:World}{g o:Nat}{p:Nat×List UInt8}(h:p.2.length=64)(hr:W.rangeAt g o (Value.int .i64 (p.1:Int) :: BV p.2)):(tq (.pointer (some ⟨g,o,none⟩))).run prog W=.ok (.agg (putRow p)) W:=by
 have:=run_loadAt_mid (P:=prog) W g o 195 _ _ hr underlying195 rfl (tK p h);rw[tJ] at this;exact this
theorem alJ(W:World){p:Nat×List UInt8}(h:p.2.length=64):(tq (.pointer (some ⟨W.heap.size,0,none⟩))).run prog (W.alloc (.cells (putRow p) 195))=.ok (.agg (putRow p)) (W.alloc (.cells (putRow p) 195)):=by
 refine tu h (fun j v hv=>?_);rw[GJ,DF,←Dn,XH];exact hv
theorem acv(W:World){p:Nat×List UInt8}(h:p.2.length=64)(Z:Array Value)(hZ:Z.size=65):(alN (.pointer (some ⟨W.heap.size,0,none⟩)) (.agg (putRow p))).run prog (W.alloc (.cells Z 195))=.ok () (W.alloc (.cells (putRow p) 195)):=
 run_storeAt_new W _ Z (putRow p) (tL p h) (by rw[hZ,acu p h]) (tC p)
attribute [local go_sem ↓] alP alQ
abbrev Item(N:Nat):={ p:Nat×List UInt8 // p.1 < N∧p.2.length=64 }
def encI{N:Nat}(x:Item N):Array Value:=#[.agg (putRow x.1)]
def apG(m n₀ k:Nat):Prop:=k=m∨n₀≤k
def Kp(m n₀:Nat)(W W':World):Prop:=A7 (apG m n₀) W W'
theorem Zp{m n₀:Nat}{A B C:World}(h:Kp m n₀ A B)(k:Kp m n₀ B C):Kp m n₀ A C:=h.trans k (fun _ h=>.inl h)
theorem avJ{m n₀ M:Nat}(hM:n₀≤M):∀ (W:World) (l:Nat) (o o':Obj),M≤l→W.heap[l]?=some o→o.isCells=false→o.isWalk=false→Kp m n₀ W (W.putObj l o'):=fun W l o o' h _ _ _=>by
 have hg:=grownBy_putObj' W l o';exact A7.of_grownBy hg (fun k e=>.inr (by cases e;omega))
structure WA(m n₀:Nat)(W:World)(lv:Value)(L:List (Nat×List UInt8)):Prop where
 row:W.ownsRow 0 195 65 lv L.length (Nt L)
 old:∀ g,lv.ownBlock=some g→g < n₀∧g≠m
 len:∀ p∈L,p.2.length=64
theorem WA.upd{m n₀:Nat}{W W':World}{lv:Value}{L:List (Nat×List UInt8)}(h:WA m n₀ W lv L)(hk:Kp m n₀ W W'):WA m n₀ W' lv L:=
 ⟨Bh h.row hk (fun g hg f=>by obtain⟨h1,h2⟩:=h.old g hg;rcases f with f|f;exact h2 f;omega),h.old,h.len⟩
theorem values_in(F:Fence)(n:Nat)(hf:F.fn 187)(jQ:F.round=none)(a:Option Addr)(len cap:Nat)(w:World):
  CallsIn F n prog 187 #[.slice a len cap] w fun e w'=>e=.returned (.func (.func 228) #[] #[.pointer (some ⟨w.heap.size,0,none⟩)])∧w'=w.alloc (.cells #[.slice a len cap] 115):=by
 refine callsIn_of_wp func187 rfl hf ?_ jQ;simp only[ntmps187,JG,Br,Ig,Nat.reduceAdd,Nat.reduceSub,LX,LY,M3,LZ,Eu,GI]
 gi_wp2
 go_ret;exact⟨rfl,rfl⟩
theorem values_stops(F:Fence)(n:Nat)(hf:F.fn 228)(jQ:F.round=none)(hn:1≤n)(N m n₀ Bs:Nat)(lv:Value)(L:List (Item N))(w:World)(hc:w.cell? ⟨Bs,0,none⟩=some lv)(hL:WA m n₀ w lv (L.map (·.1)))(hlen:L.length≤1000000000):
  SeqStopsK F n prog 228 #[.pointer (some ⟨Bs,0,none⟩)] (encI (N:=N)) (Kp m n₀) (fun ys=>ys=L) (fun _=>True) L.length w:=fun l J Jx W hW hJ _ hY h0=>by
 have Ni:=(hW.cell (p:=⟨Bs,0,none⟩) (BS hc)).trans hc;have iT:WA m n₀ W lv (L.map (·.1)):=⟨Bh hL.row (ub hW) (fun _ _ f=>f),hL.old,hL.len⟩;obtain⟨q,cap,rfl⟩:∃ q cap,lv=.slice q L.length cap:=by
  rcases hL.row.2 with⟨e1,e2⟩|⟨g,cap,_,e1,_⟩
  ·rw[Cf] at e2;exact⟨none,0,by rw[e1,e2]⟩
  ·rw[Cf] at e1;exact⟨_,cap,e1⟩
 have HL:=Hi iT;clear hL iT hc;refine callsIn_of_wp func228 rfl hf ?_ jQ;simp only[ntmps228,JG,Br,Ig,Nat.reduceAdd,Nat.reduceSub,LX,LY,M3,LZ,Eu,GI]
 gi_wp2
 gi_loopw [7] (fun i wr=>∃ k:Nat,k≤L.length∧i=.int .i64 k∧J (L.take k) wr∧Kp m n₀ W wr)
  (fun i _=>L.length -(intOf i).toNat)
 case atStart=>exact⟨0,AB _,rfl,by rw[GZ];exact h0,A7.refl _ _⟩
 case round=>
  obtain⟨k,hk,rfl,Mi,Gg⟩:=hrel;by_cases hlt:k < L.length
  ·have Mq:=(HL.upd Gg).row;obtain⟨g,rfl⟩:∃ g,q=some ⟨g,0,none⟩:=by
    rcases Mq.2 with⟨e1,e2⟩|⟨g,cap,_,e1,_⟩
    ·rw[Cf] at e2;omega
    ·exact⟨g,by injection e1⟩
   have Ik:k < (L.map (·.1)).length:=(by rw[Cf];exact hlt);have hr:=abY (by rw[Cf] at Mq ⊢;exact Mq) HL.len k Ik;have Hg:=Hr prog 115 195 underlying115 65 acx ⟨g,0,none⟩ L.length cap k hlt;have WL:(⟨g,0,none⟩:Addr).add (k*65)=⟨g,k*65,none⟩:=(by unfold Addr.add;split<;>simp_all);rw[WL] at Hg;rw[List.getElem_map] at hr;have Ra:L.take (k+1)=L.take k++[L[k]]:=(by rw[List.take_add_one,Cn hlt];rfl);have BN:=Hi Ra;have F7:=tu L[k].2.2 hr;have MB:=acv wr L[k].2.2 Tryz.zeroCells195 kS;have FV:=alJ wr L[k].2.2;generalize L[k]=x at*;have pQ:J (L.take k) (wr.alloc (.cells (putRow x.1) 195)):=hJ _ _ _ none Mi (World.grownBy_alloc _ _ none) (fun r e=>by cases e);obtain⟨fn,tmps,assign,body,hy,hR⟩:=hY _ x _ pQ (by rw[AL];omega);unfold encI at hy;have EL:=Hi Gg;clear hr Mq WL Ra Gg Mi
   gi_wp2
   refine hR.mono ?_;rintro e W3 (⟨rfl,hJ3,hk3⟩|⟨rfl,aa2⟩)
   ·gi_wp2
    go_roundw
    case rel=>
     have h1:Kp m n₀ wr (wr.alloc (.cells (putRow x.1) 195)):=(A7.refl _ wr).alloc _;exact⟨k+1,by omega,by simp,by rw[BN.out];exact hJ3,Zp EL (Zp h1 hk3)⟩
    case measure=>simp[intOf];omega
   ·gi_wp2
    refine El (results_none rfl _ _ _) rfl ?_;exact⟨⟨_,rfl⟩,.inr ⟨_,trivial,aa2⟩⟩
  ·obtain rfl:k=L.length:=by omega
   gi_wp2
   go_end0
   exact⟨⟨_,rfl⟩,.inl ⟨_,rfl,by rw[CY] at Mi;exact Mi⟩⟩
def stays(keep:List UInt8)(i:Nat):Bool:=decide (keep≠[]) && (keep.getD (i % keep.length) 0).toNat % 2 == 1
def keptI{α:Type}(keep:List UInt8):Nat→List α→List α
 |_,[]=>[]
 |i,p :: l=>(if stays keep i then[p] else[])++keptI keep (i+1) l
theorem avy{α β:Type}(f:α→β)(keep:List UInt8)(i:Nat)(l:List α):(keptI keep i l).map f=keptI keep i (l.map f):=by
 induction l generalizing i with
 |nil=>rfl
 |cons p l ih=>simp only[keptI,BL,CF,ih];split<;>rfl
theorem avw(keep:List UInt8)(i:Nat)(l:List (Nat×List UInt8)):keptI keep i l=Dsk.keptFrom keep i l:=by
 induction l generalizing i with
 |nil=>rfl
 |cons p l ih=>simp only[keptI,Dsk.keptFrom,ih,stays];simp
theorem avv{α:Type}(keep:List UInt8)(i:Nat)(a b:List α):keptI keep i (a++b)=keptI keep i a++keptI keep (i+a.length) b:=by
 induction a generalizing i with
 |nil=>rfl
 |cons p a ih=>simp only[GI,keptI,ih,Dp,Br,Nat.add_assoc,Nat.add_comm 1]
theorem avx{α:Type}(keep:List UInt8)(i:Nat)(l:List α):(keptI keep i l).length≤l.length:=by
 induction l generalizing i with
 |nil=>exact Ac _
 |cons p l ih=>have:=ih (i+1);simp only[keptI,Au,Br];split<;>simp<;>omega
theorem avB(F:Fence)(n:Nat)(hf:F.fn 50)(jQ:F.round=none)(b:Nat)(keep:List UInt8)(w:World):
  CallsIn F n prog 50 #[.pointer (some ⟨b,0,none⟩),.string (bs keep)] w fun e w'=>e=.returned (.func (.func 119) #[] #[.pointer (some ⟨w.heap.size,0,none⟩),.pointer (some ⟨w.heap.size+1,0,none⟩)])∧w'=(w.alloc (.cells #[.pointer (some ⟨b,0,none⟩)] 53)).alloc (.cells #[.string (bs keep)] 9):=by
 refine callsIn_of_wp func50 rfl hf ?_ jQ;simp only[ntmps50,JG,Br,Ig,Nat.reduceAdd,Nat.reduceSub,LX,LY,M3,LZ,Eu,GI]
 gi_wp2
 go_ret;exact⟨rfl,rfl⟩
theorem aq5(y:UInt8):(bits BinOp.and IntKind.u8 (y.toNat:Int) 1 == 1)=(y.toNat % 2 == 1):=by
 have h:∀ z:Fin 256,(bits BinOp.and IntKind.u8 (z.val:Int) 1 == 1)=(z.val % 2 == 1):=by decide+kernel
 exact h ⟨y.toNat,y.toNat_lt⟩
theorem zK(W W':World)(h1:W'.os=W.os)(h2:W'.tape=W.tape)(h3:W'.output=W.output)(h4:W'.heap=W.heap):W.grownBy W' none:=⟨h1,h2,h3,by rw[h4];exact Ac _,fun k _ _=>by rw[h4]⟩
theorem avC(n:Nat)(hn:1≤n)(N m n₀ Bd Bk b:Nat)(keep:List UInt8)(lv:Value)(L:List (Item N))(w:World)(hk1:Bk < n₀)(hk2:Bk≠m)(ajv:n₀≤w.heap.size)
  (hd:w.cell? ⟨Bd,0,none⟩=some (.pointer (some ⟨b,0,none⟩)))(hk:w.cell? ⟨Bk,0,none⟩=some (.string (bs keep)))(hc:w.cell? ⟨b,2,none⟩=some lv)(hL:WA m n₀ w lv (L.map (·.1)))(hlen:L.length≤1000000000)(Db:keep.length≤1000000000):
  SeqStopsK Fence.wide n prog 119 #[.pointer (some ⟨Bd,0,none⟩),.pointer (some ⟨Bk,0,none⟩)] (encI (N:=N)) (Kp m n₀) (fun ys=>ys=keptI keep 0 L) (fun _=>True) L.length w:=fun l J Jx W hW hJ _ hY h0=>by
 have Ni:=(hW.cell (p:=⟨b,2,none⟩) (BS hc)).trans hc;have X4:=(hW.cell (p:=⟨Bd,0,none⟩) (BS hd)).trans hd;have hk':=(hW.cell (p:=⟨Bk,0,none⟩) (BS hk)).trans hk;have iT:WA m n₀ W lv (L.map (·.1)):=⟨Bh hL.row (ub hW) (fun _ _ f=>f),hL.old,hL.len⟩;have hsz:=hW.size;have P6:prog.follows .mixedOrders=true:=by kernel_rfl
 obtain⟨q,cap,rfl⟩:∃ q cap,lv=.slice q L.length cap:=by
  rcases hL.row.2 with⟨e1,e2⟩|⟨g,cap,_,e1,_⟩
  ·rw[Cf] at e2;exact⟨none,0,by rw[e1,e2]⟩
  ·rw[Cf] at e1;exact⟨_,cap,e1⟩
 have HL:=Hi iT;have HK:=Hi hk';clear hL iT hc hd hk hk' hW;refine callsIn_of_wp func119 rfl trivial ?_ rfl;simp only[ntmps119,JG,Br,Ig,Nat.reduceAdd,Nat.reduceSub,LX,LY,M3,LZ,Eu,GI]
 gi_wp2
 gi_loopw [11] (fun i wr=>∃ k:Nat,k≤L.length∧i=.int .i64 k∧J (keptI keep 0 (L.take k)) wr∧Kp m n₀ W wr)
  (fun i _=>L.length -(intOf i).toNat)
 case atStart=>exact⟨0,AB _,rfl,by rw[GZ];exact h0,A7.refl _ _⟩
 case round=>
  obtain⟨k,hk,rfl,Mi,Gg⟩:=hrel;by_cases hlt:k < L.length
  ·have Mq:=(HL.upd Gg).row;obtain⟨g,rfl⟩:∃ g,q=some ⟨g,0,none⟩:=by
    rcases Mq.2 with⟨e1,e2⟩|⟨g,cap,_,e1,_⟩
    ·rw[Cf] at e2;omega
    ·exact⟨g,by injection e1⟩
   have Ch:wr.cell? ⟨Bk,0,none⟩=some (.string (bs keep)):=(Gg.cell (p:=⟨Bk,0,none⟩) (by show Bk < W.heap.size;omega) (fun f=>by rcases f with f|f;exact hk2 f;have f':n₀≤Bk:=f;omega)).trans HK.out;have Vp:=((Af _ wr).alloc (Ac _) (.cells (putRow L[k].1) 195)).cell (p:=⟨Bk,0,none⟩) (BS Ch);rw[Ch] at Vp;have Ik:k < (L.map (·.1)).length:=(by rw[Cf];exact hlt);have hr:=abY (by rw[Cf] at Mq ⊢;exact Mq) HL.len k Ik;have Hg:=Hr prog 115 195 underlying115 65 acx ⟨g,0,none⟩ L.length cap k hlt;have WL:(⟨g,0,none⟩:Addr).add (k*65)=⟨g,k*65,none⟩:=(by unfold Addr.add;split<;>simp_all);rw[WL] at Hg;rw[List.getElem_map] at hr;have Ra:keptI keep 0 (L.take (k+1))=keptI keep 0 (L.take k)++(if stays keep k then[L[k]] else[]):=by
    rw[List.take_add_one,Cn hlt,avv,AL,H8 (by omega)];simp[keptI]
   have BN:=Hi Ra;have F7:=tu L[k].2.2 hr;have MB:=acv wr L[k].2.2 Tryz.zeroCells195 kS;have FV:=alJ wr L[k].2.2;have QJ:=Hi (show(keptI keep 0 (L.take k)).length < L.length by have:=avx keep 0 (L.take k);rw[AL] at this;omega);generalize L[k]=x at*;have vV:=Hi (hJ _ _ _ none Mi (World.grownBy_alloc _ (.cells (putRow x.1) 195) none) (fun r e=>by cases e));have EL:=Hi Gg;clear hr Mq WL Ra Gg Mi Ch;by_cases R3:keep=[]
   ·subst R3
    gi_wp2
    refine wpIn_region_quiet_lit rfl P6 (by kernel_rfl) ?_
    repeat (gi_big_quiet_step (fail))
    refine BigFrame.wpQuietIn_skip ?ha rfl ?_
    case ha=>simp[Oper.askedIn,go_sem];exact fun _ _ _=>trivial
    simp only[Act.put,np]
    repeat (gi_big_quiet_step (fail))
    refine wpQuietIn_nil ?_;rintro _⟨nq,rfl⟩
    gi_wp2
    go_roundw
    case rel=>
     have h1:Kp m n₀ wr (wr.alloc (.cells (putRow x.1) 195)):=(A7.refl _ wr).alloc _;refine⟨k+1,by omega,by simp,?_,Zp EL ⟨h1.os,h1.tape,h1.output,h1.size,h1.block⟩⟩;rw[BN.out];simp only[stays,EH,Bool.false_eq_true,ite_false,decide_false,ne_eq,not_true_eq_false,Bool.false_and];exact hJ _ _ _ none vV (zK _ _ rfl rfl rfl rfl) (fun r e=>by cases e)
    case measure=>simp[intOf];omega
   ·have Zd:0 < keep.length:=List.length_pos_iff.2 R3;have EC:=Nat.mod_lt k Zd;have qR:(k:Int) % (keep.length:Int)=((k % keep.length:Nat):Int):=(by omega);have auG:(k:Int).tmod (keep.length:Int)=((k % keep.length:Nat):Int):=(by rw[Int.tmod_eq_emod_of_nonneg (by omega)];exact qR);have hne:keep.isEmpty=false:=by
     cases keep with
     |nil=>exact absurd rfl R3
     |cons=>rfl
    have AP:stays keep k=(keep[k % keep.length].toNat % 2 == 1):=by
     unfold stays;rw[GY,Cn EC];simp[R3]
    rw[←aq5] at AP;generalize k % keep.length=i at*;cases hs:stays keep k with
    |false=>
     rw[hs] at AP BN;have ahW:=AP.symm;clear AP hs
     gi_wp2
     refine wpIn_region_quiet_lit rfl P6 (by kernel_rfl) ?_
     repeat (gi_big_quiet_step (fail))
     refine BigFrame.wpQuietIn_skip ?ha2 rfl ?_
     case ha2=>simp[Oper.askedIn,go_sem];exact fun _ _ _=>trivial
     simp only[Act.put,np]
     repeat (gi_big_quiet_step (fail))
     refine wpQuietIn_nil ?_;rintro _⟨nq,rfl⟩
     gi_wp2
     go_roundw
     case rel=>
      have h1:Kp m n₀ wr (wr.alloc (.cells (putRow x.1) 195)):=(A7.refl _ wr).alloc _;refine⟨k+1,by omega,by simp,?_,Zp EL ⟨h1.os,h1.tape,h1.output,h1.size,h1.block⟩⟩;rw[BN.out];simp only[EH,Bool.false_eq_true,ite_false];exact hJ _ _ _ none vV (zK _ _ rfl rfl rfl rfl) (fun r e=>by cases e)
     case measure=>simp[intOf];omega
    |true=>
     rw[hs] at AP BN;have ahW:=AP.symm;clear AP hs;have FW:(tq (.pointer (some ⟨wr.heap.size,0,none⟩))).run prog (wr.alloc (.cells (putRow x.1) 195)).drew=.ok (.agg (putRow x.1)) (wr.alloc (.cells (putRow x.1) 195)).drew:=by
      refine tu x.2.2 (fun j v hv=>?_)
      show(wr.alloc _).cell? _=_
      rw[GJ,DF,←Dn,XH];exact hv
     have pQ:J (keptI keep 0 (L.take k)) (wr.alloc (.cells (putRow x.1) 195)).drew:=hJ _ _ _ none vV (zK _ _ rfl rfl rfl rfl) (fun r e=>by cases e);obtain⟨fn,tmps,assign,body,hy,hR⟩:=hY _ x _ pQ QJ.out;unfold encI at hy
     have hR':=hR.mono (R':=fun e W'=>∃ c,e=.returned (.bool c)∧if c=true then J (keptI keep 0 (L.take k)++[x]) W'∧Kp m n₀ (wr.alloc (.cells (putRow x.1) 195)).drew W' else Jx (keptI keep 0 (L.take k)++[x]) W') (fun e W' h=>by
      rcases h with⟨h1,h2⟩|⟨h1,h2⟩
      ·exact⟨true,h1,by rw[Ab rfl];exact h2⟩
      ·exact⟨false,h1,by rw[Aa (by decide)];exact h2⟩)
     clear pQ hR
     gi_wp2
     gi_region_with_o (refine hR'.mono ?_;rintro e W3 ⟨c,rfl,Jt⟩)
     all_goals
      clear hR' hy FW F7 MB FV Hg ahW Vp auG qR hne;cases c with
      |false=>
       rw[Aa (by decide)] at Jt;have Fa:=Hi Jt;clear Jt
       gi_wp2
       refine El (results_none rfl _ _ _) rfl ?_;exact⟨⟨_,rfl⟩,.inr ⟨_,trivial,Fa⟩⟩
      |true=>
       rw[Ab rfl] at Jt;have Fa:=Hi Jt;clear Jt
       gi_wp2
       go_roundw
       case rel=>
        have h1:Kp m n₀ wr (wr.alloc (.cells (putRow x.1) 195)).drew:=((A7.refl _ wr).alloc _).drew;refine⟨k+1,by omega,by simp,?_,Zp EL (Zp h1 Fa.2)⟩;rw[BN.out];exact Fa.1
       case measure=>simp[intOf];omega
  ·obtain rfl:k=L.length:=by omega
   gi_wp2
   go_end0
   exact⟨⟨_,rfl⟩,.inl ⟨_,rfl,by rw[CY] at Mi;exact Mi⟩⟩
end
section
open Go.RowKit Go.Maps Go.Shelf
attribute [local go_sem] Om
attribute [local go_sem ↓] alP alQ acS
def laid(D:Dsk)(pre:List (Item D.n)):Dsk:={ D with base:=Dsk.lay D.base (pre.map (·.1)) }
theorem akz(D:Dsk)(pre:List (Item D.n))(x:Item D.n):laid D (pre++[x])={ laid D pre with base:=fun k=>if k=x.1.1 then x.1.2 else(laid D pre).base k }:=by
 unfold laid;rw[CF,BL,List.map_nil,Dsk.akD]
theorem avT{D:Dsk}(h:D.BM)(pre:List (Item D.n)):(laid D pre).BM:=
 ⟨h.n1,h.n2,Dsk.kC h.base (fun p hp=>by obtain⟨y,_,rfl⟩:=Bz.1 hp;exact y.2),h.loose,h.left⟩
theorem Em.put{w:World}{b m:Nat}{lv:Value}{D:Dsk}(h:Em w b m lv D){f:Nat→List UInt8}{w':World}(hs:N7 w' m D.n f)(hg:w.grownBy w' (some m))(hf:Dsk.BM { D with base:=f }):Em w' b m lv { D with base:=f }:=by
 have hu:A7 (fun k=>k=m) w w':=A7.of_grownBy hg (fun k e=>by cases e;rfl);refine⟨?_,hs,Bh h.loose hu (fun g O5 e=>h.lm (by rw[O5,e])),h.mb,h.lb,h.lm,hf⟩;rw[hu.block b (CR.1 h.struct).1 (Ne.symm h.mb)];exact h.struct
theorem ayF{W:World}{g o:Nat}{x:List UInt8}(h:x.length=64)(hr:W.rangeAt g o (BV x)):(acR (.pointer (some ⟨g,o,none⟩))).run prog W=.ok (.agg (CX x)) W:=by
 have:=run_loadAt_mid (P:=prog) W g o 193 _ _ hr underlying193 rfl (l9 x h);rw[eF] at this;exact this
theorem akC{w:World}{b m:Nat}{lv:Value}{D:Dsk}(h:Em w b m lv D){gf:Nat}{lb:Array Value}(he:∀ args w,(callFunc gf args).run prog w=.ok (.enter gf args) w){n₀:Nat}(ajv:n₀≤w.heap.size){L:List (Item D.n)}{N n:Nat}(hn:3≤n)
  (hs:SeqStopsK Fence.wide (n -1) prog gf lb (encI (N:=D.n)) (Kp m n₀) (fun ys=>ys=L) (fun _=>True) N w):
  CallsIn Fence.wide n prog 49 #[.pointer (some ⟨b,0,none⟩),.func (.func gf) #[] lb] w fun e w'=>(∃ v,e=.returned v)∧Em w' b m lv (laid D L)∧A7 (fun k=>k=m) w w':=by
 have h1:1≤n:=by omega
 have P6:prog.follows .mixedOrders=true:=by kernel_rfl
 have OV:=h.fine;have HD:=Hi h;have hb:b < w.heap.size:=(CR.1 h.struct).1;have hm:m < w.heap.size:=h.base.lt;clear h;refine callsIn_of_wp_marks func49 rfl trivial ?_ rfl;simp only[ntmps49,JG,Br,Ig,Nat.reduceAdd,Nat.reduceSub,LX,LY,M3,LZ,Eu,GI]
 gi_wp2
 have YL:=Boxed.new w 53 (.pointer (some ⟨b,0,none⟩));have hU0:A7 (fun k=>k=m) w (w.alloc (.cells #[.pointer (some ⟨b,0,none⟩)] 53)):=(A7.refl _ w).alloc _;have hD0:Em (w.alloc (.cells #[.pointer (some ⟨b,0,none⟩)] 53)) b m lv (laid D []):=HD.upd ((A7.refl (fun _=>False) w).alloc _) (fun _ _ f=>f);have hsz:(w.alloc (.cells #[.pointer (some ⟨b,0,none⟩)] 53)).heap.size=w.heap.size+1:=Aq _ _;refine wpIn_rangeFunc_ownH rfl h1 (gf:=gf) (lb:=lb) rfl trivial he hs Zp (avJ (by omega)) ((Af _ w).alloc (Ac _) _) (fun _=>rfl)
  (fun pre W=>(Em W b m lv (laid D pre)∧Boxed W w.heap.size 53 (.pointer (some ⟨b,0,none⟩)))∧A7 (fun k=>k=m) w W)
  (fun _ _ _=>False)
  (fun s A B row hs hg hr=>?hown)
  (fun _ _ _ _ _ hs _ _=>hs)
  ⟨⟨hD0,YL⟩,hU0⟩
  (fun x a' W=>∃ Bx,w.heap.size < Bx∧W.heap[Bx]?=some (.cells (putRow x.1) 195 (0,0))∧a'={ tmps:=#[.pointer (some ⟨b,0,none⟩),.func (.func gf) #[] lb,.pointer (some ⟨w.heap.size,0,none⟩),undef,.pointer (some ⟨Bx,0,none⟩),.func (.func gf) #[] lb,.agg (putRow x.1),undef,undef,undef,undef,undef,undef,undef,undef],defers:=[] })
  (fun x a' _ X Y row hs hg hr=>?hAx)
  ?assign ?body ?done ?stop
 case hown=>
  have hu:A7 (fun k=>w.heap.size+1≤k) A B:=A7.of_grownBy hg (fun k e=>by have:=(hr k e).1;omega);obtain⟨⟨g1,g2⟩,g3⟩:=hs;refine⟨⟨g1.upd hu (fun k hk=>?_),g2.kept hg (fun e=>?_)⟩,g3.trans hu (fun i hi=>.inr (by omega))⟩
  ·rcases hk with rfl|rfl|hk
   ·omega
   ·omega
   ·have:=ZB HD.loose hk;omega
  ·have:=(hr _ e.symm).1;omega
 case hAx=>
  obtain⟨Bx,g1,g2,g3⟩:=hs;refine⟨Bx,g1,(hg.block Bx (CR.1 g2).1 (fun e=>?_)).trans g2,g3⟩;obtain⟨_,o,ho,hc⟩:=hr Bx e.symm;rw[g2] at ho;cases ho;cases hc
 case assign=>
  rintro l pre x W K⟨⟨hD,hB⟩,hU⟩ hK;have MB:=acv W x.2.2 Tryz.zeroCells195 kS;unfold encI
  gi_wp2
  exact hK _ _ ((KeepsOthers.alloc _ _).from _) ((A7.refl _ W).alloc _) ⟨⟨hD.upd ((A7.refl (fun _=>False) W).alloc _) (fun _ _ f=>f),hB.alloc _⟩,hU.alloc _⟩ ⟨W.heap.size,hB.lt,World.alloc_heap_new W _,rfl⟩
 case body=>
  rintro l pre x a' W hl⟨r,hr⟩ ⟨⟨hD,hB⟩,hU⟩ ⟨Bx,K8,hx,rfl⟩ hlt;have c0:=hB.cell;obtain⟨_,c1,_,_,_,_⟩:=hD.cells;have Rb:W.cell? ⟨Bx,0,none⟩=some (.int .i64 (x.1.1:Int)):=by rw[BA W Bx 0 _ _ _ hx];exact alM x.1
  have hxs:W.rangeAt Bx 1 (BV x.1.2):=fun j v hv=>by
   rw[BA W Bx (1+j) _ _ _ hx,←Dn,XH,Nat.add_comm 1 j];exact hv
  have hls:=ayF (W:=W.drew) x.2.2 (fun j v hv=>hxs j v hv);obtain⟨w2,di,pX,DV⟩:=N7.put (w:=W.drew) (hD.base.kept rfl) x.1.1 x.2.1 (by exact hD.fine.n2) x.1.2
  gi_wp2
  refine wpIn_region_any P6 ?_;refine aAt (m:=8) (d:=7) (vals:=#[.pointer (some ⟨b,0,none⟩),.pointer (some ⟨b,0,none⟩),.pointer (some ⟨b,1,none⟩),.map (some m),.pointer (some ⟨Bx,0,none⟩),.int .i64 (x.1.1:Int),.pointer (some ⟨Bx,1,none⟩),.agg (CX x.1.2)]) rfl (by simp) ?hops (by kernel_rfl) (by kernel_rfl) ?hrun ?hfin
  case hops=>
   intro j hj;have:j=0∨j=1∨j=2∨j=3∨j=4∨j=5∨j=6∨j=7:=(by omega);rcases this with rfl|rfl|rfl|rfl|rfl|rfl|rfl|rfl<;>exact⟨_,rfl,rfl,rfl⟩
  case hrun=>
   intro j hj;have:j=0∨j=1∨j=2∨j=3∨j=4∨j=5∨j=6∨j=7:=(by omega);have a2:∀ a:Act,(∀ s,(s < 7∨7+8≤s)→a.tmps.getD s undef=(#[Value.pointer (some ⟨b,0,none⟩),.func (.func gf) #[] lb,.pointer (some ⟨w.heap.size,0,none⟩),undef,.pointer (some ⟨Bx,0,none⟩),.func (.func gf) #[] lb,.agg (putRow x.1),undef,undef,undef,undef,undef,undef,undef,undef]:Array Value).getD s undef)→a.tmps.getD 2 undef=.pointer (some ⟨w.heap.size,0,none⟩)∧a.tmps.getD 4 undef=.pointer (some ⟨Bx,0,none⟩):=fun a h=>⟨h 2 (by omega),h 4 (by omega)⟩
   rcases this with rfl|rfl|rfl|rfl|rfl|rfl|rfl|rfl<;>(intro o ho;cases ho;intro a _ hout Be;obtain⟨t2,t4⟩:=a2 a hout;simp[Region.binds] at Be;refine⟨fun f hf=>(by simp[Oper.about] at hf),?_⟩;simp[go_sem, *])
  case hfin=>
   intro a hdf aCm hout qH;have t10:=qH 3 (by omega);have t12:=qH 5 (by omega);have t14:=qH 7 (by omega);clear qH hout;simp at t10 t12 t14;unfold wpOpIn;simp[Region.wanted,Oper.wpIn,go_sem,t10,t12,t14,di];have hD1:Em W.drew b m lv (laid D pre):=hD.upd ((A7.refl (fun _=>False) W).drew) (fun _ _ f=>f);have hfin:(laid D (pre++[x])).BM:=avT OV _;rw[akz] at hfin;have pM:=hD1.put pX DV hfin;rw[←akz] at pM;have Ep:A7 (fun k=>k=m) W w2:=((A7.refl _ W).drew).trans (A7.of_grownBy (F:=fun k=>k=m) DV (fun k e=>by cases e;rfl)) (fun _ h=>.inl h);refine⟨?_,Ep.mono (fun i e=>.inl e),⟨pM,?_⟩,hU.trans Ep (fun _ h=>.inl h)⟩
   ·exact((KeepsOthers.drew W).from _).trans (KeepsFrom.of_grownBy DV (fun j e=>by cases e;omega))
   ·exact(Ep.block _ hB.lt (by omega)).trans hB
 case done=>
  rintro DD ys W hDD rfl⟨⟨hD,hB⟩,hU⟩ hK
  gi_wp2
  refine⟨by simp,.inl ⟨_,_,rfl,run_takeDeferred hK,?_⟩⟩;have hu:A7 (fun k=>k=DD) W (W.putObj DD (.deferred none)):=A7.of_grownBy (grownBy_putObj' W DD (.deferred none)) (fun k e=>by cases e;rfl);refine⟨_,results_none rfl _ _ _,⟨_,rfl⟩,hD.upd hu (fun k hk e=>?_),hU.trans hu (fun i hi=>.inr (by omega))⟩;subst e;rcases hk with rfl|rfl|hk
  ·omega
  ·omega
  ·have:=ZB HD.loose hk;omega
 case stop=>
  rintro DD c pre W _ _ h _;exact h.elim
end
section
open Go.RowKit Go.Maps Go.Shelf
theorem abH{N:Nat}:∀ (l:List (Nat×List UInt8)),(∀ p∈l,p.1 < N∧p.2.length=64)→∃ L:List (Item N),L.map (·.1)=l
 |[],_=>⟨[],rfl⟩
 |p :: l,h=>by
  obtain⟨L,hL⟩:=abH l (fun q hq=>h q (DT _ hq));exact⟨⟨p,h p Dg⟩ :: L,by rw[BL,hL]⟩
theorem Em.looseAt{w:World}{b m:Nat}{lv:Value}{D:Dsk}(h:Em w b m lv D):WA m w.heap.size w lv D.loose:=
 ⟨h.loose,fun _ hg=>⟨ZB h.loose hg,fun e=>h.lm (by rw[hg,e])⟩,fun p hp=>(h.fine.loose p hp).2⟩
theorem Em.drop{w:World}{b m:Nat}{lv:Value}{D:Dsk}(h:Em w b m lv D):Em (w.setCell ⟨b,2,none⟩ (.slice none 0 0)) b m (.slice none 0 0) { D with loose:=[] }:=by
 have hu:A7 (fun k=>k=b) w (w.setCell ⟨b,2,none⟩ (.slice none 0 0)):=(A7.refl (fun k=>k=b) w).setCell (p:=⟨b,2,none⟩) (.inl rfl) _;refine⟨?_,h.base.kept (hu.block m h.base.lt h.mb),?_,h.mb,by simp[Value.ownBlock],by simp[Value.ownBlock],⟨h.fine.n1,h.fine.n2,h.fine.base,fun p hp=>by simp at hp,h.fine.left⟩⟩
 ·exact BU w b 2 _ _ (.slice none 0 0) h.struct
 ·show World.ownsRow _ 0 _ 65 (.slice none 0 0) 0 _
  rw[akL];exact EI _ _ _ _
theorem aAe(a:Option Addr)(len cap:Nat)(w:World):
  Calls prog 187 #[.slice a len cap] w fun e w'=>e=.returned (.func (.func 228) #[] #[.pointer (some ⟨w.heap.size,0,none⟩)])∧w'=w.alloc (.cells #[.slice a len cap] 115):=
 Di.1 (values_in Fence.wide 3 trivial rfl a len cap w)
theorem avX{w:World}{b m:Nat}{q:Option Addr}{cap:Nat}{D:Dsk}(h:Em w b m (.slice q D.loose.length cap) D)(hlen:D.loose.length≤1000000000):
  Calls prog 49 #[.pointer (some ⟨b,0,none⟩),.func (.func 228) #[] #[.pointer (some ⟨w.heap.size,0,none⟩)]] (w.alloc (.cells #[.slice q D.loose.length cap] 115)) fun e w'=>(∃ v,e=.returned v)∧Em w' b m (.slice q D.loose.length cap) { D with base:=Dsk.lay D.base D.loose }∧A7 (fun k=>k=m) w w':=by
 obtain⟨L,hL⟩:=abH (N:=D.n) D.loose h.fine.loose;have hb:=(Af w.heap.size w).alloc (Ac _) (.cells #[.slice q D.loose.length cap] 115);have h':=h.below hb;have YL:=Boxed.new w 115 (.slice q D.loose.length cap);have EB:L.length=D.loose.length:=by rw[←hL,Cf]
 have hs:=values_stops Fence.wide 2 trivial rfl (by omega) D.n m (w.alloc (.cells #[.slice q D.loose.length cap] 115)).heap.size w.heap.size (.slice q D.loose.length cap) L _ YL.cell (by rw[hL];exact h'.looseAt) (by omega);refine(Di.1 (akC h' (enters_of func228 (by kernel_rfl) rfl) (Ac _) (n:=3) (by omega) hs)).mono ?_;rintro e w'⟨g1,g2,g3⟩;refine⟨g1,?_,(A7.of_below hb).trans g3 (fun _ h=>.inl h)⟩;unfold laid at g2;rw[hL] at g2;exact g2
theorem oP{w:World}{b:Nat}{D:Dsk}{fp:Nat→Prop}(h:Bl w b D fp)(hlen:D.loose.length≤1000000000):
  Calls prog 135 #[.pointer (some ⟨b,0,none⟩)] w fun e w'=>e=.returned (.int .i64 D.flush.2)∧∃ fp',Bl w' b D.flush.1 fp'∧A7 fp w w'∧D6 fp fp' w:=by
 obtain⟨m,lv,hI,rfl⟩:=h;have HI:=Hi hI;by_cases hd:D.down=true
 ·have hu:Hid (D.up=40):=Hi (by unfold Dsk.up;rw[hd];rfl);have hF:D.flush=(D,40):=by unfold Dsk.flush;rw[Ab hd]
  rw[hF];clear hF hd;go_enter func135,ntmps135;go_wp2_with fail;refine(XP hI).mono ?_;rw[hu.out];rintro e w1⟨rfl,rfl⟩;go_wp2_with fail;go_ret;exact⟨rfl,_,⟨m,lv,HI,rfl⟩,A7.refl _ _,fun _ h=>.inl h⟩
 ·have X4:D.down=false:=by simpa using hd
  have hu:Hid (D.up=0):=Hi (by unfold Dsk.up;rw[X4];rfl);have hF:D.flush=({ D with base:=Dsk.lay D.base D.loose,loose:=[] },0):=by unfold Dsk.flush;rw[Aa hd]
  rw[hF];clear hF hd X4;obtain⟨q,cap,rfl⟩:∃ q cap,lv=.slice q D.loose.length cap:=by
   rcases hI.loose.2 with⟨e1,e2⟩|⟨g,cap,_,e1,_⟩
   ·exact⟨none,0,by rw[e1,e2]⟩
   ·exact⟨_,cap,e1⟩
  obtain⟨_,_,c2,_,_,_⟩:=hI.cells;go_enter func135,ntmps135;go_wp2_with fail;refine(XP hI).mono ?_;rw[hu.out];rintro e w1⟨rfl,rfl⟩;go_wp2_with fail;refine(aAe _ _ _ _).mono ?_;rintro e w1⟨rfl,rfl⟩;go_wp2_with fail;refine(avX HI hlen).mono ?_;rintro e w1⟨⟨v,rfl⟩,hD,hU⟩;have HD:=Hi hD;have HU:=Hi hU;obtain⟨_,_,d2,_,_,df⟩:=hD.cells;have df2:=df 2;clear hI hD hU df c2;go_wp2_with fail;go_ret;refine⟨rfl,_,⟨m,_,HD.drop,rfl⟩,(HU.mono (fun _ e=>.inr (.inl e))).setCell (p:=⟨b,2,none⟩) (.inl (.inl rfl)) _,?_⟩;rintro k (rfl|rfl|hk)
  ·exact .inl (.inl rfl)
  ·exact .inl (.inr (.inl rfl))
  ·simp[Value.ownBlock] at hk
end
section
open Go.RowKit Go.Maps Go.Shelf
theorem avA(b:Nat)(keep:List UInt8)(w:World):
  Calls prog 50 #[.pointer (some ⟨b,0,none⟩),.string (bs keep)] w fun e w'=>e=.returned (.func (.func 119) #[] #[.pointer (some ⟨w.heap.size,0,none⟩),.pointer (some ⟨w.heap.size+1,0,none⟩)])∧w'=(w.alloc (.cells #[.pointer (some ⟨b,0,none⟩)] 53)).alloc (.cells #[.string (bs keep)] 9):=
 Di.1 (avB Fence.wide 3 trivial rfl b keep w)
theorem avY{w:World}{b m:Nat}{lv:Value}{D:Dsk}(h:Em w b m lv D)(keep:List UInt8)(hlen:D.loose.length≤1000000000)(hk:keep.length≤1000000000):
  Calls prog 49 #[.pointer (some ⟨b,0,none⟩),.func (.func 119) #[] #[.pointer (some ⟨w.heap.size,0,none⟩),.pointer (some ⟨w.heap.size+1,0,none⟩)]] ((w.alloc (.cells #[.pointer (some ⟨b,0,none⟩)] 53)).alloc (.cells #[.string (bs keep)] 9)) fun e w'=>(∃ v,e=.returned v)∧Em w' b m lv { D with base:=Dsk.lay D.base (D.kept keep) }∧A7 (fun k=>k=m) w w':=by
 obtain⟨L,hL⟩:=abH (N:=D.n) D.loose h.fine.loose;have Ad:=(Af w.heap.size w).alloc (Ac _) (.cells #[.pointer (some ⟨b,0,none⟩)] 53);have qz:=(Boxed.new w 53 (.pointer (some ⟨b,0,none⟩))).alloc (.cells #[.string (bs keep)] 9);have TW:=Boxed.new (w.alloc (.cells #[.pointer (some ⟨b,0,none⟩)] 53)) 9 (.string (bs keep));have hb:=Ad.alloc Ad.size (.cells #[.string (bs keep)] 9);have hsz:((w.alloc (.cells #[.pointer (some ⟨b,0,none⟩)] 53)).alloc (.cells #[.string (bs keep)] 9)).heap.size=w.heap.size+2:=by rw[Aq,Aq]
 rw[Aq] at TW;have h':=h.below hb;obtain⟨_,_,c2,_,_,_⟩:=h'.cells;have EB:L.length=D.loose.length:=by rw[←hL,Cf]
 have hs:=avC 2 (by omega) D.n m (w.heap.size+2) w.heap.size (w.heap.size+1) b keep lv L _ (by omega) (by have:=h.base.lt;omega) (by omega) qz.cell TW.cell c2 (by rw[hL,←hsz];exact h'.looseAt) (by omega) hk;refine(Di.1 (akC h' (enters_of func119 (by kernel_rfl) rfl) (n₀:=w.heap.size+2) (by omega) (n:=3) (by omega) hs)).mono ?_;rintro e w'⟨g1,g2,g3⟩;refine⟨g1,?_,(A7.of_below hb).trans g3 (fun _ h=>.inl h)⟩;unfold laid at g2;rw[avy,hL,avw] at g2;exact g2
theorem aqP{w:World}{b:Nat}{D:Dsk}{fp:Nat→Prop}(h:Bl w b D fp)(keep:List UInt8)(hlen:D.loose.length≤1000000000)(hk:keep.length≤1000000000):
  Calls prog 17 #[.pointer (some ⟨b,0,none⟩),.string (bs keep)] w fun e w'=>e=.returned (.int .i64 0)∧∃ fp',Bl w' b (D.Gd keep) fp'∧A7 fp w w'∧D6 fp fp' w:=by
 obtain⟨m,lv,hI,rfl⟩:=h;have HI:=Hi hI;clear hI;go_enter func17,ntmps17;go_wp2_with fail;refine(avA _ _ _).mono ?_;rintro e w1⟨rfl,rfl⟩;go_wp2_with fail;refine(avY HI keep hlen hk).mono ?_;rintro e w1⟨⟨v,rfl⟩,hD,hU⟩;have HD:=Hi hD;have HU:=Hi hU;obtain⟨_,_,d2,d3,d4,df⟩:=hD.cells;have df2:=df 2;have YF:=df 3;have ic:=df 4;clear hD hU df;go_wp2_with fail;go_ret;have h1:=HD.drop;have hF:=HI.fine.Gd keep;have h2:=h1.set (D':={ { { D with base:=Dsk.lay D.base (D.kept keep) } with loose:=[] } with left:= -1 }) 3 (.int .i64 (-1)) rfl rfl rfl rfl ⟨hF.n1,hF.n2,hF.base,hF.loose,by show(-1:Int)≤ -1∧(-1:Int)≤9223372036854775807;omega⟩;have h3:=h2.set (D':=D.Gd keep) 4 (.bool false) rfl rfl rfl rfl hF;refine⟨rfl,_,⟨m,_,h3,rfl⟩,(((HU.mono (fun _ e=>.inr (.inl e))).setCell (p:=⟨b,2,none⟩) (.inl (.inl rfl)) _).setCell (p:=⟨b,3,none⟩) (.inl (.inl rfl)) _).setCell (p:=⟨b,4,none⟩) (.inl (.inl rfl)) _,?_⟩;rintro k (rfl|rfl|hk)
 ·exact .inl (.inl rfl)
 ·exact .inl (.inr (.inl rfl))
 ·simp[Value.ownBlock] at hk
end
section
open Go.RowKit Go.Maps
theorem anq(w:World)(n:Nat)(hn:n≤1000000000):∃ C,(Instr.makeSlice 232 (.int .i64 (n:Int)) (.int .i64 (n:Int))).run prog w=.ok (.slice (some ⟨w.heap.size,0,none⟩) n n) (w.alloc (.cells C 5))∧
  BytesAt (w.alloc (.cells C 5)) w.heap.size (List.replicate n 0):=by
 have YV:(prog.info? 5).map (fun i=>(i.zero,i.size,i.bytes))=some (some (.int .u8 0),1,1):=by kernel_rfl
 obtain⟨i0,hi,AQ,AU,AV⟩:=Du YV;have hrun:=run_make (P:=prog) w 232 5 i0 _ underlying232 hi AQ .i64 .i64 n n (by omega) (Int.le_refl _) (by rw[AV];omega) (by omega);rw[Int.toNat_natCast] at hrun;refine⟨_,hrun,afo w _ _ _ (fun i hi=>?_)⟩;rw[List.length_replicate] at hi;rw[AU,List.getElem_replicate];simp[madeCells,Value.cells];exact⟨i,by rw[Array.getElem?_range,Ab hi],by rw[Nat.mod_one];rfl⟩
theorem Bg{w:World}{base e s:Nat}{v:Value}{n:Nat}{xs:List Value}(h:w.ownsRow base e s v n xs):∃ q cap,v=.slice q n cap:=by
 rcases h.2 with⟨e1,e2⟩|⟨g,cap,_,e1,_⟩
 ·exact⟨none,0,by rw[e1,e2]⟩
 ·exact⟨_,cap,e1⟩
theorem C9{w w':World}{base e s:Nat}{v:Value}{n:Nat}{xs:List Value}(h:w.ownsRow base e s v n xs)(hb:Bw w w'):w'.ownsRow base e s v n xs:=Bh h (ub hb) (fun _ _ f=>f)
end
section
open Go.RowKit Go.Maps
@[irreducible] def strCells (l:List (List UInt8)):List Value:=l.map fun s=>Value.string (bs s)
theorem strCells_length(l:List (List UInt8)):(strCells l).length=l.length:=by unfold strCells;simp
theorem XL(l:List (List UInt8))(i:Nat)(h:i < l.length):(strCells l)[i]?=some (.string (bs l[i])):=by
 unfold strCells;rw[IX,Cn h];rfl
theorem Rl(l:List (List UInt8))(s:List UInt8):strCells (l++[s])=strCells l++[.string (bs s)]:=by unfold strCells;simp
theorem ad1(l:List (List UInt8)):∀ u∈strCells l,u.oneCell'=true:=by
 intro u hu;unfold strCells at hu;obtain⟨s,_,rfl⟩:=Bz.1 hu;rfl
@[irreducible] def aCI (l:List (Nat×List UInt8)):List Value:=l.flatMap fun p=>[Value.int .i64 (p.1:Int),.string (bs p.2)]
end
section
open Go.RowKit Go.Maps
end
section
open Go.RowKit Go.Maps
theorem ad2:(prog.info? 9).map (fun i=>(i.zero,i.size,i.bytes))=some (some (.string ByteArray.empty),1,16):=by kernel_rfl
end
section
open Go.RowKit Go.Maps
end
section
open Go.RowKit Go.Maps
end
section
open Go.RowKit Go.Maps
end
section
open Go.RowKit Go.Maps
end
section
open Go.RowKit Go.Maps
end
section
open Go.RowKit Go.Maps
end
section
open Go.RowKit Go.Maps
end
section
open Go.RowKit Go.Maps
end
end Go.Proofs.YtmbbhdebddbhoaaGreat
