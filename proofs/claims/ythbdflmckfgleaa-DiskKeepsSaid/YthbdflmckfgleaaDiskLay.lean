/- (*Disk).lay: loose writes are laid over what was flushed. -/
import Derived.Test.YthbdflmckfgleaaDiskIter
import Derived.Test.YthbdflmckfgleaaRounds
namespace Go.Proofs.Ythbdflmckfgleaa
open Go.RowKit Go.Maps Go.Shelf
attribute [local go_sem] Oper.semAt_some
attribute [local go_sem ↓] put_load put_store sec_load

/-- The disk, when a part has been laid. -/
def laid (D : Dsk) (pre : List (Item D.n)) : Dsk := { D with base := Dsk.lay D.base (pre.map (·.1)) }
theorem laid_snoc (D : Dsk) (pre : List (Item D.n)) (x : Item D.n) : laid D (pre ++ [x]) = { laid D pre with base := fun k => if k = x.1.1 then x.1.2 else (laid D pre).base k } := by
  unfold laid
  rw [List.map_append, List.map_cons, List.map_nil, Dsk.lay_snoc]
theorem laid_fine {D : Dsk} (h : D.Fine) (pre : List (Item D.n)) : (laid D pre).Fine :=
  ⟨h.n1, h.n2, Dsk.lay_length h.base (fun p hp => by obtain ⟨y, _, rfl⟩ := List.mem_map.1 hp; exact y.2), h.loose, h.left⟩
/-- One sector is put into the map. -/
theorem DiskIn.put {w : World} {b m : Nat} {lv : Value} {D : Dsk} (h : DiskIn w b m lv D) {f : Nat → List UInt8} {w' : World} (hs : SecMap w' m D.n f) (hg : w.grownBy w' (some m)) (hf : Dsk.Fine { D with base := f }) : DiskIn w' b m lv { D with base := f } := by
  have hu : Upd (fun k => k = m) w w' := Upd.of_grownBy hg (fun k e => by cases e; rfl)
  refine ⟨?_, hs, ownsRow_upd h.loose hu (fun g hgg e => h.lm (by rw [hgg, e])), h.mb, h.lb, h.lm, hf⟩
  rw [hu.block b (Array.getElem?_eq_some_iff.1 h.struct).1 (Ne.symm h.mb)]
  exact h.struct
theorem secLoad_mid {W : World} {g o : Nat} {x : List UInt8} (h : x.length = 64) (hr : W.rangeAt g o (u8cells x)) : (secLoad (.pointer (some ⟨g, o, none⟩))).run Try.prog W = .ok (.agg (u8row x)) W := by
  have := run_loadAt_mid (P := Try.prog) W g o 99 _ _ hr Try.underlying99 rfl (sec_len x h)
  rw [u8cells_array] at this
  exact this

set_option maxRecDepth 100000 in
set_option maxHeartbeats 2000000 in
theorem lay_in {w : World} {b m : Nat} {lv : Value} {D : Dsk} (h : DiskIn w b m lv D) {gf : Nat} {lb : Array Value} (he : ∀ args w, (callFunc gf args).run Try.prog w = .ok (.enter gf args) w) {n₀ : Nat} (hn₀ : n₀ ≤ w.heap.size) {L : List (Item D.n)} {N n : Nat} (hn : 3 ≤ n)
    (hs : SeqStopsK Fence.wide (n - 1) Try.prog gf lb (encI (N := D.n)) (Kp m n₀) (fun ys => ys = L) (fun _ => True) N w) :
    CallsIn Fence.wide n Try.prog 64 #[.pointer (some ⟨b, 0, none⟩), .func (.func gf) #[] lb] w fun e w' => (∃ v, e = .returned v) ∧ DiskIn w' b m lv (laid D L) ∧ Upd (fun k => k = m) w w' := by
  have h1 : 1 ≤ n := by omega
  have hmix : Try.prog.follows .mixedOrders = true := by kernel_rfl
  have hfine := h.fine
  have HD := Lib.hid h
  have hb : b < w.heap.size := (Array.getElem?_eq_some_iff.1 h.struct).1
  have hm : m < w.heap.size := h.base.lt
  clear h
  refine callsIn_of_wp_marks Try.func64 rfl trivial ?_ rfl
  simp only [Try.ntmps64, List.size_toArray, List.length_cons, List.length_nil, Nat.reduceAdd, Nat.reduceSub, Array.replicate_succ, Array.replicate_zero, List.push_toArray, List.append_toArray, List.nil_append, List.cons_append]
  gi_wp2
  have hbox := Boxed.new w 40 (.pointer (some ⟨b, 0, none⟩))
  have hU0 : Upd (fun k => k = m) w (w.alloc (.cells #[.pointer (some ⟨b, 0, none⟩)] 40)) := (Upd.refl _ w).alloc _
  have hD0 : DiskIn (w.alloc (.cells #[.pointer (some ⟨b, 0, none⟩)] 40)) b m lv (laid D []) := HD.out.upd ((Upd.refl (fun _ => False) w).alloc _) (fun _ _ f => f)
  have hsz : (w.alloc (.cells #[.pointer (some ⟨b, 0, none⟩)] 40)).heap.size = w.heap.size + 1 := World.size_alloc _ _
  refine wpIn_rangeFunc_ownH rfl h1 (gf := gf) (lb := lb) rfl trivial he hs kp_t (kp_b (by omega)) ((Below.refl _ w).alloc (Nat.le_refl _) _) (fun _ => rfl)
    (fun pre W => (DiskIn W b m lv (laid D pre) ∧ Boxed W w.heap.size 40 (.pointer (some ⟨b, 0, none⟩))) ∧ Upd (fun k => k = m) w W)
    (fun _ _ _ => False)
    (fun s A B row hs hg hr => ?hown)
    (fun _ _ _ _ _ hs _ _ => hs)
    ⟨⟨hD0, hbox⟩, hU0⟩
    (fun x a' W => ∃ Bx, w.heap.size < Bx ∧ W.heap[Bx]? = some (.cells (putRow x.1) 101 (0, 0)) ∧ a' = { tmps := #[.pointer (some ⟨b, 0, none⟩), .func (.func gf) #[] lb, .pointer (some ⟨w.heap.size, 0, none⟩), undef, .pointer (some ⟨Bx, 0, none⟩), .func (.func gf) #[] lb, .agg (putRow x.1), undef, undef, undef, undef, undef, undef, undef, undef], defers := [] })
    (fun x a' _ X Y row hs hg hr => ?hAx)
    ?assign ?body ?done ?stop
  case hown =>
    have hu : Upd (fun k => w.heap.size + 1 ≤ k) A B := Upd.of_grownBy hg (fun k e => by have := (hr k e).1; omega)
    obtain ⟨⟨g1, g2⟩, g3⟩ := hs
    refine ⟨⟨g1.upd hu (fun k hk => ?_), g2.kept hg (fun e => ?_)⟩, g3.trans hu (fun i hi => .inr (by omega))⟩
    · rcases hk with rfl | rfl | hk
      · omega
      · omega
      · have := ownsRow_lt HD.out.loose hk; omega
    · have := (hr _ e.symm).1
      omega
  case hAx =>
    obtain ⟨Bx, g1, g2, g3⟩ := hs
    refine ⟨Bx, g1, (hg.block Bx (Array.getElem?_eq_some_iff.1 g2).1 (fun e => ?_)).trans g2, g3⟩
    obtain ⟨_, o, ho, hc⟩ := hr Bx e.symm
    rw [g2] at ho
    cases ho
    cases hc
  case assign =>
    rintro l pre x W K ⟨⟨hD, hB⟩, hU⟩ hK
    have hs1 := putStore_new W x.2.2 Try.zeroCells101 put_zeros
    unfold encI
    gi_wp2
    exact hK _ _ ((KeepsOthers.alloc _ _).from _) ((Upd.refl _ W).alloc _) ⟨⟨hD.upd ((Upd.refl (fun _ => False) W).alloc _) (fun _ _ f => f), hB.alloc _⟩, hU.alloc _⟩ ⟨W.heap.size, hB.lt, World.alloc_heap_new W _, rfl⟩
  case body =>
    rintro l pre x a' W hl ⟨r, hr⟩ ⟨⟨hD, hB⟩, hU⟩ ⟨Bx, hBx, hx, rfl⟩ hlt
    have c0 := hB.cell
    obtain ⟨_, c1, _, _, _, _⟩ := hD.cells
    have hx0 : W.cell? ⟨Bx, 0, none⟩ = some (.int .i64 (x.1.1 : Int)) := by rw [cell_of_row W Bx 0 _ _ _ hx]; exact putRow_zero x.1
    have hxs : W.rangeAt Bx 1 (u8cells x.1.2) := fun j v hv => by
      rw [cell_of_row W Bx (1 + j) _ _ _ hx, ← Array.getElem?_toList, putRow_list, Nat.add_comm 1 j]
      exact hv
    have hls := secLoad_mid (W := W.drew) x.2.2 (fun j v hv => hxs j v hv)
    obtain ⟨w2, hput, hS2, hg2⟩ := SecMap.put (w := W.drew) (hD.base.kept rfl) x.1.1 x.2.1 (by exact hD.fine.n2) x.1.2
    gi_wp2
    refine wpIn_region_any hmix ?_
    refine wpAnyIn_reads (m := 8) (d := 7) (vals := #[.pointer (some ⟨b, 0, none⟩), .pointer (some ⟨b, 0, none⟩), .pointer (some ⟨b, 1, none⟩), .map (some m), .pointer (some ⟨Bx, 0, none⟩), .int .i64 (x.1.1 : Int), .pointer (some ⟨Bx, 1, none⟩), .agg (u8row x.1.2)]) rfl (by simp) ?hops (by kernel_rfl) (by kernel_rfl) ?hrun ?hfin
    case hops =>
      intro j hj
      have : j = 0 ∨ j = 1 ∨ j = 2 ∨ j = 3 ∨ j = 4 ∨ j = 5 ∨ j = 6 ∨ j = 7 := by omega
      rcases this with rfl | rfl | rfl | rfl | rfl | rfl | rfl | rfl <;> exact ⟨_, rfl, rfl, rfl⟩
    case hrun =>
      intro j hj
      have : j = 0 ∨ j = 1 ∨ j = 2 ∨ j = 3 ∨ j = 4 ∨ j = 5 ∨ j = 6 ∨ j = 7 := by omega
      have a2 : ∀ a : Act, (∀ s, (s < 7 ∨ 7 + 8 ≤ s) → a.tmps.getD s undef = (#[Value.pointer (some ⟨b, 0, none⟩), .func (.func gf) #[] lb, .pointer (some ⟨w.heap.size, 0, none⟩), undef, .pointer (some ⟨Bx, 0, none⟩), .func (.func gf) #[] lb, .agg (putRow x.1), undef, undef, undef, undef, undef, undef, undef, undef] : Array Value).getD s undef) → a.tmps.getD 2 undef = .pointer (some ⟨w.heap.size, 0, none⟩) ∧ a.tmps.getD 4 undef = .pointer (some ⟨Bx, 0, none⟩) := fun a h => ⟨h 2 (by omega), h 4 (by omega)⟩
      rcases this with rfl | rfl | rfl | rfl | rfl | rfl | rfl | rfl <;> (intro o ho; cases ho; intro a _ hout hin; obtain ⟨t2, t4⟩ := a2 a hout; simp [Region.binds] at hin; refine ⟨fun f hf => (by simp [Oper.about] at hf), ?_⟩; simp [go_sem, *])
    case hfin =>
      intro a hdf hsz' hout hgot
      have t10 := hgot 3 (by omega)
      have t12 := hgot 5 (by omega)
      have t14 := hgot 7 (by omega)
      clear hgot hout
      simp at t10 t12 t14
      unfold wpOpIn
      simp [Region.wanted, Oper.wpIn, go_sem, t10, t12, t14, hput]
      have hD1 : DiskIn W.drew b m lv (laid D pre) := hD.upd ((Upd.refl (fun _ => False) W).drew) (fun _ _ f => f)
      have hfin : (laid D (pre ++ [x])).Fine := laid_fine hfine _
      rw [laid_snoc] at hfin
      have hD2 := hD1.put hS2 hg2 hfin
      rw [← laid_snoc] at hD2
      have hu2 : Upd (fun k => k = m) W w2 := ((Upd.refl _ W).drew).trans (Upd.of_grownBy (F := fun k => k = m) hg2 (fun k e => by cases e; rfl)) (fun _ h => .inl h)
      refine ⟨?_, hu2.mono (fun i e => .inl e), ⟨hD2, ?_⟩, hU.trans hu2 (fun _ h => .inl h)⟩
      · exact ((KeepsOthers.drew W).from _).trans (KeepsFrom.of_grownBy hg2 (fun j e => by cases e; omega))
      · exact (hu2.block _ hB.lt (by omega)).trans hB
  case done =>
    rintro DD ys W hDD rfl ⟨⟨hD, hB⟩, hU⟩ hK
    gi_wp2
    refine ⟨by simp, .inl ⟨_, _, rfl, run_takeDeferred hK, ?_⟩⟩
    have hu : Upd (fun k => k = DD) W (W.putObj DD (.deferred none)) := Upd.of_grownBy (grownBy_putObj' W DD (.deferred none)) (fun k e => by cases e; rfl)
    refine ⟨_, results_none rfl _ _ _, ⟨_, rfl⟩, hD.upd hu (fun k hk e => ?_), hU.trans hu (fun i hi => .inr (by omega))⟩
    subst e
    rcases hk with rfl | rfl | hk
    · omega
    · omega
    · have := ownsRow_lt HD.out.loose hk; omega
  case stop =>
    rintro DD c pre W _ _ h _
    exact h.elim
end Go.Proofs.Ythbdflmckfgleaa
