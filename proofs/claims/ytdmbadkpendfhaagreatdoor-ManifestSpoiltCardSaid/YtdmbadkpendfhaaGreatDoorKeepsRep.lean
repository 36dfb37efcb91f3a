/- Rows of rows of texts, as maslinlaw04.DiskKeeps keeps them beside a disk. -/
import Derived.Test.YtdmbadkpendfhaaGreatDoorDiskLaw
import Derived.Test.YtdmbadkpendfhaaGreatDoorDiskAlive
import Derived.Test.YtdmbadkpendfhaaGreatDoorRef
namespace Go.Proofs.YtdmbadkpendfhaaGreatDoor
open Go.RowKit Go.Maps

/-- A disk has neither texts nor rows of texts in its blocks. -/
theorem DiskAt.kinds {w : World} {b : Nat} {D : Dsk} {fp : Nat → Prop} (h : DiskAt w b D fp) (k : Nat) (hk : fp k) : ¬ BlkOf w k 9 ∧ ¬ BlkOf w k 23 := by
  obtain ⟨m, lv, hI, rfl⟩ := h
  have key : ∀ t, (t = 9 ∨ t = 23) → ¬ BlkOf w k t := by
    rintro t ht ⟨cs, fr, hb⟩
    rcases hk with rfl | rfl | hk
    · rw [hI.struct] at hb
      injection hb with hb
      injection hb with _ hb _
      subst hb
      rcases ht with ht | ht <;> cases ht
    · obtain ⟨kv, ⟨_, D', ⟨es, clock, hm, _⟩, _⟩, _⟩ := hI.base
      rw [hm] at hb
      injection hb with hb
      cases hb
    · rcases hI.loose.2 with ⟨e1, _⟩ | ⟨g, cap, cur, e1, _, hg, _⟩
      · subst e1; simp [Value.ownBlock] at hk
      · subst e1
        simp [Value.ownBlock] at hk
        subst hk
        rw [hg] at hb
        injection hb with hb
        injection hb with _ hb _
        subst hb
        rcases ht with ht | ht <;> cases ht
  exact ⟨key _ (.inl rfl), key _ (.inr rfl)⟩

/-- A row of texts that nobody writes to again. -/
def RowAt (w : World) (v : Value) (l : List (List UInt8)) : Prop :=
  l ≠ [] ∧ ∃ g o cap, v = .slice (some ⟨g, o, none⟩) l.length cap ∧ (l.length ≤ cap ∧ cap ≤ maxLen) ∧ BlkOf w g 9 ∧ ∀ j (h : j < l.length), w.cell? ⟨g, o + j, none⟩ = some (.string (bs l[j]))
theorem RowAt.upd {F : Nat → Prop} {w w' : World} {v : Value} {l : List (List UInt8)} (h : RowAt w v l) (hu : Upd F w w') (hF : ∀ k, BlkOf w k 9 → ¬ F k) : RowAt w' v l := by
  obtain ⟨h1, g, o, cap, h2, hc, h3, h4⟩ := h
  exact ⟨h1, g, o, cap, h2, hc, h3.upd hu (hF g h3), fun j hj => (hu.cell (p := ⟨g, o + j, none⟩) h3.lt (hF g h3)).trans (h4 j hj)⟩
theorem RowAt.below {w w' : World} {v : Value} {l : List (List UInt8)} (h : RowAt w v l) (hb : Below w.heap.size w w') : RowAt w' v l := h.upd (Upd.of_below (F := fun _ => False) hb) (fun _ _ f => f)

/-- Rows of rows: those that have been laid so far. -/
def OuterAt (w : World) (g n : Nat) (rows : List (List (List UInt8))) : Prop :=
  ∃ cs : Array Value, w.heap[g]? = some (.cells cs 23 (0, 0)) ∧ cs.size = n ∧ rows.length ≤ n ∧ ∀ i (h : i < rows.length), ∃ v, cs[i]? = some v ∧ RowAt w v rows[i]
theorem OuterAt.blk {w : World} {g n : Nat} {rows : List (List (List UInt8))} (h : OuterAt w g n rows) : BlkOf w g 23 := by
  obtain ⟨cs, h, _⟩ := h
  exact ⟨cs, _, h⟩
theorem OuterAt.upd {F : Nat → Prop} {w w' : World} {g n : Nat} {rows : List (List (List UInt8))} (h : OuterAt w g n rows) (hu : Upd F w w') (hF : ∀ k, BlkOf w k 9 → ¬ F k) (hg : ¬ F g) : OuterAt w' g n rows := by
  have hl := h.blk.lt
  obtain ⟨cs, h1, h2, h3, h4⟩ := h
  exact ⟨cs, (hu.block g hl hg).trans h1, h2, h3, fun i hi => by
    obtain ⟨v, e, hv⟩ := h4 i hi
    exact ⟨v, e, hv.upd hu hF⟩⟩
theorem OuterAt.cell {w : World} {g n : Nat} {rows : List (List (List UInt8))} (h : OuterAt w g n rows) (i : Nat) (hi : i < rows.length) : ∃ v, w.cell? ⟨g, i, none⟩ = some v ∧ RowAt w v rows[i] := by
  obtain ⟨cs, h1, _, _, h4⟩ := h
  obtain ⟨v, e, hv⟩ := h4 i hi
  exact ⟨v, (cell_of_row w g i cs _ _ h1).trans e, hv⟩
theorem OuterAt.there {w : World} {g n : Nat} {rows : List (List (List UInt8))} (h : OuterAt w g n rows) (i : Nat) (hi : i < n) : ∃ v, w.cell? ⟨g, i, none⟩ = some v := by
  obtain ⟨cs, h1, h2, _, _⟩ := h
  exact ⟨cs[i]'(by omega), (cell_of_row w g i cs _ _ h1).trans (Array.getElem?_eq_getElem (by omega))⟩
theorem OuterAt.free {w : World} {g n : Nat} {rows : List (List (List UInt8))} (h : OuterAt w g n rows) (i : Nat) : w.frozen? ⟨g, i, none⟩ = false := by
  obtain ⟨cs, h1, _⟩ := h
  exact frozen_of_row w g i cs _ h1
theorem upd_set (w : World) (g i : Nat) (v : Value) : Upd (fun k => k = g) w (w.setCell ⟨g, i, none⟩ v) := (Upd.refl (fun k => k = g) w).setCell (p := ⟨g, i, none⟩) (.inl rfl) v
theorem str_rows_ne : (9 : TypeId) ≠ 23 := by decide
theorem OuterAt.set {w : World} {g n : Nat} {rows : List (List (List UInt8))} (h : OuterAt w g n rows) (i : Nat) (hi : i < rows.length) {v : Value} {l : List (List UInt8)} (hv : RowAt w v l) : OuterAt (w.setCell ⟨g, i, none⟩ v) g n (rows.set i l) := by
  have hg := h.blk
  have keep : ∀ v' l', RowAt w v' l' → RowAt (w.setCell ⟨g, i, none⟩ v) v' l' := fun v' l' h' => h'.upd (upd_set w g i v) (fun k hk e => (hk.ne hg str_rows_ne) e)
  obtain ⟨cs, h1, h2, h3, h4⟩ := h
  refine ⟨cs.setIfInBounds i v, heap_setCell_same w g i cs _ v h1, by rw [Array.size_setIfInBounds]; exact h2, by rw [List.length_set]; exact h3, fun j hj => ?_⟩
  rw [List.length_set] at hj
  rw [List.getElem_set, Array.getElem?_setIfInBounds]
  by_cases e : i = j
  · subst e
    rw [if_pos rfl, if_pos (by omega), if_pos rfl]
    exact ⟨v, rfl, keep _ _ hv⟩
  · rw [if_neg e, if_neg e]
    obtain ⟨v', e', hv'⟩ := h4 j hj
    exact ⟨v', e', keep _ _ hv'⟩
theorem OuterAt.push {w : World} {g n : Nat} {rows : List (List (List UInt8))} (h : OuterAt w g n rows) (i : Nat) (hi : i = rows.length) (hn : i < n) {v : Value} {l : List (List UInt8)} (hv : RowAt w v l) : OuterAt (w.setCell ⟨g, i, none⟩ v) g n (rows ++ [l]) := by
  subst hi
  have hg := h.blk
  have keep : ∀ v' l', RowAt w v' l' → RowAt (w.setCell ⟨g, rows.length, none⟩ v) v' l' := fun v' l' h' => h'.upd (upd_set w g rows.length v) (fun k hk e => (hk.ne hg str_rows_ne) e)
  obtain ⟨cs, h1, h2, h3, h4⟩ := h
  refine ⟨cs.setIfInBounds rows.length v, heap_setCell_same w g rows.length cs _ v h1, by rw [Array.size_setIfInBounds]; exact h2, by rw [List.length_append]; exact hn, fun j hj => ?_⟩
  rw [Array.getElem?_setIfInBounds]
  by_cases e : rows.length = j
  · subst e
    rw [if_pos rfl, if_pos (by omega), List.getElem_append_right (Nat.le_refl _)]
    refine ⟨v, rfl, ?_⟩
    simp only [Nat.sub_self, List.getElem_cons_zero]
    exact keep _ _ hv
  · rw [if_neg e]
    rw [List.length_append, List.length_singleton] at hj
    obtain ⟨v', e', hv'⟩ := h4 j (by omega)
    rw [List.getElem_append_left (by omega)]
    exact ⟨v', e', keep _ _ hv'⟩

/-- The disk, 'all' and 'kept', from block B on. -/
structure KSt (B : Nat) (w0 w : World) (b : Nat) (D : Dsk) (fp : Nat → Prop) (g1 g2 n : Nat) (A K : List (List (List UInt8))) : Prop where
  my : MyDisk B w0 w b D fp
  all : OuterAt w g1 n A
  kept : OuterAt w g2 n K
  ne : g1 ≠ g2
  n1 : B ≤ g1
  n2 : B ≤ g2
section
variable {B : Nat} {w0 w w' : World} {b g1 g2 n : Nat} {D D' : Dsk} {fp fp' : Nat → Prop} {A K : List (List (List UInt8))}
theorem KSt.step (h : KSt B w0 w b D fp g1 g2 n A K) (hb : Below w.heap.size w w') : KSt B w0 w' b D fp g1 g2 n A K :=
  ⟨h.my.step hb, h.all.upd (Upd.of_below (F := fun _ => False) hb) (fun _ _ f => f) (fun f => f), h.kept.upd (Upd.of_below (F := fun _ => False) hb) (fun _ _ f => f) (fun f => f), h.ne, h.n1, h.n2⟩
theorem KSt.turn (h : KSt B w0 w b D fp g1 g2 n A K) (hd : DiskAt w' b D' fp') (hu : Upd fp w w') (hs : Stays fp fp' w) : KSt B w0 w' b D' fp' g1 g2 n A K :=
  have hk := h.my.disk.kinds
  ⟨h.my.turn hd hu hs, h.all.upd hu (fun k h1 h2 => (hk k h2).1 h1) (fun h2 => (hk _ h2).2 h.all.blk), h.kept.upd hu (fun k h1 h2 => (hk k h2).1 h1) (fun h2 => (hk _ h2).2 h.kept.blk), h.ne, h.n1, h.n2⟩
theorem KSt.past (h : KSt B w0 w b D fp g1 g2 n A K) {g : Nat} (hg : B ≤ g) (hb : BlkOf w g 23) (i : Nat) (v : Value) : MyDisk B w0 (w.setCell ⟨g, i, none⟩ v) b D fp :=
  ⟨h.my.disk.upd (upd_set w g i v) (fun k hk e => by subst e; exact (h.my.disk.kinds _ hk).2 hb), h.my.new, below_upd h.my.below (upd_set w g i v) (fun k e => by subst e; exact hg) (Nat.le_trans h.my.size h.my.below.size), h.my.size⟩
theorem KSt.setA (h : KSt B w0 w b D fp g1 g2 n A K) (i : Nat) (hi : i < A.length) {v : Value} {l : List (List UInt8)} (hv : RowAt w v l) : KSt B w0 (w.setCell ⟨g1, i, none⟩ v) b D fp g1 g2 n (A.set i l) K :=
  ⟨h.past h.n1 h.all.blk i v, h.all.set i hi hv, h.kept.upd (upd_set w g1 i v) (fun _ hk e => (hk.ne h.all.blk str_rows_ne) e) (fun e => h.ne e.symm), h.ne, h.n1, h.n2⟩
theorem KSt.setK (h : KSt B w0 w b D fp g1 g2 n A K) (i : Nat) (hi : i < K.length) {v : Value} {l : List (List UInt8)} (hv : RowAt w v l) : KSt B w0 (w.setCell ⟨g2, i, none⟩ v) b D fp g1 g2 n A (K.set i l) :=
  ⟨h.past h.n2 h.kept.blk i v, h.all.upd (upd_set w g2 i v) (fun _ hk e => (hk.ne h.kept.blk str_rows_ne) e) (fun e => h.ne e), h.kept.set i hi hv, h.ne, h.n1, h.n2⟩
theorem KSt.pushA (h : KSt B w0 w b D fp g1 g2 n A K) (i : Nat) (hi : i = A.length) (hn : i < n) {v : Value} {l : List (List UInt8)} (hv : RowAt w v l) : KSt B w0 (w.setCell ⟨g1, i, none⟩ v) b D fp g1 g2 n (A ++ [l]) K :=
  ⟨h.past h.n1 h.all.blk i v, h.all.push i hi hn hv, h.kept.upd (upd_set w g1 i v) (fun _ hk e => (hk.ne h.all.blk str_rows_ne) e) (fun e => h.ne e.symm), h.ne, h.n1, h.n2⟩
theorem KSt.pushK (h : KSt B w0 w b D fp g1 g2 n A K) (i : Nat) (hi : i = K.length) (hn : i < n) {v : Value} {l : List (List UInt8)} (hv : RowAt w v l) : KSt B w0 (w.setCell ⟨g2, i, none⟩ v) b D fp g1 g2 n A (K ++ [l]) :=
  ⟨h.past h.n2 h.kept.blk i v, h.all.upd (upd_set w g2 i v) (fun _ hk e => (hk.ne h.kept.blk str_rows_ne) e) (fun e => h.ne e), h.kept.push i hi hn hv, h.ne, h.n1, h.n2⟩
end
theorem RowAt.one (w : World) (s : List UInt8) : RowAt (w.alloc (.cells #[.string (bs s)] 9)) (.slice (some ⟨w.heap.size, 0, none⟩) 1 1) [s] :=
  ⟨by simp, w.heap.size, 0, 1, rfl, ⟨by simp, by unfold maxLen; omega⟩, ⟨_, _, heap_alloc_new w _⟩, fun j hj => by
    obtain rfl : j = 0 := by simpa using hj
    rw [cell_of_row _ w.heap.size _ _ _ _ (heap_alloc_new w _)]
    rfl⟩
theorem RowAt.of_owns {w : World} {base g n cap : Nat} {l : List (List UInt8)} (h : w.ownsRow base 9 1 (.slice (some ⟨g, 0, none⟩) n cap) n (strCells l)) (hl : l ≠ []) (hn : n = l.length) : RowAt w (.slice (some ⟨g, 0, none⟩) n cap) l := by
  subst hn
  refine ⟨hl, g, 0, cap, rfl, ?_, ?_, fun j hj => ?_⟩
  · rcases h.2 with ⟨e1, _⟩ | ⟨g', cap', cur, e1, _, _, h1, h2, _⟩
    · cases e1
    · injection e1 with _ _ e3
      subst e3
      exact ⟨h1, h2⟩
  · rcases h.2 with ⟨e1, _⟩ | ⟨g', cap', cur, e1, _, hg, _⟩
    · cases e1
    · injection e1 with e2 _ _
      injection e2 with e2
      injection e2 with e2
      subst e2
      exact ⟨_, _, hg⟩
  · have := h.cells (g := g) rfl j _ (strCells_get l j hj)
    rw [add_plain] at this
    rw [Nat.zero_add]
    exact this
/-- A row of texts, laid open. -/
theorem RowAt.opened {w : World} {v : Value} {l : List (List UInt8)} (h : RowAt w v l) : ∃ g o L cap, v = .slice (some ⟨g, o, none⟩) L cap ∧ L = l.length ∧ 1 ≤ L ∧ L ≤ cap ∧ cap ≤ maxLen ∧ BlkOf w g 9 ∧
    (∀ j u, (strCells l)[j]? = some u → w.cell? ((⟨g, o, none⟩ : Addr).add j) = some u) ∧ ∀ X, l.getLast? = some X → w.cell? ⟨g, o + (L - 1), none⟩ = some (.string (bs X)) := by
  obtain ⟨h1, g, o, cap, h2, ⟨h3, h4⟩, h5, h6⟩ := h
  have hp := List.length_pos_iff.2 h1
  refine ⟨g, o, l.length, cap, h2, rfl, hp, h3, h4, h5, fun j u hu => ?_, fun X hX => ?_⟩
  · rw [add_off]
    by_cases hj : j < l.length
    · rw [strCells_get l j hj] at hu
      rw [← hu]
      exact h6 j hj
    · rw [List.getElem?_eq_none (by rw [strCells_length]; omega)] at hu
      cases hu
  · rw [h6 (l.length - 1) (by omega)]
    rw [List.getLast?_eq_getElem?, List.getElem?_eq_getElem (by omega)] at hX
    rw [Option.some.inj hX]
/-- The last text of a row, as a row of its own. -/
theorem RowAt.tail {w : World} {g o L cap : Nat} {l : List (List UInt8)} (h : RowAt w (.slice (some ⟨g, o, none⟩) L cap) l) : RowAt w (.slice (some ⟨g, o + (L - 1), none⟩) 1 (cap - (L - 1))) [l.getLastD []] := by
  obtain ⟨h1, g', o', cap', h2, ⟨_, h4⟩, h5, h6⟩ := h
  have hp := List.length_pos_iff.2 h1
  injection h2 with e1 e2 e3
  injection e1 with e1
  injection e1 with e1 e4 _
  subst e1; subst e2; subst e3; subst e4
  refine ⟨by simp, g, _, _, rfl, ⟨by rw [List.length_singleton]; omega, by omega⟩, h5, fun j hj => ?_⟩
  obtain rfl : j = 0 := by simpa using hj
  rw [Nat.add_zero, h6 (l.length - 1) (by omega)]
  rw [List.getLastD_eq_getLast?, List.getLast?_eq_getElem?, List.getElem?_eq_getElem (by omega)]
  rfl
/-- 'l[len(l)-1:]' -/
theorem rows_last (g o L cap : Nat) (h1 : 1 ≤ L) (h2 : L ≤ cap) (W : World) : (Instr.slice 23 (.slice (some ⟨g, o, none⟩) L cap) (some (.int .i64 ((L : Int) - 1))) none none).run Tryz.prog W = .ok (.slice (some ⟨g, o + (L - 1), none⟩) 1 (cap - (L - 1))) W := by
  have hinfo : (Tryz.prog.info? 9).map (·.size) = some 1 := by kernel_rfl
  cases hq : Tryz.prog.info? 9 with
  | none => simp [hq] at hinfo
  | some i =>
    have hs : i.size = 1 := by simpa [hq] using hinfo
    have e : (L : Int) - 1 = ((L - 1 : Nat) : Int) := by omega
    have hne : ¬ cap = L - 1 := by omega
    have h4 : L - 1 ≤ L := by omega
    have h5 : L - (L - 1) = 1 := by omega
    rw [e]
    simp [Instr.slice, run_underlying Tryz.underlying23, Instr.sliceBounds, run_sliceBound, sizeOf, typeInfo, hq, go_sem, hs, hne, h4, h5, add_off]
end Go.Proofs.YtdmbadkpendfhaaGreatDoor
