/- What is done stays done: rows beside a board. -/
import Derived.Test.YtgmhglcdifhimaaDoorTaskGoesLaw
import Derived.Test.YtgmhglcdifhimaaDoorTaskCopied
import Derived.Laws.MakeOwn
namespace Go.Proofs.YtgmhglcdifhimaaDoor
open Go.RowKit Go.Maps Go.Sort
open Tsk

/-- A row that lies whole in a block. -/
def RowAt (w : World) (g : Nat) (e : TypeId) (cs : List Value) : Prop := w.heap[g]? = some (.cells cs.toArray e)
section
variable {w w' : World} {g : Nat} {e : TypeId} {cs : List Value}
theorem RowAt.blk (h : RowAt w g e cs) : BlkOf w g e := ⟨_, _, h⟩
theorem RowAt.lt (h : RowAt w g e cs) : g < w.heap.size := blk_lt h
theorem RowAt.cell (h : RowAt w g e cs) (i : Nat) (hi : i < cs.length) : w.cell? ⟨g, i, none⟩ = some cs[i] := by
  rw [cell_of_row w g i _ _ _ h, List.getElem?_toArray, List.getElem?_eq_getElem hi]
theorem RowAt.free (h : RowAt w g e cs) (i : Nat) : w.frozen? ⟨g, i, none⟩ = false := frozen_of_row w g i _ _ h
theorem RowAt.upd {F : Nat → Prop} (h : RowAt w g e cs) (hu : Upd F w w') (hF : ¬ F g) : RowAt w' g e cs := (hu.block g h.lt hF).trans h
theorem RowAt.below (h : RowAt w g e cs) (hb : Below w.heap.size w w') : RowAt w' g e cs := (hb.block g h.lt).trans h
theorem RowAt.set (h : RowAt w g e cs) (i : Nat) (v : Value) : RowAt (w.setCell ⟨g, i, none⟩ v) g e (cs.set i v) := by
  have := heap_setCell_same w g i _ _ v h
  rw [List.setIfInBounds_toArray] at this
  exact this
theorem RowAt.far (h : RowAt w g e cs) {g' : Nat} (hne : g' ≠ g) (i : Nat) (v : Value) : RowAt (w.setCell ⟨g', i, none⟩ v) g e cs :=
  h.upd (F := fun k => k = g') ((Upd.refl (fun k => k = g') w).setCell (p := ⟨g', i, none⟩) (.inl rfl) v) (fun e => hne e.symm)
theorem RowAt.made (w : World) (cs : Array Value) (e : TypeId) : RowAt (w.alloc (.cells cs e)) w.heap.size e cs.toList := by
  have := heap_alloc_new w (.cells cs e)
  unfold RowAt
  rw [this]
end
theorem madeCells_one (z : Value) (hz : z.cells = #[z]) (n : Nat) : (madeCells z.cells (n * 1)).toList = List.replicate n z := by
  rw [hz, Nat.mul_one]
  unfold madeCells
  apply List.ext_getElem
  · simp
  · intro i h1 h2
    simp [Nat.mod_one]
theorem bools_made (w : World) (n : Nat) (hn : n ≤ 1000) : ∃ C : Array Value, (Instr.makeSlice 67 (.int .i64 (n : Int)) (.int .i64 (n : Int))).run Tryd.prog w = .ok (.slice (some ⟨w.heap.size, 0, none⟩) n n) (w.alloc (.cells C 4)) ∧ C.toList = List.replicate n (.bool false) := by
  have hinfo : (Tryd.prog.info? 4).map (fun i => (i.zero, i.size, i.bytes)) = some (some (.bool false), 1, 1) := by kernel_rfl
  obtain ⟨i0, hi, hz0, hz1, hz2⟩ := info_parts hinfo
  have hrun := run_make (P := Tryd.prog) w 67 4 i0 _ Tryd.underlying67 hi hz0 .i64 .i64 n n (by omega) (Int.le_refl _) (by rw [hz2]; omega) (by omega)
  rw [Int.toNat_natCast, hz1] at hrun
  exact ⟨_, hrun, madeCells_one _ rfl n⟩
theorem strs_made (w : World) (n : Nat) (hn : n ≤ 1000) : ∃ C : Array Value, (Instr.makeSlice 48 (.int .i64 (n : Int)) (.int .i64 (n : Int))).run Tryd.prog w = .ok (.slice (some ⟨w.heap.size, 0, none⟩) n n) (w.alloc (.cells C 9)) ∧ C.toList = List.replicate n (.string (bs [])) := by
  have hinfo : (Tryd.prog.info? 9).map (fun i => (i.zero, i.size, i.bytes)) = some (some (.string ByteArray.empty), 1, 16) := by kernel_rfl
  obtain ⟨i0, hi, hz0, hz1, hz2⟩ := info_parts hinfo
  have hrun := run_make (P := Tryd.prog) w 48 9 i0 _ Tryd.underlying48 hi hz0 .i64 .i64 n n (by omega) (Int.le_refl _) (by rw [hz2]; omega) (by omega)
  rw [Int.toNat_natCast, hz1] at hrun
  exact ⟨_, hrun, madeCells_one _ rfl n⟩
theorem bools_index (g n k : Nat) (hk : k < n) (W : World) : (Instr.indexAt 67 (.slice (some ⟨g, 0, none⟩) n n) (.int .i64 (k : Int))).run Tryd.prog W = .ok (.pointer (some ⟨g, k, none⟩)) W := by
  have := run_index_slice Tryd.prog 67 4 Tryd.underlying67 1 (by kernel_rfl) ⟨g, 0, none⟩ n n k hk W
  rw [Nat.mul_one, add_plain] at this
  exact this
theorem strs_index (g n k : Nat) (hk : k < n) (W : World) : (Instr.indexAt 48 (.slice (some ⟨g, 0, none⟩) n n) (.int .i64 (k : Int))).run Tryd.prog W = .ok (.pointer (some ⟨g, k, none⟩)) W := by
  have := run_index_slice Tryd.prog 48 9 Tryd.underlying48 1 (by kernel_rfl) ⟨g, 0, none⟩ n n k hk W
  rw [Nat.mul_one, add_plain] at this
  exact this

def isRow (b : Board) : List Value := b.l.map fun x => .bool x.is
def valRow (b : Board) : List Value := b.l.map fun x => .string (bs x.value)
/-- A board, and what is done of it, with the values, in rows beside it. -/
structure NdB (w0 w : World) (p m : Nat) (lv : Value) (nvs : List Value) (b : Board) (k : Nat) (L : List (List Int)) (gd gv : Nat) : Prop extends MyB w0 w p m lv nvs b k where
  needs : b.l.map (·.needs) = natsL L
  blank : ∀ x ∈ b.l, x.is = false → x.value = []
  dn : RowAt w gd 4 (isRow b)
  vl : RowAt w gv 9 (valRow b)
  gdn : w0.heap.size ≤ gd
  gvn : w0.heap.size ≤ gv
section
variable {w0 w w' : World} {p m : Nat} {lv : Value} {nvs : List Value} {b b' : Board} {k k' : Nat} {L : List (List Int)} {gd gv : Nat}
theorem NdB.len (h : NdB w0 w p m lv nvs b k L gd gv) : b.l.length = L.length := by
  have := congrArg List.length h.needs
  unfold natsL at this
  simpa using this
theorem BoardIn.notOf (h : BoardIn w p m lv nvs b) {g : Nat} {t : TypeId} (hb : BlkOf w g t) (h1 : t ≠ 83) (h2 : t ≠ 87) : ¬ boardBlocks p m lv g := fun hk => by
  rcases h.kind hk hb with e | e
  · exact h1 e
  · exact h2 e
theorem NdB.step (h : NdB w0 w p m lv nvs b k L gd gv) (hb : Below w.heap.size w w') : NdB w0 w' p m lv nvs b k L gd gv := ⟨h.toMyB.step hb, h.needs, h.blank, h.dn.below hb, h.vl.below hb, h.gdn, h.gvn⟩
/-- Where a call leaves the tasks' being done, and their values. -/
theorem NdB.to (h : NdB w0 w p m lv nvs b k L gd gv) (ht : BoardTo w w' p m lv nvs b') (hf : b'.Fine k') (hn : b'.l.map (·.needs) = b.l.map (·.needs)) (hi : isRow b' = isRow b) (hv : valRow b' = valRow b) (hbl : ∀ x ∈ b'.l, x.is = false → x.value = []) : NdB w0 w' p m lv nvs b' k' L gd gv :=
  ⟨h.toMyB.to ht hf, hn.trans h.needs, hbl, by rw [hi]; exact h.dn.upd ht.upd (h.board.notOf h.dn.blk (by decide) (by decide)), by rw [hv]; exact h.vl.upd ht.upd (h.board.notOf h.vl.blk (by decide) (by decide)), h.gdn, h.gvn⟩
theorem NdB.start (h : NdB w0 w p m lv nvs b k L gd gv) (t x : Int) (ht : BoardTo w w' p m lv nvs (b.start t x).1) : NdB w0 w' p m lv nvs (b.start t x).1 (k + 1) L gd gv := by
  have e := (start_len (b := b) t x).2.1
  exact h.to ht (h.fine.start t x) (by rw [e]) (by unfold isRow; rw [e]) (by unfold valRow; rw [e]) (by rw [e]; exact h.blank)
theorem map_set_same {α β : Type} (f : α → β) (l : List α) (t : Nat) (x y : α) (hx : l[t]? = some x) (hf : f y = f x) : (l.set t y).map f = l.map f := by
  apply List.ext_getElem?
  intro i
  rw [List.getElem?_map, List.getElem?_map, List.getElem?_set]
  split
  · rename_i e
    subst e
    split
    · rw [hx]; simp [hf]
    · rename_i hlt
      rw [List.getElem?_eq_none (by omega)] at hx; cases hx
  · rfl
theorem NdB.fail (h : NdB w0 w p m lv nvs b k L gd gv) (x : Int) (ht : BoardTo w w' p m lv nvs (b.fail x).1) : NdB w0 w' p m lv nvs (b.fail x).1 (k + 1) L gd gv := by
  have hf := h.fine.fail x
  revert ht hf
  unfold Board.fail
  split
  · intro ht hf; exact h.to ht hf rfl rfl rfl h.blank
  · rename_i t _
    split
    · intro ht hf; exact h.to ht hf rfl rfl rfl h.blank
    · rename_i y hy
      split
      · intro ht hf; exact h.to ht hf rfl rfl rfl h.blank
      · intro ht hf
        refine h.to ht hf (map_set_same _ _ _ _ _ hy rfl) (map_set_same _ _ _ _ _ hy rfl) (map_set_same _ _ _ _ _ hy rfl) (fun x hx hi => ?_)
        rcases List.mem_or_eq_of_mem_set hx with hx | rfl
        · exact h.blank x hx hi
        · exact h.blank y (List.mem_of_getElem? hy) hi
theorem NdB.rows (h : NdB w0 w p m lv nvs b k L gd gv) (ht : BoardTo w w' p m lv nvs b') : RowAt w' gd 4 (isRow b) ∧ RowAt w' gv 9 (valRow b) :=
  ⟨h.dn.upd ht.upd (h.board.notOf h.dn.blk (by decide) (by decide)), h.vl.upd ht.upd (h.board.notOf h.vl.blk (by decide) (by decide))⟩
theorem commit_none {x : Int} (ha : b.at_ x = none) (v : List UInt8) : b.commit x v = (b, false, 3) := by unfold Board.commit; rw [ha]
theorem commit_at {x : Int} {t : Nat} (ha : b.at_ x = some t) (ht : t < b.l.length) (v : List UInt8) : b.commit x v = if b.l[t].is then (b.drop x, false, 0) else ({ b.drop x with l := b.l.set t { b.l[t] with is := true, value := v } }, true, 0) := by
  unfold Board.commit
  rw [ha]
  simp only [List.getElem?_eq_getElem ht]
theorem NdB.commit_late (h : NdB w0 w p m lv nvs b k L gd gv) {x : Int} {t : Nat} (ha : b.at_ x = some t) (hlt : t < b.l.length) (hi : b.l[t].is = true) (v : List UInt8) (ht : BoardTo w w' p m lv nvs (b.commit x v).1) : NdB w0 w' p m lv nvs (b.commit x v).1 k L gd gv := by
  have hf := h.fine.commit x v
  rw [commit_at ha hlt v, if_pos hi] at ht hf ⊢
  exact h.to ht hf rfl rfl rfl h.blank
theorem NdB.commit_first (h : NdB w0 w p m lv nvs b k L gd gv) {x : Int} {t : Nat} (ha : b.at_ x = some t) (hlt : t < b.l.length) (hi : b.l[t].is = false) (v : List UInt8) (ht : BoardTo w w' p m lv nvs (b.commit x v).1) :
    NdB w0 ((w'.setCell ⟨gd, t, none⟩ (.bool true)).setCell ⟨gv, t, none⟩ (.string (bs v))) p m lv nvs (b.commit x v).1 k L gd gv := by
  have hf := h.fine.commit x v
  obtain ⟨hd, hv⟩ := h.rows ht
  have hM := h.toMyB.to ht hf
  have hne : gd ≠ gv := fun e => BlkOf.ne (e ▸ hd.blk) hv.blk (by decide) rfl
  rw [commit_at ha hlt v, if_neg (by rw [hi]; decide)] at ht hf hM ⊢
  have hy : b.l[t]? = some b.l[t] := List.getElem?_eq_getElem hlt
  have hu1 : Upd (fun k => k = gd) w' (w'.setCell ⟨gd, t, none⟩ (.bool true)) := (Upd.refl (fun k => k = gd) w').setCell (p := ⟨gd, t, none⟩) (.inl rfl) _
  have hu : Upd (fun k => k = gd ∨ k = gv) w' ((w'.setCell ⟨gd, t, none⟩ (.bool true)).setCell ⟨gv, t, none⟩ (.string (bs v))) := (hu1.mono fun i e => .inl e).setCell (p := ⟨gv, t, none⟩) (.inl (.inr rfl)) _
  have hnd := hM.board.notOf hd.blk (by decide) (by decide)
  have hnv := hM.board.notOf hv.blk (by decide) (by decide)
  refine ⟨⟨hM.board.upd hu (fun i hi e => ?_) (fun i hb e => ?_), hM.fine, below_upd hM.below hu (fun i e => ?_) hM.below.size, hM.new⟩, ?_, fun y hy2 hi2 => ?_, ?_, ?_, h.gdn, h.gvn⟩
  · rcases e with e | e
    · exact hnd (e ▸ hi)
    · exact hnv (e ▸ hi)
  · rcases e with e | e
    · exact BlkOf.ne (e ▸ hb) hd.blk (by decide) rfl
    · exact BlkOf.ne (e ▸ hb) hv.blk (by decide) rfl
  · rcases e with e | e
    · rw [e]; exact h.gdn
    · rw [e]; exact h.gvn
  · exact (map_set_same (·.needs) b.l t b.l[t] { b.l[t] with is := true, value := v } hy rfl).trans h.needs
  · rcases List.mem_or_eq_of_mem_set hy2 with hy2 | rfl
    · exact h.blank y hy2 hi2
    · cases hi2
  · have := (hd.set t (.bool true)).far (g' := gv) (fun e => hne e.symm) t (.string (bs v))
    have e : (isRow b).set t (.bool true) = isRow { b.drop x with l := b.l.set t { b.l[t] with is := true, value := v } } := by unfold isRow; rw [List.map_set]
    rw [← e]
    exact this
  · have := (hv.far (g' := gd) hne t (.bool true)).set t (.string (bs v))
    have e : (valRow b).set t (.string (bs v)) = valRow { b.drop x with l := b.l.set t { b.l[t] with is := true, value := v } } := by unfold valRow; rw [List.map_set]
    rw [← e]
    exact this
theorem start_zero {t x : Int} (h : (b.start t x).2 = 0) : 0 ≤ t ∧ t < (b.l.length : Int) ∧ b.failed = none ∧ b.at_ x = none ∧ (b.state t.toNat = 1 ∨ b.state t.toNat = 2) := by
  unfold Board.start at h
  split at h
  · cases h
  · split at h
    · cases h
    · split at h
      · cases h
      · split at h
        · rename_i h1 h2 h3 h4
          exact ⟨by omega, by omega, by simpa using h2, by simpa using h3, h4⟩
        · cases h
theorem state_open {t : Nat} (ht : t < b.l.length) (h : b.state t = 1 ∨ b.state t = 2) : b.l[t].is = false ∧ ∀ n ∈ b.l[t].needs, b.isDone n = true := by
  rw [state_get ht] at h
  unfold Board.stateX at h
  cases hi : b.l[t].is with
  | true => rw [hi, if_pos rfl] at h; omega
  | false =>
    rw [hi, if_neg (by decide)] at h
    refine ⟨rfl, fun n hn => ?_⟩
    split at h
    · omega
    · cases hw : b.waits b.l[t] with
      | true => rw [hw, if_pos rfl] at h; omega
      | false =>
        unfold Board.waits at hw
        have := List.any_eq_false.1 hw n hn
        simpa using this
theorem fail_zero (hF : b.Fine k) (x : Int) : decide ((b.fail x).2 = 0) = (b.at_ x).isSome := by
  unfold Board.fail
  cases ha : b.at_ x with
  | none => rfl
  | some t =>
    simp only [List.getElem?_eq_getElem (hF.at_lt ha)]
    split <;> rfl
end
end Go.Proofs.YtgmhglcdifhimaaDoor
