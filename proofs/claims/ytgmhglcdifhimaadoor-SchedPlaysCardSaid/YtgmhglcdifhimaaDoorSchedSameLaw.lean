/- What is done first, and with which value (plain). -/
import Derived.Test.YtgmhglcdifhimaaDoorSchedDiesLaw
namespace Go.Proofs.YtgmhglcdifhimaaDoor
open Tsk

def Board.marks (b : Board) : List (Bool × List UInt8) := b.l.map fun x => (x.is, x.value)
section
variable {b : Board} {M : Sch.Master} {k : Nat}
theorem marks_len (b : Board) : (Board.marks b).length = b.l.length := by unfold Board.marks; simp
theorem isN_marks (b : Board) (i : Nat) : Board.isN b i = (((Board.marks b)[i]?).map (·.1)).getD false := by
  unfold Board.isN Board.marks
  rw [List.getElem?_map]
  cases b.l[i]? <;> rfl
theorem fail_marks (x : Int) : Board.marks (b.fail x).1 = Board.marks b := by
  unfold Board.marks Board.fail
  split
  · rfl
  · split
    · rfl
    · rename_i y hy
      split
      · rfl
      · exact map_set_same (fun x : Task => (x.is, x.value)) b.l _ y { y with fails := y.fails + 1 } hy rfl
theorem start_marks (t x : Int) : Board.marks (b.start t x).1 = Board.marks b := by unfold Board.marks; rw [(start_len t x).2.1]
theorem begin_marks (w t s : Int) : Board.marks (M.begin w t s).1.b = Board.marks M.b := by
  unfold Sch.Master.begin
  split
  · rfl
  · split
    · rfl
    · split
      · rfl
      · exact start_marks _ _
/-- What a finish does. -/
theorem finish_marks (hF : M.b.Fine k) (w : Int) (v : List UInt8) :
    ((M.finish w v).2.first = false ∧ Board.marks (M.finish w v).1.b = Board.marks M.b) ∨
    ∃ t, M.b.at_ w = some t ∧ t < M.b.l.length ∧ Board.isN M.b t = false ∧ (M.finish w v).2.first = true ∧ (M.finish w v).2.t = (t : Int) ∧ Board.marks (M.finish w v).1.b = (Board.marks M.b).set t (true, v) := by
  unfold Sch.Master.finish
  cases ha : M.b.at_ w with
  | none =>
    refine .inl ⟨?_, ?_⟩
    · rw [commit_none ha]; rfl
    · rw [commit_none ha]
  | some t =>
    have ht := hF.at_lt ha
    rw [commit_at ha ht]
    by_cases hi : M.b.l[t].is = true
    · refine .inl ⟨?_, ?_⟩
      · rw [if_pos hi]; rfl
      · rw [if_pos hi]; rfl
    · refine .inr ⟨t, rfl, ht, ?_, ?_, ?_, ?_⟩
      · unfold Board.isN; rw [List.getElem?_eq_getElem ht]; simpa using hi
      · rw [if_neg hi]; rfl
      · rw [if_neg hi]
        show M.at_ w = _
        unfold Sch.Master.at_
        rw [ha]; rfl
      · rw [if_neg hi]
        unfold Board.marks
        rw [List.map_set]
theorem do_marks (hF : M.b.Fine k) (p : Sch.Pick) (v : List UInt8) :
    ((M.do_ p v).2.first = false ∧ Board.marks (M.do_ p v).1.b = Board.marks M.b) ∨
    ∃ t, M.b.at_ p.w = some t ∧ t < M.b.l.length ∧ Board.isN M.b t = false ∧ (M.do_ p v).2.first = true ∧ (M.do_ p v).2.t = (t : Int) ∧ Board.marks (M.do_ p v).1.b = (Board.marks M.b).set t (true, v) := by
  unfold Sch.Master.do_
  by_cases h1 : 6 ≤ p.d ∨ p.w < 0 ∨ (M.lives.length : Int) ≤ p.w
  · rw [if_pos h1]; exact .inl ⟨rfl, rfl⟩
  · rw [if_neg h1]
    have hw : ((p.w.toNat : Nat) : Int) = p.w := by omega
    by_cases h2 : M.lives.getD p.w.toNat false = false ∧ p.d ≠ 5
    · rw [if_pos h2]; exact .inl ⟨rfl, rfl⟩
    · rw [if_neg h2]
      unfold Sch.Master.does
      by_cases d0 : p.d = 0
      · rw [if_pos d0]; exact .inl ⟨begin_first _ _ _, begin_marks _ _ _⟩
      · rw [if_neg d0]
        by_cases d1 : p.d = 1
        · rw [if_pos d1]; exact .inl ⟨begin_first _ _ _, begin_marks _ _ _⟩
        · rw [if_neg d1]
          by_cases d2 : p.d = 2
          · rw [if_pos d2, hw]
            exact finish_marks hF p.w v
          · rw [if_neg d2]
            by_cases d3 : p.d = 3
            · rw [if_pos d3]
              refine .inl ⟨?_, fail_marks _⟩
              unfold Sch.Master.fail
              simp only
              split <;> rfl
            · rw [if_neg d3]
              by_cases d4 : p.d = 4
              · rw [if_pos d4]; exact .inl ⟨rfl, fail_marks _⟩
              · rw [if_neg d4]
                unfold Sch.Master.wake
                split
                · exact .inl ⟨rfl, rfl⟩
                · exact .inl ⟨rfl, rfl⟩
end
/-- What is counted, and valued. -/
structure Told (s : Sch.Master × List Nat) : Prop where
  ones : ∀ i, s.2.getD i 0 = if Board.isN s.1.b i then 1 else 0
  vals : ∀ i v, (Board.marks s.1.b)[i]? = some (true, v) → v = valueOf i
theorem Told.step {M0 : Sch.Master} {k j : Nat} {s : Sch.Master × List Nat} (hO : PlayOk M0 k s j) (h : Told s) (p : Sch.Pick) : Told (playStep s p) := by
  unfold playStep
  rcases do_marks hO.fine p (playV s.1 p.w) with ⟨h1, h2⟩ | ⟨t, ha, ht, hi, h1, h2, h3⟩
  · rw [h1, if_neg Bool.false_ne_true]
    refine ⟨fun i => ?_, fun i v hv => ?_⟩
    · rw [isN_marks, h2, ← isN_marks]; exact h.ones i
    · rw [h2] at hv; exact h.vals i v hv
  · rw [h1, if_pos rfl, h2, Int.toNat_natCast]
    have hz := h.ones t
    rw [hi, if_neg Bool.false_ne_true] at hz
    have htm : t < (Board.marks s.1.b).length := by rw [marks_len]; exact ht
    have htF : t < s.2.length := by have := hO.row; have := hO.tasks; omega
    refine ⟨fun i => ?_, fun i v hv => ?_⟩
    · simp only
      rw [isN_marks, h3, hz, List.getD_eq_getElem?_getD, List.getElem?_set, List.getElem?_set]
      by_cases e : t = i
      · subst e
        rw [if_pos rfl, if_pos htF, if_pos rfl, if_pos htm]
        rfl
      · rw [if_neg e, if_neg e, ← isN_marks, ← List.getD_eq_getElem?_getD]
        exact h.ones i
    · simp only at hv
      rw [h3, List.getElem?_set] at hv
      by_cases e : t = i
      · subst e
        rw [if_pos rfl, if_pos htm] at hv
        simp only [Option.some.injEq, Prod.mk.injEq, true_and] at hv
        rw [← hv]
        unfold playV
        rw [ha]
      · rw [if_neg e] at hv
        exact h.vals i v hv
theorem Told.to {M0 : Sch.Master} {k : Nat} {s : Sch.Master × List Nat} (hO : PlayOk M0 k s 0) (h : Told s) (l : List Sch.Pick) : ∀ j, j ≤ l.length → Told (playTo s l j)
  | 0, _ => by rw [playTo_zero]; exact h
  | j + 1, hj => by
    rw [playTo_succ s l j (by omega)]
    exact (h.to hO l j (by omega)).step (hO.to l j (by omega)) _
theorem told_new (L : List (List Nat)) (r W n : Nat) : Told (⟨Board.new L r, List.replicate W true⟩, List.replicate n 0) := by
  have hm : ∀ i, (Board.marks (Board.new L r))[i]? = if i < L.length then some (false, []) else none := fun i => by
    unfold Board.marks Board.new
    rw [List.map_map, List.getElem?_map]
    by_cases h : i < L.length
    · rw [List.getElem?_eq_getElem h, if_pos h]; rfl
    · rw [List.getElem?_eq_none (by omega), if_neg h]; rfl
  refine ⟨fun i => ?_, fun i v hv => ?_⟩
  · simp only
    rw [isN_marks, hm, List.getD_eq_getElem?_getD, List.getElem?_replicate]
    by_cases h : i < L.length
    · rw [if_pos h]
      by_cases h2 : i < n
      · rw [if_pos h2]; rfl
      · rw [if_neg h2]; rfl
    · rw [if_neg h]
      by_cases h2 : i < n
      · rw [if_pos h2]; rfl
      · rw [if_neg h2]; rfl
  · simp only at hv
    rw [hm] at hv
    split at hv
    · simp at hv
    · cases hv
/-- The values of all tasks. -/
def Board.values (b : Board) : List (List UInt8) := b.l.map (·.value)
theorem told_values {s : Sch.Master × List Nat} (h : Told s) (hd : s.1.b.done = true) : Board.values s.1.b = (List.range s.1.b.l.length).map valueOf := by
  apply List.ext_getElem?
  intro i
  unfold Board.values
  rw [List.getElem?_map, List.getElem?_map]
  by_cases hi : i < s.1.b.l.length
  · rw [List.getElem?_eq_getElem hi, List.getElem?_eq_getElem (by simpa using hi), Option.map_some, Option.map_some, List.getElem_range]
    congr 1
    apply h.vals i
    unfold Board.marks
    rw [List.getElem?_map, List.getElem?_eq_getElem hi, Option.map_some]
    have : s.1.b.l[i].is = true := List.all_eq_true.1 hd _ (List.getElem_mem hi)
    rw [this]
  · rw [List.getElem?_eq_none (by omega), List.getElem?_eq_none (by simp; omega)]
    rfl
end Go.Proofs.YtgmhglcdifhimaaDoor
