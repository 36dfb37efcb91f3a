/- What is done first was a finish, that was OK (plain). Picks, one behind the other, each task's value always the same (plain). -/
import Derived.Test.YtgmhglcdifhimaaDoorSchedMine
import Derived.Test.YtgmhglcdifhimaaDoorSchedValue
namespace Go.Proofs.YtgmhglcdifhimaaDoor
open Tsk

section
variable {M : Sch.Master} {k : Nat}
theorem begin_first (w t s : Int) : (M.begin w t s).2.first = false := by
  unfold Sch.Master.begin
  split
  · rfl
  · split
    · rfl
    · split
      · rfl
      · rfl
theorem finish_first (hF : M.b.Fine k) (w : Int) (v : List UInt8) (h : (M.finish w v).2.first = true) : (M.finish w v).2.e = 0 ∧ 0 ≤ (M.finish w v).2.t ∧ (M.finish w v).2.t < (M.b.l.length : Int) := by
  unfold Sch.Master.finish at h ⊢
  by_cases hz : (M.b.commit w v).2.2 = 0
  · simp only [if_pos hz] at h ⊢
    refine ⟨trivial, ?_, ?_⟩
    · unfold Sch.Master.at_; omega
    · unfold Sch.Master.at_
      cases ha : M.b.at_ w with
      | none =>
        unfold Board.commit at h
        rw [ha] at h
        exact absurd h Bool.false_ne_true
      | some t =>
        have := hF.at_lt ha
        simp only [Option.getD_some]
        omega
  · simp only [if_neg hz] at h
    exact absurd h Bool.false_ne_true
theorem do_first (hF : M.b.Fine k) (p : Sch.Pick) (v : List UInt8) (h : (M.do_ p v).2.first = true) : (M.do_ p v).2.e = 0 ∧ 0 ≤ (M.do_ p v).2.t ∧ (M.do_ p v).2.t < (M.b.l.length : Int) ∧ p.d = 2 := by
  have h' := h
  unfold Sch.Master.do_ at h'
  by_cases h1 : 6 ≤ p.d ∨ p.w < 0 ∨ (M.lives.length : Int) ≤ p.w
  · rw [if_pos h1] at h'; exact absurd h' Bool.false_ne_true
  · rw [if_neg h1] at h'
    by_cases h2 : M.lives.getD p.w.toNat false = false ∧ p.d ≠ 5
    · rw [if_pos h2] at h'; exact absurd h' Bool.false_ne_true
    · rw [if_neg h2] at h'
      have e : M.do_ p v = M.does p.d p.w.toNat p.t v := by unfold Sch.Master.do_; rw [if_neg h1, if_neg h2]
      rw [e]
      unfold Sch.Master.does at h' ⊢
      by_cases d0 : p.d = 0
      · rw [if_pos d0, begin_first] at h'; exact absurd h' Bool.false_ne_true
      · rw [if_neg d0] at h' ⊢
        by_cases d1 : p.d = 1
        · rw [if_pos d1, begin_first] at h'; exact absurd h' Bool.false_ne_true
        · rw [if_neg d1] at h' ⊢
          by_cases d2 : p.d = 2
          · rw [if_pos d2] at h' ⊢
            obtain ⟨a1, a2, a3⟩ := finish_first hF _ _ h'
            exact ⟨a1, a2, a3, d2⟩
          · rw [if_neg d2] at h'
            by_cases d3 : p.d = 3
            · rw [if_pos d3] at h'
              unfold Sch.Master.fail at h'
              simp only at h'
              split at h' <;> exact absurd h' Bool.false_ne_true
            · rw [if_neg d3] at h'
              by_cases d4 : p.d = 4
              · rw [if_pos d4] at h'; exact absurd h' Bool.false_ne_true
              · rw [if_neg d4] at h'
                unfold Sch.Master.wake at h'
                split at h' <;> exact absurd h' Bool.false_ne_true
theorem do_tasks (p : Sch.Pick) (v : List UInt8) : (M.do_ p v).1.b.l.length = M.b.l.length := by
  unfold Sch.Master.do_
  split
  · rfl
  · split
    · rfl
    · unfold Sch.Master.does Sch.Master.begin Sch.Master.finish Sch.Master.fail Sch.Master.die Sch.Master.wake
      repeat' split
      all_goals first | rfl | exact (start_len _ _).1 | exact (commit_len _ _).1 | exact (fail_len _).1
end
end Go.Proofs.YtgmhglcdifhimaaDoor

namespace Go.Proofs.YtgmhglcdifhimaaDoor
open Tsk

/-- The value that a worker's pick is handed: its task's. -/
def playV (M : Sch.Master) (w : Int) : List UInt8 := match M.b.at_ w with
  | some t => valueOf t
  | none => []
def playStep (s : Sch.Master × List Nat) (p : Sch.Pick) : Sch.Master × List Nat :=
  ((s.1.do_ p (playV s.1 p.w)).1, if (s.1.do_ p (playV s.1 p.w)).2.first then s.2.set (s.1.do_ p (playV s.1 p.w)).2.t.toNat (s.2.getD (s.1.do_ p (playV s.1 p.w)).2.t.toNat 0 + 1) else s.2)
def playTo (s : Sch.Master × List Nat) (l : List Sch.Pick) (j : Nat) : Sch.Master × List Nat := (l.take j).foldl playStep s
def playAll (s : Sch.Master × List Nat) (l : List Sch.Pick) : Sch.Master × List Nat := l.foldl playStep s
theorem playTo_zero (s : Sch.Master × List Nat) (l : List Sch.Pick) : playTo s l 0 = s := by unfold playTo; simp
theorem playTo_all (s : Sch.Master × List Nat) (l : List Sch.Pick) : playTo s l l.length = playAll s l := by unfold playTo playAll; rw [List.take_length]
theorem playTo_succ (s : Sch.Master × List Nat) (l : List Sch.Pick) (j : Nat) (h : j < l.length) : playTo s l (j + 1) = playStep (playTo s l j) l[j] := by
  unfold playTo
  rw [List.take_succ_eq_append_getElem h, List.foldl_append]
  rfl
theorem commit_needs {b : Board} (x : Int) (v : List UInt8) : (b.commit x v).1.l.map (·.needs) = b.l.map (·.needs) := by
  unfold Board.commit
  split
  · rfl
  · split
    · rfl
    · rename_i y hy
      split
      · rfl
      · show List.map (·.needs) (b.l.set _ _) = _
        exact map_set_same (·.needs) b.l _ y { y with is := true, value := v } hy rfl
theorem fail_needs {b : Board} (x : Int) : (b.fail x).1.l.map (·.needs) = b.l.map (·.needs) := by
  unfold Board.fail
  split
  · rfl
  · split
    · rfl
    · rename_i y hy
      split
      · rfl
      · show List.map (·.needs) (b.l.set _ _) = _
        exact map_set_same (·.needs) b.l _ y { y with fails := y.fails + 1 } hy rfl
theorem do_needs {M : Sch.Master} (p : Sch.Pick) (v : List UInt8) : (M.do_ p v).1.b.l.map (·.needs) = M.b.l.map (·.needs) := by
  unfold Sch.Master.do_
  split
  · rfl
  · split
    · rfl
    · unfold Sch.Master.does Sch.Master.begin Sch.Master.finish Sch.Master.fail Sch.Master.die Sch.Master.wake
      repeat' split
      all_goals first | rfl | exact congrArg (List.map (·.needs)) (start_len _ _).2.1 | exact commit_needs _ _ | exact fail_needs _
/-- What is kept while picks are played. -/
structure PlayOk (M : Sch.Master) (k : Nat) (s : Sch.Master × List Nat) (j : Nat) : Prop where
  fine : s.1.b.Fine (k + j)
  lives : s.1.lives.length = M.lives.length
  tasks : s.1.b.l.length = M.b.l.length
  needs : s.1.b.l.map (·.needs) = M.b.l.map (·.needs)
  row : s.2.length = M.b.l.length
  low : ∀ i, s.2.getD i 0 ≤ j
theorem PlayOk.step {M : Sch.Master} {k : Nat} {s : Sch.Master × List Nat} {j : Nat} (h : PlayOk M k s j) (p : Sch.Pick) : PlayOk M k (playStep s p) (j + 1) := by
  refine ⟨(do_fine h.fine p _).1, (do_fine h.fine p _).2.trans h.lives, (do_tasks p _).trans h.tasks, (do_needs p _).trans h.needs, ?_, fun i => ?_⟩
  · unfold playStep
    simp only
    split
    · rw [List.length_set]; exact h.row
    · exact h.row
  · unfold playStep
    simp only
    split
    · rw [List.getD_eq_getElem?_getD, List.getElem?_set]
      split
      · split
        · have := h.low (s.1.do_ p (playV s.1 p.w)).2.t.toNat
          simp only [Option.getD_some]
          omega
        · simp
      · have := h.low i
        rw [List.getD_eq_getElem?_getD] at this
        omega
    · have := h.low i
      omega
theorem PlayOk.to {M : Sch.Master} {k : Nat} {s : Sch.Master × List Nat} (h : PlayOk M k s 0) (l : List Sch.Pick) : ∀ j, j ≤ l.length → PlayOk M k (playTo s l j) j
  | 0, _ => by rw [playTo_zero]; exact h
  | j + 1, hj => by
    rw [playTo_succ s l j (by omega)]
    exact (h.to l j (by omega)).step _
theorem PlayOk.start {M : Sch.Master} {k : Nat} (hF : M.b.Fine k) : PlayOk M k (M, List.replicate M.b.l.length 0) 0 :=
  ⟨hF, rfl, rfl, rfl, by simp, fun i => by simp [List.getElem?_replicate]; split <;> simp⟩
end Go.Proofs.YtgmhglcdifhimaaDoor
