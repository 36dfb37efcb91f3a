/- What is done first was a finish, that was OK (plain). -/
import Derived.Test.YtgmhglcdifhimaaDoorSchedMine
namespace Go.Proofs.YtgmhglcdifhimaaDoor
open Tsk

section
variable {M : Sch.Master} {k : Nat}
theorem begin_first (w t s : Int) : (M.begin w t s).2.first = false := by
  unfold Sch.Master.begin
  split
  · rfl
  · split
    · rfl
    · split
      · rfl
      · rfl
theorem finish_first (hF : M.b.Fine k) (w : Int) (v : List UInt8) (h : (M.finish w v).2.first = true) : (M.finish w v).2.e = 0 ∧ 0 ≤ (M.finish w v).2.t ∧ (M.finish w v).2.t < (M.b.l.length : Int) := by
  unfold Sch.Master.finish at h ⊢
  by_cases hz : (M.b.commit w v).2.2 = 0
  · simp only [if_pos hz] at h ⊢
    refine ⟨trivial, ?_, ?_⟩
    · unfold Sch.Master.at_; omega
    · unfold Sch.Master.at_
      cases ha : M.b.at_ w with
      | none =>
        unfold Board.commit at h
        rw [ha] at h
        exact absurd h Bool.false_ne_true
      | some t =>
        have := hF.at_lt ha
        simp only [Option.getD_some]
        omega
  · simp only [if_neg hz] at h
    exact absurd h Bool.false_ne_true
theorem do_first (hF : M.b.Fine k) (p : Sch.Pick) (v : List UInt8) (h : (M.do_ p v).2.first = true) : (M.do_ p v).2.e = 0 ∧ 0 ≤ (M.do_ p v).2.t ∧ (M.do_ p v).2.t < (M.b.l.length : Int) ∧ p.d = 2 := by
  have h' := h
  unfold Sch.Master.do_ at h'
  by_cases h1 : 6 ≤ p.d ∨ p.w < 0 ∨ (M.lives.length : Int) ≤ p.w
  · rw [if_pos h1] at h'; exact absurd h' Bool.false_ne_true
  · rw [if_neg h1] at h'
    by_cases h2 : M.lives.getD p.w.toNat false = false ∧ p.d ≠ 5
    · rw [if_pos h2] at h'; exact absurd h' Bool.false_ne_true
    · rw [if_neg h2] at h'
      have e : M.do_ p v = M.does p.d p.w.toNat p.t v := by unfold Sch.Master.do_; rw [if_neg h1, if_neg h2]
      rw [e]
      unfold Sch.Master.does at h' ⊢
      by_cases d0 : p.d = 0
      · rw [if_pos d0, begin_first] at h'; exact absurd h' Bool.false_ne_true
      · rw [if_neg d0] at h' ⊢
        by_cases d1 : p.d = 1
        · rw [if_pos d1, begin_first] at h'; exact absurd h' Bool.false_ne_true
        · rw [if_neg d1] at h' ⊢
          by_cases d2 : p.d = 2
          · rw [if_pos d2] at h' ⊢
            obtain ⟨a1, a2, a3⟩ := finish_first hF _ _ h'
            exact ⟨a1, a2, a3, d2⟩
          · rw [if_neg d2] at h'
            by_cases d3 : p.d = 3
            · rw [if_pos d3] at h'
              unfold Sch.Master.fail at h'
              simp only at h'
              split at h' <;> exact absurd h' Bool.false_ne_true
            · rw [if_neg d3] at h'
              by_cases d4 : p.d = 4
              · rw [if_pos d4] at h'; exact absurd h' Bool.false_ne_true
              · rw [if_neg d4] at h'
                unfold Sch.Master.wake at h'
                split at h' <;> exact absurd h' Bool.false_ne_true
theorem do_tasks (p : Sch.Pick) (v : List UInt8) : (M.do_ p v).1.b.l.length = M.b.l.length := by
  unfold Sch.Master.do_
  split
  · rfl
  · split
    · rfl
    · unfold Sch.Master.does Sch.Master.begin Sch.Master.finish Sch.Master.fail Sch.Master.die Sch.Master.wake
      repeat' split
      all_goals first | rfl | exact (start_len _ _).1 | exact (commit_len _ _).1 | exact (fail_len _).1
end
end Go.Proofs.YtgmhglcdifhimaaDoor
