/- Who dies is at no task (plain). -/
import Derived.Test.YtgmhglcdifhimaaDoorSchedPlay
namespace Go.Proofs.YtgmhglcdifhimaaDoor
open Tsk

section
variable {b : Board} {k : Nat}
theorem drop_self {x : Int} (h : b.at_ x = none) : b.tries.filter (fun p => !(p.1 == x)) = b.tries := Board.no_try h
theorem commit_tries (x : Int) (v : List UInt8) : (b.commit x v).1.tries = b.tries.filter (fun p => !(p.1 == x)) := by
  unfold Board.commit
  split
  · rename_i h; exact (drop_self h).symm
  · split
    · rfl
    · split <;> rfl
theorem fail_tries (x : Int) : (b.fail x).1.tries = b.tries.filter (fun p => !(p.1 == x)) := by
  unfold Board.fail
  split
  · rename_i h; exact (drop_self h).symm
  · split
    · rfl
    · split <;> rfl
theorem at_of_tries {b' : Board} (y : Int) (h : b'.tries = b.tries) : b'.at_ y = b.at_ y := by unfold Board.at_; rw [h]
theorem find_filter (l : List (Int × Nat)) (x y : Int) : (l.filter (fun p => !(p.1 == x))).find? (fun p => p.1 == y) = if y = x then none else l.find? (fun p => p.1 == y) := by
  induction l with
  | nil => simp
  | cons q l ih =>
    by_cases hq : q.1 = x
    · rw [List.filter_cons_of_neg (by simp [hq]), ih]
      by_cases hy : y = x
      · simp [hy]
      · rw [if_neg hy, if_neg hy, List.find?_cons_of_neg (by simp [hq]; exact fun e => hy e.symm)]
    · rw [List.filter_cons_of_pos (by simp [hq])]
      by_cases hy : q.1 = y
      · rw [List.find?_cons_of_pos (by simp [hy]), List.find?_cons_of_pos (by simp [hy]), if_neg (fun e => hq (hy.trans e))]
      · rw [List.find?_cons_of_neg (by simp [hy]), List.find?_cons_of_neg (by simp [hy]), ih]
theorem at_dropped {b' : Board} {x : Int} (h : b'.tries = b.tries.filter (fun p => !(p.1 == x))) (y : Int) : b'.at_ y = if y = x then none else b.at_ y := by
  unfold Board.at_
  rw [h, find_filter]
  split <;> rfl
theorem start_at {t w y : Int} (h : y ≠ w) : (b.start t w).1.at_ y = b.at_ y := by
  unfold Board.start
  split
  · rfl
  · split
    · rfl
    · split
      · rfl
      · split
        · unfold Board.at_
          simp only
          rw [List.find?_cons_of_neg (by simp; exact fun e => h e.symm)]
        · rfl
theorem workers_len (t : Nat) : (b.workers t).length = (b.tries.filter (fun p => p.2 == t)).length := by
  unfold Board.workers
  rw [(sortI_perm _).length_eq, List.length_map]
theorem filter_gone : ∀ {l : List (Int × Nat)}, (l.map (·.1)).Nodup → ∀ {k : Int} {t : Nat}, (k, t) ∈ l → (l.filter (fun p => p.2 == t)).length = ((l.filter (fun p => !(p.1 == k))).filter (fun p => p.2 == t)).length + 1
  | [], _, _, _, h => by cases h
  | q :: l, hn, k, t, h => by
    rw [List.map_cons, List.nodup_cons] at hn
    rcases List.mem_cons.1 h with rfl | h
    · have e : (l.filter (fun p => !(p.1 == k))) = l := List.filter_eq_self.2 fun p hp => by
        have : p.1 ≠ k := fun e => hn.1 (List.mem_map.2 ⟨p, hp, e⟩)
        simpa using this
      rw [List.filter_cons_of_pos (by simp), List.filter_cons_of_neg (by simp), e]
      rfl
    · have hq : q.1 ≠ k := fun e => hn.1 (List.mem_map.2 ⟨_, h, e.symm⟩)
      have ih := filter_gone hn.2 h
      rw [List.filter_cons_of_pos (p := fun p : Int × Nat => !(p.1 == k)) (by simpa using hq)]
      by_cases ht : (q.2 == t) = true
      · simp only [List.filter_cons, ht, if_true, List.length_cons, ih]
      · simp only [List.filter_cons, ht, Bool.false_eq_true, if_false, ih]
theorem fail_workers (hn : (b.tries.map (·.1)).Nodup) {x : Int} {t : Nat} (h : b.at_ x = some t) : (b.workers t).length = ((b.fail x).1.workers t).length + 1 := by
  rw [workers_len, workers_len, fail_tries]
  exact filter_gone hn (Board.at_mem h)
/-- How often a task failed. -/
def Board.failsN (b : Board) (t : Nat) : Nat := match b.l[t]? with
  | some x => x.fails
  | none => 0
def Board.isN (b : Board) (t : Nat) : Bool := match b.l[t]? with
  | some x => x.is
  | none => false
def Board.crowd (b : Board) (t : Nat) : Nat := if t < b.l.length then (b.workers t).length else 0
theorem fail_yes {x : Int} {t : Nat} (h : b.at_ x = some t) (ht : t < b.l.length) : (b.fail x).1.l = if b.l[t].is then b.l else b.l.set t { b.l[t] with fails := b.l[t].fails + 1 } := by
  unfold Board.fail
  rw [h]
  simp only [List.getElem?_eq_getElem ht]
  split <;> rfl
theorem fail_failsN {x : Int} {t : Nat} (h : b.at_ x = some t) (ht : t < b.l.length) : Board.failsN (b.fail x).1 t = Board.failsN b t + (if Board.isN b t then 0 else 1) := by
  unfold Board.failsN Board.isN
  rw [fail_yes h ht, List.getElem?_eq_getElem ht]
  by_cases hi : b.l[t].is = true
  · simp only [if_pos hi, List.getElem?_eq_getElem ht, Nat.add_zero]
  · simp only [if_neg hi, List.getElem?_set_self ht]
theorem crowd_le (b : Board) (t : Nat) : Board.crowd b t ≤ b.tries.length := by
  unfold Board.crowd
  split
  · rw [workers_len]; exact List.length_filter_le _ _
  · exact Nat.zero_le _
theorem failsN_le (h : b.Fine k) (t : Nat) : Board.failsN b t ≤ k := by
  unfold Board.failsN
  split
  · rename_i x hx; exact h.fails x (List.mem_of_getElem? hx)
  · exact Nat.zero_le _
theorem state_three {t : Nat} (ht : t < b.l.length) : (b.state t == 3) = Board.isN b t := by
  unfold Board.isN
  rw [state_get ht, List.getElem?_eq_getElem ht]
  unfold Board.stateX
  simp only
  cases h : b.l[t].is with
  | true => rfl
  | false =>
    rw [if_neg (by decide)]
    split
    · rfl
    · split
      · rfl
      · split <;> rfl
end
/-- Who does not live is at no task. -/
def Sch.Master.Calm (M : Sch.Master) : Prop := ∀ i : Nat, M.lives.getD i false = false → M.b.at_ (i : Int) = none
section
variable {M : Sch.Master} {k : Nat}
theorem calm_new (L : List (List Nat)) (r W : Nat) : Sch.Master.Calm ⟨Board.new L r, List.replicate W true⟩ := fun _ _ => rfl
theorem Sch.Master.Calm.drop (h : M.Calm) {b' : Board} {x : Int} (hb : b'.tries = M.b.tries.filter (fun p => !(p.1 == x))) : Sch.Master.Calm ⟨b', M.lives⟩ := fun i hi => by
  show b'.at_ _ = none
  rw [at_dropped hb]
  split
  · rfl
  · exact h i hi
theorem getD_set (l : List Bool) (i j : Nat) (v : Bool) : (l.set i v).getD j false = if i = j ∧ j < l.length then v else l.getD j false := by
  rw [List.getD_eq_getElem?_getD, List.getElem?_set, List.getD_eq_getElem?_getD]
  by_cases e : i = j
  · subst e
    by_cases hl : i < l.length
    · rw [if_pos rfl, if_pos hl, if_pos ⟨rfl, hl⟩]; rfl
    · rw [if_pos rfl, if_neg hl, if_neg (fun h => hl h.2), List.getElem?_eq_none (by omega)]
  · rw [if_neg e, if_neg (fun h => e h.1)]
theorem Sch.Master.Calm.do_ (h : M.Calm) (p : Sch.Pick) (v : List UInt8) : (M.do_ p v).1.Calm := by
  unfold Sch.Master.do_
  split
  · exact h
  · rename_i h1
    split
    · exact h
    · rename_i h2
      have hw : ((p.w.toNat : Nat) : Int) = p.w := by omega
      have live : p.d ≠ 5 → M.lives.getD p.w.toNat false = true := fun h5 => by
        by_cases e : M.lives.getD p.w.toNat false = false
        · exact absurd ⟨e, h5⟩ h2
        · simpa using e
      have hbegin : ∀ s, p.d ≠ 5 → (M.begin p.w.toNat p.t s).1.Calm := fun s h5 => by
        unfold Sch.Master.begin
        split
        · exact h
        · split
          · exact h
          · split
            · exact h
            · intro i hi
              have hne : (i : Int) ≠ (p.w.toNat : Int) := fun e => by
                have e2 : i = p.w.toNat := by omega
                subst e2
                have := live h5
                simp only at hi
                rw [hi] at this
                cases this
              exact (start_at hne).trans (h i hi)
      unfold Sch.Master.does
      split
      · exact hbegin 1 (by omega)
      · split
        · exact hbegin 2 (by omega)
        · split
          · exact h.drop (commit_tries _ _)
          · split
            · exact h.drop (fail_tries _)
            · split
              · intro i hi
                show (M.b.fail _).1.at_ _ = none
                rw [at_dropped (fail_tries _)]
                split
                · rfl
                · rename_i hne
                  refine h i ?_
                  have hi : (M.lives.set p.w.toNat false).getD i false = false := hi
                  rw [getD_set, if_neg (fun e => hne (by rw [e.1]))] at hi
                  exact hi
              · unfold Sch.Master.wake
                split
                · exact h
                · intro i hi
                  refine h i ?_
                  have hi : (M.lives.set p.w.toNat true).getD i false = false := hi
                  rw [getD_set] at hi
                  split at hi
                  · cases hi
                  · exact hi
theorem calm_play (s : Sch.Master × List Nat) (h : s.1.Calm) (l : List Sch.Pick) : (playAll s l).1.Calm := by
  unfold playAll
  induction l generalizing s with
  | nil => exact h
  | cons x l ih => exact ih _ (h.do_ _ _)
/-- The picks of the law. -/
theorem die_dead (w : Nat) (hl : w < M.lives.length) (h : M.lives.getD w false = false) : M.do_ ⟨4, w, 0⟩ [] = (M, Sch.none_ 310) := by
  unfold Sch.Master.do_
  rw [if_neg (by simp only; omega), if_pos ⟨by simpa using h, fun e => by cases e⟩]
theorem die_live (w : Nat) (hl : w < M.lives.length) (h : M.lives.getD w false = true) : M.do_ ⟨4, w, 0⟩ [] = (⟨(M.b.fail (w : Int)).1, M.lives.set w false⟩, ⟨M.at_ w, false, 0⟩) := by
  unfold Sch.Master.do_
  rw [if_neg (by simp only; omega), if_neg (fun e => by have := e.1; simp at this h; rw [h] at this; cases this)]
  rfl
theorem start_dead (w : Nat) (hl : w < M.lives.length) (h : M.lives.getD w false = false) : M.do_ ⟨0, w, 0⟩ [] = (M, Sch.none_ 310) := by
  unfold Sch.Master.do_
  rw [if_neg (by simp only; omega), if_pos ⟨by simpa using h, fun e => by cases e⟩]
theorem wake_dead (w : Nat) (hl : w < M.lives.length) (h : M.lives.getD w false = false) : M.do_ ⟨5, w, 0⟩ [] = (⟨M.b, M.lives.set w true⟩, Sch.none_ 0) := by
  unfold Sch.Master.do_
  rw [if_neg (by simp only; omega), if_neg (fun e => e.2 rfl)]
  show M.wake _ = _
  unfold Sch.Master.wake
  rw [if_neg (by simp at h ⊢; exact h)]
  rfl
theorem wake_live (w : Nat) (hl : w < M.lives.length) (h : M.lives.getD w false = true) : M.do_ ⟨5, w, 0⟩ [] = (M, Sch.none_ 2) := by
  unfold Sch.Master.do_
  rw [if_neg (by simp only; omega), if_neg (fun e => e.2 rfl)]
  show M.wake _ = _
  unfold Sch.Master.wake
  rw [if_pos (by simp at h ⊢; exact h)]
end
end Go.Proofs.YtgmhglcdifhimaaDoor
