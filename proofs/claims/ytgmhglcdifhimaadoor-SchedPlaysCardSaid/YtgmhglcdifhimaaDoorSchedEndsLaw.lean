/- What Next tells brings all to be done (plain). -/
import Derived.Test.YtgmhglcdifhimaaDoorSchedNext
import Derived.Test.YtgmhglcdifhimaaDoorSchedSameLaw
namespace Go.Proofs.YtgmhglcdifhimaaDoor
open Tsk

section
variable {b : Board} {M : Sch.Master} {k c : Nat}
theorem mem_whoL {l : List Bool} {f : Int → Bool} {i : Nat} : i ∈ whoL l f ↔ i < l.length ∧ l.getD i false = true ∧ f (i : Int) = true := by
  unfold whoL whoTo
  rw [List.mem_filter, List.mem_range, Bool.and_eq_true]
theorem live_lt {l : List Bool} {i : Nat} (h : l.getD i false = true) : i < l.length := by
  by_cases hi : i < l.length
  · exact hi
  · rw [List.getD_eq_getElem?_getD, List.getElem?_eq_none (by omega)] at h; cases h
/-- A worker at a task lives. -/
theorem at_live (hF : b.Fine k) (hC : Sch.Master.Calm M) (hb : M.b = b) {x : Int} {t : Nat} (h : b.at_ x = some t) : ∃ i : Nat, x = (i : Int) ∧ i < M.lives.length ∧ M.lives.getD i false = true := by
  have hx := (hF.tasks _ (Board.at_mem h)).2
  obtain ⟨i, rfl⟩ : ∃ i : Nat, x = (i : Int) := ⟨x.toNat, by simp only at hx; omega⟩
  have hl : M.lives.getD i false = true := by
    cases hg : M.lives.getD i false with
    | true => rfl
    | false => have := hC i hg; rw [hb, h] at this; cases this
  exact ⟨i, rfl, live_lt hl, hl⟩
theorem next_busy (hF : M.b.Fine k) (hC : M.Calm) (hT : M.b.tries ≠ []) : ∃ i t : Nat, M.next = (⟨2, i, 0⟩, true) ∧ i < M.lives.length ∧ M.lives.getD i false = true ∧ M.b.at_ (i : Int) = some t := by
  obtain ⟨q, r, hq⟩ := List.exists_cons_of_ne_nil hT
  have hm : q ∈ M.b.tries := by rw [hq]; exact List.mem_cons_self
  have ha := at_of_mem hF.nodup hm
  obtain ⟨i, hi, h1, h2⟩ := at_live hF hC rfl ha
  have hw : i ∈ whoL M.lives (busyF M.b) := mem_whoL.2 ⟨h1, h2, by unfold busyF; rw [← hi, ha]; rfl⟩
  cases hl : whoL M.lives (busyF M.b) with
  | nil => rw [hl] at hw; cases hw
  | cons j rest =>
    have hj : j ∈ whoL M.lives (busyF M.b) := by rw [hl]; exact List.mem_cons_self
    obtain ⟨g1, g2, g3⟩ := mem_whoL.1 hj
    obtain ⟨t, ht⟩ := Option.isSome_iff_exists.1 (show (M.b.at_ (j : Int)).isSome = true from g3)
    exact ⟨j, t, by unfold Sch.Master.next; rw [hl], g1, g2, ht⟩
theorem busy_nil (hT : M.b.tries = []) : whoL M.lives (busyF M.b) = [] := by
  apply List.eq_nil_iff_forall_not_mem.2
  intro i hi
  have := (mem_whoL.1 hi).2.2
  unfold busyF Board.at_ at this
  rw [hT] at this
  cases this
theorem next_idle (hT : M.b.tries = []) (hL : ∃ i, M.lives.getD i false = true) : ∃ j, j < M.lives.length ∧ M.lives.getD j false = true ∧ M.next = if decide (0 < M.b.ready.length) && !M.b.failed.isSome then (⟨0, j, 0⟩, true) else (⟨0, 0, 0⟩, false) := by
  obtain ⟨i, hi⟩ := hL
  have hw : i ∈ whoL M.lives (fun _ => true) := mem_whoL.2 ⟨live_lt hi, hi, rfl⟩
  cases hl : whoL M.lives (fun _ => true) with
  | nil => rw [hl] at hw; cases hw
  | cons j rest =>
    have hj : j ∈ whoL M.lives (fun _ => true) := by rw [hl]; exact List.mem_cons_self
    obtain ⟨g1, g2, _⟩ := mem_whoL.1 hj
    exact ⟨j, g1, g2, by unfold Sch.Master.next; rw [busy_nil hT, hl]⟩
theorem next_none (h : whoL M.lives (fun _ => true) = []) : M.next = (⟨0, 0, 0⟩, false) := by
  have hb : whoL M.lives (busyF M.b) = [] := by
    apply List.eq_nil_iff_forall_not_mem.2
    intro i hi
    obtain ⟨g1, g2, _⟩ := mem_whoL.1 hi
    have : i ∈ whoL M.lives (fun _ => true) := mem_whoL.2 ⟨g1, g2, rfl⟩
    rw [h] at this; cases this
  unfold Sch.Master.next
  rw [hb, h]
theorem undone_put (l : List Task) : ∀ (t : Nat) (y : Task), y.is = true → ((l.set t y).filter fun x => !x.is).length ≤ (l.filter fun x => !x.is).length := by
  induction l with
  | nil => intro t y _; simp
  | cons z l ih =>
    intro t y hy
    cases t with
    | zero =>
      rw [List.set_cons_zero, List.filter_cons_of_neg (by simp [hy])]
      exact List.Sublist.length_le (List.Sublist.filter _ (List.sublist_cons_self z l))
    | succ t =>
      have := ih t y hy
      simp only [List.set_cons_succ, List.filter_cons]
      split
      · simp only [List.length_cons]; omega
      · exact this
theorem undone_commit (hF : b.Fine k) {x : Int} {t : Nat} (ha : b.at_ x = some t) (v : List UInt8) : undone (b.commit x v).1 ≤ undone b ∧ (Board.isN b t = false → undone (b.commit x v).1 + 1 = undone b) := by
  have ht := hF.at_lt ha
  rw [commit_at ha ht]
  unfold Board.isN
  rw [List.getElem?_eq_getElem ht]
  simp only
  by_cases hi : b.l[t].is = true
  · rw [if_pos hi]
    exact ⟨Nat.le_refl _, fun h => by rw [hi] at h; cases h⟩
  · rw [if_neg hi]
    exact ⟨undone_put b.l t _ rfl, fun h => undone_set ht h v⟩
theorem tries_commit {x : Int} {t : Nat} (ha : b.at_ x = some t) (v : List UInt8) : (b.commit x v).1.tries.length + 1 ≤ b.tries.length := by
  rw [commit_tries]
  exact List.length_filter_lt_length_iff_exists.2 ⟨(x, t), Board.at_mem ha, by simp⟩
/-- What is kept while all is brought to be done. -/
structure Going (M : Sch.Master) (k c : Nat) : Prop where
  fine : M.b.Fine k
  held : M.b.Held
  calm : M.Calm
  free : M.b.failed = none
  live : ∃ i, M.lives.getD i false = true
  left : M.b.tries.length + 2 * undone M.b ≤ c ∨ ∃ x t, M.b.tries = [(x, t)] ∧ Board.isN M.b t = false ∧ 2 * undone M.b ≤ c + 1
theorem Going.stop (h : Going M k c) (hn : M.next.2 = false) : M.b.done = true := by
  by_cases hT : M.b.tries = []
  · obtain ⟨j, _, _, hj⟩ := next_idle hT h.live
    cases hd : M.b.done with
    | true => rfl
    | false =>
      obtain ⟨t, rest, hr, _⟩ := some_ready h.fine h.held hT h.free hd
      rw [hj, hr, h.free] at hn
      cases hn
  · obtain ⟨i, t, hi, _⟩ := next_busy h.fine h.calm hT
    rw [hi] at hn; cases hn
theorem isN_undone (hF : b.Fine k) {x : Int} {t : Nat} (ha : b.at_ x = some t) (h : Board.isN b t = false) : 1 ≤ undone b := by
  have := (undone_commit hF ha []).2 h
  omega
theorem Going.end_ (h : Going M k 0) : M.next.2 = false := by
  rcases h.left with h0 | ⟨x, t, h1, h2, h3⟩
  · have hT : M.b.tries = [] := List.length_eq_zero_iff.1 (by omega)
    have hd : M.b.done = true := done_undone.2 (by omega)
    obtain ⟨j, _, _, hj⟩ := next_idle hT h.live
    rw [hj, done_ready hd]
    rfl
  · have ha : M.b.at_ x = some t := by unfold Board.at_; rw [h1]; simp
    have := isN_undone h.fine ha h2
    omega
theorem do_finish {i : Nat} (hi : i < M.lives.length) (hl : M.lives.getD i false = true) (v : List UInt8) : M.do_ ⟨2, i, 0⟩ v = M.finish (i : Int) v := by
  unfold Sch.Master.do_
  rw [if_neg (by simp only; omega), if_neg (fun e => by have := e.1; simp at this hl; rw [hl] at this; cases this)]
  rfl
theorem do_start {i : Nat} (hi : i < M.lives.length) (hl : M.lives.getD i false = true) (v : List UInt8) : M.do_ ⟨0, i, 0⟩ v = M.begin (i : Int) 0 1 := by
  unfold Sch.Master.do_
  rw [if_neg (by simp only; omega), if_neg (fun e => by have := e.1; simp at this hl; rw [hl] at this; cases this)]
  rfl
theorem Going.go (h : Going M k c) (hn : M.next.2 = true) (v : List UInt8) : (M.do_ M.next.1 v).2.e = 0 ∧ ∃ c', c = c' + 1 ∧ Going (M.do_ M.next.1 v).1 (k + 1) c' := by
  by_cases hT : M.b.tries = []
  · obtain ⟨j, hj1, hj2, hj⟩ := next_idle hT h.live
    have hd : M.b.done = false := by
      cases hd : M.b.done with
      | false => rfl
      | true => rw [hj, done_ready hd] at hn; cases hn
    obtain ⟨t, rest, hr, ht, hs⟩ := some_ready h.fine h.held hT h.free hd
    have hnx : M.next = (⟨0, j, 0⟩, true) := by rw [hj, hr, h.free]; rfl
    rw [hnx, do_start hj1 hj2]
    have hlist : M.list 1 = t :: rest := hr
    have hst := go_start hT h.free ht hs (x := (j : Int)) (by omega)
    have hat : M.b.at_ (j : Int) = none := by unfold Board.at_; rw [hT]; rfl
    have hround : ∀ n, Sch.round 0 n = 0 := fun n => by
      unfold Sch.round
      rw [Int.zero_tmod, Int.zero_add, Int.tmod_self]
      rfl
    have hbeg : M.begin (j : Int) 0 1 = (⟨{ M.b with tries := [((j : Int), t)] }, M.lives⟩, ⟨(t : Int), false, 0⟩) := by
      unfold Sch.Master.begin
      rw [h.free, hat, hlist, if_neg (by decide), if_neg (by decide), if_neg (by simp), hround, List.getD_cons_zero]
      simp only [hst]
    rw [hbeg]
    have hu : 1 ≤ undone M.b := by
      cases hz : undone M.b with
      | zero => rw [done_undone.2 hz] at hd; cases hd
      | succ n => omega
    have hopen : Board.isN M.b t = false := by
      unfold Board.isN
      rw [List.getElem?_eq_getElem ht]
      exact (state_open ht (.inl hs)).1
    rcases h.left with h0 | ⟨x, t', h1, _⟩
    · rw [hT] at h0
      simp only [List.length_nil] at h0
      refine ⟨rfl, c - 1, by omega, ?_, ?_, ?_, h.free, h.live, .inr ⟨(j : Int), t, rfl, hopen, ?_⟩⟩
      · have := h.fine.start (t : Int) (j : Int)
        rw [hst] at this
        exact this
      · exact h.held
      · have := h.calm.do_ ⟨0, j, 0⟩ v
        rw [do_start hj1 hj2, hbeg] at this
        exact this
      · show 2 * undone M.b ≤ _
        omega
    · rw [hT] at h1; cases h1
  · obtain ⟨i, t, hnx, hi1, hi2, hat⟩ := next_busy h.fine h.calm hT
    rw [hnx, do_finish hi1 hi2]
    have hc := commit_some h.fine hat v
    have hun := undone_commit h.fine hat v
    have htr := tries_commit hat v
    have hb : (M.finish (i : Int) v).1 = { M with b := (M.b.commit (i : Int) v).1 } := rfl
    have key : ∀ c', (((M.b.commit (i : Int) v).1.tries.length + 2 * undone (M.b.commit (i : Int) v).1 ≤ c') → Going (M.finish (i : Int) v).1 (k + 1) c') := fun c' hc' => by
      refine ⟨(h.fine.commit _ _).more (Nat.le_succ _), h.held.commit _ _, ?_, ?_, h.live, .inl hc'⟩
      · have := h.calm.do_ ⟨2, i, 0⟩ v
        rw [do_finish hi1 hi2] at this
        exact this
      · show (M.b.commit (i : Int) v).1.failed = none
        rw [(commit_len _ _).2.1]; exact h.free
    refine ⟨?_, ?_⟩
    · unfold Sch.Master.finish
      rw [if_pos hc.1]
    · rcases h.left with h0 | ⟨x, t', h1, h2, h3⟩
      · exact ⟨c - 1, by omega, key _ (by omega)⟩
      · have hx : ((i : Int), t) ∈ M.b.tries := Board.at_mem hat
        rw [h1] at hx htr
        have he : ((i : Int), t) = (x, t') := by simpa using hx
        obtain ⟨rfl, rfl⟩ := Prod.mk.inj he
        have := hun.2 h2
        simp only [List.length_cons, List.length_nil] at htr
        exact ⟨c - 1, by omega, key _ (by omega)⟩
/-- How it begins. -/
theorem nodup_in {α : Type} [DecidableEq α] : ∀ {l m : List α}, l.Nodup → (∀ x ∈ l, x ∈ m) → l.length ≤ m.length
  | [], _, _, _ => Nat.zero_le _
  | x :: l, m, hn, hs => by
    rw [List.nodup_cons] at hn
    have hx := hs x List.mem_cons_self
    have := nodup_in (l := l) (m := m.erase x) hn.2 (fun y hy => (List.mem_erase_of_ne (fun e => hn.1 (by rw [← e]; exact hy))).2 (hs y (List.mem_cons_of_mem _ hy)))
    rw [List.length_erase_of_mem hx] at this
    have := List.length_pos_of_mem hx
    simp only [List.length_cons]
    omega
theorem parts_of (l : Nat → Bool) (f : Nat → Bool) (r : List Nat) : (r.filter fun i => l i && true).length = (r.filter fun i => l i && !f i).length + (r.filter fun i => l i && f i).length := by
  induction r with
  | nil => rfl
  | cons x r ih =>
    simp only [List.filter_cons]
    cases l x with
    | false => simpa using ih
    | true =>
      cases f x with
      | false => simp at ih ⊢; omega
      | true => simp at ih ⊢; omega
theorem alive_parts (l : List Bool) (b : Board) : (whoL l fun _ => true).length = (whoL l (idleF b)).length + (whoL l (busyF b)).length :=
  parts_of (fun i => l.getD i false) (fun i => (b.at_ (i : Int)).isSome) (List.range l.length)
theorem tries_busy (hF : M.b.Fine k) (hC : M.Calm) : M.b.tries.length ≤ (whoL M.lives (busyF M.b)).length := by
  have h := nodup_in (l := M.b.tries.map (·.1)) (m := (whoL M.lives (busyF M.b)).map fun (i : Nat) => (i : Int)) hF.nodup (fun x hx => by
    obtain ⟨q, hq, rfl⟩ := List.mem_map.1 hx
    have ha := at_of_mem hF.nodup hq
    obtain ⟨i, hi, h1, h2⟩ := at_live hF hC rfl ha
    exact List.mem_map.2 ⟨i, mem_whoL.2 ⟨h1, h2, by unfold busyF; rw [← hi, ha]; rfl⟩, hi.symm⟩)
  simpa using h
/-- How many of the first j tasks are not done. -/
def undoneTo (b : Board) (j : Nat) : Nat := ((b.l.take j).filter fun x => !x.is).length
theorem undoneTo_zero (b : Board) : undoneTo b 0 = 0 := by unfold undoneTo; simp
theorem undoneTo_all (b : Board) : undoneTo b b.l.length = undone b := by unfold undoneTo undone; rw [List.take_length]
theorem undoneTo_le (b : Board) (j : Nat) : undoneTo b j ≤ j := by
  unfold undoneTo
  exact Nat.le_trans (List.length_filter_le _ _) (by simp; omega)
theorem undoneTo_succ (b : Board) (j : Nat) (hj : j < b.l.length) : undoneTo b (j + 1) = undoneTo b j + if Board.isN b j then 0 else 1 := by
  unfold undoneTo Board.isN
  rw [List.take_succ_eq_append_getElem hj, List.filter_append, List.length_append, List.getElem?_eq_getElem hj]
  generalize b.l[j] = x
  obtain ⟨_, i, _, _⟩ := x
  cases i <;> rfl
theorem held_new (L : List (List Nat)) (r : Nat) : (Board.new L r).Held := fun x hx h => by
  unfold Board.new at hx
  obtain ⟨l, _, rfl⟩ := List.mem_map.1 hx
  exact absurd h (Nat.not_lt_zero _)
theorem held_do (h : M.b.Held) (p : Sch.Pick) (v : List UInt8) : (M.do_ p v).1.b.Held := by
  unfold Sch.Master.do_
  split
  · exact h
  · split
    · exact h
    · unfold Sch.Master.does Sch.Master.begin Sch.Master.finish Sch.Master.fail Sch.Master.die Sch.Master.wake
      repeat' split
      all_goals first | exact h | exact h.start _ _ | exact h.commit _ _ | exact h.fail _
theorem held_play (s : Sch.Master × List Nat) (h : s.1.b.Held) (l : List Sch.Pick) : (playAll s l).1.b.Held := by
  unfold playAll
  induction l generalizing s with
  | nil => exact h
  | cons x l ih => exact ih _ (held_do h _ _)
theorem Going.begin (hF : M.b.Fine k) (hH : M.b.Held) (hC : M.Calm) (hf : M.b.failed = none) (hl : whoL M.lives (fun _ => true) ≠ []) {c : Nat} (hc : (c : Int) = ((whoL M.lives fun _ => true).length : Int) - ((whoL M.lives (idleF M.b)).length : Int) + 2 * (undone M.b : Int)) : Going M k c := by
  refine ⟨hF, hH, hC, hf, ?_, .inl ?_⟩
  · obtain ⟨i, r, hi⟩ := List.exists_cons_of_ne_nil hl
    have hm : i ∈ whoL M.lives (fun _ => true) := by rw [hi]; exact List.mem_cons_self
    exact ⟨i, (mem_whoL.1 hm).2.1⟩
  · have h1 := alive_parts M.lives M.b
    have h2 := tries_busy hF hC
    omega
end
end Go.Proofs.YtgmhglcdifhimaaDoor
