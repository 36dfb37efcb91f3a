/- How a board goes on, in plain Lean. -/
import Derived.Test.YtgmhglcdifhimaaDoorTaskWorkers
namespace Go.Proofs.YtgmhglcdifhimaaDoor
open Go.RowKit Go.Maps
open Tsk

section
variable {b : Board} {k : Nat}
theorem start_len (t w : Int) : (b.start t w).1.l.length = b.l.length ∧ (b.start t w).1.l = b.l ∧ (b.start t w).1.failed = b.failed ∧ (b.start t w).1.retries = b.retries := by
  unfold Board.start
  split
  · exact ⟨rfl, rfl, rfl, rfl⟩
  · split
    · exact ⟨rfl, rfl, rfl, rfl⟩
    · split
      · exact ⟨rfl, rfl, rfl, rfl⟩
      · split <;> exact ⟨rfl, rfl, rfl, rfl⟩
theorem commit_len (w : Int) (v : List UInt8) : (b.commit w v).1.l.length = b.l.length ∧ (b.commit w v).1.failed = b.failed ∧ (b.commit w v).1.retries = b.retries := by
  unfold Board.commit
  split
  · exact ⟨rfl, rfl, rfl⟩
  · split
    · exact ⟨rfl, rfl, rfl⟩
    · split
      · exact ⟨rfl, rfl, rfl⟩
      · exact ⟨by simp only [List.length_set], rfl, rfl⟩
theorem fail_len (w : Int) : (b.fail w).1.l.length = b.l.length ∧ (b.fail w).1.retries = b.retries := by
  unfold Board.fail
  split
  · exact ⟨rfl, rfl⟩
  · split
    · exact ⟨rfl, rfl⟩
    · split
      · exact ⟨rfl, rfl⟩
      · exact ⟨by simp only [List.length_set], rfl⟩
/-- Who failed too often is told. -/
def Tsk.Board.Held (b : Board) : Prop := ∀ x ∈ b.l, b.retries < x.fails → b.failed ≠ none
theorem Tsk.Board.Held.start (h : b.Held) (t w : Int) : (b.start t w).1.Held := by
  obtain ⟨_, h1, h2, h3⟩ := start_len (b := b) t w
  intro x hx hr
  rw [h1] at hx; rw [h3] at hr; rw [h2]
  exact h x hx hr
theorem Tsk.Board.Held.commit (h : b.Held) (w : Int) (v : List UInt8) : (b.commit w v).1.Held := by
  unfold Board.commit
  split
  · exact h
  · split
    · exact h
    · rename_i y hy
      split
      · exact h
      · intro x hx hr
        rcases List.mem_or_eq_of_mem_set hx with hx | rfl
        · exact h x hx hr
        · exact h y (List.mem_of_getElem? hy) hr
theorem Tsk.Board.Held.fail (h : b.Held) (w : Int) : (b.fail w).1.Held := by
  unfold Board.fail
  split
  · exact h
  · rename_i t _
    split
    · exact h
    · rename_i y hy
      split
      · exact h
      · intro x hx hr
        show (if b.retries < y.fails + 1 ∧ b.failed = none then some t else b.failed) ≠ none
        have hx : x ∈ b.l.set t { y with fails := y.fails + 1 } := hx
        have hr : b.retries < x.fails := hr
        split
        · simp
        · rename_i hn
          rcases List.mem_or_eq_of_mem_set hx with hx | rfl
          · exact h x hx hr
          · exact fun e => hn ⟨hr, e⟩
/-- An attempt that there is ends well. -/
theorem commit_some (hF : b.Fine k) {x : Int} {t : Nat} (ha : b.at_ x = some t) (v : List UInt8) : (b.commit x v).2.2 = 0 ∧ (b.commit x v).1.tries = b.tries.filter (fun p => !(p.1 == x)) := by
  have ht := hF.at_lt ha
  unfold Board.commit
  rw [ha]
  simp only [List.getElem?_eq_getElem ht]
  split <;> exact ⟨rfl, rfl⟩
theorem at_filter {l : List (Int × Nat)} {x y : Int} (h : x ≠ y) : (l.filter (fun p => !(p.1 == y))).find? (fun p => p.1 == x) = l.find? (fun p => p.1 == x) := by
  induction l with
  | nil => rfl
  | cons q l ih =>
    by_cases hq : q.1 = y
    · have : ¬ (q.1 = x) := fun e => h (e.symm.trans hq)
      rw [List.filter_cons_of_neg (by simpa using hq), List.find?_cons_of_neg (by simpa using this), ih]
    · rw [List.filter_cons_of_pos (by simpa using hq)]
      by_cases hx : q.1 = x
      · rw [List.find?_cons_of_pos (by simpa using hx), List.find?_cons_of_pos (by simpa using hx)]
      · rw [List.find?_cons_of_neg (by simpa using hx), List.find?_cons_of_neg (by simpa using hx), ih]
theorem mem_workers (hn : (b.tries.map (·.1)).Nodup) (t : Nat) (x : Int) : x ∈ b.workers t ↔ b.at_ x = some t := by
  unfold Board.workers
  rw [(sortI_perm _).mem_iff, List.mem_map]
  constructor
  · rintro ⟨q, hq, rfl⟩
    obtain ⟨h1, h2⟩ := List.mem_filter.1 hq
    rw [at_of_mem hn h1]
    simpa using h2
  · intro h
    exact ⟨(x, t), List.mem_filter.2 ⟨Board.at_mem h, by simp⟩, rfl⟩
theorem workers_nodup (hn : (b.tries.map (·.1)).Nodup) (t : Nat) : (b.workers t).Nodup := by
  unfold Board.workers
  rw [(sortI_perm _).nodup_iff]
  exact hn.sublist (List.Sublist.map _ List.filter_sublist)
/-- The attempts end one by one: of task i those of ws from j on are left. -/
structure Ends (b : Board) (i : Nat) (ws : List Int) (j : Nat) : Prop where
  low : ∀ q ∈ b.tries, i ≤ q.2
  mine : ∀ q ∈ b.tries, q.2 = i → q.1 ∈ ws.drop j
  at_ : ∀ x ∈ ws.drop j, b.at_ x = some i
  nodup : ws.Nodup
theorem Ends.begin (hF : b.Fine k) {i : Nat} (hl : ∀ q ∈ b.tries, i ≤ q.2) : Ends b i (b.workers i) 0 :=
  ⟨hl, fun q hq e => by rw [List.drop_zero, mem_workers hF.nodup, at_of_mem hF.nodup hq, e], fun x hx => by rw [List.drop_zero, mem_workers hF.nodup] at hx; exact hx, workers_nodup hF.nodup i⟩
theorem Ends.next {i j : Nat} {ws : List Int} (h : Ends b i ws j) (hF : b.Fine k) (hj : j < ws.length) (v : List UInt8) : (b.commit ws[j] v).2.2 = 0 ∧ Ends (b.commit ws[j] v).1 i ws (j + 1) := by
  have hd : ws.drop j = ws[j] :: ws.drop (j + 1) := List.drop_eq_getElem_cons hj
  have ha := h.at_ ws[j] (by rw [hd]; exact List.mem_cons_self)
  obtain ⟨h1, h2⟩ := commit_some hF ha v
  refine ⟨h1, fun q hq => ?_, fun q hq e => ?_, fun x hx => ?_, h.nodup⟩
  · rw [h2] at hq
    exact h.low q (List.mem_filter.1 hq).1
  · rw [h2] at hq
    obtain ⟨hq1, hq2⟩ := List.mem_filter.1 hq
    have := h.mine q hq1 e
    rw [hd] at this
    rcases List.mem_cons.1 this with e2 | h3
    · rw [e2] at hq2; simp at hq2
    · exact h3
  · have hne : x ≠ ws[j] := fun e => by
      have hn := h.nodup
      have h3 : (ws.drop j).Nodup := hn.sublist (List.drop_sublist _ _)
      rw [hd, List.nodup_cons] at h3
      exact h3.1 (e ▸ hx)
    have := h.at_ x (by rw [hd]; exact List.mem_cons_of_mem _ hx)
    unfold Board.at_ at this ⊢
    rw [h2, at_filter hne]
    exact this
theorem Ends.over {i : Nat} {ws : List Int} (h : Ends b i ws ws.length) : ∀ q ∈ b.tries, i + 1 ≤ q.2 := fun q hq => by
  have h1 := h.low q hq
  by_cases e : q.2 = i
  · have := h.mine q hq e
    rw [List.drop_length] at this
    cases this
  · omega
theorem no_tries (hF : b.Fine k) (h : ∀ q ∈ b.tries, b.l.length ≤ q.2) : b.tries = [] := by
  cases ht : b.tries with
  | nil => rfl
  | cons q l =>
    have hm : q ∈ b.tries := by rw [ht]; exact List.mem_cons_self
    have := h q hm
    have := (hF.tasks q hm).1
    omega
def undone (b : Board) : Nat := (b.l.filter fun x => !x.is).length
theorem done_undone : b.done = true ↔ undone b = 0 := by
  unfold Board.done undone
  rw [List.all_eq_true, List.length_eq_zero_iff, List.filter_eq_nil_iff]
  constructor
  · intro h x hx; rw [h x hx]; decide
  · intro h x hx
    have := h x hx
    simpa using this
theorem least {n : Nat} {P : Nat → Bool} (h : ∃ i, i < n ∧ P i = true) : ∃ i, i < n ∧ P i = true ∧ ∀ j, j < i → P j = false := by
  obtain ⟨i, hi, hp⟩ := h
  induction i using Nat.strongRecOn with
  | ind i ih =>
    by_cases hx : ∃ j, j < i ∧ P j = true
    · obtain ⟨j, hj, hp2⟩ := hx
      exact ih j hj (by omega) hp2
    · refine ⟨i, hi, hp, fun j hj => ?_⟩
      cases hq : P j with
      | false => rfl
      | true => exact absurd ⟨j, hj, hq⟩ hx
theorem isDone_get {t : Nat} (ht : t < b.l.length) : b.isDone t = b.l[t].is := by unfold Board.isDone; rw [List.getElem?_eq_getElem ht]
theorem state_get {t : Nat} (ht : t < b.l.length) : b.state t = b.stateX t b.l[t] := by unfold Board.state; rw [List.getElem?_eq_getElem ht]
/-- There is one to begin. -/
theorem some_ready (hF : b.Fine k) (hH : b.Held) (hT : b.tries = []) (hf : b.failed = none) (hd : b.done = false) : ∃ t rest, b.ready = t :: rest ∧ t < b.l.length ∧ b.state t = 1 := by
  have hex : ∃ i, i < b.l.length ∧ (!b.isDone i) = true := by
    unfold Board.done at hd
    obtain ⟨x, hx, h⟩ := List.all_eq_false.1 hd
    obtain ⟨i, hi, rfl⟩ := List.getElem_of_mem hx
    exact ⟨i, hi, by rw [isDone_get hi]; simpa using h⟩
  obtain ⟨t, ht, h1, h2⟩ := least hex
  have hst : b.state t = 1 := by
    rw [state_get ht]
    unfold Board.stateX
    rw [isDone_get ht] at h1
    rw [if_neg (by simpa using h1), if_neg (fun hr => hH _ (List.getElem_mem ht) hr hf), if_neg, if_neg]
    · unfold Board.runs; rw [hT]; simp
    · unfold Board.waits
      rw [List.any_eq_true]
      rintro ⟨n, hn, h3⟩
      have := h2 n (hF.needs t _ (List.getElem?_eq_getElem ht) n hn)
      rw [this] at h3
      cases h3
  have hm : t ∈ b.ready := List.mem_filter.2 ⟨List.mem_range.2 ht, by rw [hst]; rfl⟩
  cases hr : b.ready with
  | nil => rw [hr] at hm; cases hm
  | cons u rest =>
    have hu : u ∈ b.ready := by rw [hr]; exact List.mem_cons_self
    obtain ⟨h3, h4⟩ := List.mem_filter.1 hu
    exact ⟨u, rest, rfl, List.mem_range.1 h3, by simpa using h4⟩
theorem go_start (hT : b.tries = []) (hf : b.failed = none) {t : Nat} (ht : t < b.l.length) (hs : b.state t = 1) {x : Int} (hx : 0 ≤ x) : b.start (t : Int) x = ({ b with tries := [(x, t)] }, 0) := by
  unfold Board.start
  rw [if_neg (by omega), hf]
  have ha : b.at_ x = none := by unfold Board.at_; rw [hT]; rfl
  rw [ha, Int.toNat_natCast, if_neg (by decide), if_neg (by decide), if_pos (.inl hs), hT]
theorem go_commit {t : Nat} (ht : t < b.l.length) (hs : b.state t = 1) (x : Int) (v : List UInt8) : ({ b with tries := [(x, t)] } : Board).commit x v = ({ b with tries := [], l := b.l.set t { b.l[t] with is := true, value := v } }, true, 0) := by
  have h0 : b.l[t].is = false := by
    rw [state_get ht] at hs
    unfold Board.stateX at hs
    cases hi : b.l[t].is with
    | false => rfl
    | true => rw [hi, if_pos rfl] at hs; cases hs
  have ha : ({ b with tries := [(x, t)] } : Board).at_ x = some t := by unfold Board.at_; simp
  unfold Board.commit
  rw [ha]
  simp only [List.getElem?_eq_getElem ht, h0]
  unfold Board.drop
  simp
theorem undone_set {t : Nat} (ht : t < b.l.length) (hs : b.l[t].is = false) (v : List UInt8) : undone { b with tries := [], l := b.l.set t { b.l[t] with is := true, value := v } } + 1 = undone b := by
  unfold undone
  show ((b.l.set t _).filter _).length + 1 = _
  have key : ∀ (l : List Task) (t : Nat) (ht : t < l.length), l[t].is = false → ((l.set t { l[t] with is := true, value := v }).filter fun x => !x.is).length + 1 = (l.filter fun x => !x.is).length := by
    intro l
    induction l with
    | nil => intro t ht; simp at ht
    | cons y l ih =>
      intro t ht h0
      cases t with
      | zero =>
        have h0 : y.is = false := h0
        simp [h0]
      | succ t =>
        have := ih t (by simpa using ht) h0
        simp only [List.set_cons_succ, List.filter_cons, List.getElem_cons_succ]
        split
        · exact congrArg (· + 1) this
        · exact this
  exact key b.l t ht hs
theorem done_ready (hd : b.done = true) : b.ready = [] := by
  unfold Board.ready
  rw [List.filter_eq_nil_iff]
  intro t ht
  have ht := List.mem_range.1 ht
  rw [state_get ht]
  unfold Board.stateX
  have : b.l[t].is = true := List.all_eq_true.1 hd _ (List.getElem_mem ht)
  rw [this, if_pos rfl]
  decide
end
theorem BoardIn.wf_at {w : World} {p m : Nat} {lv : Value} {nvs : List Value} {b : Board} (h : BoardIn w p m lv nvs b) {x : Int} {t : Nat} (ha : b.at_ x = some t) : (Lit.int .i64 x).wf = true :=
  h.at_.key_wf x (by rw [List.map_map]; exact List.mem_map.2 ⟨(x, t), Board.at_mem ha, rfl⟩)
theorem workers_length {b : Board} {k : Nat} (hF : b.Fine k) (t : Nat) : (b.workers t).length ≤ k := by
  unfold Board.workers
  rw [(sortI_perm _).length_eq, List.length_map]
  exact Nat.le_trans (List.length_filter_le _ _) hF.count
end Go.Proofs.YtgmhglcdifhimaaDoor
