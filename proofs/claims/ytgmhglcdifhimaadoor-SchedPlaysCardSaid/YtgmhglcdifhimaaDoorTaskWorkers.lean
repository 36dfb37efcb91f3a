/- maslin/task: Workers, walked. -/
import Derived.Test.YtgmhglcdifhimaaDoorTaskWhere
namespace Go.Proofs.YtgmhglcdifhimaaDoor
open Go.RowKit Go.Maps Go.Sort
open Tsk

theorem at_of_mem {b : Board} (hn : (b.tries.map (·.1)).Nodup) {q : Int × Nat} (hq : q ∈ b.tries) : b.at_ q.1 = some q.2 := by
  unfold Board.at_
  have key : ∀ (l : List (Int × Nat)), (l.map (·.1)).Nodup → q ∈ l → l.find? (fun p => p.1 == q.1) = some q := by
    intro l
    induction l with
    | nil => intro _ h; cases h
    | cons x l ih =>
      intro hn hq
      rw [List.map_cons, List.nodup_cons] at hn
      rcases List.mem_cons.1 hq with rfl | hq
      · simp
      · rw [List.find?_cons]
        have : ¬ (x.1 = q.1) := fun e => hn.1 (by rw [e]; exact List.mem_map_of_mem hq)
        rw [show (x.1 == q.1) = false by simpa using this]
        exact ih hn.2 hq
  rw [key b.tries hn hq]
  rfl
theorem workers_eq {b : Board} (hn : (b.tries.map (·.1)).Nodup) (t : Nat) :
    (sortI (b.tries.map (·.1))).filter (fun x => !((((b.at_ x).getD 0 : Nat) : Int) != (t : Int))) = b.workers t := by
  rw [sortI_filter]
  unfold Board.workers
  congr 1
  rw [List.filter_map]
  congr 1
  refine List.filter_congr fun q hq => ?_
  show (!((((b.at_ q.1).getD 0 : Nat) : Int) != (t : Int))) = (q.2 == t)
  rw [at_of_mem hn hq, Option.getD_some]
  by_cases e : q.2 = t
  · subst e; simp
  · have e2 : ¬ ((q.2 : Int) = (t : Int)) := by omega
    rw [show (q.2 == t) = false by simpa using e]
    simp only [bne, Bool.not_not]
    simpa using e2
section
variable {w : World} {p m : Nat} {lv : Value} {nvs : List Value} {b : Board}
theorem BoardIn.nodup (h : BoardIn w p m lv nvs b) : (b.tries.map (·.1)).Nodup := by
  have := h.at_.1
  rw [List.map_map] at this
  exact this
set_option maxRecDepth 100000 in
theorem workers_in (h : BoardIn w p m lv nvs b) (hlen : b.tries.length ≤ 1000000) (t : Nat) (ht : t < b.l.length) :
    Calls Tryd.prog 14 #[.pointer (some ⟨p, 0, none⟩), .int .i64 (t : Int)] w fun e w' => ∃ q cap, e = .returned (.slice q (b.workers t).length cap) ∧ IntsAt w' q (b.workers t) ∧ Below w.heap.size w w' ∧ ∀ p, q = some p → w.heap.size ≤ p.block := by
  obtain ⟨_, d1, _, _, _⟩ := h.cells
  have HH := Lib.hid (has_yes h t ht)
  have hk : (b.tries.map fun q => (q.1, Value.int .i64 (q.2 : Int))).map (·.1) = b.tries.map (·.1) := by rw [List.map_map]; rfl
  have hw := whereA_any (g := fun x => (((b.at_ x).getD 0 : Nat) : Int)) (t : Int) h.at_ (fun x hx => by
    rw [hk] at hx
    obtain ⟨q, hq, rfl⟩ := List.mem_map.1 hx
    rw [kvGet_tries]
    have := at_of_mem h.nodup hq
    unfold Board.at_ at this ⊢
    rw [this]
    rfl) (by rw [List.length_map]; exact hlen)
  rw [hk, workers_eq h.nodup t] at hw
  have HW := Lib.hid hw
  clear h hk hw
  go_enter Tryd.func14, Tryd.ntmps14
  go_wp2_with fail
  refine HH.out.mono ?_
  rintro e w1 ⟨rfl, rfl⟩
  go_wp2_with fail
  refine HW.out.mono ?_
  rintro e w2 ⟨q, cap, rfl, hat, hb, hq⟩
  have HAT := Lib.hid hat; have HB := Lib.hid hb; have HQ := Lib.hid hq
  clear hat hb hq
  go_wp2_with fail
  go_ret
  exact ⟨q, cap, rfl, HAT.out, HB.out, HQ.out⟩
set_option maxRecDepth 100000 in
theorem workers_no (h : BoardIn w p m lv nvs b) (t : Int) (ht : t < 0 ∨ (b.l.length : Int) ≤ t) : Calls Tryd.prog 14 #[.pointer (some ⟨p, 0, none⟩), .int .i64 t] w fun e w' => e = .returned (.slice none 0 0) ∧ w = w' := by
  have HH := Lib.hid (has_no h t ht)
  clear h ht
  go_enter Tryd.func14, Tryd.ntmps14
  go_wp2_with fail
  refine HH.out.mono ?_
  rintro e w1 ⟨rfl, rfl⟩
  go_wp2_with fail
  go_ret
  exact ⟨rfl, rfl⟩
end
set_option maxRecDepth 100000 in
theorem workers_nil (t : Int) (w : World) : Calls Tryd.prog 14 #[.pointer none, .int .i64 t] w fun e w' => e = .returned (.slice none 0 0) ∧ w = w' := by
  go_enter Tryd.func14, Tryd.ntmps14
  go_wp2_with fail
  refine (has_nil t _).mono ?_
  rintro e w1 ⟨rfl, rfl⟩
  go_wp2_with fail
  go_ret
  exact ⟨rfl, rfl⟩
end Go.Proofs.YtgmhglcdifhimaaDoor
