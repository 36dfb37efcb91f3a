/- maslinlaw31.done, walked. What a master's board is asked, whichever task (walked). -/
import Derived.Test.YtgmhglcdifhimaaDoorSchedMine
import Derived.Test.YtgmhglcdifhimaaDoorSchedPlayed
import Derived.Test.YtgmhglcdifhimaaDoorSchedDiesLaw
namespace Go.Proofs.YtgmhglcdifhimaaDoor
open Go.RowKit Go.Maps Go.Sort
open Tsk

section
variable {w0 w w' : World} {P p m g : Nat} {lv vv : Value} {nvs : List Value} {M M' : Sch.Master} {k : Nat}
set_option maxRecDepth 100000 in
theorem done31_any (h : MyM w0 w P p m lv nvs vv M k) (hk : k ≤ 1000000) (t : Nat) (ht : t < M.b.l.length) :
    Calls Tryd.prog 16 #[.pointer (some ⟨P, 0, none⟩), .int .i64 (t : Int)] w fun e w' => e = .returned (.bool (M.b.state t == 3)) ∧ Below w.heap.size w w' := by
  have HB := Lib.hid (board_any h.mast)
  have HS := Lib.hid (stateP_in h.mast.board h.fine hk t ht)
  clear h ht
  generalize M.b.state t = s at *
  go_enter Tryd.func16, Tryd.ntmps16
  go_wp2_with fail
  refine HB.out.mono ?_
  rintro e w1 ⟨rfl, rfl⟩
  go_wp2_with fail
  refine HS.out.mono ?_
  rintro e w1 ⟨rfl, hb⟩
  have HBE := Lib.hid hb
  clear hb HS HB
  go_wp2_with fail
  go_ret
  exact ⟨rfl, HBE.out⟩
end
end Go.Proofs.YtgmhglcdifhimaaDoor

namespace Go.Proofs.YtgmhglcdifhimaaDoor
open Go.RowKit Go.Maps Go.Sort
open Tsk

section
variable {w w' : World} {p m : Nat} {lv : Value} {nvs : List Value} {b : Board}
def CrowdPost (w : World) (n : Nat) (e : Ending) (w' : World) : Prop := ∃ q cap, e = .returned (.slice q n cap) ∧ Below w.heap.size w w'
theorem crowd_any (h : BoardIn w p m lv nvs b) (hlen : b.tries.length ≤ 1000000) (t : Nat) :
    Calls Tryd.prog 14 #[.pointer (some ⟨p, 0, none⟩), .int .i64 (t : Int)] w (CrowdPost w (Board.crowd b t)) := by
  unfold Board.crowd
  by_cases ht : t < b.l.length
  · rw [if_pos ht]
    exact (workers_in h hlen t ht).mono fun e w' ⟨q, cap, he, _, hb, _⟩ => ⟨q, cap, he, hb⟩
  · rw [if_neg ht]
    exact (workers_no h t (.inr (by omega))).mono fun e w' ⟨he, hw⟩ => ⟨none, 0, he, hw ▸ Below.refl _ _⟩
theorem failsN_any (h : BoardIn w p m lv nvs b) (t : Nat) :
    Calls Tryd.prog 15 #[.pointer (some ⟨p, 0, none⟩), .int .i64 (t : Int)] w fun e w' => e = .returned (.int .i64 (Board.failsN b t : Int)) ∧ w = w' := by
  by_cases ht : t < b.l.length
  · have e : Board.failsN b t = b.l[t].fails := by unfold Board.failsN; rw [List.getElem?_eq_getElem ht]
    rw [e]
    exact fails_in h t ht
  · have e : Board.failsN b t = 0 := by unfold Board.failsN; rw [List.getElem?_eq_none (by omega)]
    rw [e]
    exact fails_no h t (.inr (by omega))
end
section
variable {w0 w w' : World} {P p m g : Nat} {lv vv : Value} {nvs : List Value} {M M' : Sch.Master} {k : Nat}
theorem MyM.crowd (h : MyM w0 w P p m lv nvs vv M k) (hk : k ≤ 1000000) (t : Nat) :
    Calls Tryd.prog 14 #[.pointer (some ⟨p, 0, none⟩), .int .i64 (t : Int)] w (CrowdPost w (Board.crowd M.b t)) := crowd_any h.mast.board (Nat.le_trans h.fine.count hk) t
theorem MyM.board (h : MyM w0 w P p m lv nvs vv M k) : Calls Tryd.prog 12 #[.pointer (some ⟨P, 0, none⟩)] w fun e w' => e = .returned (.pointer (some ⟨p, 0, none⟩)) ∧ w = w' := board_any h.mast
theorem MyM.isdone (h : MyM w0 w P p m lv nvs vv M k) (hk : k ≤ 1000000) (t : Nat) (ht : t < M.b.l.length) :
    Calls Tryd.prog 16 #[.pointer (some ⟨P, 0, none⟩), .int .i64 (t : Int)] w fun e w' => e = .returned (.bool (Board.isN M.b t)) ∧ Below w.heap.size w w' := by
  have := done31_any h hk t ht
  rw [state_three ht] at this
  exact this
theorem MyM.made {L : List (List Int)} {r : Int} {W : Nat} {e : Ending} (h : SMade w L r W e w') (hm : MayB L r) (hW : W ≤ 16) (hb : Below w0.heap.size w0 w) : ∃ P p m lv nvs vv, e = .returned (.tuple #[.pointer (some ⟨P, 0, none⟩), .int .i64 0]) ∧ MyM w0 w' P p m lv nvs vv ⟨Board.new (natsL L) r.toNat, List.replicate W true⟩ 0 := by
  obtain ⟨P, p, m, lv, nvs, vv, rfl, hB, hb2, hnew⟩ := h
  exact ⟨P, p, m, lv, nvs, vv, rfl, hB, new_fine hm, by simpa using hW, hb.trans (hb2.mono hb.size), fun i hi => by have := hnew i hi; have := hb.size; omega⟩
end
end Go.Proofs.YtgmhglcdifhimaaDoor
