/- maslinlaw04.Heavy and text, walked. maslinlaw04.text, walked. -/
import Derived.Test.YthbdflmckfgleaaSteps
import Derived.Test.YthbdflmckfgleaaDiskFill
namespace Go.Proofs.Ythbdflmckfgleaa
open Go.RowKit Go.Maps

/-- What a step costs. -/
def Stp.cost (x : Stp) : Int := (x.s.length : Int) + (if x.what = 0 then 64 * (if x.n < 0 then 0 else x.n) else 0)
def costs (l : List Stp) : Int := (l.map Stp.cost).sum
theorem costs_snoc (l : List Stp) (k : Nat) (h : k < l.length) : costs (l.take (k + 1)) = costs (l.take k) + l[k].cost := by
  unfold costs
  rw [List.take_succ_eq_append_getElem h, List.map_append, List.sum_append]
  simp
/-- A script that a statement plays. -/
structure Light (l : List Stp) : Prop where
  len : l.length ≤ 80
  cost : costs l ≤ 32768
  n : ∀ x ∈ l, x.what = 0 → x.n ≤ 100

theorem cost_range {x : Stp} (hx : x.okay) (hn : x.what = 0 → x.n ≤ 100) : 0 ≤ x.cost ∧ x.cost ≤ 140737488361728 := by
  obtain ⟨_, _, _, h⟩ := hx
  unfold reachBytes at h
  unfold Stp.cost
  split
  · rename_i h0
    have := hn h0
    split <;> omega
  · omega
theorem costs_range (l : List Stp) (h : ∀ x ∈ l, x.okay ∧ (x.what = 0 → x.n ≤ 100)) : 0 ≤ costs l ∧ costs l ≤ l.length * 140737488361728 := by
  induction l with
  | nil => simp [costs]
  | cons x l ih =>
    have h1 := ih (fun y hy => h y (List.mem_cons_of_mem _ hy))
    have h2 := cost_range (h x List.mem_cons_self).1 (h x List.mem_cons_self).2
    have e : costs (x :: l) = x.cost + costs l := by simp [costs]
    rw [e, List.length_cons]
    omega

/-- What Heavy answers. -/
def HeavyPost (N : Int) (l : List Stp) (w : World) (e : Ending) (w' : World) : Prop := ∃ h, e = .returned (.bool h) ∧ w = w' ∧ (h = false → Light l ∧ (200 < N → 16384 < N))

set_option maxRecDepth 100000 in
set_option maxHeartbeats 2000000 in
theorem heavy_any (N : Int) (_hN : (Lit.int .i64 N).wf = true) (a : Option Addr) (cap : Nat) (l : List Stp) (w : World) (hl : StepsAt w a l) (hlen : l.length ≤ maxLen) (hok : ∀ x ∈ l, x.okay) :
    Calls Try.prog 22 #[.int .i64 N, .slice a l.length cap] w fun e w' => HeavyPost N l w e w' := by
  unfold maxLen at hlen
  have HL := Lib.hid hl
  have HOK := Lib.hid hok
  clear hl hok
  go_enter Try.func22, Try.ntmps22
  go_wp2_with fail
  go_loop [5, 6] (fun n i => ∃ k : Nat, k ≤ l.length ∧ k ≤ 200 ∧ i = .int .i64 k ∧ n = .int .i64 (costs (l.take k)) ∧ ∀ x ∈ l.take k, x.what = 0 → x.n ≤ 100) (fun _ i => 200 - (intOf i).toNat)
  case atStart => exact ⟨0, by omega, by omega, rfl, rfl, by simp⟩
  case round =>
    obtain ⟨k, hk, hk2, rfl, rfl, hall⟩ := hrel
    have hcr := costs_range (l.take k) (fun x hx => ⟨HOK.out x (List.mem_of_mem_take hx), hall x hx⟩)
    rw [List.length_take] at hcr
    by_cases hround : k < l.length ∧ k < 200
    · obtain ⟨hlt, hlt2⟩ := hround
      obtain ⟨q, hidx, hat⟩ := HL.out.index cap k hlt
      obtain ⟨c0, c1, c2, c3, c4⟩ := hat.cells
      clear hat
      have HS := Lib.hid (costs_snoc l k hlt)
      have htk := List.take_succ_eq_append_getElem hlt
      have HTK := Lib.hid htk
      have hokk := HOK.out l[k] (List.getElem_mem hlt)
      have HA := Lib.hid hall
      have hcst : (l[k].cost = (l[k].s.length : Int) + (if l[k].what = 0 then 64 * (if l[k].n < 0 then 0 else l[k].n) else 0)) := rfl
      obtain ⟨w0, w1, w2, w3⟩ := hokk
      unfold reachBytes at w3
      generalize l[k] = x at *
      generalize costs (l.take k) = C at *
      clear htk hall
      by_cases hw : x.what = 0
      · have hw' : (x.what == 0) = true := by simp [hw]
        by_cases hn : 100 < x.n
        · have hn' : decide (100 < x.n) = true := by simp [hn]
          go_wp2_with fail
          go_ret
          unfold HeavyPost
          exact ⟨true, rfl, rfl, fun h => by cases h⟩
        · have hn' : decide (100 < x.n) = false := by simp; omega
          have hx' : x.cost = (x.s.length : Int) + 64 * (if x.n < 0 then 0 else x.n) := by rw [hcst, if_pos hw]
          have HX := Lib.hid hx'
          have HW := Lib.hid hw
          clear hcst hx' hw
          go_wp2_with fail
          refine ⟨⟨k + 1, by omega, by omega, rfl, ?_, ?_⟩, ?_⟩
          · rw [HS.out, HX.out, Int.add_assoc]
          · intro y hy h0
            rw [HTK.out] at hy
            rcases List.mem_append.1 hy with hy | hy
            · exact HA.out y hy h0
            · rw [List.mem_singleton] at hy; subst hy; omega
          · show 200 - ((k : Int) + 1).toNat < 200 - ((k : Int)).toNat
            omega
      · have hw' : (x.what == 0) = false := by simp [hw]
        have hx' : x.cost = (x.s.length : Int) := by rw [hcst, if_neg hw, Int.add_zero]
        have HX := Lib.hid hx'
        have HW := Lib.hid hw
        clear hcst hx' hw
        have fin : ∀ (Q : Prop), Q → Q := fun _ h => h
        by_cases hn : 100 < x.n
        all_goals
          go_wp2_with fail
          refine ⟨⟨k + 1, by omega, by omega, rfl, ?_, ?_⟩, ?_⟩
          · rw [HS.out, HX.out]
          · intro y hy h0
            rw [HTK.out] at hy
            rcases List.mem_append.1 hy with hy | hy
            · exact HA.out y hy h0
            · rw [List.mem_singleton] at hy; subst hy; exact absurd h0 HW.out
          · show 200 - ((k : Int) + 1).toNat < 200 - ((k : Int)).toNat
            omega
    · have HC := Lib.hid hall
      clear hall
      generalize hCC : costs (l.take k) = C at *
      have HCC := Lib.hid hCC
      clear hCC
      by_cases hlt : k < l.length
      all_goals by_cases hk200 : k < 200
      all_goals try (exfalso; exact hround ⟨hlt, hk200⟩)
      all_goals by_cases h80 : 80 < l.length
      all_goals by_cases hc : 32768 < C
      all_goals by_cases h200 : 200 < N
      all_goals by_cases h16 : N ≤ 16384
      all_goals go_wp2_with fail
      all_goals
        go_ret
        unfold HeavyPost
        refine ⟨_, rfl, rfl, fun hf => ?_⟩
        first
          | (cases hf; done)
          | (simp at hf; omega)
          | (have e : l.take k = l := List.take_of_length_le (by omega)
             have h1 := HCC.out
             have h2 := HC.out
             rw [e] at h1 h2
             exact ⟨⟨by omega, by omega, h2⟩, by omega⟩)
end Go.Proofs.Ythbdflmckfgleaa

namespace Go.Proofs.Ythbdflmckfgleaa
open Go.RowKit Go.Maps

/-- What a step writes. -/
def Stp.text (x : Stp) : List UInt8 := if x.raw then x.s else fill x.s (64 * x.n.toNat)
/-- A step, as a value. -/
def Stp.val (x : Stp) : Value := .agg #[.int .i64 x.what, .int .i64 x.place, .int .i64 x.n, .string (bs x.s), .bool x.raw]

set_option maxRecDepth 100000 in
set_option maxHeartbeats 1000000 in
theorem text_any (x : Stp) (w : World) (hs : x.s.length ≤ 1000000000) (h1 : (Lit.int .i64 x.n).wf = true) (h2 : x.raw = false → x.n ≤ 1000000) :
    Calls Try.prog 28 #[x.val] w fun e w' => e = .returned (.string (bs x.text)) ∧ Below w.heap.size w w' := by
  have h1' : -9223372036854775808 ≤ x.n ∧ x.n ≤ 9223372036854775807 := by
    simp [Lit.wf, IntKind.min, IntKind.max, IntKind.signed, IntKind.bits] at h1
    omega
  unfold Stp.val Stp.text
  generalize x.what = q0, x.place = q1, x.n = q2, x.s = q3, x.raw = q4 at *
  have hb0 := (Below.refl w.heap.size w).alloc (Nat.le_refl _) (.cells #[.int .i64 q0, .int .i64 q1, .int .i64 q2, .string (bs q3), .bool q4] 46)
  have HB := Lib.hid hb0
  clear hb0 h1
  cases q4 with
  | true =>
    go_enter Try.func28, Try.ntmps28
    go_wp2_with fail
    go_ret
    exact ⟨rfl, HB.out⟩
  | false =>
    have h2' := h2 rfl
    clear h2
    go_enter Try.func28, Try.ntmps28
    go_wp2_with fail
    refine (fill_any q3 q2 _ hs h1'.1 h2').mono ?_
    rintro e w1 ⟨rfl, hb⟩
    have HB2 := Lib.hid (HB.out.trans (hb.mono (by rw [World.size_alloc]; omega)))
    clear hb
    go_wp2_with fail
    go_ret
    exact ⟨rfl, HB2.out⟩
end Go.Proofs.Ythbdflmckfgleaa
