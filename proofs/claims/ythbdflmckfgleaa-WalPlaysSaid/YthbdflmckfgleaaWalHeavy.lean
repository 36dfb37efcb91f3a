/- maslinlaw05.Heavy, walked. -/
import Derived.Test.YthbdflmckfgleaaWalSteps
namespace Go.Proofs.Ythbdflmckfgleaa
open Go.RowKit Go.Maps

/-- What texts cost. -/
def tcost (l : List (List UInt8)) : Nat := (l.map fun s => 4 + s.length).sum
theorem tcost_snoc (l : List (List UInt8)) (k : Nat) (h : k < l.length) : tcost (l.take (k + 1)) = tcost (l.take k) + 4 + l[k].length := by
  unfold tcost
  rw [List.take_succ_eq_append_getElem h, List.map_append, List.sum_append]
  simp; omega
theorem tcost_le (l : List (List UInt8)) (h : ∀ s ∈ l, s.length ≤ reachBytes) : tcost l ≤ l.length * (reachBytes + 4) := by
  induction l with
  | nil => simp [tcost]
  | cons x l ih =>
    have h1 := ih (fun s hs => h s (List.mem_cons_of_mem _ hs))
    have h2 := h x List.mem_cons_self
    have e : tcost (x :: l) = (4 + x.length) + tcost l := by simp [tcost]
    rw [e, List.length_cons, Nat.add_mul]
    omega
def WStp.cost (x : WStp) : Nat := x.keep.length + tcost x.l
def wcosts (l : List WStp) : Nat := (l.map WStp.cost).sum
theorem wcosts_snoc (l : List WStp) (k : Nat) (h : k < l.length) : wcosts (l.take (k + 1)) = wcosts (l.take k) + l[k].cost := by
  unfold wcosts
  rw [List.take_succ_eq_append_getElem h, List.map_append, List.sum_append]
  simp
theorem wcosts_le (l : List WStp) (h : ∀ x ∈ l, x.cost ≤ 100 * (reachBytes + 4) + reachBytes) : wcosts l ≤ l.length * (100 * (reachBytes + 4) + reachBytes) := by
  induction l with
  | nil => simp [wcosts]
  | cons x l ih =>
    have h1 := ih (fun s hs => h s (List.mem_cons_of_mem _ hs))
    have h2 := h x List.mem_cons_self
    have e : wcosts (x :: l) = x.cost + wcosts l := by simp [wcosts]
    rw [e, List.length_cons, Nat.add_mul]
    omega
theorem wcosts_mem (l : List WStp) : ∀ x ∈ l, x.cost ≤ wcosts l := by
  induction l with
  | nil => intro x hx; simp at hx
  | cons y l ih =>
    intro x hx
    have e : wcosts (y :: l) = y.cost + wcosts l := by simp [wcosts]
    rw [e]
    rcases List.mem_cons.1 hx with rfl | hx
    · omega
    · have := ih x hx; omega
/-- A script that a statement plays. -/
structure WLight (l : List WStp) : Prop where
  len : l.length ≤ 60
  cost : wcosts l ≤ 8192
  rows : ∀ x ∈ l, x.l.length ≤ 60
/-- A step that is read. -/
def WStp.fine (x : WStp) : Prop := x.keep.length ≤ reachBytes ∧ ∀ s ∈ x.l, s.length ≤ reachBytes
theorem cost_fine {x : WStp} (h : x.fine) (hl : x.l.length ≤ 100) : x.cost ≤ 100 * (reachBytes + 4) + reachBytes := by
  have h1 := tcost_le x.l h.2
  have h2 : x.l.length * (reachBytes + 4) ≤ 100 * (reachBytes + 4) := Nat.mul_le_mul_right _ hl
  have := h.1
  unfold WStp.cost
  omega

def WHeavyPost (N : Int) (l : List WStp) (w : World) (e : Ending) (w' : World) : Prop := ∃ h, e = .returned (.bool h) ∧ w = w' ∧ (h = false → WLight l ∧ N ≤ 100)
theorem WStepsAt.fine {w : World} {a : Option Addr} {l : List WStp} (h : WStepsAt w a l) (hok : ∀ x ∈ l, x.okay) : ∀ x ∈ l, x.fine := fun x hx => by
  obtain ⟨i, hi, rfl⟩ := List.getElem_of_mem hx
  obtain ⟨p, _, hs⟩ := h i hi
  obtain ⟨v, _, ht⟩ := hs.c2
  exact ⟨(hok _ hx).2.2, ht.all⟩

set_option maxRecDepth 100000 in
set_option maxHeartbeats 4000000 in
theorem wheavy_any (N : Int) (a : Option Addr) (cap : Nat) (l : List WStp) (w : World) (hl : WStepsAt w a l) (hlen : l.length ≤ maxLen) (hok : ∀ x ∈ l, x.okay) :
    Calls Try.prog 47 #[.int .i64 N, .slice a l.length cap] w fun e w' => WHeavyPost N l w e w' := by
  unfold maxLen at hlen
  have hfine := hl.fine hok
  have HL := Lib.hid hl
  have HF := Lib.hid hfine
  clear hl hok hfine
  go_enter Try.func47, Try.ntmps47
  go_wp2_with fail
  go_loop [5, 6] (fun n i => ∃ k : Nat, k ≤ l.length ∧ k ≤ 100 ∧ i = .int .i64 k ∧ n = .int .i64 (wcosts (l.take k) : Nat) ∧ ∀ x ∈ l.take k, x.l.length ≤ 60) (fun _ i => 100 - (intOf i).toNat)
  case atStart => exact ⟨0, by omega, by omega, rfl, rfl, by simp⟩
  case round =>
    obtain ⟨k, hk, hk2, rfl, rfl, hall⟩ := hrel
    have hcr := wcosts_le (l.take k) (fun x hx => cost_fine (HF.out x (List.mem_of_mem_take hx)) (by have := hall x hx; omega))
    rw [List.length_take] at hcr
    have hcb : wcosts (l.take k) ≤ 100 * (100 * (reachBytes + 4) + reachBytes) := Nat.le_trans hcr (Nat.mul_le_mul_right _ (by omega))
    unfold reachBytes at hcb
    have HALL := Lib.hid hall
    clear hcr hall
    by_cases hround : k < l.length ∧ k < 100
    · obtain ⟨hlt, hlt2⟩ := hround
      obtain ⟨q, hidx, hat⟩ := HL.out.index cap k hlt
      obtain ⟨c0, c1, ⟨v, c2, ⟨⟨ta, tc, rfl, htx, _⟩, htl, hts⟩⟩, c3⟩ := hat.cells
      have hsn := wcosts_snoc l k hlt
      have hfk := HF.out l[k] (List.getElem_mem hlt)
      have hkp := hfk.1
      unfold reachBytes at hkp
      have htk : ∀ x ∈ l.take (k + 1), x ∈ l.take k ∨ x = l[k] := fun x hx => by
        rw [List.take_succ_eq_append_getElem hlt] at hx
        rcases List.mem_append.1 hx with h | h
        · exact .inl h
        · exact .inr (by simpa using h)
      have HTX := Lib.hid htx; have HTS := Lib.hid hts; have HSN := Lib.hid hsn; have HTK := Lib.hid htk
      unfold maxLen at htl
      clear hat c0 c1 hfk htx hts hsn htk
      generalize l[k] = x at *
      generalize hC : wcosts (l.take k) = C at *
      clear hC
      go_wp2_with fail
      go_loop [5, 7] (fun n j => ∃ m : Nat, m ≤ x.l.length ∧ m ≤ 100 ∧ j = .int .i64 m ∧ n = .int .i64 ((C + x.keep.length + tcost (x.l.take m) : Nat) : Int)) (fun _ j => 100 - (intOf j).toNat)
      case atStart => exact ⟨0, by omega, by omega, rfl, by simp [tcost]⟩
      case round =>
        obtain ⟨m, hm, hm2, rfl, rfl⟩ := hrel
        have htc := tcost_le (x.l.take m) (fun s hs => HTS.out s (List.mem_of_mem_take hs))
        rw [List.length_take] at htc
        have htb : tcost (x.l.take m) ≤ 100 * (reachBytes + 4) := Nat.le_trans htc (Nat.mul_le_mul_right _ (by omega))
        unfold reachBytes at htb
        clear htc
        by_cases hround2 : m < x.l.length ∧ m < 100
        · obtain ⟨hmt, hmt2⟩ := hround2
          obtain ⟨q2, hidx2, hc2⟩ := HTX.out.index tc m hmt
          have hsm := tcost_snoc x.l m hmt
          have hsl := HTS.out x.l[m] (List.getElem_mem hmt)
          unfold reachBytes at hsl
          have HSM := Lib.hid hsm
          clear hsm
          generalize x.l[m] = s at *
          generalize tcost (x.l.take m) = T at *
          have e0 : ((C + x.keep.length + T : Nat) : Int) = (C : Int) + (x.keep.length : Int) + (T : Int) := by omega
          simp only [e0]
          clear e0
          go_wp2_with fail
          go_round
          case rel => exact ⟨m + 1, by omega, by omega, by go_num, by rw [HSM.out]; congr 1; omega⟩
          case measure => simp [intOf]; omega
        · have hsplit : x.l.length ≤ m ∨ 100 ≤ m := by omega
          have HTB := Lib.hid htb
          clear htb
          by_cases hm60 : 60 < x.l.length
          · rcases hsplit with h1 | h1
            all_goals
              go_wp2_with fail
              all_goals
                go_ret
                exact ⟨true, rfl, rfl, fun h => by cases h⟩
          · have hme : m = x.l.length := by omega
            have hcost : (C + x.keep.length + tcost (x.l.take m) : Nat) = wcosts (l.take (k + 1)) := by
              rw [hme, List.take_of_length_le (Nat.le_refl _), HSN.out]
              unfold WStp.cost; omega
            rw [hcost]
            have HR := Lib.hid (show ∀ y ∈ l.take (k + 1), y.l.length ≤ 60 from fun y hy => by
              rcases HTK.out y hy with h | h
              · exact HALL.out y h
              · subst h; omega)
            clear hcost hsplit
            subst hme
            go_wp2_with fail
            go_round
            case rel => exact ⟨k + 1, by omega, by omega, by go_num, rfl, HR.out⟩
            case measure => simp [intOf]; omega
    · by_cases hkl : k < l.length
      · have hk100 : k = 100 := by omega
        subst hk100
        have hgt : 60 < l.length := by omega
        clear hround
        go_wp2_with fail
        go_ret
        exact ⟨true, rfl, rfl, fun h => by cases h⟩
      · have hkl2 : k = l.length := by omega
        subst hkl2
        rw [List.take_of_length_le (Nat.le_refl _)] at hcb HALL ⊢
        clear hround hkl
        have HP : Hid (∀ b, b = (decide (60 < (l.length : Int)) || decide (8192 < (wcosts l : Int)) || decide (100 < N)) → WHeavyPost N l w (.returned (.bool b)) w) := Lib.hid (fun b hb => ⟨b, rfl, rfl, fun h => by
          subst hb
          simp only [Bool.or_eq_false_iff, decide_eq_false_iff_not] at h
          exact ⟨⟨by omega, by omega, HALL.out⟩, by omega⟩⟩)
        generalize wcosts l = C at *
        by_cases h60 : 60 < l.length
        · go_wp2_with fail
          go_ret
          exact HP.out _ (by simp; omega)
        by_cases h81 : 8192 < C
        · go_wp2_with fail
          go_ret
          exact HP.out _ (by simp; omega)
        by_cases h1 : 100 < N
        · go_wp2_with fail
          go_ret
          exact HP.out _ (by simp; omega)
        · go_wp2_with fail
          go_ret
          exact HP.out _ (by simp; omega)
end Go.Proofs.Ythbdflmckfgleaa
