/- Trod2 -/
import Derived.Test.YtoaihngckcbhiaaGreatDoorPkBase
import Derived.Deep.Slices
import Derived.Deep.Fields
import Derived.ChangeArms
import Derived.Test.YtoaihngckcbhiaaGreatDoorPkBlk
namespace Go.Proofs.YtoaihngckcbhiaaGreatDoor
open Go.RowKit Go.WideShapes Go.ChangeShapes Go.Deep
theorem list_of {α : Type} {P : Nat → α → Prop} : ∀ (n : Nat), (∀ i, i < n → ∃ x, P i x) → ∃ l : List α, l.length = n ∧ ∀ i, (h : i < l.length) → P i l[i]
  | 0, _ => ⟨[], rfl, fun i hi => by simp at hi⟩
  | n + 1, h => by
    obtain ⟨l, hl, hp⟩ := list_of n (fun i hi => h i (by omega))
    obtain ⟨x, hx⟩ := h n (by omega)
    refine ⟨l ++ [x], by simp [hl], fun i hi => ?_⟩
    by_cases hin : i < l.length
    · rw [List.getElem_append_left hin]; exact hp i hin
    · have : i = l.length := by simp at hi; omega
      subst this
      rw [List.getElem_append_right (Nat.le_refl _)]
      simp
      rw [hl]; exact hx
theorem weights_all {H : Type} {P : Program} {e : TypeId} {x : DataW H} {l : List (DataW H)} (h : x ∈ l) {n : Nat} (hn : n ∈ DataW.weights P e x) : n ∈ DataW.weightsAll P e l := by
  induction l with
  | nil => simp at h
  | cons y l ih =>
    simp only [DataW.weightsAll, List.mem_append]
    rcases List.mem_cons.1 h with rfl | h
    · exact .inl hn
    · exact .inr (ih h)
theorem one_at {cs : List Value} {n : Nat} (hl : cs.length = n) (j : Nat) (hj : j < n) : (cs.drop j).take 1 = [cs[j]'(by omega)] := by
  rw [List.drop_eq_getElem_cons (by omega)]
  rfl
end Go.Proofs.YtoaihngckcbhiaaGreatDoor
namespace Go.Proofs.YtoaihngckcbhiaaGreatDoor
open Go.RowKit Go.WideShapes Go.ChangeShapes Go.Deep
structure Stp where
  what : Int
  place : Int
  n : Int
  s : List UInt8
  raw : Bool
def Stp.okay (x : Stp) : Prop := (Lit.int .i64 x.what).wf = true ∧ (Lit.int .i64 x.place).wf = true ∧ (Lit.int .i64 x.n).wf = true ∧ x.s.length ≤ reachBytes
end Go.Proofs.YtoaihngckcbhiaaGreatDoor
