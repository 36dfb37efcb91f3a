/- FilesOnce: what it comes to. -/
import Derived.Test.YtcljpnkknehlmaaGreatFilTrio
namespace Go.Proofs.YtcljpnkknehlmaaGreat
open Go.RowKit Go.Maps
open Fil

/-- Each change alone was answered OK, so far. -/
def OkTo (n : Nat) (l : List Chg) (j : Nat) : Prop := ∀ i, i ≤ j → (l.take i).all Chg.may = true ∧ used (made [] (l.take i)) ≤ roomN n
theorem OkTo.start {n : Nat} (h : 8 ≤ n) (l : List Chg) : OkTo n l 0 := fun i hi => by
  obtain rfl : i = 0 := by omega
  refine ⟨by simp, ?_⟩
  rw [List.take_zero]
  show 4 ≤ roomN n
  unfold roomN sz lg; omega
theorem codeC_zero {n : Nat} {A : M} {l : List Chg} (h : codeC n A l = 0) : l.all Chg.may = true ∧ used (made A l) ≤ roomN n := by
  unfold codeC at h
  split at h
  · cases h
  · rename_i h1
    split at h
    · cases h
    · exact ⟨by simpa using h1, by omega⟩
theorem codeC_ok {n : Nat} {A : M} {l : List Chg} (h1 : l.all Chg.may = true) (h2 : used (made A l) ≤ roomN n) : codeC n A l = 0 ∧ nextC n A l = made A l := by
  unfold codeC nextC
  rw [if_neg (by simp [h1]), if_neg (by omega), if_pos ⟨h1, h2⟩]
  exact ⟨rfl, rfl⟩
theorem OkTo.step {n : Nat} {l : List Chg} {j : Nat} (h : OkTo n l j) (hj : j < l.length) (hc : codeC n (made [] (l.take j)) [l[j]] = 0) : OkTo n l (j + 1) ∧ nextC n (made [] (l.take j)) [l[j]] = made [] (l.take (j + 1)) := by
  obtain ⟨h1, h2⟩ := codeC_zero hc
  have e : l.take (j + 1) = l.take j ++ [l[j]] := List.take_succ_eq_append_getElem hj
  have e2 : made [] (l.take (j + 1)) = made (made [] (l.take j)) [l[j]] := by rw [e, made_append]
  refine ⟨fun i hi => ?_, by rw [(codeC_ok h1 h2).2, e2]⟩
  rcases Nat.lt_or_ge j i with g | g
  · obtain rfl : i = j + 1 := by omega
    refine ⟨?_, by rw [e2]; exact h2⟩
    rw [e, List.all_append, (h j (Nat.le_refl _)).1, h1]; rfl
  · exact h i g
/-- All at once, or parted anywhere. -/
theorem OkTo.done {n : Nat} {l : List Chg} (h : OkTo n l l.length) (K : Nat) (hK : K ≤ l.length) :
    codeC n [] l = 0 ∧ nextC n [] l = made [] l ∧ codeC n [] (l.take K) = 0 ∧ codeC n (nextC n [] (l.take K)) (l.drop K) = 0 ∧ nextC n (nextC n [] (l.take K)) (l.drop K) = made [] l := by
  obtain ⟨h1, h2⟩ := h l.length (Nat.le_refl _)
  rw [List.take_length] at h1 h2
  obtain ⟨h3, h4⟩ := h K hK
  obtain ⟨e1, e2⟩ := codeC_ok h1 h2
  obtain ⟨e3, e4⟩ := codeC_ok h3 h4
  have e5 : made (made [] (l.take K)) (l.drop K) = made [] l := by rw [← made_append, List.take_append_drop]
  have h5 : (l.drop K).all Chg.may = true := by
    refine List.all_eq_true.2 (fun x hx => List.all_eq_true.1 h1 x (List.mem_of_mem_drop hx))
  obtain ⟨e6, e7⟩ := codeC_ok (n := n) (A := made [] (l.take K)) h5 (by rw [e5]; exact h2)
  rw [e4]
  exact ⟨e1, e2, e3, e6, by rw [e7, e5]⟩
/-- The last change of a name, among the first so many. -/
def lastC (l : List Chg) (nm : T) : Nat → Int
  | 0 => -1
  | j + 1 => if (l.getD j ⟨[], [], false⟩).name = nm then (j : Int) else lastC l nm j
theorem lastC_lt (l : List Chg) (nm : T) (j : Nat) : -1 ≤ lastC l nm j ∧ lastC l nm j < j := by
  induction j with
  | zero => exact ⟨by show (-1 : Int) ≤ -1; decide, by show (-1 : Int) < 0; decide⟩
  | succ j ih =>
    unfold lastC
    split <;> omega
theorem lastC_find (l : List Chg) (nm : T) : ∀ j, j ≤ l.length → match (l.take j).reverse.find? (fun c => c.name == nm) with
    | none => lastC l nm j = -1
    | some c => ∃ i : Nat, lastC l nm j = (i : Int) ∧ l[i]? = some c
  | 0, _ => by rw [List.take_zero]; rfl
  | j + 1, hj => by
    have ih := lastC_find l nm j (by omega)
    have hjl : j < l.length := by omega
    rw [List.take_succ_eq_append_getElem hjl, List.reverse_append, List.reverse_singleton, List.singleton_append, List.find?_cons]
    have hg : l.getD j ⟨[], [], false⟩ = l[j] := by rw [List.getD_eq_getElem?_getD, List.getElem?_eq_getElem hjl]; rfl
    by_cases h : l[j].name = nm
    · rw [show (l[j].name == nm) = true by simp [h]]
      refine ⟨j, ?_, List.getElem?_eq_getElem hjl⟩
      unfold lastC
      rw [hg, if_pos h]
    · rw [show (l[j].name == nm) = false by simp [h]]
      have e : lastC l nm (j + 1) = lastC l nm j := by
        rw [lastC, hg, if_neg h]
      rw [e]
      exact ih
/-- A file that there is has the last contents that its name was given. -/
theorem lastC_made {l : List Chg} {p : T × T} (h : p ∈ made [] l) : Fil.get (made [] l) p.1 = some p.2 ∧ ∃ (i : Nat) (c : Chg), lastC l p.1 l.length = (i : Int) ∧ l[i]? = some c ∧ c.gone = false ∧ c.data = p.2 := by
  have hg := get_mem (Up.nil.made l) h
  refine ⟨hg, ?_⟩
  rw [get_made Up.nil] at hg
  have hl := lastC_find l p.1 l.length (Nat.le_refl _)
  rw [List.take_length] at hl
  cases hf : l.reverse.find? (fun c => c.name == p.1) with
  | none => rw [hf] at hg; simp [Fil.get] at hg
  | some c =>
    rw [hf] at hg hl
    obtain ⟨i, h1, h2⟩ := hl
    dsimp only at hg
    split at hg
    · cases hg
    · rename_i hgo
      injection hg with hg
      exact ⟨i, c, h1, h2, by simpa using hgo, hg⟩
end Go.Proofs.YtcljpnkknehlmaaGreat
