/- KeepsRep -/
import Derived.Test.YtoaihngckcbhiaaGreatDoorPkBoth
import Derived.Test.YtoaihngckcbhiaaGreatDoorPkRef
namespace Go.Proofs.YtoaihngckcbhiaaGreatDoor
open Go.RowKit Go.Maps
theorem DiskAt.kinds {w : World} {b : Nat} {D : Dsk} {fp : Nat → Prop} (h : DiskAt w b D fp) (k : Nat) (hk : fp k) : ¬ BlkOf w k 9 ∧ ¬ BlkOf w k 30 := by
  obtain ⟨m, lv, hI, rfl⟩ := h
  have key : ∀ t, (t = 9 ∨ t = 30) → ¬ BlkOf w k t := by
    rintro t ht ⟨cs, fr, hb⟩
    rcases hk with rfl | rfl | hk
    · rw [hI.struct] at hb
      injection hb with hb
      injection hb with _ hb _
      subst hb
      rcases ht with ht | ht <;> cases ht
    · obtain ⟨kv, ⟨_, D', ⟨es, clock, hm, _⟩, _⟩, _⟩ := hI.base
      rw [hm] at hb
      injection hb with hb
      cases hb
    · rcases hI.loose.2 with ⟨e1, _⟩ | ⟨g, cap, cur, e1, _, hg, _⟩
      · subst e1; simp [Value.ownBlock] at hk
      · subst e1
        simp [Value.ownBlock] at hk
        subst hk
        rw [hg] at hb
        injection hb with hb
        injection hb with _ hb _
        subst hb
        rcases ht with ht | ht <;> cases ht
  exact ⟨key _ (.inl rfl), key _ (.inr rfl)⟩
def RowAt (w : World) (v : Value) (l : List (List UInt8)) : Prop :=
  l ≠ [] ∧ ∃ g o cap, v = .slice (some ⟨g, o, none⟩) l.length cap ∧ (l.length ≤ cap ∧ cap ≤ maxLen) ∧ BlkOf w g 9 ∧ ∀ j (h : j < l.length), w.cell? ⟨g, o + j, none⟩ = some (.string (bs l[j]))
section
variable {B : Nat} {w0 w w' : World} {b g1 g2 n : Nat} {D D' : Dsk} {fp fp' : Nat → Prop} {A K : List (List (List UInt8))}
end
end Go.Proofs.YtoaihngckcbhiaaGreatDoor
