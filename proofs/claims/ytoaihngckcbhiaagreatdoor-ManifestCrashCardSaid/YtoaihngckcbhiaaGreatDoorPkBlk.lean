/- Blk -/
import Derived.Test.YtoaihngckcbhiaaGreatDoorPkHeap
namespace Go.Proofs.YtoaihngckcbhiaaGreatDoor
open Go.RowKit Go.Maps
theorem blk_lt {w : World} {k : Nat} {o : Obj} (h : w.heap[k]? = some o) : k < w.heap.size := (Array.getElem?_eq_some_iff.1 h).1
def BlkOf (w : World) (k : Nat) (t : TypeId) : Prop := ∃ cs fr, w.heap[k]? = some (.cells cs t fr)
theorem BlkOf.lt {w : World} {k : Nat} {t : TypeId} (h : BlkOf w k t) : k < w.heap.size := by
  obtain ⟨cs, fr, h⟩ := h
  exact blk_lt h
theorem BlkOf.upd {F : Nat → Prop} {w w' : World} {k : Nat} {t : TypeId} (h : BlkOf w k t) (hu : Upd F w w') (hF : ¬ F k) : BlkOf w' k t := by
  have hl := h.lt
  obtain ⟨cs, fr, h⟩ := h
  exact ⟨cs, fr, (hu.block k hl hF).trans h⟩
theorem BlkOf.ne {w : World} {k k' : Nat} {t t' : TypeId} (h : BlkOf w k t) (h' : BlkOf w k' t') (ht : t ≠ t') : k ≠ k' := by
  rintro rfl
  obtain ⟨cs, fr, h⟩ := h
  obtain ⟨cs', fr', h'⟩ := h'
  rw [h] at h'
  injection h' with h'
  injection h' with _ h' _
  exact ht h'
theorem ownsRow_lt {w : World} {base e s : Nat} {v : Value} {n : Nat} {xs : List Value} (h : w.ownsRow base e s v n xs) {g : Nat} (hg : v.ownBlock = some g) : g < w.heap.size := by
  rcases h.2 with ⟨rfl, _⟩ | ⟨g', cap, cur, rfl, _, hgg, _⟩
  · simp [Value.ownBlock] at hg
  · simp [Value.ownBlock] at hg
    subst hg
    exact (Array.getElem?_eq_some_iff.1 hgg).1
theorem ownsRow_blk {w : World} {base e s : Nat} {v : Value} {n : Nat} {xs : List Value} (h : w.ownsRow base e s v n xs) {g : Nat} (hg : v.ownBlock = some g) : BlkOf w g e := by
  rcases h.2 with ⟨rfl, _⟩ | ⟨g', cap, cur, rfl, _, hgg, _⟩
  · simp [Value.ownBlock] at hg
  · simp [Value.ownBlock] at hg
    subst hg
    exact ⟨_, _, hgg⟩
def Stays (fp fp' : Nat → Prop) (w : World) : Prop := ∀ k, fp' k → fp k ∨ w.heap.size ≤ k
theorem ownsRow_upd {F : Nat → Prop} {w w' : World} {base e s : Nat} {v : Value} {n : Nat} {xs : List Value} (h : w.ownsRow base e s v n xs) (hu : Upd F w w') (hF : ∀ g, v.ownBlock = some g → ¬ F g) : w'.ownsRow base e s v n xs := by
  obtain ⟨h1, h2⟩ := h
  refine ⟨h1, ?_⟩
  rcases h2 with h2 | ⟨g, cap, cur, rfl, hg, hgg, rest⟩
  · exact .inl h2
  · exact .inr ⟨g, cap, cur, rfl, hg, by rw [hu.block g (Array.getElem?_eq_some_iff.1 hgg).1 (hF g rfl)]; exact hgg, rest⟩
theorem add_plain (g i : Nat) : (⟨g, 0, none⟩ : Addr).add i = ⟨g, i, none⟩ := by unfold Addr.add; split <;> simp_all
theorem add_off (g o j : Nat) : (⟨g, o, none⟩ : Addr).add j = ⟨g, o + j, none⟩ := by unfold Addr.add; split <;> simp_all
theorem add_zero' (q : Addr) : q.add 0 = q := by unfold Addr.add; simp
theorem add_block (q : Addr) (i : Nat) : (q.add i).block = q.block := by unfold Addr.add; split <;> rfl
end Go.Proofs.YtoaihngckcbhiaaGreatDoor
