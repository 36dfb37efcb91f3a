/- The document's disk: Write. -/
import Derived.Test.YthbdflmckfgleaaRefRead
namespace Go.Proofs.Ythbdflmckfgleaa
open Go.RowKit Go.Maps

theorem rput_info3 : (Try.prog.info? 123).map (fun i => (i.zero, i.size, i.bytes)) = some (some (.agg #[.int .i64 0, .string ByteArray.empty]), 2, 24) := by kernel_rfl

/-- One loose write more. -/
theorem rwrote {w1 W w2 : World} {b : Nat} {bv lk : Value} {E : Dsk} (h : RefIn w1 b bv lk E) (hW : Below w1.heap.size w1 W) (hgrow : W.grownBy w2 lk.ownBlock) {gg cap a : Nat} {x : List UInt8} {L : Int} {C : List Value} {N : Nat} (hN : E.loose.length + 1 = N)
    (hown : w2.ownsRow 0 123 2 (.slice (some ⟨gg, 0, none⟩) N cap) N C) (hC : C = rputCells (E.loose ++ [(a, x)])) (hat : lk.ownBlock = some gg ∨ w1.heap.size ≤ gg) (ha : a < E.n) (hx : x.length = 64) (hL : -1 ≤ L ∧ L ≤ 9223372036854775807) :
    RefIn ((w2.setCell ⟨b, 1, none⟩ (.slice (some ⟨gg, 0, none⟩) N cap)).setCell ⟨b, 2, none⟩ (.int .i64 L)) b bv (.slice (some ⟨gg, 0, none⟩) N cap) { E with loose := E.loose ++ [(a, x)], left := L } ∧
    Upd (refBlocks b bv lk) w1 ((w2.setCell ⟨b, 1, none⟩ (.slice (some ⟨gg, 0, none⟩) N cap)).setCell ⟨b, 2, none⟩ (.int .i64 L)) ∧ Stays (refBlocks b bv lk) (refBlocks b bv (.slice (some ⟨gg, 0, none⟩) N cap)) w1 := by
  subst hC; subst hN
  have hb : b < w1.heap.size := (Array.getElem?_eq_some_iff.1 h.struct).1
  have u2 : Upd (fun k => lk.ownBlock = some k) w1 w2 := (Upd.of_below hW).trans (Upd.of_grownBy (F := fun k => lk.ownBlock = some k) hgrow (fun k e => e)) (fun k hk => .inl hk)
  have u1 : Upd (refBlocks b bv lk) w1 w2 := u2.mono (fun k e => .inr (.inr e))
  have hgb : gg ≠ b := fun e => by
    rcases hat with hat | hat
    · exact h.lb (by rw [hat, e])
    · omega
  have hgm : ∀ g, bv.ownBlock = some g → gg ≠ g := fun g hg e => by
    rcases hat with hat | hat
    · exact h.bl g hg (by rw [hat, e])
    · have := ownsRow_lt h.base hg; omega
  have hs : w2.heap[b]? = some (.cells #[bv, lk, .int .i64 E.left, .bool E.down] 119) := by
    rw [u2.block b hb h.lb]; exact h.struct
  have hF : Dsk.Fine { E with loose := E.loose ++ [(a, x)], left := L } := by
    refine ⟨h.fine.n1, h.fine.n2, h.fine.base, fun p hp => ?_, hL⟩
    rcases List.mem_append.1 hp with hp | hp
    · exact h.fine.loose p hp
    · simp at hp; subst hp; exact ⟨ha, hx⟩
  have hv : ∀ (v v' : Value), Upd (fun k => k = b) w2 ((w2.setCell ⟨b, 1, none⟩ v).setCell ⟨b, 2, none⟩ v') := fun v v' => ((Upd.refl (fun k => k = b) w2).setCell (p := ⟨b, 1, none⟩) (.inl rfl) v).setCell (p := ⟨b, 2, none⟩) (.inl rfl) v'
  refine ⟨⟨?_, ?_, ?_, h.bb, fun e => hgb (by simpa [Value.ownBlock] using e), fun g hg e => hgm g hg (by simpa [Value.ownBlock] using e), hF⟩, ?_, ?_⟩
  · have e1 := heap_setCell_same w2 b 1 _ _ (.slice (some ⟨gg, 0, none⟩) (E.loose.length + 1 : Nat) cap) hs
    have e2 := heap_setCell_same _ b 2 _ _ (.int .i64 L) e1
    exact e2
  · exact ownsRow_upd (ownsRow_upd h.base u2 (fun g hg e => h.bl g hg e)) (hv _ _) (fun g hg e => h.bb (by rw [hg, e]))
  · have e : (E.loose ++ [(a, x)]).length = E.loose.length + 1 := by simp
    show World.ownsRow _ 0 _ 2 _ (E.loose ++ [(a, x)]).length _
    rw [e]
    exact ownsRow_upd hown (hv _ _) (fun g hg e => hgb (by simp [Value.ownBlock] at hg; omega))
  · exact (u1.setCell (p := ⟨b, 1, none⟩) (.inl (.inl rfl)) _).setCell (p := ⟨b, 2, none⟩) (.inl (.inl rfl)) _
  · rintro k (rfl | hk | hk)
    · exact .inl (.inl rfl)
    · exact .inl (.inr (.inl hk))
    · simp [Value.ownBlock] at hk
      subst hk
      rcases hat with hat | hat
      · exact .inl (.inr (.inr hat))
      · exact .inr hat
theorem rput_one (i : Int) (s : List UInt8) : ∀ u ∈ [Value.int .i64 i, .string (bs s)], u.oneCell' = true := by
  intro u hu
  simp at hu
  rcases hu with rfl | rfl <;> rfl
end Go.Proofs.Ythbdflmckfgleaa
