/- Disk.Copy, walked. -/
import Derived.Test.YtcljpnkknehlmaaGreatDiskWrite
import Derived.Laws.Externs
import Derived.MapKept
namespace Go.Proofs.YtcljpnkknehlmaaGreat
open Go.RowKit Go.Maps

theorem SecMap.cloned {w : World} {m N : Nat} {f : Nat → List UInt8} (h : SecMap w m N f) : ∃ es clock, w.heap[m]? = some (.map es clock) ∧ SecMap (w.alloc (.map es clock)) w.heap.size N f := by
  obtain ⟨kv, ⟨hn, D, ⟨es, clock, hb, F, hs, hD⟩, rest⟩, h2⟩ := h
  exact ⟨es, clock, hb, kv, ⟨hn, D, ⟨es, clock, (MapKept.heap_alloc w _).1, F, hs, hD⟩, rest⟩, h2⟩

theorem eql_map (w : World) (p : Option Nat) : (binOp .eql 47 (.map p) (.map none)).run Tryz.prog w = .ok (.bool p.isNone) w := by
  have h : ∀ d, (Op.equalIn (d + 1) 47 (.map p) (.map none)).run Tryz.prog w = .ok p.isNone w := fun d => by
    cases p <;> simp [Op.equalIn, run_underlying Tryz.underlying47]
  simp only [binOp]
  simp [show Op.equal 47 (.map p) (.map none) = Op.equalIn (9999 + 1) 47 (.map p) (.map none) from rfl, h 9999]

theorem eql_slice (w : World) (p : Option Addr) (n c : Nat) : (binOp .eql 48 (.slice p n c) (.slice none 0 0)).run Tryz.prog w = .ok (.bool p.isNone) w := by
  have h : ∀ d, (Op.equalIn (d + 1) 48 (.slice p n c) (.slice none 0 0)).run Tryz.prog w = .ok p.isNone w := fun d => by
    cases p <;> simp [Op.equalIn, run_underlying Tryz.underlying48]
  simp only [binOp]
  simp [show Op.equal 48 (.slice p n c) (.slice none 0 0) = Op.equalIn (9999 + 1) 48 (.slice p n c) (.slice none 0 0) from rfl, h 9999]
theorem empty_row (w : World) : (w.alloc (.cells #[] 123)).ownsRow 0 123 65 (.slice (some ⟨w.heap.size, 0, none⟩) 0 0) 0 [] :=
  ⟨rfl, .inr ⟨w.heap.size, 0, #[], rfl, Nat.zero_le _, heap_alloc_new w _, Nat.le_refl _, Nat.zero_le _, rfl, rfl⟩⟩
theorem looseCells_one (l : List (Nat × List UInt8)) : ∀ u ∈ looseCells l, u.oneCell' = true := by
  intro u hu
  unfold looseCells at hu
  obtain ⟨p, _, h⟩ := List.mem_flatMap.1 hu
  rcases List.mem_cons.1 h with rfl | h
  · rfl
  · exact u8cells_one _ u h

theorem slice_of {w : World} {base e s : Nat} {v : Value} {n : Nat} {xs : List Value} (h : w.ownsRow base e s v n xs) : ∃ q cap, v = .slice q n cap := by
  rcases h.2 with ⟨e1, e2⟩ | ⟨g, cap, _, e1, _⟩
  · exact ⟨none, 0, by rw [e1, e2]⟩
  · exact ⟨_, cap, e1⟩
end Go.Proofs.YtcljpnkknehlmaaGreat
