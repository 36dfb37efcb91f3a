/- Rows of one's own: read, set, copied. -/
import Derived.Test.YtdmbadkpendfhaaGreatDoorBlk
import Derived.Deep.RegionHeld3
import Derived.Deep.RegionLaw
import Derived.Maps.AppendAt
import Derived.OneCell
import Derived.Laws.OwnMore
namespace Go.Proofs.YtdmbadkpendfhaaGreatDoor
open Go.RowKit Go.Maps

theorem ownsRow_set {w : World} {base : Nat} {e : TypeId} {g n cap : Nat} {xs : List Value} (h : w.ownsRow base e 1 (.slice (some ⟨g, 0, none⟩) n cap) n xs) (i : Nat) (v : Value) : (w.setCell ⟨g, i, none⟩ v).ownsRow base e 1 (.slice (some ⟨g, 0, none⟩) n cap) n (xs.set i v) := by
  obtain ⟨h1, h2⟩ := h
  refine ⟨by rw [List.length_set]; exact h1, ?_⟩
  rcases h2 with ⟨e1, _⟩ | ⟨g', cap', cur, e1, hb, hg, hn, hm, hcs, ht⟩
  · cases e1
  · injection e1 with e2 _ e3
    injection e2 with e4
    injection e4 with e5
    subst e5; subst e3
    refine .inr ⟨g, cap, cur.setIfInBounds i v, rfl, hb, heap_setCell_same w g i _ _ v hg, hn, hm, by rw [Array.size_setIfInBounds]; exact hcs, ?_⟩
    rw [Array.toList_setIfInBounds, ← ht, List.take_set]
theorem slice_len {w : World} {base e s : Nat} {v : Value} {n : Nat} {xs : List Value} (h : w.ownsRow base e s v n xs) : ∃ q cap, v = .slice q n cap := by
  rcases h.2 with ⟨e1, e2⟩ | ⟨g, cap, _, e1, _⟩
  · exact ⟨none, 0, by rw [e1, e2]⟩
  · exact ⟨_, cap, e1⟩
theorem ownsRow_free {w : World} {base e s : Nat} {g n cap : Nat} {xs : List Value} (h : w.ownsRow base e s (.slice (some ⟨g, 0, none⟩) n cap) n xs) (i : Nat) : w.frozen? ⟨g, i, none⟩ = false := by
  rcases h.2 with ⟨e1, _⟩ | ⟨g', cap', cur, e1, hb, hg, _⟩
  · cases e1
  · injection e1 with e2 _ e3
    injection e2 with e4
    injection e4 with e5
    subst e5
    exact frozen_of_row w g i _ _ hg
theorem far_drew {w : World} {p a : Addr} {v u : Value} (h : w.cell? a = some u) (hne : p.block ≠ a.block) : (w.setCell p v).drew.cell? a = some u := (World.cell?_setCell_far w p a v hne).trans h
theorem far_drew' {w : World} {p a : Addr} {v u : Value} (h : w.cell? a = some u) (hne : p.block ≠ a.block) : (w.drew.setCell p v).cell? a = some u := (World.cell?_setCell_far w.drew p a v hne).trans h
/-- 'append([]T(nil), l...)': a row is copied. -/
theorem run_copy_row {P : Program} (w : World) (t ty e : TypeId) (i : TypeInfo) (z : Value) (size bytes : Nat) (ht : P.underlying t = some (.slice e)) (hi : P.info? e = some i) (hz : i.zero = some z)
    (hsize : i.size = size) (hby : i.bytes = bytes) (hzs : z.cells.size = size) (hsz : 0 < size) (v : Value) (n : Nat) (xs : List Value) (h1 : ∀ u ∈ xs, u.oneCell' = true) (h : w.ownsRow 0 e size v n xs)
    (hn : n ≤ maxLen) (hb : n * bytes ≤ 140737488355328) :
    ∃ v' w', (Builtin.append_ #[t, t] ty #[.slice none 0 0, v]).run P w = .ok v' w' ∧ w'.ownsRow 0 e size v' n xs ∧ Below w.heap.size w w' ∧ ∀ g, v'.ownBlock = some g → w.heap.size ≤ g := by
  rcases h.2 with ⟨e1, e2⟩ | ⟨g, cap, cur, e1, _⟩
  · subst e1; subst e2
    have hl : xs = [] := by
      have := h.1
      rw [Nat.zero_mul] at this
      exact List.length_eq_zero_iff.1 this
    subst hl
    exact ⟨_, w, run_append_owned_none (P := P) (w := w) 0 t ty e i size ht hi _ 0 [] (World.ownsRow_nil _ _ _ _), World.ownsRow_nil _ _ _ _, Below.refl _ _, fun g e => by simp [Value.ownBlock] at e⟩
  · subst e1
    obtain ⟨v', w', hr, g2, g3, _, g5⟩ := run_append_own_at (P := P) w 0 t ty e i z size bytes ht hi hz hsize hby hzs hsz (.slice none 0 0) 0 [] (World.ownsRow_nil _ _ _ _) ⟨g, 0, none⟩ n cap xs h.1 (h.cells (g := g) rfl) h1 (by omega) (by rw [Nat.zero_add]; exact hb) (Nat.zero_le _)
    rw [Nat.zero_add, List.nil_append] at g2
    refine ⟨v', w', hr, g2, (Below.refl _ w).grown g3 (Nat.le_refl _) (fun k e => by cases e), fun k hk => ?_⟩
    rcases g5 with g5 | g5
    · rw [g5] at hk; cases hk
    · rw [g5] at hk
      have := Option.some.inj hk
      omega
theorem step_copy_row {P : Program} {w : World} {ops : Array Oper} {o : Oper} {a : Act} {K : Act → World → Prop} {Q : Exit → Act → World → Prop} {E : Prop} (hgd : o.guard = none) (s x : Operand) (t : TypeId)
    (ho : o.op = .call { callee := .builtin .append, args := #[s, x], argTypes := #[t, t] }) (hs : a.eval s = .slice none 0 0) (v : Value) (hx : a.eval x = v)
    (e : TypeId) (i : TypeInfo) (z : Value) (size bytes : Nat) (ht : P.underlying t = some (.slice e)) (hi : P.info? e = some i) (hz : i.zero = some z)
    (hsize : i.size = size) (hby : i.bytes = bytes) (hzs : z.cells.size = size) (hsz : 0 < size) (n : Nat) (xs : List Value) (h1 : ∀ u ∈ xs, u.oneCell' = true) (hown : w.ownsRow 0 e size v n xs)
    (hn : n ≤ maxLen) (hb : n * bytes ≤ 140737488355328)
    (h : ∀ v' w', w'.ownsRow 0 e size v' n xs → Below w.heap.size w w' → (∀ g, v'.ownBlock = some g → w.heap.size ≤ g) → K (a.put o.dst v') w') :
    if Region.wanted o (yielded ops a.tmps) = true then Oper.wp P o a w K Q else E := by
  have hw : Region.wanted o (yielded ops a.tmps) = true := by simp [Region.wanted, hgd]
  rw [if_pos hw]
  obtain ⟨v', w', hr, h2, h3, h4⟩ := run_copy_row (P := P) w t o.type e i z size bytes ht hi hz hsize hby hzs hsz v n xs h1 hown hn hb
  unfold Oper.wp execOp
  simp only [ho, resolve, invoke, builtin, Sem.run_bind, Sem.run_pure, Result.andThen_ok, List.map_toArray, List.map_cons, List.map_nil, hs, hx, hr]
  exact h v' w' h2 h3 h4
theorem row_below {w w' : World} {base e s : Nat} {v : Value} {n : Nat} {xs : List Value} (h : w.ownsRow base e s v n xs) (hb : Below w.heap.size w w') : w'.ownsRow base e s v n xs := ownsRow_upd h (Upd.of_below (F := fun _ => False) hb) (fun _ _ f => f)
/-- 'append([]T(nil), l...)', of a row that is the walk's own. -/
theorem wpList_copy_row {P : Program} {w : World} {ops : Array Oper} {rest : List Oper} {o : Oper} {a : Act} {Q : Exit → Act → World → Prop} (hgd : o.guard = none) (s x : Operand) (t : TypeId)
    (ho : o.op = .call { callee := .builtin .append, args := #[s, x], argTypes := #[t, t] }) (hs : a.eval s = .slice none 0 0) (v : Value) (hx : a.eval x = v)
    (e : TypeId) (i : TypeInfo) (z : Value) (size bytes : Nat) (ht : P.underlying t = some (.slice e)) (hi : P.info? e = some i) (hz : i.zero = some z)
    (hsize : i.size = size) (hby : i.bytes = bytes) (hzs : z.cells.size = size) (hsz : 0 < size) (n : Nat) (xs : List Value) (h1 : ∀ u ∈ xs, u.oneCell' = true) (hown : w.ownsRow 0 e size v n xs)
    (hn : n ≤ maxLen) (hb : n * bytes ≤ 140737488355328)
    (h : ∀ v' w', w'.ownsRow 0 e size v' n xs → Below w.heap.size w w' → (∀ g, v'.ownBlock = some g → w.heap.size ≤ g) → wpList P ops Q rest (a.put o.dst v') w') :
    wpList P ops Q (o :: rest) a w := by
  refine wpList_plain hgd fun K hK => ?_
  obtain ⟨v', w', hr, h2, h3, h4⟩ := run_copy_row (P := P) w t o.type e i z size bytes ht hi hz hsize hby hzs hsz v n xs h1 hown hn hb
  unfold Oper.wp execOp
  simp only [ho, resolve, invoke, builtin, Sem.run_bind, Sem.run_pure, Result.andThen_ok, List.map_toArray, List.map_cons, List.map_nil, hs, hx, hr]
  exact hK _ _ (h v' w' h2 h3 h4)
end Go.Proofs.YtdmbadkpendfhaaGreatDoor
