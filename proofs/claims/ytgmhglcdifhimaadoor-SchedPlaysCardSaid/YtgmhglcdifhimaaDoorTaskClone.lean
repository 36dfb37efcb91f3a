/- Rows of numbers, copied: slices.Clone, 'append([]int(nil), l...)'. -/
import Derived.Test.YtgmhglcdifhimaaDoorCopies
import Derived.Test.YtgmhglcdifhimaaDoorTaskSteps
import Derived.Test.YtgmhglcdifhimaaDoorTaskReady
namespace Go.Proofs.YtgmhglcdifhimaaDoor
open Go.RowKit Go.Maps Go.Sort
open Tsk

theorem int_info : (Tryd.prog.info? 3).map (fun i => (i.zero, i.size, i.bytes)) = some (some (.int .i64 0), 1, 8) := by kernel_rfl
theorem encZ_one (l : List Int) : ∀ u ∈ l.map encZ, u.oneCell' = true := by
  intro u hu
  obtain ⟨x, _, rfl⟩ := List.mem_map.1 hu
  rfl
/-- A row of numbers of one's own, made anew. -/
structure IntsNew (w w' : World) (v : Value) (l : List Int) : Prop where
  row : w'.ownsRow 0 3 1 v l.length (l.map encZ)
  below : Below w.heap.size w w'
  new : ∀ g, v.ownBlock = some g → w.heap.size ≤ g
theorem IntsAt.cells {w : World} {p : Addr} {l : List Int} (h : IntsAt w (some p) l) : ∀ j u, (l.map encZ)[j]? = some u → w.cell? (p.add j) = some u := fun j u hj => by
  have hjl : j < l.length := by simpa using (List.getElem?_eq_some_iff.1 hj).1
  obtain ⟨p', hp', hcell⟩ := h j hjl
  cases hp'
  rw [List.getElem?_map, List.getElem?_eq_getElem hjl] at hj
  rw [hcell, ← hj]
  rfl
theorem IntsAt.nil {w : World} {l : List Int} (h : IntsAt w none l) : l = [] := by
  cases l with
  | nil => rfl
  | cons x l => obtain ⟨p, hp, _⟩ := h 0 (by simp); cases hp
theorem ints_of_row {w : World} {v : Value} {l : List Int} {base : Nat} (h : w.ownsRow base 3 1 v l.length (l.map encZ)) : ∃ a cap, v = .slice a l.length cap ∧ IntsAt w a l ∧ (a = none → cap = 0) := by
  rcases h.2 with ⟨e1, e2⟩ | ⟨g, cap, cur, e1, _⟩
  · obtain rfl : l = [] := List.length_eq_zero_iff.1 e2
    exact ⟨none, 0, e1, fun i hi => by simp at hi, fun _ => rfl⟩
  · subst e1
    refine ⟨_, cap, rfl, fun i hi => ⟨_, rfl, ?_⟩, fun e => by cases e⟩
    have := h.cells (g := g) rfl i (.int .i64 l[i]) (by rw [List.getElem?_map, List.getElem?_eq_getElem hi]; rfl)
    exact this
theorem NumsOk.of_row {w : World} {v : Value} {l : List Nat} {base : Nat} (h : w.ownsRow base 3 1 v l.length ((numsI l).map encZ)) : NumsOk w v l := by
  rcases h.2 with ⟨e1, e2⟩ | ⟨g, cap, cur, e1, _, hg, _⟩
  · obtain rfl : l = [] := List.length_eq_zero_iff.1 e2
    exact ⟨none, 0, e1, fun i hi => by simp at hi⟩
  · subst e1
    refine ⟨_, cap, rfl, fun i hi => ⟨g, 0, rfl, ⟨_, _, hg⟩, ?_⟩⟩
    have := h.cells (g := g) rfl i (.int .i64 (l[i] : Int)) (by unfold numsI; rw [List.getElem?_map, List.getElem?_map, List.getElem?_eq_getElem hi]; rfl)
    rwa [add_off] at this
theorem run_copy_ints (w : World) (ty : TypeId) (a : Option Addr) (cap : Nat) (l : List Int) (h : IntsAt w a l) (hz : a = none → cap = 0) (hlen : l.length ≤ 1000000000) :
    ∃ v' w', (Builtin.append_ #[31, 31] ty #[.slice none 0 0, .slice a l.length cap]).run Tryd.prog w = .ok v' w' ∧ IntsNew w w' v' l := by
  obtain ⟨i0, hi0, hz0, hz1, hz2⟩ := info_parts int_info
  cases a with
  | none =>
    obtain rfl := h.nil
    rw [hz rfl]
    exact ⟨_, w, run_append_owned_none (P := Tryd.prog) (w := w) 0 31 ty 3 i0 1 Tryd.underlying31 hi0 _ 0 [] (World.ownsRow_nil _ _ _ _), World.ownsRow_nil _ _ _ _, Below.refl _ _, fun g e => by simp [Value.ownBlock] at e⟩
  | some p =>
    obtain ⟨v', w', hr, g2, g3, _, g5⟩ := run_append_own_at (P := Tryd.prog) w 0 31 ty 3 i0 _ 1 8 Tryd.underlying31 hi0 hz0 hz1 hz2 rfl (by omega) (.slice none 0 0) 0 [] (World.ownsRow_nil _ _ _ _) p l.length cap (l.map encZ) (by rw [List.length_map]; omega) h.cells (encZ_one l) (by unfold maxLen; omega) (by omega) (Nat.zero_le _)
    rw [Nat.zero_add, List.nil_append] at g2
    refine ⟨v', w', hr, g2, (Below.refl _ w).grown g3 (Nat.le_refl _) (fun k e => by cases e), fun k hk => ?_⟩
    rcases g5 with g5 | g5
    · rw [g5] at hk; cases hk
    · rw [g5] at hk
      have := Option.some.inj hk
      omega
theorem wpList_copy_ints {w : World} {ops : Array Oper} {rest : List Oper} {o : Oper} {a : Act} {Q : Exit → Act → World → Prop} (hgd : o.guard = none) (s x : Operand)
    (ho : o.op = .call { callee := .builtin .append, args := #[s, x], argTypes := #[31, 31] }) (hs : a.eval s = .slice none 0 0) (ad : Option Addr) (cap : Nat) (l : List Int) (hx : a.eval x = .slice ad l.length cap)
    (ht : IntsAt w ad l) (hz : ad = none → cap = 0) (hlen : l.length ≤ 1000000000)
    (h : ∀ v' w', IntsNew w w' v' l → wpList Tryd.prog ops Q rest (a.put o.dst v') w') :
    wpList Tryd.prog ops Q (o :: rest) a w := by
  refine wpList_plain hgd fun K hK => ?_
  obtain ⟨v', w', hr, h2⟩ := run_copy_ints w o.type ad cap l ht hz hlen
  unfold Oper.wp execOp
  simp only [ho, resolve, invoke, builtin, Sem.run_bind, Sem.run_pure, Result.andThen_ok, List.map_toArray, List.map_cons, List.map_nil, hs, hx, hr]
  exact hK _ _ (h v' w' h2)
theorem step_copy_ints {w : World} {ops : Array Oper} {o : Oper} {a : Act} {K : Act → World → Prop} {Q : Exit → Act → World → Prop} {E : Prop} (hgd : o.guard = none) (s x : Operand)
    (ho : o.op = .call { callee := .builtin .append, args := #[s, x], argTypes := #[31, 31] }) (hs : a.eval s = .slice none 0 0) (ad : Option Addr) (cap : Nat) (l : List Int) (hx : a.eval x = .slice ad l.length cap)
    (ht : IntsAt w ad l) (hz : ad = none → cap = 0) (hlen : l.length ≤ 1000000000)
    (h : ∀ v' w', IntsNew w w' v' l → K (a.put o.dst v') w') :
    if Region.wanted o (yielded ops a.tmps) = true then Oper.wp Tryd.prog o a w K Q else E := by
  have hw : Region.wanted o (yielded ops a.tmps) = true := by simp [Region.wanted, hgd]
  rw [if_pos hw]
  obtain ⟨v', w', hr, h2⟩ := run_copy_ints w o.type ad cap l ht hz hlen
  unfold Oper.wp execOp
  simp only [ho, resolve, invoke, builtin, Sem.run_bind, Sem.run_pure, Result.andThen_ok, List.map_toArray, List.map_cons, List.map_nil, hs, hx, hr]
  exact h v' w' h2
theorem eql_ints (w : World) (p : Option Addr) (n c : Nat) : (binOp .eql 31 (.slice p n c) (.slice none 0 0)).run Tryd.prog w = .ok (.bool p.isNone) w := by
  have h : ∀ d, (Op.equalIn (d + 1) 31 (.slice p n c) (.slice none 0 0)).run Tryd.prog w = .ok p.isNone w := fun d => by
    cases p <;> simp [Op.equalIn, run_underlying Tryd.underlying31]
  simp only [binOp]
  simp [show Op.equal 31 (.slice p n c) (.slice none 0 0) = Op.equalIn (9999 + 1) 31 (.slice p n c) (.slice none 0 0) from rfl, h 9999]
theorem empty_ints (w : World) : (w.alloc (.cells #[] 3)).ownsRow 0 3 1 (.slice (some ⟨w.heap.size, 0, none⟩) 0 0) 0 [] :=
  ⟨rfl, .inr ⟨w.heap.size, 0, #[], rfl, Nat.zero_le _, heap_alloc_new w _, Nat.le_refl _, Nat.zero_le _, rfl, rfl⟩⟩
def ClonePost (w : World) (l : List Int) (e : Ending) (w' : World) : Prop := ∃ v', e = .returned v' ∧ IntsNew w w' v' l
set_option maxRecDepth 100000 in
set_option maxHeartbeats 1000000 in
theorem intclone_any (w : World) (a : Option Addr) (cap : Nat) (l : List Int) (h : IntsAt w a l) (hlen : l.length ≤ 1000000000) :
    Calls Tryd.prog 58 #[.slice a l.length cap] w fun e w' => ClonePost w l e w' := by
  have hq := fun w => eql_ints w a l.length cap
  cases a with
  | none =>
    obtain rfl := h.nil
    have hq0 := fun w => eql_ints w none 0 cap
    clear h hq
    go_enter Tryd.func58, Tryd.ntmps58
    go_wp2_with fail
    go_ret
    exact ⟨_, rfl, World.ownsRow_nil _ _ _ _, Below.refl _ _, fun g e => by simp [Value.ownBlock] at e⟩
  | some p =>
    have HC := Lib.hid h.cells
    have HLL := Lib.hid (show (l.map encZ).length = l.length from List.length_map _)
    obtain ⟨i0, hi0, hz0, hz1, hz2⟩ := info_parts int_info
    have hsz := World.size_alloc w (.cells #[] 3)
    clear h
    go_enter Tryd.func58, Tryd.ntmps58
    go_wp2_with (at_builtin; refine wpList_append_own_at _ rfl _ _ _ rfl 0 3 i0 _ 1 8 Tryd.underlying31 hi0 hz0 hz1 hz2 rfl (by omega) _ 0 [] rfl (empty_ints w) p l.length cap (l.map encZ) rfl (by rw [HLL.out]; omega) (fun j u hj => (((Below.refl w.heap.size w).alloc (Nat.le_refl _) _).cell (block_lt_of_cell (HC.out j u hj))).trans (HC.out j u hj)) (encZ_one l) (by unfold maxLen; omega) (by omega) (Nat.zero_le _) ?_; intro v' w1 hown hgrow _ hat)
    go_ret
    refine ⟨v', rfl, by rw [Nat.zero_add, List.nil_append] at hown; exact hown, ((Below.refl w.heap.size w).alloc (Nat.le_refl _) _).grown hgrow (by omega) (fun k e => by have e' : some w.heap.size = some k := e; have := Option.some.inj e'; omega), fun k hk => ?_⟩
    rcases hat with hat | hat
    · rw [hat] at hk
      have e' : some w.heap.size = some k := hk
      have := Option.some.inj e'
      omega
    · rw [hat] at hk
      have := Option.some.inj hk
      omega
end Go.Proofs.YtgmhglcdifhimaaDoor
