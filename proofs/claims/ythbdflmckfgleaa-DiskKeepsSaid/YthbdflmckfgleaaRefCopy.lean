/- The document's disk: a row is copied; Copy. -/
import Derived.Test.YthbdflmckfgleaaRefWriteAny
import Derived.Laws.OwnMore
namespace Go.Proofs.Ythbdflmckfgleaa
open Go.RowKit Go.Maps

/-- 'append([]T(nil), l...)': a row is copied. -/
theorem run_copy_row {P : Program} (w : World) (t ty e : TypeId) (i : TypeInfo) (z : Value) (size bytes : Nat) (ht : P.underlying t = some (.slice e)) (hi : P.info? e = some i) (hz : i.zero = some z)
    (hsize : i.size = size) (hby : i.bytes = bytes) (hzs : z.cells.size = size) (hsz : 0 < size) (v : Value) (n : Nat) (xs : List Value) (h1 : ∀ u ∈ xs, u.oneCell' = true) (h : w.ownsRow 0 e size v n xs)
    (hn : n ≤ maxLen) (hb : n * bytes ≤ 140737488355328) :
    ∃ v' w', (Builtin.append_ #[t, t] ty #[.slice none 0 0, v]).run P w = .ok v' w' ∧ w'.ownsRow 0 e size v' n xs ∧ Below w.heap.size w w' ∧ ∀ g, v'.ownBlock = some g → w.heap.size ≤ g := by
  rcases h.2 with ⟨e1, e2⟩ | ⟨g, cap, cur, e1, _⟩
  · subst e1; subst e2
    have hl : xs = [] := by
      have := h.1
      rw [Nat.zero_mul] at this
      exact List.length_eq_zero_iff.1 this
    subst hl
    exact ⟨_, w, run_append_owned_none (P := P) (w := w) 0 t ty e i size ht hi _ 0 [] (World.ownsRow_nil _ _ _ _), World.ownsRow_nil _ _ _ _, Below.refl _ _, fun g e => by simp [Value.ownBlock] at e⟩
  · subst e1
    obtain ⟨v', w', hr, g2, g3, _, g5⟩ := run_append_own_at (P := P) w 0 t ty e i z size bytes ht hi hz hsize hby hzs hsz (.slice none 0 0) 0 [] (World.ownsRow_nil _ _ _ _) ⟨g, 0, none⟩ n cap xs h.1 (h.cells (g := g) rfl) h1 (by omega) (by rw [Nat.zero_add]; exact hb) (Nat.zero_le _)
    rw [Nat.zero_add, List.nil_append] at g2
    refine ⟨v', w', hr, g2, (Below.refl _ w).grown g3 (Nat.le_refl _) (fun k e => by cases e), fun k hk => ?_⟩
    rcases g5 with g5 | g5
    · rw [g5] at hk; cases hk
    · rw [g5] at hk
      have := Option.some.inj hk
      omega
theorem step_copy_row {P : Program} {w : World} {ops : Array Oper} {o : Oper} {a : Act} {K : Act → World → Prop} {Q : Exit → Act → World → Prop} {E : Prop} (hgd : o.guard = none) (s x : Operand) (t : TypeId)
    (ho : o.op = .call { callee := .builtin .append, args := #[s, x], argTypes := #[t, t] }) (hs : a.eval s = .slice none 0 0) (v : Value) (hx : a.eval x = v)
    (e : TypeId) (i : TypeInfo) (z : Value) (size bytes : Nat) (ht : P.underlying t = some (.slice e)) (hi : P.info? e = some i) (hz : i.zero = some z)
    (hsize : i.size = size) (hby : i.bytes = bytes) (hzs : z.cells.size = size) (hsz : 0 < size) (n : Nat) (xs : List Value) (h1 : ∀ u ∈ xs, u.oneCell' = true) (hown : w.ownsRow 0 e size v n xs)
    (hn : n ≤ maxLen) (hb : n * bytes ≤ 140737488355328)
    (h : ∀ v' w', w'.ownsRow 0 e size v' n xs → Below w.heap.size w w' → (∀ g, v'.ownBlock = some g → w.heap.size ≤ g) → K (a.put o.dst v') w') :
    if Region.wanted o (yielded ops a.tmps) = true then Oper.wp P o a w K Q else E := by
  have hw : Region.wanted o (yielded ops a.tmps) = true := by simp [Region.wanted, hgd]
  rw [if_pos hw]
  obtain ⟨v', w', hr, h2, h3, h4⟩ := run_copy_row (P := P) w t o.type e i z size bytes ht hi hz hsize hby hzs hsz v n xs h1 hown hn hb
  unfold Oper.wp execOp
  simp only [ho, resolve, invoke, builtin, Sem.run_bind, Sem.run_pure, Result.andThen_ok, List.map_toArray, List.map_cons, List.map_nil, hs, hx, hr]
  exact h v' w' h2 h3 h4

theorem row_below {w w' : World} {base e s : Nat} {v : Value} {n : Nat} {xs : List Value} (h : w.ownsRow base e s v n xs) (hb : Below w.heap.size w w') : w'.ownsRow base e s v n xs := ownsRow_upd h (Upd.of_below (F := fun _ => False) hb) (fun _ _ f => f)

theorem rput_info4 : (Try.prog.info? 123).map (fun i => (i.zero, i.size, i.bytes)) = some (some (.agg #[.int .i64 0, .string ByteArray.empty]), 2, 24) := by kernel_rfl

set_option maxRecDepth 100000 in
set_option maxHeartbeats 2000000 in
theorem rcopy_any {w : World} {b : Nat} {D : Dsk} {fp : Nat → Prop} (h : RefAt w b D fp) (hlen : D.loose.length ≤ 1000000000) :
    Calls Try.prog 39 #[.pointer (some ⟨b, 0, none⟩)] w fun e w' => ∃ b' fp', e = .returned (.pointer (some ⟨b', 0, none⟩)) ∧ RefAt w' b' D fp' ∧ Below w.heap.size w w' ∧ ∀ k, fp' k → w.heap.size ≤ k := by
  obtain ⟨bv, lv, hI, rfl⟩ := h
  obtain ⟨c0, c1, c2, c3, _⟩ := hI.cells
  have hbl := hI.lt b (.inl rfl)
  have H := Lib.hid hI
  have hn2 := hI.fine.n2
  obtain ⟨i0, hi0, hz0, hz1, hz2⟩ := info_parts str_info
  obtain ⟨i1, hi1, hy0, hy1, hy2⟩ := info_parts rput_info4
  have keepS := fun (w' : World) (hb : Below w.heap.size w w') => (⟨(hb.cell (p := ⟨b, 0, none⟩) hbl).trans c0, (hb.cell (p := ⟨b, 1, none⟩) hbl).trans c1, (hb.cell (p := ⟨b, 2, none⟩) hbl).trans c2, (hb.cell (p := ⟨b, 3, none⟩) hbl).trans c3⟩ : w'.cell? ⟨b, 0, none⟩ = some bv ∧ w'.cell? ⟨b, 1, none⟩ = some lv ∧ w'.cell? ⟨b, 2, none⟩ = some (.int .i64 D.left) ∧ w'.cell? ⟨b, 3, none⟩ = some (.bool D.down))
  have KS := Lib.hid keepS
  have hdr : Below w.heap.size w w.drew := (Below.refl _ _).drew
  have HDR := Lib.hid hdr
  clear hI c0 c1 c2 c3 keepS hdr
  go_enter Try.func39, Try.ntmps39
  go_wp2_with fail
  go_region_held3 (fun w' => w'.cell? ⟨b, 0, none⟩ = some bv ∧ w'.cell? ⟨b, 1, none⟩ = some lv ∧ w'.cell? ⟨b, 2, none⟩ = some (.int .i64 D.left) ∧ w'.cell? ⟨b, 3, none⟩ = some (.bool D.down))
    (first | exact KS.out _ HDR.out | exact KS.out _ (HAB.out.alloc HAB.out.size _) | exact KS.out _ (HBA.out.alloc HBA.out.size _) | exact KS.out _ HAB.out | exact KS.out _ HBA.out | exact KS.out _ HA.out | exact KS.out _ HB.out)
    (first
      | ((refine step_copy_row (by rfl) _ _ 31 (by rfl) (by rfl) bv (by rfl) 9 i0 _ 1 16 Try.underlying31 hi0 hz0 hz1 hz2 (by rfl) (by omega) D.n (strCells D.rows) (strCells_one _) (row_below H.out.base HDR.out) (by unfold maxLen; omega) (by omega) ?_; intro va wA hA hBA hNA; obtain ⟨qa, ca, rfl⟩ := slice_len hA; have HA := Lib.hid (HDR.out.trans (hBA.mono (Nat.le_refl _)))))
      | ((refine step_copy_row (by rfl) _ _ 117 (by rfl) (by rfl) lv (by rfl) 123 i1 _ 2 24 Try.underlying117 hi1 hy0 hy1 hy2 (by rfl) (by omega) D.loose.length (rputCells D.loose) (rputCells_one _) (row_below H.out.loose HDR.out) (by unfold maxLen; omega) (by omega) ?_; intro vb wB hB hBB hNB; obtain ⟨qb, cb, rfl⟩ := slice_len hB; have HB := Lib.hid (HDR.out.trans (hBB.mono (Nat.le_refl _)))))
      | ((refine step_copy_row (by rfl) _ _ 31 (by rfl) (by rfl) bv (by rfl) 9 i0 _ 1 16 Try.underlying31 hi0 hz0 hz1 hz2 (by rfl) (by omega) D.n (strCells D.rows) (strCells_one _) (row_below H.out.base HB.out) (by unfold maxLen; omega) (by omega) ?_; intro va wA hA hBA hNA; obtain ⟨qa, ca, rfl⟩ := slice_len hA; have HBA := Lib.hid (HB.out.trans (hBA.mono HB.out.size))))
      | ((refine step_copy_row (by rfl) _ _ 117 (by rfl) (by rfl) lv (by rfl) 123 i1 _ 2 24 Try.underlying117 hi1 hy0 hy1 hy2 (by rfl) (by omega) D.loose.length (rputCells D.loose) (rputCells_one _) (row_below H.out.loose HA.out) (by unfold maxLen; omega) (by omega) ?_; intro vb wB hB hBB hNB; obtain ⟨qb, cb, rfl⟩ := slice_len hB; have HAB := Lib.hid (HA.out.trans (hBB.mono HA.out.size)))))
  all_goals
    have HRA := Lib.hid hA
    have HRB := Lib.hid hB
    have HNA := Lib.hid hNA
    have HNB := Lib.hid hNB
    have HBA1 := Lib.hid hBA
    have HBB1 := Lib.hid hBB
    clear hA hB hNA hNB hBA hBB
    go_wp2_with fail
    go_ret
  · have s1 : w.heap.size ≤ wA.heap.size := HA.out.size
    have s2 : wA.heap.size ≤ wB.heap.size := HBB1.out.size
    refine ⟨wB.heap.size, _, rfl, ⟨.slice qa D.n ca, .slice qb D.loose.length cb, ⟨heap_alloc_new wB _, (row_below HRA.out HBB1.out).alloc _, HRB.out.alloc _, fun e => ?_, fun e => ?_, fun g e f => ?_, H.out.fine⟩, rfl⟩, HAB.out.alloc HAB.out.size _, ?_⟩
    · have := ownsRow_lt HRA.out e; omega
    · have := ownsRow_lt HRB.out e; omega
    · have := ownsRow_lt HRA.out e; have := HNB.out _ f; omega
    · rintro k (rfl | hk | hk)
      · omega
      · exact HNA.out _ hk
      · have := HNB.out _ hk; omega
end Go.Proofs.Ythbdflmckfgleaa
