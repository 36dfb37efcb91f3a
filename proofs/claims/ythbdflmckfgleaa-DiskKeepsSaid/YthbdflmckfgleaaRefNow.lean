/- The document's disk: now. -/
import Derived.Test.YthbdflmckfgleaaRefWalks
namespace Go.Proofs.Ythbdflmckfgleaa
open Go.RowKit Go.Maps

theorem str_info : (Try.prog.info? 9).map (fun i => (i.zero, i.size, i.bytes)) = some (some (.string ByteArray.empty), 1, 16) := by kernel_rfl
theorem rput_elem : (Try.prog.info? 123).map (·.size) = some 2 := by kernel_rfl
/-- A row of texts is copied: 'append([]string(nil), l...)'. -/
theorem strs_range {w : World} {base : Nat} {g n cap : Nat} {l : List (List UInt8)} (h : w.ownsRow base 9 1 (.slice (some ⟨g, 0, none⟩) n cap) n (strCells l)) : ∀ j u, (strCells l)[j]? = some u → w.cell? ((⟨g, 0, none⟩ : Addr).add j) = some u := h.cells (g := g) rfl

theorem ownsRow_free {w : World} {base e s : Nat} {g n cap : Nat} {xs : List Value} (h : w.ownsRow base e s (.slice (some ⟨g, 0, none⟩) n cap) n xs) (i : Nat) : w.frozen? ⟨g, i, none⟩ = false := by
  rcases h.2 with ⟨e1, _⟩ | ⟨g', cap', cur, e1, hb, hg, _⟩
  · cases e1
  · injection e1 with e2 _ e3
    injection e2 with e4
    injection e4 with e5
    subst e5
    exact frozen_of_row w g i _ _ hg
theorem far_drew {w : World} {p a : Addr} {v u : Value} (h : w.cell? a = some u) (hne : p.block ≠ a.block) : (w.setCell p v).drew.cell? a = some u := (World.cell?_setCell_far w p a v hne).trans h
theorem far_drew' {w : World} {p a : Addr} {v u : Value} (h : w.cell? a = some u) (hne : p.block ≠ a.block) : (w.drew.setCell p v).cell? a = some u := (World.cell?_setCell_far w.drew p a v hne).trans h
theorem add_plain (g i : Nat) : (⟨g, 0, none⟩ : Addr).add i = ⟨g, i, none⟩ := by unfold Addr.add; split <;> simp_all

set_option maxRecDepth 100000 in
set_option maxHeartbeats 2000000 in
theorem rnow_any {w : World} {b : Nat} {bv lv : Value} {D : Dsk} (h : RefIn w b bv lv D) (hlen : D.loose.length ≤ 1000000000) :
    Calls Try.prog 100 #[.pointer (some ⟨b, 0, none⟩)] w fun e w' => ∃ sv, e = .returned sv ∧ w'.ownsRow 0 9 1 sv D.n (strCells (rowsN D.now D.n)) ∧ Below w.heap.size w w' ∧ ∀ g, sv.ownBlock = some g → w.heap.size ≤ g := by
  obtain ⟨c0, c1, _, _, _⟩ := h.cells
  have hn1 := h.fine.n1
  have hn2 := h.fine.n2
  obtain ⟨g, cap, rfl⟩ : ∃ g cap, bv = .slice (some ⟨g, 0, none⟩) D.n cap := by
    rcases h.base.2 with ⟨_, e2⟩ | ⟨g, cap, _, e1, _⟩
    · omega
    · exact ⟨g, cap, e1⟩
  have hrows : strCells D.rows = strCells (rowsN D.base D.n) := rfl
  have hcells := h.base.cells (g := g) rfl
  rw [hrows] at hcells
  obtain ⟨q, lcap, rfl⟩ := slice_len h.loose
  have H := Lib.hid h
  clear h hrows
  obtain ⟨i0, hi0, hz0, hz1, hz2⟩ := info_parts str_info
  go_enter Try.func100, Try.ntmps100
  go_wp2_with (at_builtin; refine wpList_append_own_at _ rfl _ _ _ rfl 0 9 i0 _ 1 16 Try.underlying31 hi0 hz0 hz1 hz2 rfl (by omega) (.slice none 0 0) 0 [] rfl (World.ownsRow_nil _ _ _ _) ⟨g, 0, none⟩ D.n cap (strCells (rowsN D.base D.n)) rfl (by rw [strCells_length, rowsN_length, Nat.mul_one]) hcells (strCells_one _) (by unfold maxLen; omega) (by omega) (Nat.zero_le _) ?_; intro v' w1 hown hgrow _ hat)
  rw [Nat.zero_add, List.nil_append] at hown
  obtain ⟨g1, cap1, rfl⟩ : ∃ g1 cap1, v' = .slice (some ⟨g1, 0, none⟩) D.n cap1 := by
    rcases hown.2 with ⟨_, e2⟩ | ⟨g1, cap1, _, e1, _⟩
    · omega
    · exact ⟨g1, cap1, e1⟩
  have hg1 : g1 = w.heap.size := by
    rcases hat with e | e
    · cases e
    · exact Option.some.inj e
  subst hg1
  have hb1 : Below w.heap.size w w1 := (Below.refl _ w).grown hgrow (Nat.le_refl _) (fun k e => by cases e)
  have HOWN := Lib.hid hown
  have HB1 := Lib.hid hb1
  clear hown hgrow hat hb1 hcells c0
  go_wp2_with fail
  go_loopw [4] (fun i wr => ∃ k : Nat, k ≤ D.loose.length ∧ i = .int .i64 k ∧ wr.ownsRow 0 9 1 (.slice (some ⟨w.heap.size, 0, none⟩) D.n cap1) D.n (strCells (rowsN (Dsk.lay D.base (D.loose.take k)) D.n)) ∧ Below w.heap.size w wr) (fun i _ => D.loose.length - (intOf i).toNat)
  case atStart => exact ⟨0, by omega, rfl, HOWN.out, HB1.out⟩
  case round =>
    clear HOWN HB1
    obtain ⟨k, hk, rfl, hown, hb⟩ := hrel
    have hr := H.out.below hb
    obtain ⟨_, d1, _, _, _⟩ := hr.cells
    have HO := Lib.hid hown
    have HB := Lib.hid hb
    by_cases hlt : k < D.loose.length
    · obtain ⟨gl, rfl⟩ : ∃ gl, q = some ⟨gl, 0, none⟩ := by
        rcases hr.loose.2 with ⟨e1, e2⟩ | ⟨gl, _, _, e1, _⟩
        · omega
        · exact ⟨gl, by injection e1⟩
      obtain ⟨e1, e2⟩ := rputCells_get D.loose k hlt
      have l1 := hr.loose.cells (g := gl) rfl _ _ e1
      have l2 := hr.loose.cells (g := gl) rfl _ _ e2
      rw [add_plain] at l1 l2
      obtain ⟨p1, p2⟩ := H.out.fine.loose D.loose[k] (List.getElem_mem hlt)
      have hix1 := run_index_slice Try.prog 117 123 Try.underlying117 2 rput_elem ⟨gl, 0, none⟩ D.loose.length lcap k hlt
      have hix2 := run_index_slice Try.prog 31 9 Try.underlying31 1 (by kernel_rfl) ⟨w.heap.size, 0, none⟩ D.n cap1 D.loose[k].1 p1
      rw [add_plain] at hix1 hix2
      rw [Nat.mul_one] at hix2
      have HS := Lib.hid (Dsk.lay_take_succ D.base D.loose k hlt)
      have hfr := ownsRow_free hown D.loose[k].1
      have hold := hown.cells (g := w.heap.size) rfl D.loose[k].1 _ (strCells_get _ _ (by rw [rowsN_length]; exact p1))
      rw [add_plain] at hold
      have hbl : b ≠ w.heap.size := by have := H.out.lt b (.inl rfl); omega
      have hgl : gl ≠ w.heap.size := by have := H.out.lt gl (.inr (.inr rfl)); omega
      generalize D.loose[k] = p at *
      have keepA := fun (v : Value) => And.intro (far_drew (p := ⟨w.heap.size, p.1, none⟩) (v := v) d1 (Ne.symm hbl)) (And.intro (far_drew (p := ⟨w.heap.size, p.1, none⟩) (v := v) l1 (Ne.symm hgl)) (far_drew (p := ⟨w.heap.size, p.1, none⟩) (v := v) l2 (Ne.symm hgl)))
      clear hown hb hr e1 e2 p2
      go_wp2_with fail
      go_region_held3 (fun w' => w'.cell? ⟨b, 1, none⟩ = some (.slice (some ⟨gl, 0, none⟩) D.loose.length lcap) ∧ w'.cell? ⟨gl, k * 2, none⟩ = some (.int .i64 (p.1 : Int)) ∧ w'.cell? ⟨gl, k * 2 + 1, none⟩ = some (.string (bs p.2))) (first | go_keep | exact keepA _) (fail)
      go_wp2_with fail
      refine ⟨⟨k + 1, by omega, rfl, ?_, (HB.out.setCell (p := ⟨w.heap.size, p.1, none⟩) (Nat.le_refl _) _).drew⟩, ?_⟩
      · have hset := (ownsRow_set HO.out p.1 (.string (bs p.2))).drew
        rw [strCells_set, rowsN_set] at hset
        rw [HS.out]
        exact hset
      · show D.loose.length - ((k : Int) + 1).toNat < D.loose.length - ((k : Int)).toNat
        omega
    · obtain rfl : k = D.loose.length := by omega
      rw [List.take_length] at HO
      clear hown hb hr
      go_wp2_with fail
      go_ret
      refine ⟨_, rfl, HO.out, HB.out, fun g e => ?_⟩
      have e' : some w.heap.size = some g := e
      have := Option.some.inj e'
      omega
end Go.Proofs.Ythbdflmckfgleaa
