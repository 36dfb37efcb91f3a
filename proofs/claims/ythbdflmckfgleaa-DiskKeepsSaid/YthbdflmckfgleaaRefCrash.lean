/- The document's disk: Crash. -/
import Derived.Test.YthbdflmckfgleaaRefCopy
namespace Go.Proofs.Ythbdflmckfgleaa
open Go.RowKit Go.Maps

theorem keptFrom_nil (i : Nat) (l : List (Nat × List UInt8)) : Dsk.keptFrom [] i l = [] := by
  induction l generalizing i with
  | nil => rfl
  | cons p l ih => simp only [Dsk.keptFrom, ih]; simp
theorem keptFrom_take (keep : List UInt8) (l : List (Nat × List UInt8)) (k : Nat) (h : k < l.length) : Dsk.keptFrom keep 0 (l.take (k + 1)) = Dsk.keptFrom keep 0 (l.take k) ++ (if stays keep k then [l[k]] else []) := by
  rw [← keptI_from, ← keptI_from, List.take_add_one, List.getElem?_eq_getElem h, keptI_append, List.length_take, Nat.min_eq_left (by omega)]
  simp [keptI]
/-- What a crash leaves, in the document's disk. -/
theorem rcrashed {w W : World} {b : Nat} {bv lv : Value} {D : Dsk} {g cap : Nat} {keep : List UInt8} (H : RefIn w b bv lv D) (hO : W.ownsRow 0 9 1 (.slice (some ⟨g, 0, none⟩) D.n cap) D.n (strCells (rowsN (Dsk.lay D.base (D.kept keep)) D.n))) (hg : w.heap.size ≤ g) (hB : Below w.heap.size w W) :
    ∃ fp', RefAt ((((W.setCell ⟨b, 0, none⟩ (.slice (some ⟨g, 0, none⟩) D.n cap)).setCell ⟨b, 1, none⟩ (.slice none 0 0)).setCell ⟨b, 2, none⟩ (.int .i64 (-1))).setCell ⟨b, 3, none⟩ (.bool false)) b (D.crash keep) fp' ∧
      Upd (refBlocks b bv lv) w ((((W.setCell ⟨b, 0, none⟩ (.slice (some ⟨g, 0, none⟩) D.n cap)).setCell ⟨b, 1, none⟩ (.slice none 0 0)).setCell ⟨b, 2, none⟩ (.int .i64 (-1))).setCell ⟨b, 3, none⟩ (.bool false)) ∧ Stays (refBlocks b bv lv) fp' w := by
  have h1 := H.below hB
  have hbl := H.lt b (.inl rfl)
  have hu : Upd (fun k => k = b) W ((((W.setCell ⟨b, 0, none⟩ (.slice (some ⟨g, 0, none⟩) D.n cap)).setCell ⟨b, 1, none⟩ (.slice none 0 0)).setCell ⟨b, 2, none⟩ (.int .i64 (-1))).setCell ⟨b, 3, none⟩ (.bool false)) :=
    ((((Upd.refl (fun k => k = b) W).setCell (p := ⟨b, 0, none⟩) (.inl rfl) _).setCell (p := ⟨b, 1, none⟩) (.inl rfl) _).setCell (p := ⟨b, 2, none⟩) (.inl rfl) _).setCell (p := ⟨b, 3, none⟩) (.inl rfl) _
  refine ⟨_, ⟨.slice (some ⟨g, 0, none⟩) D.n cap, .slice none 0 0, ⟨?_, ?_, ?_, fun e => ?_, by simp [Value.ownBlock], fun _ _ => by simp [Value.ownBlock], H.fine.crash keep⟩, rfl⟩, (Upd.of_below hB).trans hu (fun i e => .inl (.inl e)), ?_⟩
  · have e0 := heap_setCell_same W b 0 _ _ (.slice (some ⟨g, 0, none⟩) D.n cap) h1.struct
    have e1 := heap_setCell_same _ b 1 _ _ (.slice none 0 0) e0
    have e2 := heap_setCell_same _ b 2 _ _ (.int .i64 (-1)) e1
    exact heap_setCell_same _ b 3 _ _ (.bool false) e2
  · exact ownsRow_upd hO hu (fun g' hg' e => by simp [Value.ownBlock] at hg'; omega)
  · show World.ownsRow _ 0 _ 2 (.slice none 0 0) 0 (rputCells [])
    rw [rputCells_nil]
    exact World.ownsRow_nil _ _ _ _
  · simp [Value.ownBlock] at e; omega
  · rintro k (rfl | hk | hk)
    · exact .inl (.inl rfl)
    · simp [Value.ownBlock] at hk; exact .inr (by omega)
    · simp [Value.ownBlock] at hk

set_option maxRecDepth 100000 in
set_option maxHeartbeats 2000000 in
theorem rcrash_any {w : World} {b : Nat} {D : Dsk} {fp : Nat → Prop} (h : RefAt w b D fp) (keep : List UInt8) (hlen : D.loose.length ≤ 1000000000) (hkl : keep.length ≤ 1000000000) :
    Calls Try.prog 40 #[.pointer (some ⟨b, 0, none⟩), .string (bs keep)] w fun e w' => (∃ v, e = .returned v) ∧ ∃ fp', RefAt w' b (D.crash keep) fp' ∧ Upd fp w w' ∧ Stays fp fp' w := by
  obtain ⟨bv, lv, hI, rfl⟩ := h
  obtain ⟨c0, _, _, _, _⟩ := hI.cells
  have hn1 := hI.fine.n1
  have hn2 := hI.fine.n2
  obtain ⟨g, cap, rfl⟩ : ∃ g cap, bv = .slice (some ⟨g, 0, none⟩) D.n cap := by
    rcases hI.base.2 with ⟨_, e2⟩ | ⟨g, cap, _, e1, _⟩
    · omega
    · exact ⟨g, cap, e1⟩
  have hrows : strCells D.rows = strCells (rowsN D.base D.n) := rfl
  have hcells := hI.base.cells (g := g) rfl
  rw [hrows] at hcells
  obtain ⟨q, lcap, rfl⟩ := slice_len hI.loose
  have H := Lib.hid hI
  clear hI hrows
  obtain ⟨i0, hi0, hz0, hz1, hz2⟩ := info_parts str_info
  go_enter Try.func40, Try.ntmps40
  go_wp2_with (at_builtin; refine wpList_append_own_at _ rfl _ _ _ rfl 0 9 i0 _ 1 16 Try.underlying31 hi0 hz0 hz1 hz2 rfl (by omega) (.slice none 0 0) 0 [] rfl (World.ownsRow_nil _ _ _ _) ⟨g, 0, none⟩ D.n cap (strCells (rowsN D.base D.n)) rfl (by rw [strCells_length, rowsN_length, Nat.mul_one]) hcells (strCells_one _) (by unfold maxLen; omega) (by omega) (Nat.zero_le _) ?_; intro v' w1 hown hgrow _ hat)
  rw [Nat.zero_add, List.nil_append] at hown
  obtain ⟨g1, cap1, rfl⟩ : ∃ g1 cap1, v' = .slice (some ⟨g1, 0, none⟩) D.n cap1 := by
    rcases hown.2 with ⟨_, e2⟩ | ⟨g1, cap1, _, e1, _⟩
    · omega
    · exact ⟨g1, cap1, e1⟩
  have hg1 : g1 = w.heap.size := by
    rcases hat with e | e
    · cases e
    · exact Option.some.inj e
  subst hg1
  have hb1 : Below w.heap.size w w1 := (Below.refl _ w).grown hgrow (Nat.le_refl _) (fun k e => by cases e)
  have HOWN := Lib.hid hown
  have HB1 := Lib.hid hb1
  clear hown hgrow hat hb1 hcells c0
  go_wp2_with fail
  by_cases hke : keep = []
  · subst hke
    go_loopw [5] (fun i wr => i = .int .i64 0 ∧ wr.ownsRow 0 9 1 (.slice (some ⟨w.heap.size, 0, none⟩) D.n cap1) D.n (strCells (rowsN D.base D.n)) ∧ Below w.heap.size w wr) (fun _ _ => 0)
    case atStart => exact ⟨rfl, HOWN.out, HB1.out⟩
    case round =>
      clear HOWN HB1
      obtain ⟨rfl, hown, hb⟩ := hrel
      have hr := H.out.below hb
      obtain ⟨d0, d1, d2, d3, df⟩ := hr.cells
      have df0 := df 0
      have df1 := df 1
      have df2 := df 2
      have df3 := df 3
      have HO := Lib.hid hown
      have HB := Lib.hid hb
      clear hown hb hr df
      by_cases hpos : 0 < D.loose.length
      all_goals
        go_wp2_with fail
        go_end0
        refine ⟨⟨_, rfl⟩, rcrashed (keep := []) H.out ?_ (Nat.le_refl _) HB.out⟩
        have e : D.kept [] = [] := keptFrom_nil 0 _
        rw [e]
        exact HO.out
  · have hkpos : 0 < keep.length := List.length_pos_iff.2 hke
    go_loopw [5] (fun i wr => ∃ k : Nat, k ≤ D.loose.length ∧ i = .int .i64 k ∧ wr.ownsRow 0 9 1 (.slice (some ⟨w.heap.size, 0, none⟩) D.n cap1) D.n (strCells (rowsN (Dsk.lay D.base (Dsk.keptFrom keep 0 (D.loose.take k))) D.n)) ∧ Below w.heap.size w wr) (fun i _ => D.loose.length - (intOf i).toNat)
    case atStart => exact ⟨0, by omega, rfl, HOWN.out, HB1.out⟩
    case round =>
      clear HOWN HB1
      obtain ⟨k, hk, rfl, hown, hb⟩ := hrel
      have hr := H.out.below hb
      obtain ⟨d0, d1, d2, d3, df⟩ := hr.cells
      have HO := Lib.hid hown
      have HB := Lib.hid hb
      by_cases hlt : k < D.loose.length
      · obtain ⟨gl, rfl⟩ : ∃ gl, q = some ⟨gl, 0, none⟩ := by
          rcases hr.loose.2 with ⟨e1, e2⟩ | ⟨gl, _, _, e1, _⟩
          · omega
          · exact ⟨gl, by injection e1⟩
        obtain ⟨e1, e2⟩ := rputCells_get D.loose k hlt
        have l1 := hr.loose.cells (g := gl) rfl _ _ e1
        have l2 := hr.loose.cells (g := gl) rfl _ _ e2
        rw [add_plain] at l1 l2
        obtain ⟨p1, p2⟩ := H.out.fine.loose D.loose[k] (List.getElem_mem hlt)
        have hix1 := run_index_slice Try.prog 117 123 Try.underlying117 2 rput_elem ⟨gl, 0, none⟩ D.loose.length lcap k hlt
        have hix2 := run_index_slice Try.prog 31 9 Try.underlying31 1 (by kernel_rfl) ⟨w.heap.size, 0, none⟩ D.n cap1 D.loose[k].1 p1
        rw [add_plain] at hix1 hix2
        rw [Nat.mul_one] at hix2
        have HK := Lib.hid (keptFrom_take keep D.loose k hlt)
        have hfr := ownsRow_free hown D.loose[k].1
        have hold := hown.cells (g := w.heap.size) rfl D.loose[k].1 _ (strCells_get _ _ (by rw [rowsN_length]; exact p1))
        rw [add_plain] at hold
        have hbl : b ≠ w.heap.size := by have := H.out.lt b (.inl rfl); omega
        have hgl : gl ≠ w.heap.size := by have := H.out.lt gl (.inr (.inr rfl)); omega
        have hml := Nat.mod_lt k hkpos
        have hmod : (k : Int) % (keep.length : Int) = ((k % keep.length : Nat) : Int) := by omega
        have hmodT : (k : Int).tmod (keep.length : Int) = ((k % keep.length : Nat) : Int) := by rw [Int.tmod_eq_emod_of_nonneg (by omega)]; exact hmod
        have hst : stays keep k = (keep[k % keep.length].toNat % 2 == 1) := by
          unfold stays
          rw [List.getD_eq_getElem?_getD, List.getElem?_eq_getElem hml]
          simp [hke]
        generalize k % keep.length = im at *
        generalize D.loose[k] = p at *
        clear e1 e2 p2 d0 d2 d3 df
        cases hs : stays keep k with
        | false =>
          rw [hs] at hst HK
          have hbit : (((keep[im].toNat : Int)) % 2 == 1) = false := by
            rw [Bool.eq_false_iff]; intro e
            have e := eq_of_beq e
            have e2 : (keep[im].toNat % 2 == 1) = true := by rw [beq_iff_eq]; omega
            rw [← hst] at e2; cases e2
          have hbitT : (((keep[im].toNat : Int)).tmod 2 == 1) = false := by rw [Int.tmod_eq_emod_of_nonneg (by omega)]; exact hbit
          clear hst hs hown hb hr
          go_wp2_with fail
          go_roundw
          case rel =>
            refine ⟨k + 1, by omega, by go_num, ?_, HB.out⟩
            rw [HK.out, if_neg (by decide), List.append_nil]
            exact HO.out
          case measure => simp [intOf]; omega
        | true =>
          rw [hs] at hst HK
          have hbit : (((keep[im].toNat : Int)) % 2 == 1) = true := by
            have e := eq_of_beq hst.symm
            rw [beq_iff_eq]; omega
          have hbitT : (((keep[im].toNat : Int)).tmod 2 == 1) = true := by rw [Int.tmod_eq_emod_of_nonneg (by omega)]; exact hbit
          have keepA := fun (v : Value) => And.intro (far_drew (p := ⟨w.heap.size, p.1, none⟩) (v := v) d1 (Ne.symm hbl)) (And.intro (far_drew (p := ⟨w.heap.size, p.1, none⟩) (v := v) l1 (Ne.symm hgl)) (far_drew (p := ⟨w.heap.size, p.1, none⟩) (v := v) l2 (Ne.symm hgl)))
          clear hst hs hown hb hr
          go_wp2_with fail
          go_region_held3 (fun w' => w'.cell? ⟨b, 1, none⟩ = some (.slice (some ⟨gl, 0, none⟩) D.loose.length lcap) ∧ w'.cell? ⟨gl, k * 2, none⟩ = some (.int .i64 (p.1 : Int)) ∧ w'.cell? ⟨gl, k * 2 + 1, none⟩ = some (.string (bs p.2))) (first | go_keep | exact keepA _) (fail)
          go_wp2_with fail
          refine ⟨⟨k + 1, by omega, rfl, ?_, (HB.out.setCell (p := ⟨w.heap.size, p.1, none⟩) (Nat.le_refl _) _).drew⟩, ?_⟩
          · have hset := (ownsRow_set HO.out p.1 (.string (bs p.2))).drew
            rw [strCells_set, rowsN_set] at hset
            rw [HK.out, if_pos trivial, Dsk.lay_snoc]
            exact hset
          · show D.loose.length - ((k : Int) + 1).toNat < D.loose.length - ((k : Int)).toNat
            omega
      · obtain rfl : k = D.loose.length := by omega
        rw [List.take_length] at HO
        have df0 := df 0
        have df1 := df 1
        have df2 := df 2
        have df3 := df 3
        clear hown hb hr df
        go_wp2_with fail
        go_end0
        exact ⟨⟨_, rfl⟩, rcrashed (keep := keep) H.out HO.out (Nat.le_refl _) HB.out⟩
end Go.Proofs.Ythbdflmckfgleaa
