/- RefFil RefPut RefCom RefCommit -/
import Derived.Test.YtoaihngckcbhiaaGreatDoorPkManB
import Derived.Laws.Cover1
import Derived.Deep.Slices
import Derived.Maps.AppendAt
import Derived.Deep.AppendLies
import Derived.Deep.RegionLaw
section
namespace Go.Proofs.YtoaihngckcbhiaaGreatDoor
open Go.RowKit Go.Maps
open Fil Man
@[irreducible] def filCells (A : M) : List Value := A.flatMap fun p => [.string (bs p.1), .string (bs p.2)]
theorem filCells_nil : filCells [] = [] := by unfold filCells; rfl
theorem filCells_snoc (A : M) (p : T × T) : filCells (A ++ [p]) = filCells A ++ [.string (bs p.1), .string (bs p.2)] := by unfold filCells; simp
theorem filCells_get (A : M) (k : Nat) (hk : k < A.length) (j : Nat) (hj : j < 2) : (filCells A)[k * 2 + j]? = ([.string (bs A[k].1), .string (bs A[k].2)] : List Value)[j]? := by
  unfold filCells
  induction A generalizing k with
  | nil => simp at hk
  | cons c l ih =>
    rw [List.flatMap_cons]
    cases k with
    | zero =>
      rw [Nat.zero_mul, Nat.zero_add, List.getElem?_append_left (by simp; omega)]
      rfl
    | succ k =>
      rw [List.getElem?_append_right (by simp; omega), show (k + 1) * 2 + j - ([Value.string (bs c.1), .string (bs c.2)] : List Value).length = k * 2 + j by simp; omega]
      exact ih k (by simpa using hk)
abbrev FRow (w : World) (base : Nat) (v : Value) (A : M) : Prop := w.ownsRow base 187 2 v A.length (filCells A)
theorem file_info3 : (Tryz.prog.info? 187).map (fun i => (i.zero, i.size, i.bytes)) = some (some (.agg #[.string ByteArray.empty, .string ByteArray.empty]), 2, 32) := by kernel_rfl
theorem FRow.index {w : World} {base cap k : Nat} {q : Option Addr} {A : M} (h : FRow w base (.slice q A.length cap) A) (hk : k < A.length) :
    ∃ p : Addr, (∀ W, (Instr.indexAt 44 (.slice q A.length cap) (.int .i64 (k : Int))).run Tryz.prog W = .ok (.pointer (some p)) W) ∧ w.cell? p = some (.string (bs A[k].1)) ∧ w.cell? ⟨p.block, p.off + 1, none⟩ = some (.string (bs A[k].2)) := by
  rcases h.2 with ⟨e1, e2⟩ | ⟨g, cap', cur, e1, _⟩
  · omega
  · have e2 : q = some ⟨g, 0, none⟩ := by injection e1
    subst e2
    have hc : ∀ j, j < 2 → ∀ v, ([.string (bs A[k].1), .string (bs A[k].2)] : List Value)[j]? = some v → w.cell? (((⟨g, 0, none⟩ : Addr).add (k * 2)).add j) = some v := fun j hj v hv => by
      rw [← filCells_get A k hk j hj] at hv
      have := h.cells (g := g) rfl _ _ hv
      rw [add_plain] at this ⊢
      rw [add_off]
      exact this
    refine ⟨_, fun W => run_index_slice Tryz.prog _ 187 Tryz.underlying44 2 (by kernel_rfl) ⟨g, 0, none⟩ A.length cap k hk W, ?_, ?_⟩
    · have := hc 0 (by omega) _ rfl
      rwa [add_zero'] at this
    · exact hc 1 (by omega) _ rfl
def RFil (w : World) (r : Nat) (v : Value) (A : M) (most : Int) : Prop := w.heap[r]? = some (.cells #[v, .int .i64 most] 46) ∧ FRow w 0 v A
theorem RFil.below {w w' : World} {r : Nat} {v : Value} {A : M} {most : Int} (h : RFil w r v A most) (hb : Below w.heap.size w w') : RFil w' r v A most :=
  ⟨(hb.block r (blk_lt h.1)).trans h.1, ownsRow_upd h.2 (Upd.of_below (F := fun _ => False) hb) (fun _ _ f => f)⟩
theorem RFil.noS {w w' : World} {r : Nat} {v : Value} {A : M} {most : Int} {bl : Nat → Prop} (h : RFil w r v A most) (hu : Upd (NoS w bl) w w') : RFil w' r v A most :=
  ⟨hu.noS h.1 (by decide), ownsRow_upd h.2 hu (fun _ hg e => e.not (ownsRow_blk h.2 hg) (by decide))⟩
def putL (c : Chg) : Bool → M → M
  | d, [] => if d then [] else [(c.name, c.data)]
  | d, p :: l => (if d = false ∧ ¬ p.1 < c.name then [(c.name, c.data)] else []) ++ ((if p.1 = c.name then [] else [p]) ++ putL c (d || !decide (p.1 < c.name)) l)
theorem putL_done (c : Chg) (l : M) : putL c true l = l.filter fun p => !(p.1 == c.name) := by
  induction l with
  | nil => rfl
  | cons p l ih =>
    unfold putL
    rw [if_neg (by simp), Bool.true_or, ih, List.nil_append]
    by_cases h : p.1 = c.name
    · rw [if_pos h, List.filter_cons_of_neg (by simpa using h)]; rfl
    · rw [if_neg h, List.filter_cons_of_pos (by simpa using h)]; rfl
theorem putL_eq {c : Chg} {A : M} (h : Up A) : putL c c.gone A = Chg.on A c := by
  unfold Chg.on
  cases c.gone with
  | true => rw [if_pos rfl, putL_done]; rfl
  | false =>
    rw [if_neg (by simp)]
    unfold Fil.put
    induction A with
    | nil => rfl
    | cons p l ih =>
      have hl := List.pairwise_cons.1 h
      unfold putL
      by_cases h1 : p.1 < c.name
      · have h2 := lt_asym h1
        rw [if_neg (by simp [h1]), if_neg (lt_ne h1), List.filter_cons_of_pos (by simpa using h1), List.filter_cons_of_neg (by simpa using h2)]
        simp only [h1, decide_true, Bool.not_true, Bool.or_self, List.nil_append, List.cons_append]
        rw [ih hl.2]
      · have hall : ∀ q ∈ l, c.name < q.1 := fun q hq => by
          rcases lt_tri c.name p.1 with e | e | e
          · exact lt_tr e (hl.1 q hq)
          · rw [e]; exact hl.1 q hq
          · exact absurd e h1
        rw [if_pos ⟨rfl, h1⟩, List.filter_cons_of_neg (by simpa using h1), filter_none (fun q hq => by simpa using lt_asym (hall q hq)), List.nil_append]
        simp only [h1, decide_false, Bool.not_false, Bool.or_true]
        rw [putL_done, filter_all (F := l) (p := fun p => !(p.1 == c.name)) (fun q hq => by simpa using (lt_ne (hall q hq)).symm)]
        by_cases h2 : p.1 = c.name
        · rw [if_pos h2, List.filter_cons_of_neg (by rw [h2]; simp), filter_all (fun q hq => by simpa using hall q hq)]
          rfl
        · have h3 : c.name < p.1 := by
            rcases lt_tri c.name p.1 with e | e | e
            · exact e
            · exact absurd e.symm h2
            · exact absurd e h1
          rw [if_neg h2, List.filter_cons_of_pos (by simpa using h3), filter_all (fun q hq => by simpa using hall q hq)]
          rfl
section
variable {w w' : World}
set_option maxRecDepth 100000 in
theorem rlog6_any (n : Nat) (hn : n ≤ 16384) (w : World) : Calls Tryz.prog 57 #[.int .i64 (n : Int)] w fun e w' => e = .returned (.int .i64 (lg n : Nat)) ∧ w = w' := by
  have hq : (n : Int).tdiv 8 = ((n / 8 : Nat) : Int) := by rw [Int.tdiv_eq_ediv_of_nonneg (by omega)]; omega
  have hl : lg n = max (n / 8) 2 := rfl
  have HL := Lib.hid hl
  clear hl
  obtain ⟨k, hk⟩ : ∃ k, n / 8 = k := ⟨_, rfl⟩
  rw [hk] at hq HL
  have hkb : k ≤ 16384 := by omega
  clear hk
  go_enter Tryz.func57, Tryz.ntmps57
  go_wp2_with fail
  go_ret
  refine ⟨?_, rfl⟩
  rw [HL.out, show ((max k 2 : Nat) : Int) = max (k : Int) 2 by omega]
  rfl
set_option maxRecDepth 100000 in
theorem rarea6_any (n : Nat) (h8 : 8 ≤ n) (hn : n ≤ 16384) (w : World) : Calls Tryz.prog 23 #[.int .i64 (n : Int)] w fun e w' => e = .returned (.int .i64 (sz n : Nat)) ∧ w = w' := by
  obtain ⟨l1, l2, l3⟩ := lg_sz h8
  have hs : Hid (sz n = (n - 1 - lg n) / 2) := Lib.hid rfl
  have HLG := Lib.hid (rlog6_any n hn w)
  obtain ⟨k, hk⟩ : ∃ k, lg n = k := ⟨_, rfl⟩
  rw [hk] at hs HLG l1 l3
  have hq : ((n : Int) - 1 - (k : Int)).tdiv 2 = (((n - 1 - k) / 2 : Nat) : Int) := by rw [Int.tdiv_eq_ediv_of_nonneg (by omega)]; omega
  clear hk l2
  go_enter Tryz.func23, Tryz.ntmps23
  go_wp2_with fail
  refine HLG.out.mono ?_
  rintro e w1 ⟨rfl, rfl⟩
  go_wp2_with fail
  go_ret
  rw [hs.out]
  exact ⟨rfl, rfl⟩
theorem roomN_int {n : Nat} (h8 : 8 ≤ n) : (64 * (sz n : Int) - 4 : Int) = (roomN n : Int) := by
  obtain ⟨l1, l2, l3⟩ := lg_sz h8
  unfold roomN
  omega
set_option maxRecDepth 100000 in
theorem rnew6_any (n : Nat) (h8 : 8 ≤ n) (hn : n ≤ 16384) (w : World) : Calls Tryz.prog 7 #[.int .i64 (n : Int)] w fun e w' => ∃ r, e = .returned (.pointer (some ⟨r, 0, none⟩)) ∧ RFil w' r (.slice none 0 0) [] (roomN n) ∧ w.heap.size ≤ r ∧ Below w.heap.size w w' := by
  have HA := Lib.hid (rarea6_any n h8 hn w)
  have HR := Lib.hid (roomN_int h8)
  have hb : sz n ≤ 16384 := by unfold sz; omega
  generalize sz n = k at *
  go_enter Tryz.func7, Tryz.ntmps7
  go_wp2_with fail
  refine HA.out.mono ?_
  rintro e w1 ⟨rfl, rfl⟩
  go_wp2_with fail
  go_ret
  refine ⟨w.heap.size, rfl, ⟨?_, by show World.ownsRow _ 0 _ 2 _ 0 (filCells []); rw [filCells_nil]; exact World.ownsRow_nil _ _ _ _⟩, Nat.le_refl _, below_alloc _ _⟩
  rw [← HR.out]
  exact heap_alloc_new _ _
set_option maxRecDepth 100000 in
set_option maxHeartbeats 1000000 in
theorem rmay6_any (nm dt : T) (g : Bool) (w : World) (h1 : nm.length ≤ maxLen) (h2 : dt.length ≤ maxLen) :
    Calls Tryz.prog 99 #[.agg #[.string (bs nm), .string (bs dt), .bool g]] w fun e w' => e = .returned (.bool (Chg.may ⟨nm, dt, g⟩)) ∧ Below w.heap.size w w' := by
  have HB := Lib.hid (below_alloc w (.cells #[.string (bs nm), .string (bs dt), .bool g] 99))
  unfold maxLen at h1 h2
  have hn : nm ≠ [] ↔ 1 ≤ nm.length := by cases nm <;> simp
  by_cases c1 : 1 ≤ nm.length ∧ nm.length ≤ 32 ∧ dt.length ≤ 65535
  · obtain ⟨c1, c2, c3⟩ := c1
    have i1 : (1 : Int) ≤ (nm.length : Int) := by omega
    have i2 : (nm.length : Int) ≤ 32 := by omega
    have i3 : (dt.length : Int) ≤ 65535 := by omega
    cases g with
    | false =>
      have hv : Hid (Chg.may ⟨nm, dt, false⟩ = true) := Lib.hid (by unfold Chg.may mayB; rw [decide_eq_true (show nm ≠ [] ∧ nm.length ≤ 32 ∧ dt.length ≤ 65535 from ⟨hn.2 c1, c2, c3⟩)]; rfl)
      rw [hv.out]
      clear hn
      go_enter Tryz.func99, Tryz.ntmps99
      go_wp2_with fail
      go_ret
      exact ⟨by simp, HB.out⟩
    | true =>
      by_cases h4 : dt = []
      · have hv : Hid (Chg.may ⟨nm, dt, true⟩ = true) := Lib.hid (by unfold Chg.may mayB; rw [decide_eq_true (show nm ≠ [] ∧ nm.length ≤ 32 ∧ dt.length ≤ 65535 from ⟨hn.2 c1, c2, c3⟩), h4]; rfl)
        have hf : dt.isEmpty = true := by simpa using h4
        rw [hv.out]
        clear hn h4
        go_enter Tryz.func99, Tryz.ntmps99
        go_wp2_with fail
        go_ret
        exact ⟨by simp, HB.out⟩
      · have hf : dt.isEmpty = false := by simpa using h4
        have hv : Hid (Chg.may ⟨nm, dt, true⟩ = false) := Lib.hid (by unfold Chg.may; simp only; rw [hf]; simp)
        rw [hv.out]
        clear hn h4
        go_enter Tryz.func99, Tryz.ntmps99
        go_wp2_with fail
        go_ret
        exact ⟨by simp, HB.out⟩
  · have hv : Hid (Chg.may ⟨nm, dt, g⟩ = false) := Lib.hid (by
      unfold Chg.may mayB
      rw [decide_eq_false (show ¬ (nm ≠ [] ∧ nm.length ≤ 32 ∧ dt.length ≤ 65535) from fun e => c1 ⟨hn.1 e.1, e.2⟩)]
      rfl)
    rw [hv.out]
    clear hn
    by_cases d1 : 1 ≤ nm.length
    · by_cases d2 : nm.length ≤ 32
      · have i1 : (1 : Int) ≤ (nm.length : Int) := by omega
        have i2 : (nm.length : Int) ≤ 32 := by omega
        have i3 : ¬ (dt.length : Int) ≤ 65535 := by omega
        clear c1
        go_enter Tryz.func99, Tryz.ntmps99
        go_wp2_with fail
        go_ret
        exact ⟨by simp, HB.out⟩
      · have i1 : (1 : Int) ≤ (nm.length : Int) := by omega
        have i2 : ¬ (nm.length : Int) ≤ 32 := by omega
        clear c1
        go_enter Tryz.func99, Tryz.ntmps99
        go_wp2_with fail
        go_ret
        exact ⟨by simp, HB.out⟩
    · have i1 : ¬ (1 : Int) ≤ (nm.length : Int) := by omega
      clear c1
      go_enter Tryz.func99, Tryz.ntmps99
      go_wp2_with fail
      go_ret
      exact ⟨by simp, HB.out⟩
theorem FRow.low' {base base2 n : Nat} {v : Value} {xs : List Value} (h : w.ownsRow base 187 2 v n xs) (hb : base2 ≤ base) : w.ownsRow base2 187 2 v n xs := by
  refine ⟨h.1, ?_⟩
  rcases h.2 with h2 | ⟨g, cap, cur, e0, hbb, h3⟩
  · exact .inl h2
  · exact .inr ⟨g, cap, cur, e0, Nat.le_trans hb hbb, h3⟩
end
end Go.Proofs.YtoaihngckcbhiaaGreatDoor
end
section
namespace Go.Proofs.YtoaihngckcbhiaaGreatDoor
open Go.RowKit Go.Maps
open Fil Man
section
variable {w w' : World}
-- PUT
structure PutSt (w W : World) (ov : Value) (m : Nat) (o : M) (c : Chg) (gn : Bool) : Prop where
  row : W.ownsRow (w.heap.size + 1) 187 2 ov m (filCells o)
  bel : Below w.heap.size w W
  box : W.heap[w.heap.size]? = some (.cells #[.string (bs c.name), .string (bs c.data), .bool gn] 99)
theorem PutSt.drew {W : World} {ov : Value} {m : Nat} {o : M} {c : Chg} {gn : Bool} (h : PutSt w W ov m o c gn) : PutSt w W.drew ov m o c gn := ⟨h.row.drew, h.bel.drew, h.box⟩
theorem PutSt.add {W W2 : World} {ov v2 : Value} {m : Nat} {o : M} {c : Chg} {gn : Bool} {ob : Obj} {a b : T} (h : PutSt w W ov m o c gn) (hg : (W.alloc ob).grownBy W2 ov.ownBlock) (ho : W2.ownsRow (w.heap.size + 1) 187 2 v2 (m + 1) (filCells o ++ [.string (bs a), .string (bs b)])) : PutSt w W2 v2 (m + 1) (o ++ [(a, b)]) c gn := by
  have hlt := blk_lt h.box
  have hsz : (W.alloc ob).heap.size = W.heap.size + 1 := World.size_alloc _ _
  refine ⟨by rw [filCells_snoc]; exact ho, (h.bel.alloc h.bel.size ob).grown hg (by omega) (fun j hj => by have := row_low h.row hj; omega), ?_⟩
  exact (hg.block w.heap.size (by omega) (row_ne_low h.row (Nat.lt_succ_self w.heap.size))).trans ((heap_alloc_old W ob hlt).trans h.box)
theorem putL_cons (c : Chg) (d : Bool) (p : T × T) (l : M) : putL c d (p :: l) = (if d = false ∧ ¬ p.1 < c.name then [(c.name, c.data)] else []) ++ ((if p.1 = c.name then [] else [p]) ++ putL c (d || !decide (p.1 < c.name)) l) := rfl
set_option maxRecDepth 100000 in
set_option maxHeartbeats 4000000 in
theorem rput6_any {q : Option Addr} {cap : Nat} {A : M} (c : Chg) (h : FRow w 0 (.slice q A.length cap) A) (hu : Up A) (hl : A.length ≤ 1000000) :
    Calls Tryz.prog 141 #[.slice q A.length cap, .agg #[.string (bs c.name), .string (bs c.data), .bool c.gone]] w fun e w' => ∃ v, e = .returned v ∧ FRow w' w.heap.size v (Chg.on A c) ∧ Below w.heap.size w w' := by
  obtain ⟨i0, hi0, hz0, hz1, hz2⟩ := info_parts file_info3
  have HR := Lib.hid h
  have HE := Lib.hid (putL_eq (c := c) hu)
  have HBX := Lib.hid (below_alloc w (.cells #[.string (bs c.name), .string (bs c.data), .bool c.gone] 99))
  have HCX := Lib.hid (heap_alloc_new w (.cells #[.string (bs c.name), .string (bs c.data), .bool c.gone] 99))
  obtain ⟨gn, hgn⟩ : ∃ g, c.gone = g := ⟨_, rfl⟩
  rw [hgn] at HE HBX HCX ⊢
  clear h hu hgn
  go_enter Tryz.func141, Tryz.ntmps141
  go_wp2_with fail
  go_loopw [5, 6, 7] (fun ov dv i wr => ∃ (k m : Nat) (o : M) (d : Bool), k ≤ A.length ∧ o.length = m ∧ m ≤ 2 * k ∧ i = .int .i64 (k : Int) ∧ dv = .bool d ∧ o ++ putL c d (A.drop k) = putL c gn A ∧ PutSt w wr ov m o c gn)
    (fun _ _ i _ => A.length - (intOf i).toNat)
  case atStart => exact ⟨0, 0, [], gn, Nat.zero_le _, rfl, Nat.zero_le _, rfl, rfl, by rw [List.drop_zero]; rfl, ⟨by rw [filCells_nil]; exact World.ownsRow_nil _ _ _ _, HBX.out, HCX.out⟩⟩
  case round =>
    obtain ⟨k, m, o, d, hk, hom, hm2, rfl, rfl, hpl, hst⟩ := hrel
    obtain ⟨oq, ocap, rfl⟩ := slice_len hst.row
    have HS0 := Lib.hid hst; have HOM := Lib.hid hom
    clear HBX HCX hom
    by_cases hlt : k < A.length
    · obtain ⟨p, hidx, hp0, hp1⟩ := (FRow.index (ownsRow_upd HR.out (Upd.of_below (F := fun _ => False) hst.bel) (fun _ _ f => f)) hlt)
      have HP := Lib.hid (fun (W : World) (hW : Below w.heap.size w W) => (show W.cell? p = some (.string (bs A[k].1)) ∧ W.cell? ⟨p.block, p.off + 1, none⟩ = some (.string (bs A[k].2)) from by
        obtain ⟨p', hidx', hp0', hp1'⟩ := (FRow.index (ownsRow_upd HR.out (Upd.of_below (F := fun _ => False) hW) (fun _ _ f => f)) hlt)
        have e := hidx W
        rw [hidx' W] at e
        injection e with e
        injection e with e
        injection e with e
        subst e
        exact ⟨hp0', hp1'⟩))
      obtain ⟨b0, b1, b2, _, _, _⟩ := row3 hst.box
      have hd := List.drop_eq_getElem_cons hlt
      rw [hd, putL_cons] at hpl
      obtain ⟨x1, hx1⟩ : ∃ x, A[k].1 = x := ⟨_, rfl⟩
      obtain ⟨x2, hx2⟩ : ∃ x, A[k].2 = x := ⟨_, rfl⟩
      rw [show A[k] = (x1, x2) from Prod.ext hx1 hx2] at hpl
      rw [hx1] at hp0 HP
      rw [hx2] at hp1 HP
      have HPL := Lib.hid hpl
      clear hd hx1 hx2 hpl hst
      by_cases h1 : x1 < c.name
      · 
        cases d with
        | false =>
          have hbl : Op.bytesLess x1 c.name = true := by rw [Go.Proofs.bytesLess_eq]; simpa using h1
          have hne : (x1 == c.name) = false := by simpa using lt_ne h1
          have HN := Lib.hid (show (o ++ [(x1, x2)]) ++ putL c false (A.drop (k + 1)) = putL c gn A by rw [← HPL.out]; simp [h1, lt_ne h1])
          clear h1
          go_wp2_with fail
          go_region
          have HS1 := Lib.hid HS0.out.drew
          clear b0 b1 b2 hp0 hp1
          generalize wr.drew = W1 at HS1 ⊢
          obtain ⟨b0, b1, b2, _, _, _⟩ := row3 HS1.out.box
          obtain ⟨p0, p1⟩ := HP.out _ HS1.out.bel
          go_wp2_with fail
          go_region
          have HS2 := Lib.hid HS1.out.drew
          clear b0 b1 b2 p0 p1
          generalize W1.drew = W2 at HS2 ⊢
          obtain ⟨b0, b1, b2, _, _, _⟩ := row3 HS2.out.box
          obtain ⟨p0, p1⟩ := HP.out _ HS2.out.bel
          go_wp2_with (at_builtin; refine wpList_append_own_at _ rfl _ _ 44 rfl (w.heap.size + 1) 187 i0 _ 2 32 Tryz.underlying44 hi0 hz0 hz1 hz2 rfl (by decide) (.slice oq m ocap) m _ rfl (HS2.out.row.alloc _) ⟨W2.heap.size, 0, none⟩ 1 1 [.string (bs x1), .string (bs x2)] rfl rfl (by intro j u hj; rw [add_plain, cell_new_row]; exact (Array.getElem?_toList ▸ hj)) (by simp [Value.oneCell']) (by unfold maxLen; omega) (by omega) (by rw [World.size_alloc]; have := blk_lt HS2.out.box; omega) ?_; intro v2 w2 ho2 hg2 _ _; obtain ⟨g2, cap2, rfl⟩ := ownsRow_succ ho2; have HT2 := Lib.hid (HS2.out.add hg2 ho2); clear ho2 hg2)
          go_roundw
          case rel => exact ⟨k + 1, m + 1, o ++ [(x1, x2)], false, by omega, by simp [HOM.out], by omega, by go_num, rfl, HN.out, HT2.out⟩
          case measure => simp [intOf]; omega
        | true =>
          have hbl : Op.bytesLess x1 c.name = true := by rw [Go.Proofs.bytesLess_eq]; simpa using h1
          have hne : (x1 == c.name) = false := by simpa using lt_ne h1
          have HN := Lib.hid (show (o ++ [(x1, x2)]) ++ putL c true (A.drop (k + 1)) = putL c gn A by rw [← HPL.out]; simp [h1, lt_ne h1])
          clear h1
          go_wp2_with fail
          go_region
          have HS1 := Lib.hid HS0.out.drew
          clear b0 b1 b2 hp0 hp1
          generalize wr.drew = W1 at HS1 ⊢
          obtain ⟨b0, b1, b2, _, _, _⟩ := row3 HS1.out.box
          obtain ⟨p0, p1⟩ := HP.out _ HS1.out.bel
          go_wp2_with fail
          go_region
          have HS2 := Lib.hid HS1.out.drew
          clear b0 b1 b2 p0 p1
          generalize W1.drew = W2 at HS2 ⊢
          obtain ⟨b0, b1, b2, _, _, _⟩ := row3 HS2.out.box
          obtain ⟨p0, p1⟩ := HP.out _ HS2.out.bel
          go_wp2_with (at_builtin; refine wpList_append_own_at _ rfl _ _ 44 rfl (w.heap.size + 1) 187 i0 _ 2 32 Tryz.underlying44 hi0 hz0 hz1 hz2 rfl (by decide) (.slice oq m ocap) m _ rfl (HS2.out.row.alloc _) ⟨W2.heap.size, 0, none⟩ 1 1 [.string (bs x1), .string (bs x2)] rfl rfl (by intro j u hj; rw [add_plain, cell_new_row]; exact (Array.getElem?_toList ▸ hj)) (by simp [Value.oneCell']) (by unfold maxLen; omega) (by omega) (by rw [World.size_alloc]; have := blk_lt HS2.out.box; omega) ?_; intro v2 w2 ho2 hg2 _ _; obtain ⟨g2, cap2, rfl⟩ := ownsRow_succ ho2; have HT2 := Lib.hid (HS2.out.add hg2 ho2); clear ho2 hg2)
          go_roundw
          case rel => exact ⟨k + 1, m + 1, o ++ [(x1, x2)], true, by omega, by simp [HOM.out], by omega, by go_num, rfl, HN.out, HT2.out⟩
          case measure => simp [intOf]; omega
      · by_cases h2 : x1 = c.name
        · 
          cases d with
          | false =>
            have hbl : Op.bytesLess x1 c.name = false := by rw [Go.Proofs.bytesLess_eq]; simpa using h1
            have hne : (x1 == c.name) = true := by simpa using h2
            have HN := Lib.hid (show (o ++ [(c.name, c.data)]) ++ putL c true (A.drop (k + 1)) = putL c gn A by rw [← HPL.out]; simp [h2, lt_irr])
            clear h1 h2
            go_wp2_with fail
            go_region
            have HS1 := Lib.hid HS0.out.drew
            clear b0 b1 b2 hp0 hp1
            generalize wr.drew = W1 at HS1 ⊢
            obtain ⟨b0, b1, b2, _, _, _⟩ := row3 HS1.out.box
            obtain ⟨p0, p1⟩ := HP.out _ HS1.out.bel
            go_wp2_with (at_builtin; refine wpList_append_own_at _ rfl _ _ 44 rfl (w.heap.size + 1) 187 i0 _ 2 32 Tryz.underlying44 hi0 hz0 hz1 hz2 rfl (by decide) (.slice oq m ocap) m _ rfl (HS1.out.row.alloc _) ⟨W1.heap.size, 0, none⟩ 1 1 [.string (bs c.name), .string (bs c.data)] rfl rfl (by intro j u hj; rw [add_plain, cell_new_row]; exact (Array.getElem?_toList ▸ hj)) (by simp [Value.oneCell']) (by unfold maxLen; omega) (by omega) (by rw [World.size_alloc]; have := blk_lt HS1.out.box; omega) ?_; intro v1 w1 ho1 hg1 _ _; obtain ⟨g1, cap1, rfl⟩ := ownsRow_succ ho1; have HT1 := Lib.hid (HS1.out.add hg1 ho1); clear ho1 hg1)
            have HS2 := Lib.hid HT1.out.drew
            obtain ⟨e0, e1, e2, _, _, _⟩ := row3 HT1.out.box
            obtain ⟨r0, r1⟩ := HP.out _ HT1.out.bel
            go_wp2_with fail
            go_region
            clear b0 b1 b2 p0 p1 e0 e1 e2 r0 r1
            generalize w1.drew = W2 at HS2 ⊢
            obtain ⟨b0, b1, b2, _, _, _⟩ := row3 HS2.out.box
            obtain ⟨p0, p1⟩ := HP.out _ HS2.out.bel
            go_wp2_with fail
            go_roundw
            case rel => exact ⟨k + 1, m + 1, o ++ [(c.name, c.data)], true, by omega, by simp [HOM.out], by omega, by go_num, rfl, HN.out, HS2.out⟩
            case measure => simp [intOf]; omega
          | true =>
            have hbl : Op.bytesLess x1 c.name = false := by rw [Go.Proofs.bytesLess_eq]; simpa using h1
            have hne : (x1 == c.name) = true := by simpa using h2
            have HN := Lib.hid (show (o) ++ putL c true (A.drop (k + 1)) = putL c gn A by rw [← HPL.out]; simp [h2])
            clear h1 h2
            go_wp2_with fail
            go_region
            have HS1 := Lib.hid HS0.out.drew
            clear b0 b1 b2 hp0 hp1
            generalize wr.drew = W1 at HS1 ⊢
            obtain ⟨b0, b1, b2, _, _, _⟩ := row3 HS1.out.box
            obtain ⟨p0, p1⟩ := HP.out _ HS1.out.bel
            go_wp2_with fail
            go_region
            have HS2 := Lib.hid HS1.out.drew
            clear b0 b1 b2 p0 p1
            generalize W1.drew = W2 at HS2 ⊢
            obtain ⟨b0, b1, b2, _, _, _⟩ := row3 HS2.out.box
            obtain ⟨p0, p1⟩ := HP.out _ HS2.out.bel
            go_wp2_with fail
            go_roundw
            case rel => exact ⟨k + 1, m, o, true, by omega, by simp [HOM.out], by omega, by go_num, rfl, HN.out, HS2.out⟩
            case measure => simp [intOf]; omega
        · 
          cases d with
          | false =>
            have hbl : Op.bytesLess x1 c.name = false := by rw [Go.Proofs.bytesLess_eq]; simpa using h1
            have hne : (x1 == c.name) = false := by simpa using h2
            have HN := Lib.hid (show ((o ++ [(c.name, c.data)]) ++ [(x1, x2)]) ++ putL c true (A.drop (k + 1)) = putL c gn A by rw [← HPL.out]; simp [h1, h2])
            clear h1 h2
            go_wp2_with fail
            go_region
            have HS1 := Lib.hid HS0.out.drew
            clear b0 b1 b2 hp0 hp1
            generalize wr.drew = W1 at HS1 ⊢
            obtain ⟨b0, b1, b2, _, _, _⟩ := row3 HS1.out.box
            obtain ⟨p0, p1⟩ := HP.out _ HS1.out.bel
            go_wp2_with (at_builtin; refine wpList_append_own_at _ rfl _ _ 44 rfl (w.heap.size + 1) 187 i0 _ 2 32 Tryz.underlying44 hi0 hz0 hz1 hz2 rfl (by decide) (.slice oq m ocap) m _ rfl (HS1.out.row.alloc _) ⟨W1.heap.size, 0, none⟩ 1 1 [.string (bs c.name), .string (bs c.data)] rfl rfl (by intro j u hj; rw [add_plain, cell_new_row]; exact (Array.getElem?_toList ▸ hj)) (by simp [Value.oneCell']) (by unfold maxLen; omega) (by omega) (by rw [World.size_alloc]; have := blk_lt HS1.out.box; omega) ?_; intro v1 w1 ho1 hg1 _ _; obtain ⟨g1, cap1, rfl⟩ := ownsRow_succ ho1; have HT1 := Lib.hid (HS1.out.add hg1 ho1); clear ho1 hg1)
            have HS2 := Lib.hid HT1.out.drew
            obtain ⟨e0, e1, e2, _, _, _⟩ := row3 HT1.out.box
            obtain ⟨r0, r1⟩ := HP.out _ HT1.out.bel
            go_wp2_with fail
            go_region
            clear b0 b1 b2 p0 p1 e0 e1 e2 r0 r1
            generalize w1.drew = W2 at HS2 ⊢
            obtain ⟨b0, b1, b2, _, _, _⟩ := row3 HS2.out.box
            obtain ⟨p0, p1⟩ := HP.out _ HS2.out.bel
            go_wp2_with (at_builtin; refine wpList_append_own_at _ rfl _ _ 44 rfl (w.heap.size + 1) 187 i0 _ 2 32 Tryz.underlying44 hi0 hz0 hz1 hz2 rfl (by decide) (.slice (some ⟨g1, 0, none⟩) (m + 1) cap1) (m + 1) _ rfl (HS2.out.row.alloc _) ⟨W2.heap.size, 0, none⟩ 1 1 [.string (bs x1), .string (bs x2)] rfl rfl (by intro j u hj; rw [add_plain, cell_new_row]; exact (Array.getElem?_toList ▸ hj)) (by simp [Value.oneCell']) (by unfold maxLen; omega) (by omega) (by rw [World.size_alloc]; have := blk_lt HS2.out.box; omega) ?_; intro v2 w2 ho2 hg2 _ _; obtain ⟨g2, cap2, rfl⟩ := ownsRow_succ ho2; have HT2 := Lib.hid (HS2.out.add hg2 ho2); clear ho2 hg2)
            go_roundw
            case rel => exact ⟨k + 1, m + 1 + 1, (o ++ [(c.name, c.data)]) ++ [(x1, x2)], true, by omega, by simp [HOM.out], by omega, by go_num, rfl, HN.out, HT2.out⟩
            case measure => simp [intOf]; omega
          | true =>
            have hbl : Op.bytesLess x1 c.name = false := by rw [Go.Proofs.bytesLess_eq]; simpa using h1
            have hne : (x1 == c.name) = false := by simpa using h2
            have HN := Lib.hid (show (o ++ [(x1, x2)]) ++ putL c true (A.drop (k + 1)) = putL c gn A by rw [← HPL.out]; simp [h2])
            clear h1 h2
            go_wp2_with fail
            go_region
            have HS1 := Lib.hid HS0.out.drew
            clear b0 b1 b2 hp0 hp1
            generalize wr.drew = W1 at HS1 ⊢
            obtain ⟨b0, b1, b2, _, _, _⟩ := row3 HS1.out.box
            obtain ⟨p0, p1⟩ := HP.out _ HS1.out.bel
            go_wp2_with fail
            go_region
            have HS2 := Lib.hid HS1.out.drew
            clear b0 b1 b2 p0 p1
            generalize W1.drew = W2 at HS2 ⊢
            obtain ⟨b0, b1, b2, _, _, _⟩ := row3 HS2.out.box
            obtain ⟨p0, p1⟩ := HP.out _ HS2.out.bel
            go_wp2_with (at_builtin; refine wpList_append_own_at _ rfl _ _ 44 rfl (w.heap.size + 1) 187 i0 _ 2 32 Tryz.underlying44 hi0 hz0 hz1 hz2 rfl (by decide) (.slice oq m ocap) m _ rfl (HS2.out.row.alloc _) ⟨W2.heap.size, 0, none⟩ 1 1 [.string (bs x1), .string (bs x2)] rfl rfl (by intro j u hj; rw [add_plain, cell_new_row]; exact (Array.getElem?_toList ▸ hj)) (by simp [Value.oneCell']) (by unfold maxLen; omega) (by omega) (by rw [World.size_alloc]; have := blk_lt HS2.out.box; omega) ?_; intro v2 w2 ho2 hg2 _ _; obtain ⟨g2, cap2, rfl⟩ := ownsRow_succ ho2; have HT2 := Lib.hid (HS2.out.add hg2 ho2); clear ho2 hg2)
            go_roundw
            case rel => exact ⟨k + 1, m + 1, o ++ [(x1, x2)], true, by omega, by simp [HOM.out], by omega, by go_num, rfl, HN.out, HT2.out⟩
            case measure => simp [intOf]; omega
    · obtain rfl : k = A.length := by omega
      rw [List.drop_length] at hpl
      obtain ⟨b0, b1, b2, _, _, _⟩ := row3 hst.box
      clear hst
      cases d with
      | false =>
        have HN := Lib.hid (show o ++ [(c.name, c.data)] = Chg.on A c by rw [← HE.out, ← hpl]; rfl)
        clear hpl
        go_wp2_with (at_builtin; refine wpList_append_own_at _ rfl _ _ 44 rfl (w.heap.size + 1) 187 i0 _ 2 32 Tryz.underlying44 hi0 hz0 hz1 hz2 rfl (by decide) (.slice oq m ocap) m _ rfl (HS0.out.row.alloc _) ⟨wr.heap.size, 0, none⟩ 1 1 [.string (bs c.name), .string (bs c.data)] rfl rfl (by intro j u hj; rw [add_plain, cell_new_row]; exact (Array.getElem?_toList ▸ hj)) (by simp [Value.oneCell']) (by unfold maxLen; omega) (by omega) (by rw [World.size_alloc]; have := blk_lt HS0.out.box; omega) ?_; intro v0 w0 ho0 hg0 _ _; obtain ⟨g0, cap0, rfl⟩ := ownsRow_succ ho0; have HT0 := Lib.hid (HS0.out.add hg0 ho0); clear ho0 hg0)
        go_ret
        refine ⟨_, rfl, ?_, HT0.out.bel⟩
        rw [← HN.out]
        unfold FRow
        rw [List.length_append, HOM.out]
        exact FRow.low' HT0.out.row (by omega)
      | true =>
        have HN := Lib.hid (show o = Chg.on A c by rw [← HE.out, ← hpl]; exact (List.append_nil o).symm)
        clear hpl
        go_wp2_with fail
        go_ret
        refine ⟨_, rfl, ?_, HS0.out.bel⟩
        rw [← HN.out]
        unfold FRow
        rw [HOM.out]
        exact FRow.low' HS0.out.row (by omega)
-- TUP
end
end Go.Proofs.YtoaihngckcbhiaaGreatDoor
end
section
namespace Go.Proofs.YtoaihngckcbhiaaGreatDoor
open Go.RowKit Go.Maps
open Fil Man
section
variable {w w' : World}
theorem used_snoc (A : M) (k : Nat) (h : k < A.length) : used (A.take (k + 1)) = used (A.take k) + 8 + A[k].1.length + A[k].2.length := by
  unfold used
  rw [List.take_succ_eq_append_getElem h, List.map_append, List.sum_append]
  simp [cost]; omega
theorem used_take (A : M) (k : Nat) : used (A.take k) ≤ used A := by
  unfold used
  have : ((A.take k).map cost).sum + ((A.drop k).map cost).sum = (A.map cost).sum := by rw [← List.sum_append, ← List.map_append, List.take_append_drop]
  omega
set_option maxRecDepth 100000 in
set_option maxHeartbeats 1000000 in
theorem rused6_any {q : Option Addr} {cap : Nat} {A : M} (h : FRow w 0 (.slice q A.length cap) A) (hc : used A ≤ 1000000000) :
    Calls Tryz.prog 101 #[.slice q A.length cap] w fun e w' => e = .returned (.int .i64 (used A : Nat)) ∧ Below w.heap.size w w' := by
  have HR := Lib.hid h
  have hul := used_len A
  clear h
  go_enter Tryz.func101, Tryz.ntmps101
  go_wp2_with fail
  go_loopw [3, 4] (fun n i wr => ∃ k : Nat, k ≤ A.length ∧ i = .int .i64 (k : Int) ∧ n = .int .i64 (used (A.take k) : Nat) ∧ Below w.heap.size w wr) (fun _ i _ => A.length - (intOf i).toNat)
  case atStart => exact ⟨0, Nat.zero_le _, rfl, rfl, Below.refl _ _⟩
  case round =>
    obtain ⟨k, hk, rfl, rfl, hb⟩ := hrel
    have HB := Lib.hid hb
    have hut := used_take A k
    by_cases hlt : k < A.length
    · obtain ⟨p, hidx, hp0, hp1⟩ := FRow.index (ownsRow_upd HR.out (Upd.of_below (F := fun _ => False) hb) (fun _ _ f => f)) hlt
      have hus := used_snoc A k hlt
      have hu2 := used_take A (k + 1)
      have HUS := Lib.hid hus
      obtain ⟨x1, hx1⟩ : ∃ x, A[k].1 = x := ⟨_, rfl⟩
      obtain ⟨x2, hx2⟩ : ∃ x, A[k].2 = x := ⟨_, rfl⟩
      rw [hx1] at hp0
      rw [hx2] at hp1
      rw [hx1, hx2] at HUS hus
      obtain ⟨U, hU⟩ : ∃ U, used (A.take k) = U := ⟨_, rfl⟩
      rw [hU] at HUS hus hut ⊢
      have hb1 : U + 8 + x1.length + x2.length ≤ 1000000000 := by omega
      clear hb hx1 hx2 hU hus hu2 hut
      go_wp2_with fail
      go_region
      all_goals
        go_wp2_with fail
        go_roundw
        case rel => exact ⟨k + 1, by omega, by go_num, by rw [HUS.out]; congr 1, HB.out.drew⟩
        case measure => simp [intOf]; omega
    · obtain rfl : k = A.length := by omega
      rw [List.take_length]
      go_wp2_with fail
      go_ret
      exact ⟨rfl, HB.out⟩
set_option maxRecDepth 100000 in
set_option maxHeartbeats 1000000 in
theorem rwith6_any {r cap : Nat} {a : Option Addr} {v : Value} {A : M} {most : Int} {l : List Chg} (h : RFil w r v A most) (hu : Up A) (hl : ChgsAt w a l) (hA : A.length ≤ 500000) (hll : l.length ≤ 500000) :
    Calls Tryz.prog 100 #[.pointer (some ⟨r, 0, none⟩), .slice a l.length cap] w fun e w' => ∃ v', e = .returned v' ∧ FRow w' 0 v' (made A l) ∧ Below w.heap.size w w' := by
  have c0 : w.cell? ⟨r, 0, none⟩ = some v := by rw [cell_of_row _ _ _ _ _ _ h.1]; rfl
  have HR := Lib.hid h.2; have HL := Lib.hid hl
  clear h hl
  go_enter Tryz.func100, Tryz.ntmps100
  go_wp2_with fail
  clear c0
  go_loopw [5, 6] (fun ov i wr => ∃ (k : Nat) (F : M), k ≤ l.length ∧ F = made A (l.take k) ∧ i = .int .i64 (k : Int) ∧ FRow wr 0 ov F ∧ Below w.heap.size w wr) (fun _ i _ => l.length - (intOf i).toNat)
  case atStart => exact ⟨0, A, Nat.zero_le _, rfl, rfl, HR.out, Below.refl _ _⟩
  case round =>
    obtain ⟨k, F, hk, hF, rfl, hrow, hb⟩ := hrel
    obtain ⟨oq, ocap, rfl⟩ := slice_len hrow
    have HB := Lib.hid hb; have HW := Lib.hid hrow; have HF := Lib.hid hF
    have hFl : F.length ≤ 1000000 := by
      have := made_length A (l.take k)
      rw [hF]
      rw [List.length_take] at this
      omega
    have hFu : Up F := by rw [hF]; exact hu.made _
    clear hrow hF
    by_cases hlt : k < l.length
    · obtain ⟨p, hidx, hp, _⟩ := (HL.out.below hb).index cap k hlt
      obtain ⟨p0, p1, p2⟩ := hp.cells
      have HPUT := Lib.hid (rput6_any (w := wr) l[k] HW.out hFu hFl)
      have HMS := Lib.hid (show made A (l.take (k + 1)) = Chg.on (made A (l.take k)) l[k] by rw [List.take_succ_eq_append_getElem hlt, made_snoc])
      generalize l[k] = c at *
      clear hb hp hFu
      go_wp2_with fail
      refine HPUT.out.mono ?_
      rintro e w2 ⟨v2, rfl, hr2, hb2⟩
      have HR2 := Lib.hid hr2
      have HB2 := Lib.hid (HB.out.trans (hb2.mono HB.out.size))
      clear hr2 hb2
      go_wp2_with fail
      go_roundw
      case rel => exact ⟨k + 1, Chg.on F c, by omega, by rw [HMS.out, HF.out], by go_num, FRow.low' HR2.out (Nat.zero_le _), HB2.out⟩
      case measure => simp [intOf]; omega
    · obtain rfl : k = l.length := by omega
      have HE := Lib.hid (show F = made A l by rw [HF.out, List.take_length])
      clear hb
      go_wp2_with fail
      go_ret
      exact ⟨_, rfl, by rw [← HE.out]; exact HW.out, HB.out⟩
theorem get_at {A : M} {k : Nat} {nm : T} (hk : k < A.length) (h : ∀ j, (hj : j < A.length) → j < k → A[j].1 ≠ nm) (he : A[k].1 = nm) : Fil.get A nm = some A[k].2 := by
  unfold Fil.get
  rw [List.find?_eq_some_iff_getElem.2 ⟨by simpa using he, k, hk, rfl, fun j hj => by simpa using h j (by omega) hj⟩]
  rfl
theorem get_no {A : M} {nm : T} (h : ∀ j, (hj : j < A.length) → A[j].1 ≠ nm) : Fil.get A nm = none := get_none.2 fun p hp => by
  obtain ⟨j, hj, rfl⟩ := List.getElem_of_mem hp
  exact h j hj
set_option maxRecDepth 100000 in
set_option maxHeartbeats 1000000 in
theorem rget6_any {r : Nat} {v : Value} {A : M} {most : Int} (h : RFil w r v A most) (hA : A.length ≤ 1000000) (nm : T) :
    Calls Tryz.prog 76 #[.pointer (some ⟨r, 0, none⟩), .string (bs nm)] w fun e w' => e = .returned (.tuple #[.string (bs ((Fil.get A nm).getD [])), .bool (Fil.get A nm).isSome]) ∧ Below w.heap.size w w' := by
  obtain ⟨oq, ocap, rfl⟩ := slice_len h.2
  have HR := Lib.hid h
  clear h
  go_enter Tryz.func76, Tryz.ntmps76
  go_wp2_with fail
  go_loopw [6] (fun i wr => ∃ k : Nat, k ≤ A.length ∧ i = .int .i64 (k : Int) ∧ (∀ j, (hj : j < A.length) → j < k → A[j].1 ≠ nm) ∧ Below w.heap.size w wr) (fun i _ => A.length - (intOf i).toNat)
  case atStart => exact ⟨0, Nat.zero_le _, rfl, fun j _ e => by omega, Below.refl _ _⟩
  case round =>
    obtain ⟨k, hk, rfl, hall, hb⟩ := hrel
    have HALL := Lib.hid hall; have HB := Lib.hid hb
    have hr := HR.out.below hb
    have c0 : wr.cell? ⟨r, 0, none⟩ = some (.slice oq A.length ocap) := by rw [cell_of_row _ _ _ _ _ _ hr.1]; rfl
    clear hall
    by_cases hlt : k < A.length
    · obtain ⟨p, hidx, hp0, hp1⟩ := FRow.index hr.2 hlt
      obtain ⟨x1, hx1⟩ : ∃ x, A[k].1 = x := ⟨_, rfl⟩
      obtain ⟨x2, hx2⟩ : ∃ x, A[k].2 = x := ⟨_, rfl⟩
      rw [hx1] at hp0
      rw [hx2] at hp1
      by_cases he : x1 = nm
      · have HG := Lib.hid (get_at hlt HALL.out (hx1.trans he))
        rw [hx2] at HG
        subst he
        clear hr hb hx1 hx2
        go_wp2_with fail
        go_ret2
        exact ⟨by rw [HG.out]; rfl, HB.out⟩
      · have heb : (x1 == nm) = false := by simpa using he
        have HNE := Lib.hid (show A[k].1 ≠ nm by rw [hx1]; exact he)
        clear hr hb hx1 hx2
        go_wp2_with fail
        go_roundw
        case rel => exact ⟨k + 1, by omega, by go_num, fun j hj hjk => by
          by_cases e : j = k
          · subst e; exact HNE.out
          · exact HALL.out j hj (by omega), HB.out⟩
        case measure => simp [intOf]; omega
    · have HG := Lib.hid (get_no (A := A) (nm := nm) (fun j hj => HALL.out j hj (by omega)))
      obtain rfl : k = A.length := by omega
      clear hr hb
      go_wp2_with fail
      go_ret2
      exact ⟨by rw [HG.out]; rfl, HB.out⟩
end
end Go.Proofs.YtoaihngckcbhiaaGreatDoor
end
section
namespace Go.Proofs.YtoaihngckcbhiaaGreatDoor
open Go.RowKit Go.Maps
open Fil Man
section
variable {w w' : World}
set_option maxRecDepth 100000 in
set_option maxHeartbeats 1000000 in
theorem rcommit6_any {r n cap : Nat} {a : Option Addr} {v : Value} {A : M} {l : List Chg} (h : RFil w r v A (roomN n)) (hu : Up A) (hl : ChgsAt w a l) (hn : n ≤ 16384) (hA : used A ≤ roomN n) (hll : l.length ≤ 100000) (hw : weigh l ≤ 900000) :
    Calls Tryz.prog 43 #[.pointer (some ⟨r, 0, none⟩), .slice a l.length cap] w fun e w' => e = .returned (.int .i64 (codeC n A l)) ∧ ∃ v', RFil w' r v' (nextC n A l) (roomN n) ∧ Upd (fun k => k = r) w w' := by
  have hroom := roomN_le hn
  have hul := used_len A
  have hus := used_made hu l
  have hok : ∀ c ∈ l, c.name.length ≤ maxLen ∧ c.data.length ≤ maxLen := fun c hc => by
    have := weigh_mem hc
    unfold maxLen
    omega
  have HR := Lib.hid h; have HL := Lib.hid hl; have HOK := Lib.hid hok
  clear h hl hok
  go_enter Tryz.func43, Tryz.ntmps43
  go_wp2_with fail
  go_loopw [5] (fun i wr => ∃ k : Nat, k ≤ l.length ∧ i = .int .i64 (k : Int) ∧ (l.take k).all Chg.may = true ∧ Below w.heap.size w wr) (fun i _ => l.length - (intOf i).toNat)
  case atStart => exact ⟨0, Nat.zero_le _, rfl, rfl, Below.refl _ _⟩
  case round =>
    obtain ⟨k, hk, rfl, hall, hb⟩ := hrel
    have HALL := Lib.hid hall; have HB := Lib.hid hb
    clear hall
    by_cases hlt : k < l.length
    · obtain ⟨p, hidx, hp, _⟩ := (HL.out.below hb).index cap k hlt
      obtain ⟨p0, p1, p2⟩ := hp.cells
      obtain ⟨o1, o2⟩ := HOK.out _ (List.getElem_mem hlt)
      have HM := Lib.hid (rmay6_any l[k].name l[k].data l[k].gone wr o1 o2)
      obtain ⟨mv, hmv⟩ : ∃ mv, Chg.may l[k] = mv := ⟨_, rfl⟩
      rw [show (⟨l[k].name, l[k].data, l[k].gone⟩ : Chg) = l[k] from rfl, hmv] at HM
      have HMV := Lib.hid hmv
      have hmem := List.getElem_mem hlt
      cases mv with
      | true =>
        have HN := Lib.hid (show (l.take (k + 1)).all Chg.may = true by rw [List.take_succ_eq_append_getElem hlt, List.all_append, HALL.out, Bool.true_and]; simp [HMV.out])
        clear hb hp hmem hmv o1 o2
        generalize l[k] = c at *
        go_wp2_with fail
        refine HM.out.mono ?_
        rintro e w2 ⟨rfl, hb2⟩
        have HB2 := Lib.hid (HB.out.trans (hb2.mono HB.out.size))
        clear hb2
        go_wp2_with fail
        go_roundw
        case rel => exact ⟨k + 1, by omega, by go_num, HN.out, HB2.out⟩
        case measure => simp [intOf]; omega
      | false =>
        have hna : l.all Chg.may = false := by
          rw [Bool.eq_false_iff]
          intro e
          rw [List.all_eq_true] at e
          rw [e _ hmem] at hmv
          cases hmv
        have HC := Lib.hid (show codeC n A l = 2 by unfold codeC; rw [if_pos hna])
        have HX := Lib.hid (show nextC n A l = A by unfold nextC; rw [if_neg (by rw [hna]; simp)])
        clear hb hp hmem hmv o1 o2 hna
        generalize l[k] = c at *
        go_wp2_with fail
        refine HM.out.mono ?_
        rintro e w2 ⟨rfl, hb2⟩
        have HB2 := Lib.hid (HB.out.trans (hb2.mono HB.out.size))
        clear hb2
        go_wp2_with fail
        go_ret
        exact ⟨by rw [HC.out]; rfl, v, by rw [HX.out]; exact HR.out.below HB2.out, Upd.of_below HB2.out⟩
    · obtain rfl : k = l.length := by omega
      have hall := HALL.out
      rw [List.take_length] at hall
      have HW := Lib.hid (rwith6_any (cap := cap) (HR.out.below hb) hu (HL.out.below hb) (by omega) (by omega))
      have HAL := Lib.hid hall
      clear hb hall HALL
      go_wp2_with fail
      refine HW.out.mono ?_
      rintro e w2 ⟨v2, rfl, hr2, hb2⟩
      obtain ⟨q2, cap2, rfl⟩ := slice_len hr2
      have HB2 := Lib.hid (HB.out.trans (hb2.mono HB.out.size))
      have HR2 := Lib.hid hr2
      have HUS := Lib.hid (fun (W : World) (hW : Below w2.heap.size w2 W) => rused6_any (ownsRow_upd hr2 (Upd.of_below (F := fun _ => False) hW) (fun _ _ f => f)) (by omega))
      have hrf := HR.out.below HB2.out
      have c1 : w2.cell? ⟨r, 1, none⟩ = some (.int .i64 (roomN n : Int)) := by rw [cell_of_row _ _ _ _ _ _ hrf.1]; rfl
      have HRF := Lib.hid hrf
      obtain ⟨F, hF⟩ : ∃ F, made A l = F := ⟨_, rfl⟩
      rw [hF] at HUS HR2 ⊢
      have HFE := Lib.hid hF
      obtain ⟨U, hU⟩ : ∃ U, used F = U := ⟨_, rfl⟩
      rw [hU] at HUS
      rw [hF, hU] at hus
      have HUE := Lib.hid hU
      clear hr2 hb2 hrf hU hF
      have hcod : codeC n A l = if roomN n < U then 4 else 0 := by
        unfold codeC
        rw [if_neg (by rw [HAL.out]; simp), HFE.out, HUE.out]
      have hnex : nextC n A l = if roomN n < U then A else F := by
        unfold nextC
        rw [HFE.out, HUE.out]
        by_cases e : roomN n < U
        · rw [if_pos e, if_neg (by omega)]
        · rw [if_neg e, if_pos ⟨HAL.out, by omega⟩]
      have HCN := Lib.hid (And.intro hcod hnex)
      clear hcod hnex hul hw hll hA hroom hlt hk
      by_cases hgt : roomN n < U
      · have hgi : (roomN n : Int) < (U : Int) := by omega
        have HG := Lib.hid hgt
        clear hgt
        go_wp2_with fail
        go_region_held3 (fun V => V.cell? ⟨r, 1, none⟩ = some (.int .i64 (roomN n : Int))) (go_keep)
          (first | (go_at_call 101; refine (HUS.out _ ((Below.refl _ _).drew)).mono ?_; rintro e wA ⟨rfl, hbA⟩; have HBA := Lib.hid (HB2.out.trans ((show Below w2.heap.size w2 wA from ((Below.refl _ w2).drew).trans hbA).mono HB2.out.size)); clear hbA; have cA : wA.cell? ⟨r, 1, none⟩ = some (.int .i64 (roomN n : Int)) := (by rw [cell_of_row _ _ _ _ _ _ (HR.out.below HBA.out).1]; rfl)))
        all_goals
          go_wp2_with fail
          go_ret
          exact ⟨by rw [HCN.out.1, if_pos HG.out]; rfl, v, by rw [HCN.out.2, if_pos HG.out]; exact HR.out.below HBA.out, Upd.of_below HBA.out⟩
      · have hgi : ¬ (roomN n : Int) < (U : Int) := by omega
        have HG := Lib.hid hgt
        clear hgt
        go_wp2_with fail
        go_region_held3 (fun V => V.cell? ⟨r, 1, none⟩ = some (.int .i64 (roomN n : Int))) (go_keep)
          (first | (go_at_call 101; refine (HUS.out _ ((Below.refl _ _).drew)).mono ?_; rintro e wA ⟨rfl, hbA⟩; have HBA := Lib.hid ((show Below w2.heap.size w2 wA from ((Below.refl _ w2).drew).trans hbA)); clear hbA; have cA : wA.cell? ⟨r, 1, none⟩ = some (.int .i64 (roomN n : Int)) := (by rw [cell_of_row _ _ _ _ _ _ (HR.out.below (HB2.out.trans (HBA.out.mono HB2.out.size))).1]; rfl)))
        all_goals
          have HBW := Lib.hid (HB2.out.trans (HBA.out.mono HB2.out.size))
          have hrf := HR.out.below HBW.out
          have d0 : wA.cell? ⟨r, 0, none⟩ = some v := by rw [cell_of_row _ _ _ _ _ _ hrf.1]; rfl
          have df := frozen_of_row _ _ 0 _ _ hrf.1
          have HRA := Lib.hid (And.intro hrf.1 (ownsRow_upd HR2.out (Upd.of_below (F := fun _ => False) HBA.out) (fun _ _ f => f)))
          clear hrf c1
          go_wp2_with fail
          go_ret
          refine ⟨by rw [HCN.out.1, if_neg HG.out]; rfl, .slice q2 F.length cap2, ?_, (Upd.of_below (F := fun k => k = r) HBW.out).setCell (p := ⟨r, 0, none⟩) (.inl rfl) _⟩
          rw [HCN.out.2, if_neg HG.out]
          refine ⟨heap_setCell_same _ _ 0 _ _ _ HRA.out.1, ownsRow_upd HRA.out.2 ((Upd.refl (fun k => k = r) wA).setCell (p := ⟨r, 0, none⟩) (.inl rfl) _) (fun g hg e => ?_)⟩
          rw [e] at hg
          exact BlkOf.ne (ownsRow_blk HRA.out.2 hg) ⟨_, _, HRA.out.1⟩ (by decide) rfl
end
end Go.Proofs.YtoaihngckcbhiaaGreatDoor
end
