/- How the document's disk (maslinref04) lies in memory. The document's disk: small methods; what is read. The document's disk: now. The document's disk: Fuse, Flush, Read. The document's disk: Read. The document's disk: Write. The document's disk: Write, walked. The document's disk: Write, every case. The document's disk: a row is copied; Copy. The document's disk: New. The document's disk: Crash. -/
import Derived.Test.YthbdflmckfgleaaDiskF
import Derived.Test.YthbdflmckfgleaaDiskFill
import Derived.Deep.RegionHeld3
import Derived.Maps.AppendAt
import Derived.OneCell
import Derived.Laws.OwnMore
namespace Go.Proofs.Ythbdflmckfgleaa
open Go.RowKit Go.Maps

/-- Texts as cells. -/
@[irreducible] def strCells (l : List (List UInt8)) : List Value := l.map fun s => Value.string (bs s)
theorem strCells_length (l : List (List UInt8)) : (strCells l).length = l.length := by unfold strCells; simp
theorem strCells_get (l : List (List UInt8)) (i : Nat) (h : i < l.length) : (strCells l)[i]? = some (.string (bs l[i])) := by
  unfold strCells
  rw [List.getElem?_map, List.getElem?_eq_getElem h]; rfl
theorem strCells_snoc (l : List (List UInt8)) (s : List UInt8) : strCells (l ++ [s]) = strCells l ++ [.string (bs s)] := by unfold strCells; simp
theorem strCells_one (l : List (List UInt8)) : ∀ u ∈ strCells l, u.oneCell' = true := by
  intro u hu
  unfold strCells at hu
  obtain ⟨s, _, rfl⟩ := List.mem_map.1 hu
  rfl
theorem strCells_set (l : List (List UInt8)) (i : Nat) (s : List UInt8) : (strCells l).set i (.string (bs s)) = strCells (l.set i s) := by
  unfold strCells; rw [List.map_set]
/-- The document's loose writes as cells. -/
@[irreducible] def rputCells (l : List (Nat × List UInt8)) : List Value := l.flatMap fun p => [Value.int .i64 (p.1 : Int), .string (bs p.2)]
theorem rputCells_nil : rputCells [] = [] := by unfold rputCells; rfl
theorem rputCells_snoc (l : List (Nat × List UInt8)) (p : Nat × List UInt8) : rputCells (l ++ [p]) = rputCells l ++ [.int .i64 (p.1 : Int), .string (bs p.2)] := by unfold rputCells; simp
theorem rputCells_length (l : List (Nat × List UInt8)) : (rputCells l).length = l.length * 2 := by
  induction l with
  | nil => rw [rputCells_nil]; rfl
  | cons p l ih =>
    have e : rputCells (p :: l) = [Value.int .i64 (p.1 : Int), .string (bs p.2)] ++ rputCells l := by unfold rputCells; rfl
    rw [e, List.length_append, ih]; simp; omega
theorem rputCells_get (l : List (Nat × List UInt8)) (k : Nat) (hk : k < l.length) : (rputCells l)[k * 2]? = some (.int .i64 (l[k].1 : Int)) ∧ (rputCells l)[k * 2 + 1]? = some (.string (bs l[k].2)) := by
  induction l generalizing k with
  | nil => simp at hk
  | cons p l ih =>
    have e : rputCells (p :: l) = Value.int .i64 (p.1 : Int) :: .string (bs p.2) :: rputCells l := by unfold rputCells; rfl
    rw [e]
    cases k with
    | zero => exact ⟨rfl, rfl⟩
    | succ k =>
      have := ih k (by simpa using hk)
      rw [show (k + 1) * 2 = k * 2 + 1 + 1 by omega]
      simpa using this
theorem rputCells_one (l : List (Nat × List UInt8)) : ∀ u ∈ rputCells l, u.oneCell' = true := by
  intro u hu
  unfold rputCells at hu
  obtain ⟨p, _, h⟩ := List.mem_flatMap.1 hu
  simp at h
  rcases h with rfl | rfl <;> rfl

/-- The sectors, as texts. -/
def Dsk.rows (D : Dsk) : List (List UInt8) := (List.range D.n).map D.base
theorem Dsk.rows_length (D : Dsk) : D.rows.length = D.n := by simp [Dsk.rows]
theorem Dsk.rows_get (D : Dsk) (i : Nat) (h : i < D.rows.length) : D.rows[i] = D.base i := by simp [Dsk.rows]

/-- The document's disk in memory. -/
structure RefIn (w : World) (b : Nat) (bv lv : Value) (D : Dsk) : Prop where
  struct : w.heap[b]? = some (.cells #[bv, lv, .int .i64 D.left, .bool D.down] 119)
  base : w.ownsRow 0 9 1 bv D.n (strCells D.rows)
  loose : w.ownsRow 0 123 2 lv D.loose.length (rputCells D.loose)
  bb : bv.ownBlock ≠ some b
  lb : lv.ownBlock ≠ some b
  bl : ∀ g, bv.ownBlock = some g → lv.ownBlock ≠ some g
  fine : D.Fine
def refBlocks (b : Nat) (bv lv : Value) (k : Nat) : Prop := k = b ∨ bv.ownBlock = some k ∨ lv.ownBlock = some k
theorem RefIn.upd {F : Nat → Prop} {w w' : World} {b : Nat} {bv lv : Value} {D : Dsk} (h : RefIn w b bv lv D) (hu : Upd F w w') (hF : ∀ k, refBlocks b bv lv k → ¬ F k) : RefIn w' b bv lv D :=
  ⟨by rw [hu.block b (Array.getElem?_eq_some_iff.1 h.struct).1 (hF b (.inl rfl))]; exact h.struct, ownsRow_upd h.base hu (fun g hg => hF g (.inr (.inl hg))), ownsRow_upd h.loose hu (fun g hg => hF g (.inr (.inr hg))), h.bb, h.lb, h.bl, h.fine⟩
theorem RefIn.below {w w' : World} {b : Nat} {bv lv : Value} {D : Dsk} (h : RefIn w b bv lv D) (hb : Below w.heap.size w w') : RefIn w' b bv lv D := h.upd (Upd.of_below (F := fun _ => False) hb) (fun _ _ f => f)
theorem RefIn.cells {w : World} {b : Nat} {bv lv : Value} {D : Dsk} (h : RefIn w b bv lv D) :
    w.cell? ⟨b, 0, none⟩ = some bv ∧ w.cell? ⟨b, 1, none⟩ = some lv ∧ w.cell? ⟨b, 2, none⟩ = some (.int .i64 D.left) ∧ w.cell? ⟨b, 3, none⟩ = some (.bool D.down) ∧ ∀ j, w.frozen? ⟨b, j, none⟩ = false := by
  refine ⟨?_, ?_, ?_, ?_, fun j => frozen_of_row w b j _ _ h.struct⟩ <;> rw [cell_of_row w b _ _ _ _ h.struct] <;> rfl
/-- A block of texts. -/
def StrBlk (w : World) (k : Nat) : Prop := ∃ cs fr, w.heap[k]? = some (.cells cs 9 fr)
/-- Of a disk's blocks those that are written to: no texts. -/
def NoStr (w : World) (fp : Nat → Prop) (k : Nat) : Prop := fp k ∧ ¬ StrBlk w k
theorem Upd.noStr {fp fp1 : Nat → Prop} {w w1 w2 : World} (h : Upd (NoStr w fp) w w1) (k : Upd (NoStr w1 fp1) w1 w2) (hs : Stays fp fp1 w) : Upd (NoStr w fp) w w2 := h.trans k (fun i hi => by
  rcases hs i hi.1 with h1 | h1
  · by_cases hlt : i < w.heap.size
    · refine .inl ⟨h1, fun hs => hi.2 ?_⟩
      obtain ⟨cs, fr, e⟩ := hs
      exact ⟨cs, fr, (h.block i hlt (fun hn => hn.2 ⟨cs, fr, e⟩)).trans e⟩
    · exact .inr (by omega)
  · exact .inr h1)
theorem RefIn.noB {w : World} {b : Nat} {bv lv : Value} {D : Dsk} (h : RefIn w b bv lv D) : ¬ StrBlk w b := by
  rintro ⟨cs, fr, e⟩
  rw [h.struct] at e
  injection e with e
  injection e with _ e _
  revert e; decide
theorem RefIn.noL {w : World} {b : Nat} {bv lv : Value} {D : Dsk} (h : RefIn w b bv lv D) {k : Nat} (hk : lv.ownBlock = some k) : ¬ StrBlk w k := by
  rintro ⟨cs, fr, e⟩
  rcases h.loose.2 with ⟨e1, _⟩ | ⟨g, cap, cur, e1, _, hg, _⟩
  · subst e1; simp [Value.ownBlock] at hk
  · subst e1
    simp [Value.ownBlock] at hk
    subst hk
    rw [hg] at e
    injection e with e
    injection e with _ e _
    revert e; decide
theorem RefIn.lt {w : World} {b : Nat} {bv lv : Value} {D : Dsk} (h : RefIn w b bv lv D) : ∀ k, refBlocks b bv lv k → k < w.heap.size := by
  rintro k (rfl | hk | hk)
  · exact (Array.getElem?_eq_some_iff.1 h.struct).1
  · exact ownsRow_lt h.base hk
  · exact ownsRow_lt h.loose hk
end Go.Proofs.Ythbdflmckfgleaa

namespace Go.Proofs.Ythbdflmckfgleaa
open Go.RowKit Go.Maps

/-- The first N sectors, as texts. -/
def rowsN (f : Nat → List UInt8) (N : Nat) : List (List UInt8) := (List.range N).map f
theorem rowsN_length (f : Nat → List UInt8) (N : Nat) : (rowsN f N).length = N := by simp [rowsN]
theorem rowsN_get (f : Nat → List UInt8) (N i : Nat) (h : i < (rowsN f N).length) : (rowsN f N)[i] = f i := by simp [rowsN]
theorem rowsN_set (f : Nat → List UInt8) (N i : Nat) (x : List UInt8) : (rowsN f N).set i x = rowsN (fun k => if k = i then x else f k) N := by
  apply List.ext_getElem
  · simp [rowsN]
  · intro j h1 h2
    rw [List.getElem_set]
    simp only [rowsN, List.getElem_map, List.getElem_range]
    by_cases h : i = j
    · subst h; simp
    · rw [if_neg h, if_neg (fun e => h e.symm)]
theorem ownsRow_set {w : World} {base : Nat} {e : TypeId} {g n cap : Nat} {xs : List Value} (h : w.ownsRow base e 1 (.slice (some ⟨g, 0, none⟩) n cap) n xs) (i : Nat) (v : Value) : (w.setCell ⟨g, i, none⟩ v).ownsRow base e 1 (.slice (some ⟨g, 0, none⟩) n cap) n (xs.set i v) := by
  obtain ⟨h1, h2⟩ := h
  refine ⟨by rw [List.length_set]; exact h1, ?_⟩
  rcases h2 with ⟨e1, _⟩ | ⟨g', cap', cur, e1, hb, hg, hn, hm, hcs, ht⟩
  · cases e1
  · injection e1 with e2 _ e3
    injection e2 with e4
    injection e4 with e5
    subst e5; subst e3
    refine .inr ⟨g, cap, cur.setIfInBounds i v, rfl, hb, heap_setCell_same w g i _ _ v hg, hn, hm, by rw [Array.size_setIfInBounds]; exact hcs, ?_⟩
    rw [Array.toList_setIfInBounds, ← ht, List.take_set]

set_option maxRecDepth 100000 in
theorem zero_any (w : World) : Calls Try.prog 72 #[] w fun e w' => e = .returned (.string (bs sec0)) ∧ Below w.heap.size w w' := by
  obtain ⟨C, hmk0, hrow⟩ := u8_made w 64 (by omega)
  have hmk : (Instr.makeSlice 35 (.int .i64 64) (.int .i64 64)).run Try.prog w = .ok (.slice (some ⟨w.heap.size, 0, none⟩) 64 64) (w.alloc (.cells C 5)) := hmk0
  clear hmk0
  have hb := (Below.refl w.heap.size w).alloc (Nat.le_refl _) (.cells C 5)
  have hbytes := run_bytes_bs Try.prog (w.alloc (.cells C 5)) 35 5 9 Try.underlying35 Try.underlying5 Try.underlying9 w.heap.size 0 64 64 sec0 rfl (fun i h => by rw [Nat.zero_add]; exact hrow.cell i h)
  have HB := Lib.hid hb
  clear hb hrow
  go_enter Try.func72, Try.ntmps72
  go_wp2_with fail
  go_ret
  exact ⟨rfl, HB.out⟩
set_option maxRecDepth 100000 in
theorem may_any (n : Int) (w : World) : Calls Try.prog 37 #[.int .i64 n] w fun e w' => e = .returned (.bool (decide (1 ≤ n) && decide (n ≤ 16384))) ∧ w = w' := by
  by_cases h1 : 1 ≤ n
  · by_cases h2 : n ≤ 16384
    all_goals
      go_enter Try.func37, Try.ntmps37
      go_wp2_with fail
      go_ret
      exact ⟨by first | (simp [*]; done) | (simp; omega), rfl⟩
  · go_enter Try.func37, Try.ntmps37
    go_wp2_with fail
    go_ret
    exact ⟨by first | (simp [*]; done) | (simp; omega), rfl⟩
theorem slice_len {w : World} {base e s : Nat} {v : Value} {n : Nat} {xs : List Value} (h : w.ownsRow base e s v n xs) : ∃ q cap, v = .slice q n cap := by
  rcases h.2 with ⟨e1, e2⟩ | ⟨g, cap, _, e1, _⟩
  · exact ⟨none, 0, by rw [e1, e2]⟩
  · exact ⟨_, cap, e1⟩
set_option maxRecDepth 100000 in
set_option maxHeartbeats 1000000 in
theorem rin_any {w : World} {b : Nat} {bv lv : Value} {D : Dsk} (h : RefIn w b bv lv D) (at_ n : Int) (_h1 : -9223372036854775808 ≤ at_) (_h2 : at_ ≤ 9223372036854775807) (_h3 : -9223372036854775808 ≤ n) (_h4 : n ≤ 9223372036854775807) :
    Calls Try.prog 75 #[.pointer (some ⟨b, 0, none⟩), .int .i64 at_, .int .i64 n] w fun e w' => e = .returned (.bool (D.inside at_ n)) ∧ w = w' := by
  obtain ⟨c0, _, _, _, _⟩ := h.cells
  obtain ⟨q, cap, rfl⟩ := slice_len h.base
  have hN := h.fine.n2
  generalize hNN : D.n = N at *
  have hI : Hid (D.inside at_ n = (decide (0 ≤ at_) && decide (0 ≤ n) && decide (at_ ≤ N) && decide (n ≤ N - at_))) := Lib.hid (by unfold Dsk.inside; rw [hNN])
  clear h hNN
  by_cases a1 : 0 ≤ at_
  · by_cases a2 : 0 ≤ n
    · by_cases a3 : at_ ≤ N
      · by_cases a4 : n ≤ N - at_
        all_goals
          go_enter Try.func75, Try.ntmps75
          go_wp2_with fail
          go_ret
          exact ⟨by rw [hI.out]; first | (simp [*]; done) | (simp; omega), rfl⟩
      · go_enter Try.func75, Try.ntmps75
        go_wp2_with fail
        go_ret
        exact ⟨by rw [hI.out]; first | (simp [*]; done) | (simp; omega), rfl⟩
    · go_enter Try.func75, Try.ntmps75
      go_wp2_with fail
      go_ret
      exact ⟨by rw [hI.out]; first | (simp [*]; done) | (simp; omega), rfl⟩
  · go_enter Try.func75, Try.ntmps75
    go_wp2_with fail
    go_ret
    exact ⟨by rw [hI.out]; first | (simp [*]; done) | (simp; omega), rfl⟩
end Go.Proofs.Ythbdflmckfgleaa

namespace Go.Proofs.Ythbdflmckfgleaa
open Go.RowKit Go.Maps

theorem str_info : (Try.prog.info? 9).map (fun i => (i.zero, i.size, i.bytes)) = some (some (.string ByteArray.empty), 1, 16) := by kernel_rfl
theorem rput_elem : (Try.prog.info? 123).map (·.size) = some 2 := by kernel_rfl
/-- A row of texts is copied: 'append([]string(nil), l...)'. -/
theorem strs_range {w : World} {base : Nat} {g n cap : Nat} {l : List (List UInt8)} (h : w.ownsRow base 9 1 (.slice (some ⟨g, 0, none⟩) n cap) n (strCells l)) : ∀ j u, (strCells l)[j]? = some u → w.cell? ((⟨g, 0, none⟩ : Addr).add j) = some u := h.cells (g := g) rfl

theorem ownsRow_free {w : World} {base e s : Nat} {g n cap : Nat} {xs : List Value} (h : w.ownsRow base e s (.slice (some ⟨g, 0, none⟩) n cap) n xs) (i : Nat) : w.frozen? ⟨g, i, none⟩ = false := by
  rcases h.2 with ⟨e1, _⟩ | ⟨g', cap', cur, e1, hb, hg, _⟩
  · cases e1
  · injection e1 with e2 _ e3
    injection e2 with e4
    injection e4 with e5
    subst e5
    exact frozen_of_row w g i _ _ hg
theorem far_drew {w : World} {p a : Addr} {v u : Value} (h : w.cell? a = some u) (hne : p.block ≠ a.block) : (w.setCell p v).drew.cell? a = some u := (World.cell?_setCell_far w p a v hne).trans h
theorem far_drew' {w : World} {p a : Addr} {v u : Value} (h : w.cell? a = some u) (hne : p.block ≠ a.block) : (w.drew.setCell p v).cell? a = some u := (World.cell?_setCell_far w.drew p a v hne).trans h
theorem add_plain (g i : Nat) : (⟨g, 0, none⟩ : Addr).add i = ⟨g, i, none⟩ := by unfold Addr.add; split <;> simp_all

set_option maxRecDepth 100000 in
set_option maxHeartbeats 2000000 in
theorem rnow_any {w : World} {b : Nat} {bv lv : Value} {D : Dsk} (h : RefIn w b bv lv D) (hlen : D.loose.length ≤ 1000000000) :
    Calls Try.prog 100 #[.pointer (some ⟨b, 0, none⟩)] w fun e w' => ∃ sv, e = .returned sv ∧ w'.ownsRow 0 9 1 sv D.n (strCells (rowsN D.now D.n)) ∧ Below w.heap.size w w' ∧ ∀ g, sv.ownBlock = some g → w.heap.size ≤ g := by
  obtain ⟨c0, c1, _, _, _⟩ := h.cells
  have hn1 := h.fine.n1
  have hn2 := h.fine.n2
  obtain ⟨g, cap, rfl⟩ : ∃ g cap, bv = .slice (some ⟨g, 0, none⟩) D.n cap := by
    rcases h.base.2 with ⟨_, e2⟩ | ⟨g, cap, _, e1, _⟩
    · omega
    · exact ⟨g, cap, e1⟩
  have hrows : strCells D.rows = strCells (rowsN D.base D.n) := rfl
  have hcells := h.base.cells (g := g) rfl
  rw [hrows] at hcells
  obtain ⟨q, lcap, rfl⟩ := slice_len h.loose
  have H := Lib.hid h
  clear h hrows
  obtain ⟨i0, hi0, hz0, hz1, hz2⟩ := info_parts str_info
  go_enter Try.func100, Try.ntmps100
  go_wp2_with (at_builtin; refine wpList_append_own_at _ rfl _ _ _ rfl 0 9 i0 _ 1 16 Try.underlying31 hi0 hz0 hz1 hz2 rfl (by omega) (.slice none 0 0) 0 [] rfl (World.ownsRow_nil _ _ _ _) ⟨g, 0, none⟩ D.n cap (strCells (rowsN D.base D.n)) rfl (by rw [strCells_length, rowsN_length, Nat.mul_one]) hcells (strCells_one _) (by unfold maxLen; omega) (by omega) (Nat.zero_le _) ?_; intro v' w1 hown hgrow _ hat)
  rw [Nat.zero_add, List.nil_append] at hown
  obtain ⟨g1, cap1, rfl⟩ : ∃ g1 cap1, v' = .slice (some ⟨g1, 0, none⟩) D.n cap1 := by
    rcases hown.2 with ⟨_, e2⟩ | ⟨g1, cap1, _, e1, _⟩
    · omega
    · exact ⟨g1, cap1, e1⟩
  have hg1 : g1 = w.heap.size := by
    rcases hat with e | e
    · cases e
    · exact Option.some.inj e
  subst hg1
  have hb1 : Below w.heap.size w w1 := (Below.refl _ w).grown hgrow (Nat.le_refl _) (fun k e => by cases e)
  have HOWN := Lib.hid hown
  have HB1 := Lib.hid hb1
  clear hown hgrow hat hb1 hcells c0
  go_wp2_with fail
  go_loopw [4] (fun i wr => ∃ k : Nat, k ≤ D.loose.length ∧ i = .int .i64 k ∧ wr.ownsRow 0 9 1 (.slice (some ⟨w.heap.size, 0, none⟩) D.n cap1) D.n (strCells (rowsN (Dsk.lay D.base (D.loose.take k)) D.n)) ∧ Below w.heap.size w wr) (fun i _ => D.loose.length - (intOf i).toNat)
  case atStart => exact ⟨0, by omega, rfl, HOWN.out, HB1.out⟩
  case round =>
    clear HOWN HB1
    obtain ⟨k, hk, rfl, hown, hb⟩ := hrel
    have hr := H.out.below hb
    obtain ⟨_, d1, _, _, _⟩ := hr.cells
    have HO := Lib.hid hown
    have HB := Lib.hid hb
    by_cases hlt : k < D.loose.length
    · obtain ⟨gl, rfl⟩ : ∃ gl, q = some ⟨gl, 0, none⟩ := by
        rcases hr.loose.2 with ⟨e1, e2⟩ | ⟨gl, _, _, e1, _⟩
        · omega
        · exact ⟨gl, by injection e1⟩
      obtain ⟨e1, e2⟩ := rputCells_get D.loose k hlt
      have l1 := hr.loose.cells (g := gl) rfl _ _ e1
      have l2 := hr.loose.cells (g := gl) rfl _ _ e2
      rw [add_plain] at l1 l2
      obtain ⟨p1, p2⟩ := H.out.fine.loose D.loose[k] (List.getElem_mem hlt)
      have hix1 := run_index_slice Try.prog 117 123 Try.underlying117 2 rput_elem ⟨gl, 0, none⟩ D.loose.length lcap k hlt
      have hix2 := run_index_slice Try.prog 31 9 Try.underlying31 1 (by kernel_rfl) ⟨w.heap.size, 0, none⟩ D.n cap1 D.loose[k].1 p1
      rw [add_plain] at hix1 hix2
      rw [Nat.mul_one] at hix2
      have HS := Lib.hid (Dsk.lay_take_succ D.base D.loose k hlt)
      have hfr := ownsRow_free hown D.loose[k].1
      have hold := hown.cells (g := w.heap.size) rfl D.loose[k].1 _ (strCells_get _ _ (by rw [rowsN_length]; exact p1))
      rw [add_plain] at hold
      have hbl : b ≠ w.heap.size := by have := H.out.lt b (.inl rfl); omega
      have hgl : gl ≠ w.heap.size := by have := H.out.lt gl (.inr (.inr rfl)); omega
      generalize D.loose[k] = p at *
      have keepA := fun (v : Value) => And.intro (far_drew (p := ⟨w.heap.size, p.1, none⟩) (v := v) d1 (Ne.symm hbl)) (And.intro (far_drew (p := ⟨w.heap.size, p.1, none⟩) (v := v) l1 (Ne.symm hgl)) (far_drew (p := ⟨w.heap.size, p.1, none⟩) (v := v) l2 (Ne.symm hgl)))
      clear hown hb hr e1 e2 p2
      go_wp2_with fail
      go_region_held3 (fun w' => w'.cell? ⟨b, 1, none⟩ = some (.slice (some ⟨gl, 0, none⟩) D.loose.length lcap) ∧ w'.cell? ⟨gl, k * 2, none⟩ = some (.int .i64 (p.1 : Int)) ∧ w'.cell? ⟨gl, k * 2 + 1, none⟩ = some (.string (bs p.2))) (first | go_keep | exact keepA _) (fail)
      go_wp2_with fail
      refine ⟨⟨k + 1, by omega, rfl, ?_, (HB.out.setCell (p := ⟨w.heap.size, p.1, none⟩) (Nat.le_refl _) _).drew⟩, ?_⟩
      · have hset := (ownsRow_set HO.out p.1 (.string (bs p.2))).drew
        rw [strCells_set, rowsN_set] at hset
        rw [HS.out]
        exact hset
      · show D.loose.length - ((k : Int) + 1).toNat < D.loose.length - ((k : Int)).toNat
        omega
    · obtain rfl : k = D.loose.length := by omega
      rw [List.take_length] at HO
      clear hown hb hr
      go_wp2_with fail
      go_ret
      refine ⟨_, rfl, HO.out, HB.out, fun g e => ?_⟩
      have e' : some w.heap.size = some g := e
      have := Option.some.inj e'
      omega
end Go.Proofs.Ythbdflmckfgleaa

namespace Go.Proofs.Ythbdflmckfgleaa
open Go.RowKit Go.Maps

def RefAt (w : World) (b : Nat) (D : Dsk) (fp : Nat → Prop) : Prop := ∃ bv lv, RefIn w b bv lv D ∧ fp = refBlocks b bv lv

set_option maxRecDepth 100000 in
set_option maxHeartbeats 400000 in
theorem rfuse_any {w : World} {b : Nat} {D : Dsk} {fp : Nat → Prop} (h : RefAt w b D fp) (n : Int) (hn : n ≤ 9223372036854775807) :
    Calls Try.prog 71 #[.pointer (some ⟨b, 0, none⟩), .int .i64 n] w fun e w' => (∃ v, e = .returned v) ∧ RefAt w' b (D.fuse n) fp ∧ Upd (NoStr w fp) w w' := by
  obtain ⟨bv, lv, hI, rfl⟩ := h
  obtain ⟨_, _, c2, _, cf⟩ := hI.cells
  have cf2 := cf 2
  have H := Lib.hid hI
  have hmx : (if n < -1 then (-1 : Int) else n) = max n (-1) := by split <;> omega
  generalize hM : max n (-1) = M at hmx
  have HM := Lib.hid hM
  clear hI cf hM
  go_enter Try.func71, Try.ntmps71
  go_wp2_with fail
  go_end0
  have hu : Upd (fun k => k = b) w (w.setCell ⟨b, 2, none⟩ (.int .i64 M)) := (Upd.refl (fun k => k = b) w).setCell (p := ⟨b, 2, none⟩) (.inl rfl) _
  refine ⟨⟨_, rfl⟩, ⟨bv, lv, ⟨?_, ?_, ?_, H.out.bb, H.out.lb, H.out.bl, H.out.fine.fuse hn⟩, rfl⟩, hu.mono (fun _ e => ⟨Or.inl e, by rw [e]; exact H.out.noB⟩)⟩
  · rw [heap_setCell_same w b 2 _ _ _ H.out.struct, ← HM.out]
    rfl
  · exact ownsRow_upd H.out.base hu (fun g hg e => H.out.bb (by rw [hg, e]))
  · exact ownsRow_upd H.out.loose hu (fun g hg e => H.out.lb (by rw [hg, e]))

set_option maxRecDepth 100000 in
set_option maxHeartbeats 400000 in
theorem rflush_any {w : World} {b : Nat} {D : Dsk} {fp : Nat → Prop} (h : RefAt w b D fp) (hlen : D.loose.length ≤ 1000000000) :
    Calls Try.prog 70 #[.pointer (some ⟨b, 0, none⟩)] w fun e w' => e = .returned (.int .i64 D.flush.2) ∧ ∃ fp', RefAt w' b D.flush.1 fp' ∧ Upd (NoStr w fp) w w' ∧ Stays fp fp' w := by
  obtain ⟨bv, lv, hI, rfl⟩ := h
  obtain ⟨_, _, _, c3, _⟩ := hI.cells
  have H := Lib.hid hI
  clear hI
  by_cases hd : D.down = true
  · have hF : D.flush = (D, 40) := by unfold Dsk.flush; rw [if_pos hd]
    rw [hF]
    rw [hd] at c3
    clear hF hd
    go_enter Try.func70, Try.ntmps70
    go_wp2_with fail
    go_ret
    exact ⟨rfl, _, ⟨bv, lv, H.out, rfl⟩, Upd.refl _ _, fun _ h => .inl h⟩
  · have hd' : D.down = false := by simpa using hd
    have hfin : D.flush.1.Fine := H.out.fine.flush
    have hF : D.flush = ({ D with base := Dsk.lay D.base D.loose, loose := [] }, 0) := by unfold Dsk.flush; rw [if_neg hd]
    rw [hF] at hfin ⊢
    rw [hd'] at c3
    have HF := Lib.hid hfin
    clear hF hd hd' hfin
    go_enter Try.func70, Try.ntmps70
    go_wp2_with fail
    refine (rnow_any H.out hlen).mono ?_
    rintro e w1 ⟨sv, rfl, hrow, hb, hnew⟩
    have h1 := H.out.below hb
    obtain ⟨d0, d1, _, _, df⟩ := h1.cells
    have df0 := df 0
    have df1 := df 1
    have H1 := Lib.hid h1
    have HR := Lib.hid hrow
    have HB := Lib.hid hb
    have HN := Lib.hid hnew
    obtain ⟨q, cap, rfl⟩ := slice_len hrow
    clear h1 hrow hb hnew df c3
    go_wp2_with fail
    go_ret
    have hbl : b < w.heap.size := H.out.lt b (.inl rfl)
    have hu : Upd (fun k => k = b) w1 ((w1.setCell ⟨b, 0, none⟩ (.slice q D.n cap)).setCell ⟨b, 1, none⟩ (.slice none 0 0)) := ((Upd.refl (fun k => k = b) w1).setCell (p := ⟨b, 0, none⟩) (.inl rfl) _).setCell (p := ⟨b, 1, none⟩) (.inl rfl) _
    refine ⟨rfl, _, ⟨.slice q D.n cap, .slice none 0 0, ⟨?_, ?_, ?_, fun e => ?_, by simp [Value.ownBlock], fun _ _ => by simp [Value.ownBlock], HF.out⟩, rfl⟩, ?_, ?_⟩
    · have e1 := heap_setCell_same w1 b 0 _ _ (.slice q D.n cap) H1.out.struct
      exact heap_setCell_same _ b 1 _ _ (.slice none 0 0) e1
    · exact ownsRow_upd HR.out hu (fun g hg e => by have := HN.out g hg; omega)
    · show World.ownsRow _ 0 _ 2 (.slice none 0 0) 0 _
      rw [rputCells_nil]
      exact World.ownsRow_nil _ _ _ _
    · have := HN.out b e; omega
    · exact (Upd.of_below HB.out).trans hu (fun i e => .inl ⟨.inl e, by rw [e]; exact H.out.noB⟩)
    · rintro k (rfl | hk | hk)
      · exact .inl (.inl rfl)
      · exact .inr (HN.out k hk)
      · simp [Value.ownBlock] at hk
end Go.Proofs.Ythbdflmckfgleaa

namespace Go.Proofs.Ythbdflmckfgleaa
open Go.RowKit Go.Maps

set_option maxRecDepth 100000 in
set_option maxHeartbeats 1000000 in
theorem rread_any {w : World} {b : Nat} {D : Dsk} {fp : Nat → Prop} (h : RefAt w b D fp) (hlen : D.loose.length ≤ 1000000000) (a n : Int) (ha : -9223372036854775808 ≤ a ∧ a ≤ 9223372036854775807) (hn : -9223372036854775808 ≤ n ∧ n ≤ 9223372036854775807) :
    Calls Try.prog 69 #[.pointer (some ⟨b, 0, none⟩), .int .i64 a, .int .i64 n] w fun e w' => e = .returned (.tuple #[.string (bs (D.read a n).1), .int .i64 (D.read a n).2]) ∧ Below w.heap.size w w' := by
  obtain ⟨bv, lv, hI, rfl⟩ := h
  obtain ⟨_, _, _, c3, _⟩ := hI.cells
  have H := Lib.hid hI
  by_cases hd : D.down = true
  · have e : D.read a n = ([], 40) := by unfold Dsk.read; rw [if_pos hd]
    rw [e]
    rw [hd] at c3
    clear e hd
    go_enter Try.func69, Try.ntmps69
    go_wp2_with fail
    go_ret2
    exact ⟨rfl, Below.refl _ _⟩
  · have hd' : D.down = false := by simpa using hd
    rw [hd'] at c3
    cases hi : D.inside a n with
    | false =>
      have e : D.read a n = ([], 2) := by unfold Dsk.read; rw [if_neg hd, hi, if_neg (by decide)]
      rw [e]
      have HIN := Lib.hid hi
      clear e hd hd' hi
      go_enter Try.func69, Try.ntmps69
      go_wp2_with fail
      refine (rin_any hI a n ha.1 ha.2 hn.1 hn.2).mono ?_
      rw [HIN.out]
      rintro e w1 ⟨rfl, rfl⟩
      go_wp2_with fail
      go_ret2
      exact ⟨rfl, Below.refl _ _⟩
    | true =>
      have e : D.read a n = (Dsk.text D.now a.toNat n.toNat, 0) := by unfold Dsk.read; rw [if_neg hd, hi, if_pos rfl]
      rw [e]
      have h2 := hi
      simp only [Dsk.inside, Bool.and_eq_true, decide_eq_true_eq] at h2
      obtain ⟨A, rfl⟩ : ∃ A : Nat, a = (A : Int) := ⟨a.toNat, by omega⟩
      obtain ⟨M, rfl⟩ : ∃ M : Nat, n = (M : Int) := ⟨n.toNat, by omega⟩
      rw [Int.toNat_natCast, Int.toNat_natCast]
      have hAM : A + M ≤ D.n := by omega
      have hn2 := hI.fine.n2
      have hnow := hI.fine.now
      have HNOW := Lib.hid hnow
      have HIN := Lib.hid hi
      clear e hd hd' hi h2 hnow
      go_enter Try.func69, Try.ntmps69
      go_wp2_with fail
      refine (rin_any hI A M ha.1 ha.2 hn.1 hn.2).mono ?_
      rw [HIN.out]
      rintro e w1 ⟨rfl, rfl⟩
      clear hI
      go_wp2_with fail
      refine (rnow_any H.out hlen).mono ?_
      rintro e w1 ⟨sv, rfl, hrow, hb, _⟩
      have HB := Lib.hid hb
      have HR := Lib.hid hrow
      obtain ⟨q, cap, rfl⟩ := slice_len hrow
      clear hrow hb c3
      go_wp2_with fail
      go_loop [9, 10] (fun s i => ∃ k : Nat, k ≤ M ∧ i = .int .i64 ((A : Int) + (k : Int)) ∧ s = .string (bs (Dsk.text D.now A k))) (fun _ i => A + M - (intOf i).toNat)
      case atStart => exact ⟨0, by omega, by simp, rfl⟩
      case round =>
        obtain ⟨k, hk, rfl, rfl⟩ := hrel
        by_cases hlt : k < M
        · obtain ⟨g, rfl⟩ : ∃ g, q = some ⟨g, 0, none⟩ := by
            rcases HR.out.2 with ⟨e1, e2⟩ | ⟨g, _, _, e1, _⟩
            · omega
            · exact ⟨g, by injection e1⟩
          have hcell := HR.out.cells (g := g) rfl (A + k) _ (strCells_get _ _ (by rw [rowsN_length]; omega))
          rw [rowsN_get, add_plain] at hcell
          have hix := run_index_slice Try.prog 31 9 Try.underlying31 1 (by kernel_rfl) ⟨g, 0, none⟩ D.n cap (A + k) (by omega)
          rw [add_plain, Nat.mul_one, Int.natCast_add] at hix
          have HT := Lib.hid (Dsk.text_snoc D.now A k)
          have hl1 : (Dsk.text D.now A k).length = 64 * k := Dsk.len_in (fun i _ h2 => HNOW.out i (by omega))
          have hl2 : (D.now (A + k)).length = 64 := HNOW.out _ (by omega)
          generalize Dsk.text D.now A k = T at *
          generalize D.now (A + k) = X at *
          go_wp2_with fail
          refine ⟨⟨k + 1, by omega, ?_, by rw [HT.out]⟩, ?_⟩
          · rw [Int.natCast_add, Int.add_assoc]; rfl
          · show A + M - ((A : Int) + (k : Int) + 1).toNat < A + M - ((A : Int) + (k : Int)).toNat
            omega
        · obtain rfl : k = M := by omega
          go_wp2_with fail
          go_ret2
          exact ⟨rfl, HB.out⟩
end Go.Proofs.Ythbdflmckfgleaa

namespace Go.Proofs.Ythbdflmckfgleaa
open Go.RowKit Go.Maps

theorem rput_info3 : (Try.prog.info? 123).map (fun i => (i.zero, i.size, i.bytes)) = some (some (.agg #[.int .i64 0, .string ByteArray.empty]), 2, 24) := by kernel_rfl

/-- One loose write more. -/
theorem rwrote {w1 W w2 : World} {b : Nat} {bv lk : Value} {E : Dsk} (h : RefIn w1 b bv lk E) (hW : Below w1.heap.size w1 W) (hgrow : W.grownBy w2 lk.ownBlock) {gg cap a : Nat} {x : List UInt8} {L : Int} {C : List Value} {N : Nat} (hN : E.loose.length + 1 = N)
    (hown : w2.ownsRow 0 123 2 (.slice (some ⟨gg, 0, none⟩) N cap) N C) (hC : C = rputCells (E.loose ++ [(a, x)])) (hat : lk.ownBlock = some gg ∨ w1.heap.size ≤ gg) (ha : a < E.n) (hx : x.length = 64) (hL : -1 ≤ L ∧ L ≤ 9223372036854775807) :
    RefIn ((w2.setCell ⟨b, 1, none⟩ (.slice (some ⟨gg, 0, none⟩) N cap)).setCell ⟨b, 2, none⟩ (.int .i64 L)) b bv (.slice (some ⟨gg, 0, none⟩) N cap) { E with loose := E.loose ++ [(a, x)], left := L } ∧
    Upd (NoStr w1 (refBlocks b bv lk)) w1 ((w2.setCell ⟨b, 1, none⟩ (.slice (some ⟨gg, 0, none⟩) N cap)).setCell ⟨b, 2, none⟩ (.int .i64 L)) ∧ Stays (refBlocks b bv lk) (refBlocks b bv (.slice (some ⟨gg, 0, none⟩) N cap)) w1 := by
  subst hC; subst hN
  have hb : b < w1.heap.size := (Array.getElem?_eq_some_iff.1 h.struct).1
  have u2 : Upd (fun k => lk.ownBlock = some k) w1 w2 := (Upd.of_below hW).trans (Upd.of_grownBy (F := fun k => lk.ownBlock = some k) hgrow (fun k e => e)) (fun k hk => .inl hk)
  have u1 : Upd (NoStr w1 (refBlocks b bv lk)) w1 w2 := u2.mono (fun k e => ⟨.inr (.inr e), h.noL e⟩)
  have hgb : gg ≠ b := fun e => by
    rcases hat with hat | hat
    · exact h.lb (by rw [hat, e])
    · omega
  have hgm : ∀ g, bv.ownBlock = some g → gg ≠ g := fun g hg e => by
    rcases hat with hat | hat
    · exact h.bl g hg (by rw [hat, e])
    · have := ownsRow_lt h.base hg; omega
  have hs : w2.heap[b]? = some (.cells #[bv, lk, .int .i64 E.left, .bool E.down] 119) := by
    rw [u2.block b hb h.lb]; exact h.struct
  have hF : Dsk.Fine { E with loose := E.loose ++ [(a, x)], left := L } := by
    refine ⟨h.fine.n1, h.fine.n2, h.fine.base, fun p hp => ?_, hL⟩
    rcases List.mem_append.1 hp with hp | hp
    · exact h.fine.loose p hp
    · simp at hp; subst hp; exact ⟨ha, hx⟩
  have hv : ∀ (v v' : Value), Upd (fun k => k = b) w2 ((w2.setCell ⟨b, 1, none⟩ v).setCell ⟨b, 2, none⟩ v') := fun v v' => ((Upd.refl (fun k => k = b) w2).setCell (p := ⟨b, 1, none⟩) (.inl rfl) v).setCell (p := ⟨b, 2, none⟩) (.inl rfl) v'
  refine ⟨⟨?_, ?_, ?_, h.bb, fun e => hgb (by simpa [Value.ownBlock] using e), fun g hg e => hgm g hg (by simpa [Value.ownBlock] using e), hF⟩, ?_, ?_⟩
  · have e1 := heap_setCell_same w2 b 1 _ _ (.slice (some ⟨gg, 0, none⟩) (E.loose.length + 1 : Nat) cap) hs
    have e2 := heap_setCell_same _ b 2 _ _ (.int .i64 L) e1
    exact e2
  · exact ownsRow_upd (ownsRow_upd h.base u2 (fun g hg e => h.bl g hg e)) (hv _ _) (fun g hg e => h.bb (by rw [hg, e]))
  · have e : (E.loose ++ [(a, x)]).length = E.loose.length + 1 := by simp
    show World.ownsRow _ 0 _ 2 _ (E.loose ++ [(a, x)]).length _
    rw [e]
    exact ownsRow_upd hown (hv _ _) (fun g hg e => hgb (by simp [Value.ownBlock] at hg; omega))
  · exact (u1.setCell (p := ⟨b, 1, none⟩) (.inl ⟨.inl rfl, h.noB⟩) _).setCell (p := ⟨b, 2, none⟩) (.inl ⟨.inl rfl, h.noB⟩) _
  · rintro k (rfl | hk | hk)
    · exact .inl (.inl rfl)
    · exact .inl (.inr (.inl hk))
    · simp [Value.ownBlock] at hk
      subst hk
      rcases hat with hat | hat
      · exact .inl (.inr (.inr hat))
      · exact .inr hat
theorem rput_one (i : Int) (s : List UInt8) : ∀ u ∈ [Value.int .i64 i, .string (bs s)], u.oneCell' = true := by
  intro u hu
  simp at hu
  rcases hu with rfl | rfl <;> rfl
end Go.Proofs.Ythbdflmckfgleaa

namespace Go.Proofs.Ythbdflmckfgleaa
open Go.RowKit Go.Maps

set_option maxRecDepth 100000 in
set_option maxHeartbeats 2000000 in
theorem rwrite_in {w : World} {b : Nat} {bv lv : Value} {D : Dsk} (h : RefIn w b bv lv D) (a : Nat) (s : List UInt8) (hd : D.down = false) (n : Nat) (hs : s.length = 64 * n) (hi : D.inside a n = true) (hloose : D.loose.length + n ≤ 1000000000) :
    Calls Try.prog 43 #[.pointer (some ⟨b, 0, none⟩), .int .i64 a, .string (bs s)] w fun e w' => e = .returned (.int .i64 (Dsk.writes D a s n).2) ∧ ∃ lv', RefIn w' b bv lv' (Dsk.writes D a s n).1 ∧ Upd (NoStr w (refBlocks b bv lv)) w w' ∧ Stays (refBlocks b bv lv) (refBlocks b bv lv') w := by
  obtain ⟨_, _, _, c3, _⟩ := h.cells
  rw [hd] at c3
  have HI := Lib.hid hi
  have hN := h.fine.n2
  have hin : a + n ≤ D.n := by
    simp [Dsk.inside] at hi
    omega
  clear hd hi
  have HS := Lib.hid hs
  have hq : ((s.length : Int) / 64) = (n : Int) := by omega
  have hr : (s.length : Int) % 64 = 0 := by omega
  have HD := Lib.hid h
  clear hs
  go_enter Try.func43, Try.ntmps43
  go_wp2_with fail
  refine (rin_any h a n (by omega) (by omega) (by omega) (by omega)).mono ?_
  rw [HI.out]
  rintro e w1 ⟨rfl, rfl⟩
  clear h hq hr c3
  go_wp2_with fail
  go_loopw [8] (fun i wr => ∃ (k : Nat) (lk : Value) (E : Dsk), k ≤ n ∧ i = .int .i64 k ∧ RefIn wr b bv lk E ∧ E.n = D.n ∧ E.loose.length = D.loose.length + k ∧ Dsk.writes D a s n = Dsk.writes E (a + k) (s.drop (64 * k)) (n - k) ∧ Upd (NoStr w (refBlocks b bv lv)) w wr ∧ Stays (refBlocks b bv lv) (refBlocks b bv lk) w) (fun i _ => n - (intOf i).toNat)
  case atStart => exact ⟨0, lv, D, by omega, rfl, HD.out, rfl, rfl, by rw [Nat.mul_zero, List.drop_zero]; rfl, Upd.refl _ _, fun _ h => .inl h⟩
  case round =>
    obtain ⟨k, lk, E, hk, rfl, hE, hEn, hEl, hW, hU, hS⟩ := hrel
    obtain ⟨c0, c1, c2, c3, cf⟩ := hE.cells
    by_cases hlt : k < n
    · obtain ⟨hx1, hx2⟩ := chunk s k (by rw [HS.out]; omega)
      have hstep : Dsk.writes E (a + k) (s.drop (64 * k)) (n - k) = if E.left = 0 then ({ E with down := true }, 40) else Dsk.writes { E with loose := E.loose ++ [(a + k, (s.drop (64 * k)).take 64)], left := max (E.left - 1) (-1) } (a + k + 1) ((s.drop (64 * k)).drop 64) (n - (k + 1)) := by
        rw [show n - k = (n - (k + 1)) + 1 by omega]; rfl
      have HST := Lib.hid hstep
      have HE := Lib.hid hE; have HEN := Lib.hid hEn; have HEL := Lib.hid hEl; have HW := Lib.hid hW; have HU := Lib.hid hU; have HSS := Lib.hid hS
      have HX1 := Lib.hid hx1; have HX2 := Lib.hid hx2
      have cf3 := cf 3; have cf2 := cf 2; have cf1 := cf 1
      clear hstep hE hEn hEl hW hU hS hx1 hx2 cf c0
      by_cases hl0 : E.left = 0
      · have hb0 : (E.left == 0) = true := by simp [hl0]
        have HL := Lib.hid hl0
        clear hl0
        go_wp2_with fail
        go_ret
        have hu : Upd (fun k => k = b) wr (wr.setCell ⟨b, 3, none⟩ (.bool true)) := (Upd.refl (fun k => k = b) wr).setCell (p := ⟨b, 3, none⟩) (.inl rfl) _
        refine ⟨by rw [HW.out, HST.out, if_pos HL.out]; rfl, lk, ?_, HU.out.setCell (p := ⟨b, 3, none⟩) (.inl ⟨.inl rfl, HD.out.noB⟩) _, HSS.out⟩
        rw [HW.out, HST.out, if_pos HL.out]
        refine ⟨?_, ?_, ?_, HE.out.bb, HE.out.lb, HE.out.bl, ⟨HE.out.fine.n1, HE.out.fine.n2, HE.out.fine.base, HE.out.fine.loose, HE.out.fine.left⟩⟩
        · exact heap_setCell_same wr b 3 _ _ (.bool true) HE.out.struct
        · exact ownsRow_upd HE.out.base hu (fun g hg e => HE.out.bb (by rw [hg, e]))
        · exact ownsRow_upd HE.out.loose hu (fun g hg e => HE.out.lb (by rw [hg, e]))
      · have hb0 : (E.left == 0) = false := by simp [hl0]
        have HL := Lib.hid hl0
        clear hl0
        have hsl : 64 * (k + 1) ≤ s.length := by rw [HS.out]; omega
        have hxe : List.drop (k * 64) (List.take ((k + 1) * 64) s) = (s.drop (64 * k)).take 64 := by rw [Nat.mul_comm k, Nat.mul_comm (k + 1)]; exact HX1.out
        have HREST : Hid ((s.drop (64 * k)).drop 64 = s.drop (64 * (k + 1))) := Lib.hid (by rw [List.drop_drop, show 64 * k + 64 = 64 * (k + 1) by omega])
        generalize (s.drop (64 * k)).take 64 = x at *
        have hlow := HE.out.loose
        have hne2 := HE.out.lb
        have hcount : (E.loose.length + 1) * 24 ≤ 140737488355328 := by rw [HEL.out]; omega
        obtain ⟨i0, hi0, hz0, hz1, hz2⟩ := info_parts rput_info3
        have hwr : IntKind.i64.wrap ((a : Int) + (k : Int)) = (a : Int) + (k : Int) := IntWalk.i64_in _ (by omega)
        obtain ⟨hl1, hl2⟩ := HE.out.fine.left
        have hw1 : IntKind.i64.wrap ((k : Int) + 1) = (k : Int) + 1 := IntWalk.i64_in _ (by omega)
        have hw2 : IntKind.i64.wrap (((k : Int) + 1) * 64) = ((k : Int) + 1) * 64 := IntWalk.i64_in _ (by omega)
        have hw3 : IntKind.i64.wrap ((k : Int) * 64) = (k : Int) * 64 := IntWalk.i64_in _ (by omega)
        have hb1 : (0 : Int) ≤ ((k : Int) + 1) * 64 := by omega
        have hb2 : ((k : Int) + 1) * 64 ≤ (s.length : Int) := by omega
        have hb3 : (0 : Int) ≤ (k : Int) * 64 := by omega
        have hb4 : (k : Int) * 64 ≤ ((k : Int) + 1) * 64 := by omega
        have hb5 : (k : Int) ≤ (k : Int) + 1 := by omega
        have ht1 : ((k : Int) * 64).toNat = k * 64 := by omega
        have ht2 : (((k : Int) + 1) * 64).toNat = (k + 1) * 64 := by omega
        have k1 : ∀ ob, (wr.alloc ob).drew.cell? ⟨b, 1, none⟩ = some lk ∧ (wr.alloc ob).drew.frozen? ⟨b, 1, none⟩ = false := fun ob => by
          have hb := (Below.refl wr.heap.size wr).alloc (Nat.le_refl _) ob
          exact ⟨(hb.cell (block_lt_of_cell c1)).trans c1, (hb.frozen (block_lt_of_cell c1)).trans cf1⟩
        have k2 : ∀ ob, (wr.alloc ob).drew.cell? ⟨b, 2, none⟩ = some (.int .i64 E.left) ∧ (wr.alloc ob).drew.frozen? ⟨b, 2, none⟩ = false := fun ob => by
          have hb := (Below.refl wr.heap.size wr).alloc (Nat.le_refl _) ob
          exact ⟨(hb.cell (block_lt_of_cell c2)).trans c2, (hb.frozen (block_lt_of_cell c2)).trans cf2⟩
        go_wp2_with fail
        go_region_law
          ((refine step_append_lies _ (by rfl) _ _ _ (by rfl) 0 123 i0 _ 2 24 Try.underlying117 hi0 hz0 hz1 hz2 (by rfl) (by omega) lk E.loose.length (rputCells E.loose) (by rfl) ((hlow.alloc _).drew) ⟨wr.heap.size, 0, none⟩ 1 1 [.int .i64 ((a : Int) + (k : Int)), .string (bs x)] (by rfl) (by rfl) (World.news_of_block (cs := #[.int .i64 ((a : Int) + (k : Int)), .string (bs x)]) (t := 123) (fr := (0, 0)) (heap_alloc_new wr _)) (rput_one _ _) (by omega) (by unfold maxLen; omega) hcount (by omega) (wr.heap.size + 1) (by simp) ?_; intro gg cap2 w2 hown1 hgrow hat hlt2; have hc2 := hgrow.cell (k1 _).1 (Ne.symm hne2); have hfz2 := (hgrow.frozen_far _ (block_lt_of_cell (k1 _).1) (Ne.symm hne2)).trans (k1 _).2; have hc3 := hgrow.cell (k2 _).1 (Ne.symm hne2); have hfz3 := (hgrow.frozen_far _ (block_lt_of_cell (k2 _).1) (Ne.symm hne2)).trans (k2 _).2))
        all_goals
          clear k1 k2 hw1 hw2 hw3 hb1 hb2 hb3 hb4 hb5 ht1 ht2 c1 c2 c3 cf1 cf2 cf3 hcount hi0 hz0 hz1 hz2 hxe
          have hmx : (if E.left - 1 < -1 then (-1 : Int) else E.left - 1) = max (E.left - 1) (-1) := by split <;> omega
          generalize hM : max (E.left - 1) (-1) = M at hmx
          have HM := Lib.hid hM
          have hMr : -1 ≤ M ∧ M ≤ 9223372036854775807 := by omega
          have HMR := Lib.hid hMr
          clear hM hMr
          go_wp2_with fail
          have hbw : Below wr.heap.size wr ((wr.alloc (Obj.cells #[.int .i64 ((a : Int) + (k : Int)), .string (bs x)] 123)).drew) := ((Below.refl _ wr).alloc (Nat.le_refl _) _).drew
          obtain ⟨g1, g2, g3⟩ := rwrote (a := a + k) (L := M) HE.out hbw hgrow rfl hown1 (by rw [rputCells_snoc, Int.natCast_add]) (hat.imp (fun h => h) (fun h => by omega)) (by have := HEN.out; omega) HX2.out HMR.out
          go_roundw
          case rel =>
            refine ⟨k + 1, _, _, by omega, by go_num, g1, HEN.out, ?_, ?_, ?_, ?_⟩
            · show (E.loose ++ [(a + k, x)]).length = _
              rw [List.length_append, HEL.out]; rfl
            · rw [HW.out, HST.out, if_neg HL.out, HREST.out, HM.out]
              rfl
            · exact HU.out.noStr g2 HSS.out
            · intro i hi
              have hsz3 := HU.out.size
              rcases g3 i hi with h | h
              · exact HSS.out i h
              · exact .inr (by omega)
          case measure => simp [intOf]; omega
    · have hkn : k = n := by omega
      subst hkn
      have HE := Lib.hid hE; have HW := Lib.hid hW; have HU := Lib.hid hU; have HSS := Lib.hid hS
      clear hE hW hU hS hEn hEl c0 c1 c2 c3 cf
      go_wp2_with fail
      go_ret
      rw [HW.out, Nat.sub_self]
      exact ⟨rfl, lk, HE.out, HU.out, HSS.out⟩
end Go.Proofs.Ythbdflmckfgleaa

namespace Go.Proofs.Ythbdflmckfgleaa
open Go.RowKit Go.Maps

set_option maxRecDepth 100000 in
set_option maxHeartbeats 1000000 in
theorem rwrite_any {w : World} {b : Nat} {D : Dsk} {fp : Nat → Prop} (h : RefAt w b D fp) (a : Int) (s : List UInt8) (ha : -9223372036854775808 ≤ a ∧ a ≤ 9223372036854775807) (hl : s.length ≤ 1000000000) (hloose : D.loose.length + s.length / 64 ≤ 1000000000) :
    Calls Try.prog 43 #[.pointer (some ⟨b, 0, none⟩), .int .i64 a, .string (bs s)] w fun e w' => e = .returned (.int .i64 (D.write a s).2) ∧ ∃ fp', RefAt w' b (D.write a s).1 fp' ∧ Upd (NoStr w fp) w w' ∧ Stays fp fp' w := by
  obtain ⟨bv, lv, hI, rfl⟩ := h
  obtain ⟨_, _, _, c3, _⟩ := hI.cells
  by_cases hd : D.down = true
  · have hW : D.write a s = (D, 40) := by unfold Dsk.write; rw [if_pos hd]
    rw [hW]
    rw [hd] at c3
    have HI := Lib.hid hI
    clear hW hd hI
    go_enter Try.func43, Try.ntmps43
    go_wp2_with fail
    go_ret
    exact ⟨rfl, _, ⟨bv, lv, HI.out, rfl⟩, Upd.refl _ _, fun _ h => .inl h⟩
  · have hd' : D.down = false := by simpa using hd
    by_cases hc : s.length % 64 = 0 ∧ D.inside a (s.length / 64 : Nat) = true
    · have hW : D.write a s = Dsk.writes D a.toNat s (s.length / 64) := by unfold Dsk.write; rw [if_neg hd, if_pos hc]
      obtain ⟨h1, h2⟩ := hc
      have h3 := h2
      simp only [Dsk.inside, Bool.and_eq_true, decide_eq_true_eq] at h3
      have e : a = (a.toNat : Int) := by omega
      rw [hW]
      have hE := rwrite_in hI a.toNat s hd' (s.length / 64) (by omega) (by rw [← e]; exact h2) hloose
      rw [← e] at hE
      refine hE.mono ?_
      rintro e w1 ⟨rfl, lv', g1, g2, g3⟩
      exact ⟨rfl, _, ⟨bv, lv', g1, rfl⟩, g2, g3⟩
    · have hW : D.write a s = (D, 2) := by unfold Dsk.write; rw [if_neg hd, if_neg hc]
      rw [hW]
      rw [hd'] at c3
      have HI := Lib.hid hI
      by_cases hr : (s.length : Int) % 64 = 0
      · have hin : D.inside a (s.length / 64 : Nat) = false := by
          rcases hb : D.inside a (s.length / 64 : Nat) with _ | _
          · rfl
          · exact absurd ⟨by omega, hb⟩ hc
        have HIN := Lib.hid hin
        clear hW hd hd' hc hin
        have hq : ((s.length : Int) / 64) = ((s.length / 64 : Nat) : Int) := by omega
        generalize s.length / 64 = n at *
        go_enter Try.func43, Try.ntmps43
        go_wp2_with fail
        refine (rin_any hI a n (by omega) (by omega) (by omega) (by omega)).mono ?_
        rw [HIN.out]
        rintro e w1 ⟨rfl, rfl⟩
        clear hI
        go_wp2_with fail
        go_ret
        exact ⟨rfl, _, ⟨bv, lv, HI.out, rfl⟩, Upd.refl _ _, fun _ h => .inl h⟩
      · clear hW hd hd' hc hI
        go_enter Try.func43, Try.ntmps43
        go_wp2_with fail
        go_ret
        exact ⟨rfl, _, ⟨bv, lv, HI.out, rfl⟩, Upd.refl _ _, fun _ h => .inl h⟩
end Go.Proofs.Ythbdflmckfgleaa

namespace Go.Proofs.Ythbdflmckfgleaa
open Go.RowKit Go.Maps

/-- 'append([]T(nil), l...)': a row is copied. -/
theorem run_copy_row {P : Program} (w : World) (t ty e : TypeId) (i : TypeInfo) (z : Value) (size bytes : Nat) (ht : P.underlying t = some (.slice e)) (hi : P.info? e = some i) (hz : i.zero = some z)
    (hsize : i.size = size) (hby : i.bytes = bytes) (hzs : z.cells.size = size) (hsz : 0 < size) (v : Value) (n : Nat) (xs : List Value) (h1 : ∀ u ∈ xs, u.oneCell' = true) (h : w.ownsRow 0 e size v n xs)
    (hn : n ≤ maxLen) (hb : n * bytes ≤ 140737488355328) :
    ∃ v' w', (Builtin.append_ #[t, t] ty #[.slice none 0 0, v]).run P w = .ok v' w' ∧ w'.ownsRow 0 e size v' n xs ∧ Below w.heap.size w w' ∧ ∀ g, v'.ownBlock = some g → w.heap.size ≤ g := by
  rcases h.2 with ⟨e1, e2⟩ | ⟨g, cap, cur, e1, _⟩
  · subst e1; subst e2
    have hl : xs = [] := by
      have := h.1
      rw [Nat.zero_mul] at this
      exact List.length_eq_zero_iff.1 this
    subst hl
    exact ⟨_, w, run_append_owned_none (P := P) (w := w) 0 t ty e i size ht hi _ 0 [] (World.ownsRow_nil _ _ _ _), World.ownsRow_nil _ _ _ _, Below.refl _ _, fun g e => by simp [Value.ownBlock] at e⟩
  · subst e1
    obtain ⟨v', w', hr, g2, g3, _, g5⟩ := run_append_own_at (P := P) w 0 t ty e i z size bytes ht hi hz hsize hby hzs hsz (.slice none 0 0) 0 [] (World.ownsRow_nil _ _ _ _) ⟨g, 0, none⟩ n cap xs h.1 (h.cells (g := g) rfl) h1 (by omega) (by rw [Nat.zero_add]; exact hb) (Nat.zero_le _)
    rw [Nat.zero_add, List.nil_append] at g2
    refine ⟨v', w', hr, g2, (Below.refl _ w).grown g3 (Nat.le_refl _) (fun k e => by cases e), fun k hk => ?_⟩
    rcases g5 with g5 | g5
    · rw [g5] at hk; cases hk
    · rw [g5] at hk
      have := Option.some.inj hk
      omega
theorem step_copy_row {P : Program} {w : World} {ops : Array Oper} {o : Oper} {a : Act} {K : Act → World → Prop} {Q : Exit → Act → World → Prop} {E : Prop} (hgd : o.guard = none) (s x : Operand) (t : TypeId)
    (ho : o.op = .call { callee := .builtin .append, args := #[s, x], argTypes := #[t, t] }) (hs : a.eval s = .slice none 0 0) (v : Value) (hx : a.eval x = v)
    (e : TypeId) (i : TypeInfo) (z : Value) (size bytes : Nat) (ht : P.underlying t = some (.slice e)) (hi : P.info? e = some i) (hz : i.zero = some z)
    (hsize : i.size = size) (hby : i.bytes = bytes) (hzs : z.cells.size = size) (hsz : 0 < size) (n : Nat) (xs : List Value) (h1 : ∀ u ∈ xs, u.oneCell' = true) (hown : w.ownsRow 0 e size v n xs)
    (hn : n ≤ maxLen) (hb : n * bytes ≤ 140737488355328)
    (h : ∀ v' w', w'.ownsRow 0 e size v' n xs → Below w.heap.size w w' → (∀ g, v'.ownBlock = some g → w.heap.size ≤ g) → K (a.put o.dst v') w') :
    if Region.wanted o (yielded ops a.tmps) = true then Oper.wp P o a w K Q else E := by
  have hw : Region.wanted o (yielded ops a.tmps) = true := by simp [Region.wanted, hgd]
  rw [if_pos hw]
  obtain ⟨v', w', hr, h2, h3, h4⟩ := run_copy_row (P := P) w t o.type e i z size bytes ht hi hz hsize hby hzs hsz v n xs h1 hown hn hb
  unfold Oper.wp execOp
  simp only [ho, resolve, invoke, builtin, Sem.run_bind, Sem.run_pure, Result.andThen_ok, List.map_toArray, List.map_cons, List.map_nil, hs, hx, hr]
  exact h v' w' h2 h3 h4

theorem row_below {w w' : World} {base e s : Nat} {v : Value} {n : Nat} {xs : List Value} (h : w.ownsRow base e s v n xs) (hb : Below w.heap.size w w') : w'.ownsRow base e s v n xs := ownsRow_upd h (Upd.of_below (F := fun _ => False) hb) (fun _ _ f => f)

theorem rput_info4 : (Try.prog.info? 123).map (fun i => (i.zero, i.size, i.bytes)) = some (some (.agg #[.int .i64 0, .string ByteArray.empty]), 2, 24) := by kernel_rfl

set_option maxRecDepth 100000 in
set_option maxHeartbeats 2000000 in
theorem rcopy_any {w : World} {b : Nat} {D : Dsk} {fp : Nat → Prop} (h : RefAt w b D fp) (hlen : D.loose.length ≤ 1000000000) :
    Calls Try.prog 39 #[.pointer (some ⟨b, 0, none⟩)] w fun e w' => ∃ b' fp', e = .returned (.pointer (some ⟨b', 0, none⟩)) ∧ RefAt w' b' D fp' ∧ Below w.heap.size w w' ∧ ∀ k, fp' k → w.heap.size ≤ k := by
  obtain ⟨bv, lv, hI, rfl⟩ := h
  obtain ⟨c0, c1, c2, c3, _⟩ := hI.cells
  have hbl := hI.lt b (.inl rfl)
  have H := Lib.hid hI
  have hn2 := hI.fine.n2
  obtain ⟨i0, hi0, hz0, hz1, hz2⟩ := info_parts str_info
  obtain ⟨i1, hi1, hy0, hy1, hy2⟩ := info_parts rput_info4
  have keepS := fun (w' : World) (hb : Below w.heap.size w w') => (⟨(hb.cell (p := ⟨b, 0, none⟩) hbl).trans c0, (hb.cell (p := ⟨b, 1, none⟩) hbl).trans c1, (hb.cell (p := ⟨b, 2, none⟩) hbl).trans c2, (hb.cell (p := ⟨b, 3, none⟩) hbl).trans c3⟩ : w'.cell? ⟨b, 0, none⟩ = some bv ∧ w'.cell? ⟨b, 1, none⟩ = some lv ∧ w'.cell? ⟨b, 2, none⟩ = some (.int .i64 D.left) ∧ w'.cell? ⟨b, 3, none⟩ = some (.bool D.down))
  have KS := Lib.hid keepS
  have hdr : Below w.heap.size w w.drew := (Below.refl _ _).drew
  have HDR := Lib.hid hdr
  clear hI c0 c1 c2 c3 keepS hdr
  go_enter Try.func39, Try.ntmps39
  go_wp2_with fail
  go_region_held3 (fun w' => w'.cell? ⟨b, 0, none⟩ = some bv ∧ w'.cell? ⟨b, 1, none⟩ = some lv ∧ w'.cell? ⟨b, 2, none⟩ = some (.int .i64 D.left) ∧ w'.cell? ⟨b, 3, none⟩ = some (.bool D.down))
    (first | exact KS.out _ HDR.out | exact KS.out _ (HAB.out.alloc HAB.out.size _) | exact KS.out _ (HBA.out.alloc HBA.out.size _) | exact KS.out _ HAB.out | exact KS.out _ HBA.out | exact KS.out _ HA.out | exact KS.out _ HB.out)
    (first
      | ((refine step_copy_row (by rfl) _ _ 31 (by rfl) (by rfl) bv (by rfl) 9 i0 _ 1 16 Try.underlying31 hi0 hz0 hz1 hz2 (by rfl) (by omega) D.n (strCells D.rows) (strCells_one _) (row_below H.out.base HDR.out) (by unfold maxLen; omega) (by omega) ?_; intro va wA hA hBA hNA; obtain ⟨qa, ca, rfl⟩ := slice_len hA; have HA := Lib.hid (HDR.out.trans (hBA.mono (Nat.le_refl _)))))
      | ((refine step_copy_row (by rfl) _ _ 117 (by rfl) (by rfl) lv (by rfl) 123 i1 _ 2 24 Try.underlying117 hi1 hy0 hy1 hy2 (by rfl) (by omega) D.loose.length (rputCells D.loose) (rputCells_one _) (row_below H.out.loose HDR.out) (by unfold maxLen; omega) (by omega) ?_; intro vb wB hB hBB hNB; obtain ⟨qb, cb, rfl⟩ := slice_len hB; have HB := Lib.hid (HDR.out.trans (hBB.mono (Nat.le_refl _)))))
      | ((refine step_copy_row (by rfl) _ _ 31 (by rfl) (by rfl) bv (by rfl) 9 i0 _ 1 16 Try.underlying31 hi0 hz0 hz1 hz2 (by rfl) (by omega) D.n (strCells D.rows) (strCells_one _) (row_below H.out.base HB.out) (by unfold maxLen; omega) (by omega) ?_; intro va wA hA hBA hNA; obtain ⟨qa, ca, rfl⟩ := slice_len hA; have HBA := Lib.hid (HB.out.trans (hBA.mono HB.out.size))))
      | ((refine step_copy_row (by rfl) _ _ 117 (by rfl) (by rfl) lv (by rfl) 123 i1 _ 2 24 Try.underlying117 hi1 hy0 hy1 hy2 (by rfl) (by omega) D.loose.length (rputCells D.loose) (rputCells_one _) (row_below H.out.loose HA.out) (by unfold maxLen; omega) (by omega) ?_; intro vb wB hB hBB hNB; obtain ⟨qb, cb, rfl⟩ := slice_len hB; have HAB := Lib.hid (HA.out.trans (hBB.mono HA.out.size)))))
  all_goals
    have HRA := Lib.hid hA
    have HRB := Lib.hid hB
    have HNA := Lib.hid hNA
    have HNB := Lib.hid hNB
    have HBA1 := Lib.hid hBA
    have HBB1 := Lib.hid hBB
    clear hA hB hNA hNB hBA hBB
    go_wp2_with fail
    go_ret
  · have s1 : w.heap.size ≤ wA.heap.size := HA.out.size
    have s2 : wA.heap.size ≤ wB.heap.size := HBB1.out.size
    refine ⟨wB.heap.size, _, rfl, ⟨.slice qa D.n ca, .slice qb D.loose.length cb, ⟨heap_alloc_new wB _, (row_below HRA.out HBB1.out).alloc _, HRB.out.alloc _, fun e => ?_, fun e => ?_, fun g e f => ?_, H.out.fine⟩, rfl⟩, HAB.out.alloc HAB.out.size _, ?_⟩
    · have := ownsRow_lt HRA.out e; omega
    · have := ownsRow_lt HRB.out e; omega
    · have := ownsRow_lt HRA.out e; have := HNB.out _ f; omega
    · rintro k (rfl | hk | hk)
      · omega
      · exact HNA.out _ hk
      · have := HNB.out _ hk; omega
end Go.Proofs.Ythbdflmckfgleaa

namespace Go.Proofs.Ythbdflmckfgleaa
open Go.RowKit Go.Maps

theorem rowsN_snoc (f : Nat → List UInt8) (k : Nat) : rowsN f (k + 1) = rowsN f k ++ [f k] := by
  unfold rowsN
  rw [List.range_succ, List.map_append]
  rfl
theorem str_one (s : List UInt8) : ∀ u ∈ [Value.string (bs s)], u.oneCell' = true := by
  intro u hu
  simp at hu
  subst hu
  rfl

set_option maxRecDepth 100000 in
set_option maxHeartbeats 2000000 in
theorem rnew_any (n : Nat) (w : World) (h1 : 1 ≤ n) (h2 : n ≤ 16384) :
    Calls Try.prog 35 #[.int .i64 (n : Int)] w fun e w' => ∃ b fp, e = .returned (.pointer (some ⟨b, 0, none⟩)) ∧ RefAt w' b (Dsk.new n) fp ∧ Below w.heap.size w w' ∧ ∀ k, fp k → w.heap.size ≤ k := by
  obtain ⟨i0, hi0, hz0, hz1, hz2⟩ := info_parts str_info
  go_enter Try.func35, Try.ntmps35
  go_wp2_with fail
  go_loopw [4] (fun i wr => ∃ (k : Nat) (bv : Value), k ≤ n ∧ i = .int .i64 k ∧ wr.heap[w.heap.size]? = some (.cells #[bv, .slice none 0 0, .int .i64 (-1), .bool false] 119) ∧ wr.ownsRow 0 9 1 bv k (strCells (rowsN (fun _ => sec0) k)) ∧ (∀ g, bv.ownBlock = some g → w.heap.size < g) ∧ Below w.heap.size w wr) (fun i _ => n - (intOf i).toNat)
  case atStart =>
    refine ⟨0, .slice none 0 0, by omega, rfl, heap_alloc_new w _, ?_, fun g e => by simp [Value.ownBlock] at e, (Below.refl _ _).alloc (Nat.le_refl _) _⟩
    have e : strCells (rowsN (fun _ => sec0) 0) = [] := by unfold strCells rowsN; rfl
    rw [e]
    exact World.ownsRow_nil _ _ _ _
  case round =>
    obtain ⟨k, bv, hk, rfl, hs, hown, hnb, hb⟩ := hrel
    have hlt0 := (Array.getElem?_eq_some_iff.1 hs).1
    by_cases hlt : k < n
    · have c0 : wr.cell? ⟨w.heap.size, 0, none⟩ = some bv := by rw [cell_of_row wr _ _ _ _ _ hs]; rfl
      have cf0 := frozen_of_row wr w.heap.size 0 _ _ hs
      have hS := Lib.hid hs; have HO := Lib.hid hown; have HNB := Lib.hid hnb; have HB := Lib.hid hb
      have hne : bv.ownBlock ≠ some w.heap.size := fun e => by have := hnb _ e; omega
      clear hs hown hnb hb
      go_wp2_with fail
      go_region_law
        (first
          | (go_simp; go_at_call 72; refine (zero_any _).mono ?_; rintro e w1 ⟨rfl, hb1⟩; have hown1 : w1.ownsRow 0 9 1 bv k (strCells (rowsN (fun _ => sec0) k)) := ownsRow_upd HO.out.drew (Upd.of_below (F := fun _ => False) hb1) (fun _ _ f => f); have hlt1 : w.heap.size < w1.heap.size := Nat.lt_of_lt_of_le hlt0 hb1.size; have c1 := (hb1.cell (p := ⟨w.heap.size, 0, none⟩) hlt0).trans c0; have cf1 := (hb1.frozen (p := ⟨w.heap.size, 0, none⟩) hlt0).trans cf0; go_wp2_with fail)
          | ((refine step_append_lies _ (by rfl) _ _ _ (by rfl) 0 9 i0 _ 1 16 Try.underlying31 hi0 hz0 hz1 hz2 (by rfl) (by omega) bv k (strCells (rowsN (fun _ => sec0) k)) (by rfl) (hown1.alloc _) ⟨w1.heap.size, 0, none⟩ 1 1 [.string (bs sec0)] (by rfl) (by rfl) (World.news_of_block (cs := #[.string (bs sec0)]) (t := 9) (fr := (0, 0)) (heap_alloc_new w1 _)) (str_one _) (by omega) (by unfold maxLen; omega) (by omega) (by omega) (w1.heap.size + 1) (by simp) ?_; intro gg cap2 w2 hown2 hgrow hat hlt2; have hfz2 := (hgrow.frozen_far ⟨w.heap.size, 0, none⟩ (by show w.heap.size < _; rw [World.size_alloc]; omega) (Ne.symm hne)).trans ((((Below.refl w1.heap.size w1).alloc (Nat.le_refl _) (Obj.cells #[.string (bs sec0)] 9)).frozen (p := ⟨w.heap.size, 0, none⟩) hlt1).trans cf1); have hc2 := (hgrow.cell_far ⟨w.heap.size, 0, none⟩ (by show w.heap.size < _; rw [World.size_alloc]; omega) (Ne.symm hne)).trans ((((Below.refl w1.heap.size w1).alloc (Nat.le_refl _) (Obj.cells #[.string (bs sec0)] 9)).cell (p := ⟨w.heap.size, 0, none⟩) hlt1).trans c1))))
      all_goals
        have h0 : Below wr.heap.size wr w1 := ((Below.refl _ wr).drew).trans (hb1.mono (Nat.le_refl _))
        have h3 : Below w.heap.size w w2 := ((HB.out.trans (h0.mono (by omega))).alloc (by omega) (Obj.cells #[.string (bs sec0)] 9)).grown hgrow (by rw [World.size_alloc]; omega) (fun k e => by have := HNB.out k e; omega)
        have h4 : w2.heap[w.heap.size]? = some (.cells #[bv, .slice none 0 0, .int .i64 (-1), .bool false] 119) := by
          rw [hgrow.block w.heap.size (by rw [World.size_alloc]; omega) (Ne.symm hne), (((Below.refl w1.heap.size w1).alloc (Nat.le_refl _) _).block w.heap.size hlt1), h0.block w.heap.size hlt0]
          exact hS.out
        have h5 : gg ≠ w.heap.size := by
          rcases hat with hat | hat
          · have := HNB.out gg hat; omega
          · omega
        have H3 := Lib.hid h3; have H4 := Lib.hid h4; have H5 := Lib.hid hown2
        clear h0 h3 h4 hown2 hgrow hb1 hown1
        go_wp2_with fail
        go_roundw
        case rel =>
          have hu : Upd (fun k => k = w.heap.size) w2 (w2.setCell ⟨w.heap.size, 0, none⟩ (.slice (some ⟨gg, 0, none⟩) (k + 1) cap2)) := (Upd.refl (fun k => k = w.heap.size) w2).setCell (p := ⟨w.heap.size, 0, none⟩) (.inl rfl) _
          refine ⟨k + 1, .slice (some ⟨gg, 0, none⟩) (k + 1) cap2, by omega, by go_num, heap_setCell_same w2 w.heap.size 0 _ _ _ H4.out, ?_, fun g e => ?_, H3.out.setCell (p := ⟨w.heap.size, 0, none⟩) (Nat.le_refl _) _⟩
          · rw [rowsN_snoc, strCells_snoc]
            exact ownsRow_upd H5.out hu (fun g hg e => h5 (by simp [Value.ownBlock] at hg; omega))
          · simp [Value.ownBlock] at e
            subst e
            rcases hat with hat | hat
            · exact HNB.out _ hat
            · omega
        case measure => simp [intOf]; omega
    · obtain rfl : k = n := by omega
      have hS := Lib.hid hs; have HO := Lib.hid hown; have HNB := Lib.hid hnb; have HB := Lib.hid hb
      clear hs hown hnb hb
      go_wp2_with fail
      go_ret
      refine ⟨w.heap.size, _, rfl, ⟨bv, .slice none 0 0, ⟨hS.out, HO.out, ?_, fun e => ?_, fun e => ?_, fun _ _ e => ?_, Dsk.Fine.new h1 h2⟩, rfl⟩, HB.out, ?_⟩
      · show World.ownsRow _ 0 _ 2 (.slice none 0 0) 0 (rputCells [])
        rw [rputCells_nil]
        exact World.ownsRow_nil _ _ _ _
      · have := HNB.out _ e; omega
      · simp [Value.ownBlock] at e
      · simp [Value.ownBlock] at e
      · rintro k (rfl | hk | hk)
        · exact Nat.le_refl _
        · have := HNB.out _ hk; omega
        · simp [Value.ownBlock] at hk
end Go.Proofs.Ythbdflmckfgleaa

namespace Go.Proofs.Ythbdflmckfgleaa
open Go.RowKit Go.Maps

theorem keptFrom_nil (i : Nat) (l : List (Nat × List UInt8)) : Dsk.keptFrom [] i l = [] := by
  induction l generalizing i with
  | nil => rfl
  | cons p l ih => simp only [Dsk.keptFrom, ih]; simp
theorem keptFrom_take (keep : List UInt8) (l : List (Nat × List UInt8)) (k : Nat) (h : k < l.length) : Dsk.keptFrom keep 0 (l.take (k + 1)) = Dsk.keptFrom keep 0 (l.take k) ++ (if stays keep k then [l[k]] else []) := by
  rw [← keptI_from, ← keptI_from, List.take_add_one, List.getElem?_eq_getElem h, keptI_append, List.length_take, Nat.min_eq_left (by omega)]
  simp [keptI]
/-- What a crash leaves, in the document's disk. -/
theorem rcrashed {w W : World} {b : Nat} {bv lv : Value} {D : Dsk} {g cap : Nat} {keep : List UInt8} (H : RefIn w b bv lv D) (hO : W.ownsRow 0 9 1 (.slice (some ⟨g, 0, none⟩) D.n cap) D.n (strCells (rowsN (Dsk.lay D.base (D.kept keep)) D.n))) (hg : w.heap.size ≤ g) (hB : Below w.heap.size w W) :
    ∃ fp', RefAt ((((W.setCell ⟨b, 0, none⟩ (.slice (some ⟨g, 0, none⟩) D.n cap)).setCell ⟨b, 1, none⟩ (.slice none 0 0)).setCell ⟨b, 2, none⟩ (.int .i64 (-1))).setCell ⟨b, 3, none⟩ (.bool false)) b (D.crash keep) fp' ∧
      Upd (NoStr w (refBlocks b bv lv)) w ((((W.setCell ⟨b, 0, none⟩ (.slice (some ⟨g, 0, none⟩) D.n cap)).setCell ⟨b, 1, none⟩ (.slice none 0 0)).setCell ⟨b, 2, none⟩ (.int .i64 (-1))).setCell ⟨b, 3, none⟩ (.bool false)) ∧ Stays (refBlocks b bv lv) fp' w := by
  have h1 := H.below hB
  have hbl := H.lt b (.inl rfl)
  have hu : Upd (fun k => k = b) W ((((W.setCell ⟨b, 0, none⟩ (.slice (some ⟨g, 0, none⟩) D.n cap)).setCell ⟨b, 1, none⟩ (.slice none 0 0)).setCell ⟨b, 2, none⟩ (.int .i64 (-1))).setCell ⟨b, 3, none⟩ (.bool false)) :=
    ((((Upd.refl (fun k => k = b) W).setCell (p := ⟨b, 0, none⟩) (.inl rfl) _).setCell (p := ⟨b, 1, none⟩) (.inl rfl) _).setCell (p := ⟨b, 2, none⟩) (.inl rfl) _).setCell (p := ⟨b, 3, none⟩) (.inl rfl) _
  refine ⟨_, ⟨.slice (some ⟨g, 0, none⟩) D.n cap, .slice none 0 0, ⟨?_, ?_, ?_, fun e => ?_, by simp [Value.ownBlock], fun _ _ => by simp [Value.ownBlock], H.fine.crash keep⟩, rfl⟩, (Upd.of_below hB).trans hu (fun i e => .inl ⟨.inl e, by rw [e]; exact H.noB⟩), ?_⟩
  · have e0 := heap_setCell_same W b 0 _ _ (.slice (some ⟨g, 0, none⟩) D.n cap) h1.struct
    have e1 := heap_setCell_same _ b 1 _ _ (.slice none 0 0) e0
    have e2 := heap_setCell_same _ b 2 _ _ (.int .i64 (-1)) e1
    exact heap_setCell_same _ b 3 _ _ (.bool false) e2
  · exact ownsRow_upd hO hu (fun g' hg' e => by simp [Value.ownBlock] at hg'; omega)
  · show World.ownsRow _ 0 _ 2 (.slice none 0 0) 0 (rputCells [])
    rw [rputCells_nil]
    exact World.ownsRow_nil _ _ _ _
  · simp [Value.ownBlock] at e; omega
  · rintro k (rfl | hk | hk)
    · exact .inl (.inl rfl)
    · simp [Value.ownBlock] at hk; exact .inr (by omega)
    · simp [Value.ownBlock] at hk

set_option maxRecDepth 100000 in
set_option maxHeartbeats 2000000 in
theorem rcrash_any {w : World} {b : Nat} {D : Dsk} {fp : Nat → Prop} (h : RefAt w b D fp) (keep : List UInt8) (hlen : D.loose.length ≤ 1000000000) (hkl : keep.length ≤ 1000000000) :
    Calls Try.prog 40 #[.pointer (some ⟨b, 0, none⟩), .string (bs keep)] w fun e w' => (∃ v, e = .returned v) ∧ ∃ fp', RefAt w' b (D.crash keep) fp' ∧ Upd (NoStr w fp) w w' ∧ Stays fp fp' w := by
  obtain ⟨bv, lv, hI, rfl⟩ := h
  obtain ⟨c0, _, _, _, _⟩ := hI.cells
  have hn1 := hI.fine.n1
  have hn2 := hI.fine.n2
  obtain ⟨g, cap, rfl⟩ : ∃ g cap, bv = .slice (some ⟨g, 0, none⟩) D.n cap := by
    rcases hI.base.2 with ⟨_, e2⟩ | ⟨g, cap, _, e1, _⟩
    · omega
    · exact ⟨g, cap, e1⟩
  have hrows : strCells D.rows = strCells (rowsN D.base D.n) := rfl
  have hcells := hI.base.cells (g := g) rfl
  rw [hrows] at hcells
  obtain ⟨q, lcap, rfl⟩ := slice_len hI.loose
  have H := Lib.hid hI
  clear hI hrows
  obtain ⟨i0, hi0, hz0, hz1, hz2⟩ := info_parts str_info
  go_enter Try.func40, Try.ntmps40
  go_wp2_with (at_builtin; refine wpList_append_own_at _ rfl _ _ _ rfl 0 9 i0 _ 1 16 Try.underlying31 hi0 hz0 hz1 hz2 rfl (by omega) (.slice none 0 0) 0 [] rfl (World.ownsRow_nil _ _ _ _) ⟨g, 0, none⟩ D.n cap (strCells (rowsN D.base D.n)) rfl (by rw [strCells_length, rowsN_length, Nat.mul_one]) hcells (strCells_one _) (by unfold maxLen; omega) (by omega) (Nat.zero_le _) ?_; intro v' w1 hown hgrow _ hat)
  rw [Nat.zero_add, List.nil_append] at hown
  obtain ⟨g1, cap1, rfl⟩ : ∃ g1 cap1, v' = .slice (some ⟨g1, 0, none⟩) D.n cap1 := by
    rcases hown.2 with ⟨_, e2⟩ | ⟨g1, cap1, _, e1, _⟩
    · omega
    · exact ⟨g1, cap1, e1⟩
  have hg1 : g1 = w.heap.size := by
    rcases hat with e | e
    · cases e
    · exact Option.some.inj e
  subst hg1
  have hb1 : Below w.heap.size w w1 := (Below.refl _ w).grown hgrow (Nat.le_refl _) (fun k e => by cases e)
  have HOWN := Lib.hid hown
  have HB1 := Lib.hid hb1
  clear hown hgrow hat hb1 hcells c0
  go_wp2_with fail
  by_cases hke : keep = []
  · subst hke
    go_loopw [5] (fun i wr => i = .int .i64 0 ∧ wr.ownsRow 0 9 1 (.slice (some ⟨w.heap.size, 0, none⟩) D.n cap1) D.n (strCells (rowsN D.base D.n)) ∧ Below w.heap.size w wr) (fun _ _ => 0)
    case atStart => exact ⟨rfl, HOWN.out, HB1.out⟩
    case round =>
      clear HOWN HB1
      obtain ⟨rfl, hown, hb⟩ := hrel
      have hr := H.out.below hb
      obtain ⟨d0, d1, d2, d3, df⟩ := hr.cells
      have df0 := df 0
      have df1 := df 1
      have df2 := df 2
      have df3 := df 3
      have HO := Lib.hid hown
      have HB := Lib.hid hb
      clear hown hb hr df
      by_cases hpos : 0 < D.loose.length
      all_goals
        go_wp2_with fail
        go_end0
        refine ⟨⟨_, rfl⟩, rcrashed (keep := []) H.out ?_ (Nat.le_refl _) HB.out⟩
        have e : D.kept [] = [] := keptFrom_nil 0 _
        rw [e]
        exact HO.out
  · have hkpos : 0 < keep.length := List.length_pos_iff.2 hke
    go_loopw [5] (fun i wr => ∃ k : Nat, k ≤ D.loose.length ∧ i = .int .i64 k ∧ wr.ownsRow 0 9 1 (.slice (some ⟨w.heap.size, 0, none⟩) D.n cap1) D.n (strCells (rowsN (Dsk.lay D.base (Dsk.keptFrom keep 0 (D.loose.take k))) D.n)) ∧ Below w.heap.size w wr) (fun i _ => D.loose.length - (intOf i).toNat)
    case atStart => exact ⟨0, by omega, rfl, HOWN.out, HB1.out⟩
    case round =>
      clear HOWN HB1
      obtain ⟨k, hk, rfl, hown, hb⟩ := hrel
      have hr := H.out.below hb
      obtain ⟨d0, d1, d2, d3, df⟩ := hr.cells
      have HO := Lib.hid hown
      have HB := Lib.hid hb
      by_cases hlt : k < D.loose.length
      · obtain ⟨gl, rfl⟩ : ∃ gl, q = some ⟨gl, 0, none⟩ := by
          rcases hr.loose.2 with ⟨e1, e2⟩ | ⟨gl, _, _, e1, _⟩
          · omega
          · exact ⟨gl, by injection e1⟩
        obtain ⟨e1, e2⟩ := rputCells_get D.loose k hlt
        have l1 := hr.loose.cells (g := gl) rfl _ _ e1
        have l2 := hr.loose.cells (g := gl) rfl _ _ e2
        rw [add_plain] at l1 l2
        obtain ⟨p1, p2⟩ := H.out.fine.loose D.loose[k] (List.getElem_mem hlt)
        have hix1 := run_index_slice Try.prog 117 123 Try.underlying117 2 rput_elem ⟨gl, 0, none⟩ D.loose.length lcap k hlt
        have hix2 := run_index_slice Try.prog 31 9 Try.underlying31 1 (by kernel_rfl) ⟨w.heap.size, 0, none⟩ D.n cap1 D.loose[k].1 p1
        rw [add_plain] at hix1 hix2
        rw [Nat.mul_one] at hix2
        have HK := Lib.hid (keptFrom_take keep D.loose k hlt)
        have hfr := ownsRow_free hown D.loose[k].1
        have hold := hown.cells (g := w.heap.size) rfl D.loose[k].1 _ (strCells_get _ _ (by rw [rowsN_length]; exact p1))
        rw [add_plain] at hold
        have hbl : b ≠ w.heap.size := by have := H.out.lt b (.inl rfl); omega
        have hgl : gl ≠ w.heap.size := by have := H.out.lt gl (.inr (.inr rfl)); omega
        have hml := Nat.mod_lt k hkpos
        have hmod : (k : Int) % (keep.length : Int) = ((k % keep.length : Nat) : Int) := by omega
        have hmodT : (k : Int).tmod (keep.length : Int) = ((k % keep.length : Nat) : Int) := by rw [Int.tmod_eq_emod_of_nonneg (by omega)]; exact hmod
        have hst : stays keep k = (keep[k % keep.length].toNat % 2 == 1) := by
          unfold stays
          rw [List.getD_eq_getElem?_getD, List.getElem?_eq_getElem hml]
          simp [hke]
        generalize k % keep.length = im at *
        generalize D.loose[k] = p at *
        clear e1 e2 p2 d0 d2 d3 df
        cases hs : stays keep k with
        | false =>
          rw [hs] at hst HK
          have hbit : (((keep[im].toNat : Int)) % 2 == 1) = false := by
            rw [Bool.eq_false_iff]; intro e
            have e := eq_of_beq e
            have e2 : (keep[im].toNat % 2 == 1) = true := by rw [beq_iff_eq]; omega
            rw [← hst] at e2; cases e2
          have hbitT : (((keep[im].toNat : Int)).tmod 2 == 1) = false := by rw [Int.tmod_eq_emod_of_nonneg (by omega)]; exact hbit
          clear hst hs hown hb hr
          go_wp2_with fail
          go_roundw
          case rel =>
            refine ⟨k + 1, by omega, by go_num, ?_, HB.out⟩
            rw [HK.out, if_neg (by decide), List.append_nil]
            exact HO.out
          case measure => simp [intOf]; omega
        | true =>
          rw [hs] at hst HK
          have hbit : (((keep[im].toNat : Int)) % 2 == 1) = true := by
            have e := eq_of_beq hst.symm
            rw [beq_iff_eq]; omega
          have hbitT : (((keep[im].toNat : Int)).tmod 2 == 1) = true := by rw [Int.tmod_eq_emod_of_nonneg (by omega)]; exact hbit
          have keepA := fun (v : Value) => And.intro (far_drew (p := ⟨w.heap.size, p.1, none⟩) (v := v) d1 (Ne.symm hbl)) (And.intro (far_drew (p := ⟨w.heap.size, p.1, none⟩) (v := v) l1 (Ne.symm hgl)) (far_drew (p := ⟨w.heap.size, p.1, none⟩) (v := v) l2 (Ne.symm hgl)))
          clear hst hs hown hb hr
          go_wp2_with fail
          go_region_held3 (fun w' => w'.cell? ⟨b, 1, none⟩ = some (.slice (some ⟨gl, 0, none⟩) D.loose.length lcap) ∧ w'.cell? ⟨gl, k * 2, none⟩ = some (.int .i64 (p.1 : Int)) ∧ w'.cell? ⟨gl, k * 2 + 1, none⟩ = some (.string (bs p.2))) (first | go_keep | exact keepA _) (fail)
          go_wp2_with fail
          refine ⟨⟨k + 1, by omega, rfl, ?_, (HB.out.setCell (p := ⟨w.heap.size, p.1, none⟩) (Nat.le_refl _) _).drew⟩, ?_⟩
          · have hset := (ownsRow_set HO.out p.1 (.string (bs p.2))).drew
            rw [strCells_set, rowsN_set] at hset
            rw [HK.out, if_pos trivial, Dsk.lay_snoc]
            exact hset
          · show D.loose.length - ((k : Int) + 1).toNat < D.loose.length - ((k : Int)).toNat
            omega
      · obtain rfl : k = D.loose.length := by omega
        rw [List.take_length] at HO
        have df0 := df 0
        have df1 := df 1
        have df2 := df 2
        have df3 := df 3
        clear hown hb hr df
        go_wp2_with fail
        go_end0
        exact ⟨⟨_, rfl⟩, rcrashed (keep := keep) H.out HO.out (Nat.le_refl _) HB.out⟩
end Go.Proofs.Ythbdflmckfgleaa
