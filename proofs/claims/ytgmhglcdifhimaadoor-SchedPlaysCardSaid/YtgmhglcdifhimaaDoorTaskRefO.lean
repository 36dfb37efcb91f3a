/- maslinref30: set, end, Start, Commit, Fail, walked. -/
import Derived.Test.YtgmhglcdifhimaaDoorTaskRefS
import Derived.Deep.CutRange
import Derived.Deep.CutBlock
namespace Go.Proofs.YtgmhglcdifhimaaDoor
open Go.RowKit Go.Maps Go.Sort
open Tsk

theorem try_info : (Tryd.prog.info? 121).map (fun i => (i.zero, i.size, i.bytes)) = some (some (.agg #[.int .i64 0, .int .i64 0]), 2, 16) := by kernel_rfl
theorem rtask_info : (Tryd.prog.info? 108).map (fun i => (i.zero, i.size, i.bytes)) = some (some (.agg #[.slice none 0 0, .bool false, .string ByteArray.empty, .int .i64 0]), 4, 56) := by kernel_rfl
section
variable {w w' : World} {r : Nat} {lv tv : Value} {nvs : List Value} {b : Board} {k : Nat}
theorem RefB.nums_one (h : RefB w r lv tv nvs b) : ∀ v ∈ nvs, v.oneCell' = true := fun v hv => by
  obtain ⟨i, hi, rfl⟩ := List.getElem_of_mem hv
  obtain ⟨a, cap, e, _⟩ := h.needs i (by rw [← h.nlen]; exact hi) hi
  rw [e]; rfl
/-- A task's four cells, laid over those of a row of one's own. -/
theorem row_task {w : World} {g cap n : Nat} {nvs : List Value} {l : List Task} (h : w.ownsRow 0 108 4 (.slice (some ⟨g, 0, none⟩) n cap) n (allCells nvs l)) (hn : nvs.length = l.length) (t : Nat) (ht : t < l.length) (y : Task) :
    ((((w.setCell ⟨g, t * 4, none⟩ (nvs[t]'(by omega))).setCell ⟨g, t * 4 + 1, none⟩ (.bool y.is)).setCell ⟨g, t * 4 + 2, none⟩ (.string (bs y.value))).setCell ⟨g, t * 4 + 3, none⟩ (.int .i64 (y.fails : Int))).ownsRow 0 108 4 (.slice (some ⟨g, 0, none⟩) n cap) n (allCells nvs (l.set t y)) := by
  have hnt : t < nvs.length := by omega
  have h0 := ownsRow_turned h (t * 4 + 0) (nvs[t]'hnt)
  rw [allCells_set nvs l hn t ht 0 (by omega) _ l[t] rfl] at h0
  have e0 : l.set t l[t] = l := List.set_getElem_self ht
  rw [e0] at h0
  have h1 := ownsRow_turned h0 (t * 4 + 1) (.bool y.is)
  rw [allCells_set nvs l hn t ht 1 (by omega) _ ⟨l[t].needs, y.is, l[t].value, l[t].fails⟩ rfl] at h1
  have l1 : t < (l.set t ⟨l[t].needs, y.is, l[t].value, l[t].fails⟩).length := by rw [List.length_set]; exact ht
  have h2 := ownsRow_turned h1 (t * 4 + 2) (.string (bs y.value))
  rw [allCells_set nvs _ (by rw [List.length_set]; exact hn) t l1 2 (by omega) _ ⟨l[t].needs, y.is, y.value, l[t].fails⟩ (by simp only [List.getElem_set_self]; rfl), List.set_set] at h2
  have l2 : t < (l.set t ⟨l[t].needs, y.is, y.value, l[t].fails⟩).length := by rw [List.length_set]; exact ht
  have h3 := ownsRow_turned h2 (t * 4 + 3) (.int .i64 (y.fails : Int))
  rw [allCells_set nvs _ (by rw [List.length_set]; exact hn) t l2 3 (by omega) _ y (by simp only [List.getElem_set_self]; unfold oneCells; rfl), List.set_set] at h3
  exact h3
theorem RefB.notR (h : RefB w r lv tv nvs b) {g : Nat} {t : TypeId} (hb : BlkOf w g t) (ht : t ≠ 106) : g ≠ r := fun e => BlkOf.ne (e ▸ hb : BlkOf w r t) ⟨_, _, h.struct⟩ ht rfl
/-- The document's board has another row of tasks. -/
theorem RefB.relaid {X : World} (h : RefB w r lv tv nvs b) (hb : Below w.heap.size w X) {l' : List Task} {lv' : Value} (hrow : X.ownsRow 0 108 4 lv' l'.length (allCells nvs l')) (hlen : l'.length = b.l.length) (hn : ∀ i (h : i < l'.length) (h' : i < b.l.length), l'[i].needs = b.l[i].needs) :
    RefB (X.setCell ⟨r, 0, none⟩ lv') r lv' tv nvs { b with l := l' } ∧ Upd (fun i => i = r) w (X.setCell ⟨r, 0, none⟩ lv') := by
  have hX := h.below hb
  have hu : Upd (fun i => i = r) X (X.setCell ⟨r, 0, none⟩ lv') := (Upd.refl (fun i => i = r) X).setCell (p := ⟨r, 0, none⟩) (.inl rfl) _
  refine ⟨⟨?_, ownsRow_upd hrow hu (fun g hg => hX.notR (ownsRow_blk hrow hg) (by decide)), ownsRow_upd hX.tries hu (fun g hg => hX.notR (ownsRow_blk hX.tries hg) (by decide)), h.nlen.trans hlen.symm, fun i hi hi' => ?_⟩, (Upd.of_below (F := fun i => i = r) hb).trans hu (fun i e => .inl e)⟩
  · rw [heap_setCell_same X r 0 _ _ lv' hX.struct]
    rfl
  · have hi2 : i < b.l.length := by rw [← hlen]; exact hi
    have := (hX.needs i hi2 hi').upd hu (fun g hg => hX.notR hg (by decide))
    simp only [hn i hi hi2]
    exact this
/-- The document's board has other attempts. -/
theorem RefB.retried {X : World} (h : RefB w r lv tv nvs b) (hb : Below w.heap.size w X) {tr : List (Int × Nat)} {tv' : Value} (hrow : X.ownsRow 0 121 2 tv' tr.length (tryCells tr.reverse)) :
    RefB (X.setCell ⟨r, 1, none⟩ tv') r lv tv' nvs { b with tries := tr } ∧ Upd (fun i => i = r) w (X.setCell ⟨r, 1, none⟩ tv') := by
  have hX := h.below hb
  have hu : Upd (fun i => i = r) X (X.setCell ⟨r, 1, none⟩ tv') := (Upd.refl (fun i => i = r) X).setCell (p := ⟨r, 1, none⟩) (.inl rfl) _
  refine ⟨⟨?_, ownsRow_upd hX.row hu (fun g hg => hX.notR (ownsRow_blk hX.row hg) (by decide)), ownsRow_upd hrow hu (fun g hg => hX.notR (ownsRow_blk hrow hg) (by decide)), h.nlen, fun i hi hi' => (hX.needs i hi hi').upd hu (fun g hg => hX.notR hg (by decide))⟩, (Upd.of_below (F := fun i => i = r) hb).trans hu (fun i e => .inl e)⟩
  rw [heap_setCell_same X r 1 _ _ tv' hX.struct]
  rfl
theorem RefB.setFailed {X : World} (h : RefB w r lv tv nvs b) (hb : Below w.heap.size w X) (t : Nat) :
    RefB (X.setCell ⟨r, 3, none⟩ (.int .i64 (t : Int))) r lv tv nvs { b with failed := some t } ∧ Upd (fun i => i = r) w (X.setCell ⟨r, 3, none⟩ (.int .i64 (t : Int))) := by
  have hX := h.below hb
  have hu : Upd (fun i => i = r) X (X.setCell ⟨r, 3, none⟩ (.int .i64 (t : Int))) := (Upd.refl (fun i => i = r) X).setCell (p := ⟨r, 3, none⟩) (.inl rfl) _
  refine ⟨⟨?_, ownsRow_upd hX.row hu (fun g hg => hX.notR (ownsRow_blk hX.row hg) (by decide)), ownsRow_upd hX.tries hu (fun g hg => hX.notR (ownsRow_blk hX.tries hg) (by decide)), h.nlen, fun i hi hi' => (hX.needs i hi hi').upd hu (fun g hg => hX.notR hg (by decide))⟩, (Upd.of_below (F := fun i => i = r) hb).trans hu (fun i e => .inl e)⟩
  rw [heap_setCell_same X r 3 _ _ (.int .i64 (t : Int)) hX.struct]
  rfl
set_option maxRecDepth 100000 in
set_option maxHeartbeats 4000000 in
theorem rset_any (h : RefB w r lv tv nvs b) (hlen : b.l.length ≤ 4096) (t : Nat) (ht : t < b.l.length) (y : Task) (hy : y.needs = b.l[t].needs) (hnt : t < nvs.length) :
    Calls Tryd.prog 67 #[.pointer (some ⟨r, 0, none⟩), .int .i64 (t : Int), .agg #[nvs[t], .bool y.is, .string (bs y.value), .int .i64 (y.fails : Int)]] w fun e w' => (∃ v, e = .returned v) ∧ (∃ lv', RefB w' r lv' tv nvs { b with l := b.l.set t y }) ∧ Upd (fun i => i = r) w w' := by
  obtain ⟨i0, hi0, hz0, hz1, hz2⟩ := info_parts rtask_info
  have HB := Lib.hid h
  have HAO := Lib.hid (allCells_one nvs b.l h.nlen h.nums_one)
  have HY := Lib.hid hy
  obtain ⟨na, ncap, hnv, -⟩ := h.needs t ht hnt
  rw [hnv]
  have HNV := Lib.hid hnv
  have hrl := blk_lt h.struct
  have hbA : Below w.heap.size w (w.alloc (.cells #[.slice na b.l[t].needs.length ncap, .bool y.is, .string (bs y.value), .int .i64 (y.fails : Int)] 108)) := (Below.refl _ _).alloc (Nat.le_refl _) _
  have HBA := Lib.hid hbA
  have c0 := (h.below hbA).cells.1
  have HROW := Lib.hid (row_below h.row hbA)
  clear h hy hnv hbA
  generalize b.l[t].needs.length = nl at *
  have HXB := Lib.hid (show RowAt (w.alloc (.cells #[.slice na nl ncap, .bool y.is, .string (bs y.value), .int .i64 (y.fails : Int)] 108)) w.heap.size 108 [.slice na nl ncap, .bool y.is, .string (bs y.value), .int .i64 (y.fails : Int)] from heap_alloc_new w _)
  go_enter Tryd.func67, Tryd.ntmps67
  go_upto_region 2 with (at_builtin; refine wpList_copy_row rfl _ _ 103 rfl rfl lv rfl 108 i0 _ 4 56 Tryd.underlying103 hi0 hz0 hz1 hz2 rfl (by omega) b.l.length (allCells nvs b.l) HAO.out HROW.out (by unfold maxLen; omega) (by omega) ?_; intro va wa hrow hba hna; have HRA := Lib.hid hrow; have HBB := Lib.hid hba; have HNA := Lib.hid hna; clear hrow hba hna)
  obtain ⟨ga, ca, rfl⟩ : ∃ ga ca, va = .slice (some ⟨ga, 0, none⟩) b.l.length ca := by
    rcases HRA.out.2 with ⟨_, e2⟩ | ⟨g, cap, _, e1, _⟩
    · omega
    · exact ⟨g, cap, e1⟩
  have hxa := HXB.out.below HBB.out
  have x0 : wa.cell? ⟨w.heap.size, 0, none⟩ = some (.slice na nl ncap) := hxa.cell 0 (by simp)
  have x1 : wa.cell? ⟨w.heap.size, 1, none⟩ = some (.bool y.is) := hxa.cell 1 (by simp)
  have x2 : wa.cell? ⟨w.heap.size, 2, none⟩ = some (.string (bs y.value)) := hxa.cell 2 (by simp)
  have x3 : wa.cell? ⟨w.heap.size, 3, none⟩ = some (.int .i64 (y.fails : Int)) := hxa.cell 3 (by simp)
  have hix := run_index_slice Tryd.prog 103 108 Tryd.underlying103 4 (by kernel_rfl) ⟨ga, 0, none⟩ b.l.length ca t ht
  rw [add_plain] at hix
  have hc := HRA.out.cells (g := ga) rfl
  have hacl := allCells_length nvs b.l HB.out.nlen
  have hgot : ∀ j, j < 4 → ∃ u, wa.cell? ⟨ga, t * 4 + j, none⟩ = some u := fun j hj => by
    have := hc (t * 4 + j) _ (List.getElem?_eq_getElem (by omega))
    rw [add_plain] at this
    exact ⟨_, this⟩
  obtain ⟨u0, g0⟩ := hgot 0 (by omega)
  rw [Nat.add_zero] at g0
  obtain ⟨u1, g1⟩ := hgot 1 (by omega)
  obtain ⟨u2, g2⟩ := hgot 2 (by omega)
  obtain ⟨u3, g3⟩ := hgot 3 (by omega)
  have hf := ownsRow_free HRA.out
  have f0 := hf (t * 4); have f1 := hf (t * 4 + 1); have f2 := hf (t * 4 + 2); have f3 := hf (t * 4 + 3)
  have hBa := HB.out.below (HBA.out.trans (HBB.out.mono HBA.out.size))
  have r0 := hBa.cells.1
  have rf := hBa.cells.2.2.2.2 0
  have hgn := HNA.out ga rfl
  rw [World.size_alloc] at hgn
  have hne : ga ≠ r := by omega
  have hne' : r ≠ ga := by omega
  clear hc hacl hgot hf hxa c0 hBa
  go_wp2_with fail
  go_end0
  have h4 := row_task HRA.out HB.out.nlen t ht y
  rw [HNV.out] at h4
  have hb4 : Below w.heap.size w ((((wa.setCell ⟨ga, t * 4, none⟩ (.slice na nl ncap)).setCell ⟨ga, t * 4 + 1, none⟩ (.bool y.is)).setCell ⟨ga, t * 4 + 2, none⟩ (.string (bs y.value))).setCell ⟨ga, t * 4 + 3, none⟩ (.int .i64 (y.fails : Int))) :=
    (((((HBA.out.trans (HBB.out.mono HBA.out.size)).setCell (p := ⟨ga, t * 4, none⟩) (by show w.heap.size ≤ ga; omega) _).setCell (p := ⟨ga, t * 4 + 1, none⟩) (by show w.heap.size ≤ ga; omega) _).setCell (p := ⟨ga, t * 4 + 2, none⟩) (by show w.heap.size ≤ ga; omega) _).setCell (p := ⟨ga, t * 4 + 3, none⟩) (by show w.heap.size ≤ ga; omega) _)
  obtain ⟨g1, g2⟩ := HB.out.relaid hb4 (l' := b.l.set t y) (lv' := .slice (some ⟨ga, 0, none⟩) b.l.length ca) (by rw [List.length_set]; exact h4) (List.length_set) (fun i h h' => by
    by_cases e : t = i
    · subst e; rw [List.getElem_set_self]; exact HY.out
    · rw [List.getElem_set_ne e])
  exact ⟨⟨_, rfl⟩, ⟨_, g1⟩, g2⟩
def zO (o : Option Nat) : Int := match o with | some t => (t : Int) | none => -1
def REndPost (w : World) (r : Nat) (lv : Value) (nvs : List Value) (b : Board) (x : Int) (e : Ending) (w' : World) : Prop :=
  ∃ tv', e = .returned (.tuple #[.int .i64 (zO (b.at_ x)), .bool (b.at_ x).isSome]) ∧ RefB w' r lv tv' nvs (b.drop x) ∧ Upd (fun i => i = r) w w'
def leftTo (b : Board) (x : Int) (j : Nat) : List (Int × Nat) := (b.tries.reverse.take j).filter fun p => !(p.1 == x)
theorem leftTo_yes (b : Board) (x : Int) (j : Nat) (hj : j < b.tries.reverse.length) (h : b.tries.reverse[j].1 = x) : leftTo b x (j + 1) = leftTo b x j := by
  unfold leftTo
  rw [List.take_succ_eq_append_getElem hj, List.filter_append]
  obtain ⟨q, hq⟩ : ∃ q, b.tries.reverse[j] = q := ⟨_, rfl⟩
  rw [hq] at h ⊢
  simp [h]
theorem leftTo_no (b : Board) (x : Int) (j : Nat) (hj : j < b.tries.reverse.length) (h : ¬ b.tries.reverse[j].1 = x) : leftTo b x (j + 1) = leftTo b x j ++ [b.tries.reverse[j]] := by
  unfold leftTo
  rw [List.take_succ_eq_append_getElem hj, List.filter_append]
  obtain ⟨q, hq⟩ : ∃ q, b.tries.reverse[j] = q := ⟨_, rfl⟩
  rw [hq] at h ⊢
  simp [h]
theorem leftTo_len (b : Board) (x : Int) (j : Nat) : (leftTo b x j).length ≤ j := by
  unfold leftTo
  exact Nat.le_trans (List.length_filter_le _ _) (by rw [List.length_take]; omega)
theorem leftTo_all (b : Board) (x : Int) : leftTo b x b.tries.reverse.length = (b.drop x).tries.reverse := by
  unfold leftTo Board.drop
  rw [List.take_length, List.filter_reverse]
/-- What has been seen of a worker's attempt. -/
def SeenTo (b : Board) (x : Int) (j : Nat) (z : Int) : Prop := ((∀ i, i < j → (h : i < b.tries.reverse.length) → b.tries.reverse[i].1 ≠ x) ∧ z = -1) ∨ ∃ t0, b.at_ x = some t0 ∧ z = (t0 : Int)
theorem SeenTo.end_ {b : Board} {x z : Int} (h : SeenTo b x b.tries.reverse.length z) : z = zO (b.at_ x) := by
  rcases h with ⟨h1, h2⟩ | ⟨t0, h1, h2⟩
  · rw [at_none_of (x := x) (fun j hj => h1 j hj hj)]; exact h2
  · rw [h1]; exact h2
theorem zO_dec (o : Option Nat) : decide (0 ≤ zO o) = o.isSome := by
  cases o with
  | none => rfl
  | some t => simp [zO]
set_option maxRecDepth 100000 in
set_option maxHeartbeats 4000000 in
theorem rend_any (h : RefB w r lv tv nvs b) (hF : b.Fine k) (hk : k ≤ 1000000) (x : Int) :
    Calls Tryd.prog 66 #[.pointer (some ⟨r, 0, none⟩), .int .i64 x] w (REndPost w r lv nvs b x) := by
  obtain ⟨i0, hi0, hz0, hz1, hz2⟩ := info_parts try_info
  have HB := Lib.hid h
  have hcnt := hF.count
  have HN := Lib.hid hF.nodup
  have HRL := Lib.hid (rev_len b)
  obtain ⟨qt, capt, rfl⟩ := slice_len h.tries
  have HC1 := Lib.hid (fun (V : World) (hb : Below w.heap.size w V) => (h.below hb).cells)
  have hrl := blk_lt h.struct
  clear h hF
  go_enter Tryd.func66, Tryd.ntmps66
  go_wp2_with fail
  go_loopw [6, 7, 8] (fun v z i wr => ∃ (j : Nat) (zi : Int), j ≤ b.tries.length ∧ i = .int .i64 j ∧ z = .int .i64 zi ∧ SeenTo b x j zi ∧ Below w.heap.size w wr ∧ wr.ownsRow 0 121 2 v (leftTo b x j).length (tryCells (leftTo b x j)) ∧ ∀ g, v.ownBlock = some g → w.heap.size ≤ g) (fun _ _ i _ => b.tries.length - (intOf i).toNat)
  case atStart => exact ⟨0, -1, Nat.zero_le _, rfl, rfl, .inl ⟨fun i hi => by omega, rfl⟩, Below.refl _ _, by rw [show leftTo b x 0 = [] by unfold leftTo; simp, tryCells_nil]; exact World.ownsRow_nil _ _ _ _, fun g e => by simp [Value.ownBlock] at e⟩
  case round =>
    obtain ⟨j, zi, hj, rfl, rfl, hseen, hb, hrow, hnew⟩ := hrel
    have HBL := Lib.hid hb; have HROW := Lib.hid hrow; have HSEEN := Lib.hid hseen; have HNEW := Lib.hid hnew
    have c1 := (HC1.out wr hb).2.1
    have cf1 := (HC1.out wr hb).2.2.2.2 1
    obtain ⟨qo, co, rfl⟩ := slice_len hrow
    clear hb hrow hseen hnew
    by_cases hlt : j < b.tries.length
    · have hlr : j < b.tries.reverse.length := by rw [HRL.out]; exact hlt
      obtain ⟨g, cap', hg', hix, d0, d1⟩ := (HB.out.below HBL.out).try_ j hlr
      have HYES := Lib.hid (leftTo_yes b x j hlr)
      have HNO := Lib.hid (leftTo_no b x j hlr)
      have HMEM := Lib.hid (List.mem_reverse.1 (List.getElem_mem hlr))
      have HSN := Lib.hid (show ¬ b.tries.reverse[j].1 = x → SeenTo b x (j + 1) zi from fun h => by
        rcases HSEEN.out with ⟨h1, h2⟩ | h1
        · refine .inl ⟨fun i hi hi' => ?_, h2⟩
          by_cases e : i = j
          · subst e; exact h
          · exact h1 i (by omega) hi'
        · exact .inr h1)
      have hll := leftTo_len b x j
      generalize leftTo b x j = out at *
      generalize b.tries.reverse[j] = q0 at *
      clear hg' hlr
      obtain ⟨qx, qt2⟩ := q0
      simp only at d0 d1 HYES HNO HSN
      by_cases hx : qx = x
      · have HY := Lib.hid (HYES.out hx)
        have HS2 := Lib.hid (show SeenTo b x (j + 1) (qt2 : Int) from .inr ⟨qt2, by rw [← hx]; exact at_of_mem HN.out HMEM.out, rfl⟩)
        subst hx
        clear HYES HNO HSN
        go_wp2_with fail
        go_roundw
        case rel => exact ⟨j + 1, (qt2 : Int), by omega, by go_num, rfl, HS2.out, HBL.out, by rw [HY.out]; exact HROW.out, HNEW.out⟩
        case measure => simp [intOf]; omega
      · have hb1 : (qx == x) = false := by simpa using hx
        have HY := Lib.hid (HNO.out hx)
        have HS2 := Lib.hid (HSN.out hx)
        clear HYES HNO HSN hx
        have hs1 : w.heap.size ≤ wr.heap.size := HBL.out.size
        go_wp2_with (at_builtin; refine wpList_append_lies _ rfl _ _ _ rfl 0 121 i0 _ 2 16 Tryd.underlying104 hi0 hz0 hz1 hz2 rfl (by omega) (.slice qo out.length co) out.length (tryCells out) rfl (HROW.out.alloc _) ⟨wr.heap.size, 0, none⟩ 1 1 [.int .i64 qx, .int .i64 (qt2 : Int)] rfl rfl (World.news_of_block (cs := #[.int .i64 qx, .int .i64 (qt2 : Int)]) (t := 121) (fr := (0, 0)) (heap_alloc_new wr _)) (fun u hu => by simp at hu; rcases hu with rfl | rfl <;> rfl) (by omega) (by unfold maxLen; omega) (by omega) (by omega) (wr.heap.size + 1) (by simp) ?_; intro gg cap2 w2 hown2 hgrow hat hlt2; have HOWN2 := Lib.hid hown2; have HGROW := Lib.hid hgrow; have HAT := Lib.hid hat; clear hown2 hgrow hat hlt2)
        go_roundw
        case rel =>
          refine ⟨j + 1, zi, by omega, by go_num, rfl, HS2.out, (HBL.out.alloc hs1 _).grown HGROW.out (by simp; omega) (fun i e => HNEW.out i e), ?_, fun g e => ?_⟩
          · rw [HY.out, tryCells_snoc, show (out ++ [(qx, qt2)]).length = out.length + 1 by simp]
            exact HOWN2.out
          · simp [Value.ownBlock] at e
            subst e
            rcases HAT.out with h | h
            · exact HNEW.out _ h
            · omega
        case measure => simp [intOf]; omega
    · obtain rfl : j = b.tries.length := by omega
      have hs := HSEEN.out
      rw [← HRL.out] at hs
      have HZ := Lib.hid hs.end_
      have HZD := Lib.hid (zO_dec (b.at_ x))
      have e : leftTo b x b.tries.length = (b.drop x).tries.reverse := by rw [← HRL.out]; exact leftTo_all b x
      have hlen : (b.drop x).tries.length = (leftTo b x b.tries.length).length := by rw [e, List.length_reverse]
      obtain ⟨g1, g2⟩ := HB.out.retried HBL.out (tr := (b.drop x).tries) (tv' := .slice qo (leftTo b x b.tries.length).length co) (by rw [hlen, ← e]; exact HROW.out)
      have HG1 := Lib.hid g1; have HG2 := Lib.hid g2
      clear hs e hlen g1 g2 HROW HNEW HSEEN
      generalize (leftTo b x b.tries.length).length = ol at *
      obtain ⟨zz, hzz⟩ : ∃ zz, zO (b.at_ x) = zz := ⟨_, rfl⟩
      have hzd := HZD.out
      have hz := HZ.out
      rw [hzz] at hzd hz
      subst hz
      have HZZ := Lib.hid hzz
      obtain ⟨ss, hss⟩ : ∃ ss, (b.at_ x).isSome = ss := ⟨_, rfl⟩
      have HSS := Lib.hid hss
      rw [hss] at hzd
      clear hzz hss HZ HZD
      go_wp2_with fail
      go_ret2
      exact ⟨_, by rw [HZZ.out, HSS.out]; rfl, HG1.out, HG2.out⟩
/-- The document's board, wherever its rows lie. -/
def TRefAt (w : World) (r : Nat) (b : Board) : Prop := ∃ lv tv nvs, RefB w r lv tv nvs b
/-- What becomes of the document's board. -/
structure RefTo (w w' : World) (r : Nat) (b' : Board) : Prop where
  ref : TRefAt w' r b'
  upd : Upd (fun i => i = r) w w'
theorem RefTo.same (h : RefB w r lv tv nvs b) : RefTo w w r b := ⟨⟨_, _, _, h⟩, Upd.refl _ _⟩
theorem RefTo.below (h : RefB w r lv tv nvs b) (hb : Below w.heap.size w w') : RefTo w w' r b := ⟨⟨_, _, _, h.below hb⟩, Upd.of_below hb⟩
set_option maxRecDepth 100000 in
set_option maxHeartbeats 4000000 in
theorem rstart_in (h : RefB w r lv tv nvs b) (hF : b.Fine k) (hk : k ≤ 1000000) (t x : Int) :
    Calls Tryd.prog 65 #[.pointer (some ⟨r, 0, none⟩), .int .i64 t, .int .i64 x] w fun e w' => e = .returned (.int .i64 (b.start t x).2) ∧ RefTo w w' r (b.start t x).1 := by
  obtain ⟨i0, hi0, hz0, hz1, hz2⟩ := info_parts try_info
  have HB := Lib.hid h
  obtain ⟨c0, c1, _, c3, _⟩ := h.cells
  have hlen := hF.len
  have hrl := blk_lt h.struct
  obtain ⟨ql, cl, rfl⟩ := slice_len h.row
  by_cases ha : t < 0 ∨ (b.l.length : Int) ≤ t ∨ x < 0
  · have e1 : b.start t x = (b, 2) := by unfold Board.start; rw [if_pos ha]
    rw [e1]
    by_cases h1 : t < 0
    · clear h hF ha e1
      go_enter Tryd.func65, Tryd.ntmps65
      go_wp2_with fail
      go_ret
      exact ⟨rfl, RefTo.same HB.out⟩
    · by_cases h2 : (b.l.length : Int) ≤ t
      · clear h hF ha e1
        go_enter Tryd.func65, Tryd.ntmps65
        go_wp2_with fail
        go_ret
        exact ⟨rfl, RefTo.same HB.out⟩
      · have h3 : x < 0 := by omega
        clear h hF ha e1
        go_enter Tryd.func65, Tryd.ntmps65
        go_wp2_with fail
        go_ret
        exact ⟨rfl, RefTo.same HB.out⟩
  · obtain ⟨t, rfl⟩ : ∃ n : Nat, t = (n : Int) := ⟨t.toNat, by omega⟩
    have ht : t < b.l.length := by omega
    have hx0 : 0 ≤ x := by omega
    have hle : ¬ (b.l.length : Int) ≤ (t : Int) := by omega
    have HA := Lib.hid (rat_any h hF hk x)
    have HS := Lib.hid (rstate_in h hF hk t ht)
    have HST := Lib.hid (show b.start t x = _ from by unfold Board.start; rw [if_neg ha, Int.toNat_natCast])
    have hcnt := hF.count
    clear ha h hF
    cases hfa : b.failed with
    | some f =>
      rw [hfa] at c3
      have HFA := Lib.hid hfa
      have hge : decide ((0 : Int) ≤ (f : Int)) = true := by simp
      clear hfa
      go_enter Tryd.func65, Tryd.ntmps65
      go_wp2_with fail
      go_ret
      rw [HST.out, HFA.out]
      exact ⟨rfl, RefTo.same HB.out⟩
    | none =>
      rw [hfa] at c3
      have HFA := Lib.hid hfa
      clear hfa
      replace c3 : w.cell? ⟨r, 3, none⟩ = some (.int .i64 (-1)) := c3
      cases hat : b.at_ x with
      | some u =>
        rw [hat] at HA
        have HAT := Lib.hid hat
        clear hat
        simp only [Option.getD_some, Option.isSome_some] at HA
        go_enter Tryd.func65, Tryd.ntmps65
        go_wp2_with fail
        refine HA.out.mono ?_
        rintro e w1 ⟨rfl, rfl⟩
        go_wp2_with fail
        go_ret
        rw [HST.out, HFA.out, HAT.out]
        exact ⟨rfl, RefTo.same HB.out⟩
      | none =>
        rw [hat] at HA
        have HAT := Lib.hid hat
        clear hat
        simp only [Option.getD_none, Option.isSome_none] at HA
        have hst2 := HST.out
        rw [HFA.out, HAT.out] at hst2
        simp only [Option.isSome_none, Bool.false_eq_true, if_false] at hst2
        go_enter Tryd.func65, Tryd.ntmps65
        go_wp2_with fail
        refine HA.out.mono ?_
        rintro e w1 ⟨rfl, rfl⟩
        clear HA
        go_wp2_with fail
        refine HS.out.mono ?_
        rintro e w1 ⟨rfl, hb⟩
        have HBE := Lib.hid hb
        have HRB := Lib.hid (HB.out.below hb)
        have d1 := (HB.out.below hb).cells.2.1
        have df1 := (HB.out.below hb).cells.2.2.2.2 1
        have hsz := hb.size
        clear hb HS c0 c1 c3
        by_cases hs : b.state t = 1 ∨ b.state t = 2
        · rw [if_pos hs] at hst2
          have HST2 := Lib.hid hst2
          clear hst2 HST
          generalize b.state t = s at *
          rcases hs with rfl | rfl
          all_goals
            go_wp2_with
              (first
                | (at_builtin; refine wpList_copy_row rfl _ _ 104 rfl rfl tv rfl 121 i0 _ 2 16 Tryd.underlying104 hi0 hz0 hz1 hz2 rfl (by omega) b.tries.length (tryCells b.tries.reverse) (tryCells_one _) HRB.out.tries (by unfold maxLen; omega) (by omega) ?_; intro va wa hva hba hna; obtain ⟨qa, ca, rfl⟩ := slice_len hva; have ea1 := (hba.cell (p := ⟨r, 1, none⟩) (by show r < w1.heap.size; omega)).trans d1; have ef1 := (hba.frozen (p := ⟨r, 1, none⟩) (by show r < w1.heap.size; omega)).trans df1; have hba1 : w1.heap.size ≤ wa.heap.size := hba.size; have HBA := Lib.hid hba; have HNA := Lib.hid hna; have HVA := Lib.hid hva; clear hba hna hva)
                | (at_builtin; refine wpList_append_lies _ rfl _ _ _ rfl 0 121 i0 _ 2 16 Tryd.underlying104 hi0 hz0 hz1 hz2 rfl (by omega) (.slice qa b.tries.length ca) b.tries.length (tryCells b.tries.reverse) rfl (HVA.out.alloc _) ⟨wa.heap.size, 0, none⟩ 1 1 [.int .i64 x, .int .i64 (t : Int)] rfl rfl (World.news_of_block (cs := #[.int .i64 x, .int .i64 (t : Int)]) (t := 121) (fr := (0, 0)) (heap_alloc_new wa _)) (fun u hu => by simp at hu; rcases hu with rfl | rfl <;> rfl) (by omega) (by unfold maxLen; omega) (by omega) (by omega) (wa.heap.size + 1) (by simp) ?_; intro gg cap2 w2 hown2 hgrow hat hlt2; have hne2 : some r ≠ (Value.slice qa b.tries.length ca).ownBlock := (fun e => by have := HNA.out r e.symm; have h3 : w1.heap.size ≤ r := this; omega); have hc2 := (hgrow.cell_far ⟨r, 1, none⟩ (lt_alloc (n := r) (by omega) _) hne2).trans ((((Below.refl wa.heap.size wa).alloc (Nat.le_refl _) (Obj.cells #[.int .i64 x, .int .i64 (t : Int)] 121)).cell (p := ⟨r, 1, none⟩) (by show r < wa.heap.size; omega)).trans ea1); have hf2 := (hgrow.frozen_far ⟨r, 1, none⟩ (lt_alloc (n := r) (by omega) _) hne2).trans ((((Below.refl wa.heap.size wa).alloc (Nat.le_refl _) (Obj.cells #[.int .i64 x, .int .i64 (t : Int)] 121)).frozen (p := ⟨r, 1, none⟩) (by show r < wa.heap.size; omega)).trans ef1); have HOWN2 := Lib.hid hown2; have HGROW := Lib.hid hgrow; clear hown2 hgrow hat hlt2 hne2))
            go_ret
            have hb2 : Below w.heap.size w w2 := (((HBE.out.trans (HBA.out.mono hsz)).alloc (by omega) (Obj.cells #[.int .i64 x, .int .i64 (t : Int)] 121)).grown HGROW.out (by simp; omega) (fun i e => by have := HNA.out i e; omega))
            obtain ⟨g1, g2⟩ := HB.out.retried hb2 (tr := (x, t) :: b.tries) (tv' := .slice (some ⟨gg, 0, none⟩) (b.tries.length + 1) cap2) (by
              rw [List.reverse_cons, tryCells_snoc]
              exact HOWN2.out)
            rw [HST2.out]
            exact ⟨rfl, ⟨_, _, _, by have := g1; rw [HFA.out] at this; exact this⟩, g2⟩
        · have hn1 : (b.state t != 1) = true := by simpa using fun e => hs (.inl e)
          have hn2 : (b.state t != 2) = true := by simpa using fun e => hs (.inr e)
          have hn3 : (b.state t == 1) = false := by simpa using fun e => hs (.inl e)
          have hn4 : (b.state t == 2) = false := by simpa using fun e => hs (.inr e)
          rw [if_neg hs] at hst2
          have HST2 := Lib.hid hst2
          clear hst2 HST
          generalize b.state t = s at *
          clear hs
          go_wp2_with fail
          go_ret
          rw [HST2.out]
          exact ⟨rfl, RefTo.below HB.out HBE.out⟩
theorem drop_none {x : Int} (h : b.at_ x = none) : b.drop x = b := by
  unfold Board.drop
  rw [Board.no_try h]
theorem rend_none (h : RefB w r lv tv nvs b) (hF : b.Fine k) (hk : k ≤ 1000000) {x : Int} (ha : b.at_ x = none) :
    Calls Tryd.prog 66 #[.pointer (some ⟨r, 0, none⟩), .int .i64 x] w fun e w' => e = .returned (.tuple #[.int .i64 (-1), .bool false]) ∧ ∃ tv', RefB w' r lv tv' nvs b ∧ Upd (fun i => i = r) w w' :=
  (rend_any h hF hk x).mono fun e w' ⟨tv', he, h1, h2⟩ => by
    rw [ha] at he
    rw [drop_none ha] at h1
    exact ⟨he, tv', h1, h2⟩
theorem rend_some (h : RefB w r lv tv nvs b) (hF : b.Fine k) (hk : k ≤ 1000000) {x : Int} {t : Nat} (ha : b.at_ x = some t) :
    Calls Tryd.prog 66 #[.pointer (some ⟨r, 0, none⟩), .int .i64 x] w fun e w' => e = .returned (.tuple #[.int .i64 (t : Int), .bool true]) ∧ ∃ tv', RefB w' r lv tv' nvs (b.drop x) ∧ Upd (fun i => i = r) w w' :=
  (rend_any h hF hk x).mono fun e w' ⟨tv', he, h1, h2⟩ => by
    rw [ha] at he
    exact ⟨he, tv', h1, h2⟩
set_option maxRecDepth 100000 in
set_option maxHeartbeats 4000000 in
theorem rcommit_in (h : RefB w r lv tv nvs b) (hF : b.Fine k) (hk : k ≤ 1000000) (x : Int) (v : List UInt8) :
    Calls Tryd.prog 51 #[.pointer (some ⟨r, 0, none⟩), .int .i64 x, .string (bs v)] w fun e w' => e = .returned (.tuple #[.bool (b.commit x v).2.1, .int .i64 (b.commit x v).2.2]) ∧ RefTo w w' r (b.commit x v).1 := by
  have hlen := hF.len
  have hrl := blk_lt h.struct
  cases ha : b.at_ x with
  | none =>
    have HE := Lib.hid (rend_none h hF hk ha)
    have HCN := Lib.hid (commit_none ha v)
    clear h hF ha
    go_enter Tryd.func51, Tryd.ntmps51
    go_wp2_with fail
    refine HE.out.mono ?_
    rintro e w1 ⟨rfl, tv', hB, hU⟩
    have HB := Lib.hid hB; have HU := Lib.hid hU
    clear hB hU
    go_wp2_with fail
    go_ret2
    rw [HCN.out]
    exact ⟨rfl, ⟨_, _, _, HB.out⟩, HU.out⟩
  | some t =>
    have ht := hF.at_lt ha
    obtain ⟨y, hy⟩ : ∃ y, b.l[t] = y := ⟨_, rfl⟩
    have ec := commit_at ha ht v
    rw [hy] at ec
    have HEC := Lib.hid ec
    have HY := Lib.hid hy
    have HE := Lib.hid (rend_some h hF hk ha)
    have hnt : t < nvs.length := by rw [h.nlen]; exact ht
    clear h hF ha ec hy
    go_enter Tryd.func51, Tryd.ntmps51
    go_wp2_with fail
    refine HE.out.mono ?_
    rintro e w1 ⟨rfl, tv', hB, hU⟩
    have HB := Lib.hid hB; have HU := Lib.hid hU
    have d0 := hB.cells.1
    obtain ⟨g, cap, rfl, hix, c0, c1, c2, c3, _⟩ := hB.index t ht
    replace c1 : w1.cell? ⟨g, t * 4 + 1, none⟩ = some (.bool b.l[t].is) := c1
    replace c2 : w1.cell? ⟨g, t * 4 + 2, none⟩ = some (.string (bs b.l[t].value)) := c2
    replace c3 : w1.cell? ⟨g, t * 4 + 3, none⟩ = some (.int .i64 (b.l[t].fails : Int)) := c3
    rw [List.getElem?_eq_getElem hnt] at c0
    obtain ⟨na, ncap, hnv, -⟩ := hB.needs t ht hnt
    rw [hnv] at c0
    have HNV := Lib.hid hnv
    clear hB hU hnv
    generalize (b.drop x).l[t].needs.length = nl at *
    rw [HY.out] at c1 c2 c3
    obtain ⟨yn, yi, yv, yf⟩ := y
    simp only at c1 c2 c3
    cases yi with
    | true =>
      go_wp2_with fail
      go_ret2
      rw [HEC.out]
      exact ⟨rfl, ⟨_, _, _, HB.out.below ((Below.refl _ _).alloc (Nat.le_refl _) _)⟩, HU.out.trans (Upd.of_below (F := fun _ => False) ((Below.refl _ _).alloc (Nat.le_refl _) _)) (fun i e => e.elim)⟩
    | false =>
      have hbx : Below w1.heap.size w1 (w1.alloc (.cells #[.slice na nl ncap, .bool true, .string (bs v), .int .i64 (yf : Int)] 108)) := (Below.refl _ _).alloc (Nat.le_refl _) _
      have hs := rset_any (HB.out.below hbx) (b := b.drop x) hlen t ht ⟨yn, true, v, yf⟩ (by show yn = b.l[t].needs; rw [HY.out]) hnt
      rw [HNV.out] at hs
      have HS := Lib.hid hs; have HBX := Lib.hid hbx
      clear hs hbx
      go_wp2_with fail
      clear d0 c0 c1 c2 c3 hix
      refine HS.out.mono ?_
      rintro e w2 ⟨⟨vv, rfl⟩, ⟨lv', g1⟩, g2⟩
      have HG1 := Lib.hid g1; have HG2 := Lib.hid g2
      clear g1 g2 HS
      go_wp2_with fail
      go_ret2
      rw [HEC.out]
      exact ⟨rfl, ⟨_, _, _, HG1.out⟩, (HU.out.trans (Upd.of_below (F := fun _ => False) HBX.out) (fun i e => e.elim)).trans HG2.out (fun i e => .inl e)⟩
theorem fail_none {x : Int} (ha : b.at_ x = none) : b.fail x = (b, 3) := by unfold Board.fail; rw [ha]
theorem fail_at {x : Int} {t : Nat} (ha : b.at_ x = some t) (ht : t < b.l.length) : b.fail x = if b.l[t].is then (b.drop x, 0) else
      ({ b.drop x with l := b.l.set t { b.l[t] with fails := b.l[t].fails + 1 }, failed := if b.retries < b.l[t].fails + 1 ∧ b.failed = none then some t else b.failed }, 0) := by
  unfold Board.fail
  rw [ha]
  simp only [List.getElem?_eq_getElem ht]
set_option maxRecDepth 100000 in
set_option maxHeartbeats 4000000 in
theorem rfail_in (h : RefB w r lv tv nvs b) (hF : b.Fine k) (hk : k ≤ 1000000) (x : Int) :
    Calls Tryd.prog 50 #[.pointer (some ⟨r, 0, none⟩), .int .i64 x] w fun e w' => e = .returned (.int .i64 (b.fail x).2) ∧ RefTo w w' r (b.fail x).1 := by
  have hlen := hF.len
  have hrl := blk_lt h.struct
  cases ha : b.at_ x with
  | none =>
    have HE := Lib.hid (rend_none h hF hk ha)
    have HCN := Lib.hid (fail_none ha)
    clear h hF ha
    go_enter Tryd.func50, Tryd.ntmps50
    go_wp2_with fail
    refine HE.out.mono ?_
    rintro e w1 ⟨rfl, tv', hB, hU⟩
    have HB := Lib.hid hB; have HU := Lib.hid hU
    clear hB hU
    go_wp2_with fail
    go_ret
    rw [HCN.out]
    exact ⟨rfl, ⟨_, _, _, HB.out⟩, HU.out⟩
  | some t =>
    have ht := hF.at_lt ha
    obtain ⟨y, hy⟩ : ∃ y, b.l[t] = y := ⟨_, rfl⟩
    have ec := fail_at ha ht
    rw [hy] at ec
    have HEC := Lib.hid ec
    have HY := Lib.hid hy
    have hyf : y.fails ≤ 1000000 := Nat.le_trans (hF.fails y (hy ▸ List.getElem_mem ht)) hk
    have HE := Lib.hid (rend_some h hF hk ha)
    have hnt : t < nvs.length := by rw [h.nlen]; exact ht
    clear h hF ha ec hy
    go_enter Tryd.func50, Tryd.ntmps50
    go_wp2_with fail
    refine HE.out.mono ?_
    rintro e w1 ⟨rfl, tv', hB, hU⟩
    have HB := Lib.hid hB; have HU := Lib.hid hU
    have d0 := hB.cells.1
    obtain ⟨g, cap, rfl, hix, c0, c1, c2, c3, _⟩ := hB.index t ht
    replace c1 : w1.cell? ⟨g, t * 4 + 1, none⟩ = some (.bool b.l[t].is) := c1
    replace c2 : w1.cell? ⟨g, t * 4 + 2, none⟩ = some (.string (bs b.l[t].value)) := c2
    replace c3 : w1.cell? ⟨g, t * 4 + 3, none⟩ = some (.int .i64 (b.l[t].fails : Int)) := c3
    rw [List.getElem?_eq_getElem hnt] at c0
    obtain ⟨na, ncap, hnv, -⟩ := hB.needs t ht hnt
    rw [hnv] at c0
    have HNV := Lib.hid hnv
    clear hB hU hnv
    generalize (b.drop x).l[t].needs.length = nl at *
    rw [HY.out] at c1 c2 c3
    obtain ⟨yn, yi, yv, yf⟩ := y
    simp only at c1 c2 c3 hyf
    cases yi with
    | true =>
      go_wp2_with fail
      go_ret
      rw [HEC.out]
      exact ⟨rfl, ⟨_, _, _, HB.out.below ((Below.refl _ _).alloc (Nat.le_refl _) _)⟩, HU.out.trans (Upd.of_below (F := fun _ => False) ((Below.refl _ _).alloc (Nat.le_refl _) _)) (fun i e => e.elim)⟩
    | false =>
      have hbx : Below w1.heap.size w1 (w1.alloc (.cells #[.slice na nl ncap, .bool false, .string (bs yv), .int .i64 ((yf : Int) + 1)] 108)) := (Below.refl _ _).alloc (Nat.le_refl _) _
      have hxb : RowAt (w1.alloc (.cells #[.slice na nl ncap, .bool false, .string (bs yv), .int .i64 ((yf : Int) + 1)] 108)) w1.heap.size 108 [.slice na nl ncap, .bool false, .string (bs yv), .int .i64 ((yf : Int) + 1)] := heap_alloc_new w1 _
      have hs := rset_any (HB.out.below hbx) (b := b.drop x) hlen t ht ⟨yn, false, yv, yf + 1⟩ (by show yn = b.l[t].needs; rw [HY.out]) hnt
      rw [HNV.out] at hs
      simp only [Int.natCast_add, Int.natCast_one] at hs
      have HS := Lib.hid hs; have HBX := Lib.hid hbx; have HXB := Lib.hid hxb
      have hrl1 : r ≠ w1.heap.size := by have := HU.out.size; omega
      have HRL1 := Lib.hid hrl1
      clear hs hbx hxb hrl1
      go_wp2_with fail
      clear d0 c0 c1 c2 c3 hix
      refine HS.out.mono ?_
      rintro e w2 ⟨⟨vv, rfl⟩, ⟨lv', g1⟩, g2⟩
      have x3 : w2.cell? ⟨w1.heap.size, 3, none⟩ = some (.int .i64 ((yf : Int) + 1)) := (HXB.out.upd g2 (fun e => HRL1.out e.symm)).cell 3 (by simp)
      obtain ⟨_, _, k2, k3, kf⟩ := g1.cells
      have kf3 := kf 3
      replace k2 : w2.cell? ⟨r, 2, none⟩ = some (.int .i64 (b.retries : Int)) := k2
      replace k3 : w2.cell? ⟨r, 3, none⟩ = some (.int .i64 (match b.failed with | some t => (t : Int) | none => -1)) := k3
      have HG1 := Lib.hid g1
      have HG2 := Lib.hid ((HU.out.trans (Upd.of_below (F := fun _ => False) HBX.out) (fun i e => e.elim)).trans g2 (fun i e => .inl e))
      have hdr : Below w2.heap.size w2 w2.drew := (Below.refl _ _).drew
      have HDR := Lib.hid hdr
      clear g1 g2 HS kf hdr
      by_cases hr : b.retries < yf + 1
      · have hrd : decide ((b.retries : Int) < (yf : Int) + 1) = true := by simp; omega
        have HR := Lib.hid hr
        clear hr
        cases hfa : b.failed with
        | none =>
          rw [hfa] at k3
          have HFA := Lib.hid hfa
          clear hfa
          replace k3 : w2.cell? ⟨r, 3, none⟩ = some (.int .i64 (-1)) := k3
          go_wp2_with fail
          go_region
          go_wp2_with fail
          go_ret
          rw [HEC.out, if_neg (by decide), if_pos ⟨HR.out, HFA.out⟩]
          obtain ⟨m1, m2⟩ := HG1.out.setFailed HDR.out t
          exact ⟨rfl, ⟨_, _, _, m1⟩, HG2.out.trans m2 (fun i e => .inl e)⟩
        | some f =>
          rw [hfa] at k3
          have HFA := Lib.hid hfa
          clear hfa
          replace k3 : w2.cell? ⟨r, 3, none⟩ = some (.int .i64 (f : Int)) := k3
          have hf0 : decide ((f : Int) < 0) = false := by simp
          go_wp2_with fail
          go_region
          go_wp2_with fail
          go_ret
          rw [HEC.out, if_neg (by decide), if_neg (fun e => by rw [HFA.out] at e; cases e.2)]
          exact ⟨rfl, ⟨_, _, _, HG1.out.below HDR.out⟩, HG2.out.trans (Upd.of_below (F := fun _ => False) HDR.out) (fun i e => e.elim)⟩
      · have hrd : decide ((b.retries : Int) < (yf : Int) + 1) = false := by simp; omega
        have HR := Lib.hid hr
        clear hr
        go_wp2_with fail
        go_region
        go_wp2_with fail
        go_ret
        rw [HEC.out, if_neg (by decide), if_neg (fun e => HR.out e.1)]
        exact ⟨rfl, ⟨_, _, _, HG1.out.below HDR.out⟩, HG2.out.trans (Upd.of_below (F := fun _ => False) HDR.out) (fun i e => e.elim)⟩
end
end Go.Proofs.YtgmhglcdifhimaaDoor
