/- The document's master (maslinref31): how it lies in memory; May, New, live, in, round, Alive, walked. -/
import Derived.Test.YtgmhglcdifhimaaDoorTaskDuo
import Derived.Test.YtgmhglcdifhimaaDoorSchedNext
namespace Go.Proofs.YtgmhglcdifhimaaDoor
open Go.RowKit Go.Maps Go.Sort
open Tsk

/-- The document's master in memory. -/
structure RMast (w : World) (R r : Nat) (vv : Value) (M : Sch.Master) : Prop where
  struct : RowAt w R 69 [.pointer (some ⟨r, 0, none⟩), vv]
  board : TRefAt w r M.b
  row : w.ownsRow 0 4 1 vv M.lives.length (livesRow M.lives)
section
variable {w w' w1 : World} {R r k : Nat} {vv : Value} {M : Sch.Master}
theorem RMast.upd {F : Nat → Prop} (h : RMast w R r vv M) (hu : Upd F w w') (hF : ∀ k t, BlkOf w k t → (RefTy t ∨ t = 69) → ¬ F k) (hv : ∀ g, vv.ownBlock = some g → ¬ F g) : RMast w' R r vv M :=
  ⟨h.struct.upd hu (hF R _ h.struct.blk (.inr rfl)), h.board.upd hu (fun k t hb ht => hF k t hb (.inl ht)), ownsRow_upd h.row hu hv⟩
theorem RMast.below (h : RMast w R r vv M) (hb : Below w.heap.size w w') : RMast w' R r vv M := h.upd (Upd.of_below (F := fun _ => False) hb) (fun _ _ _ _ f => f) (fun _ _ f => f)
theorem RMast.cells (h : RMast w R r vv M) : w.cell? ⟨R, 0, none⟩ = some (.pointer (some ⟨r, 0, none⟩)) ∧ w.cell? ⟨R, 1, none⟩ = some vv ∧ ∀ j, w.frozen? ⟨R, j, none⟩ = false :=
  ⟨h.struct.cell 0 (by simp), h.struct.cell 1 (by simp), h.struct.free⟩
theorem RMast.slice (h : RMast w R r vv M) {i : Nat} (hi : i < M.lives.length) : ∃ g cap, vv = .slice (some ⟨g, 0, none⟩) M.lives.length cap ∧
    (∀ W, (Instr.indexAt 67 vv (.int .i64 (i : Int))).run Tryd.prog W = .ok (.pointer (some ⟨g, i, none⟩)) W) ∧
    w.cell? ⟨g, i, none⟩ = some (.bool (M.lives.getD i false)) := by
  rcases h.row.2 with ⟨_, e2⟩ | ⟨g, cap, cur, e1, hgg, hg, _⟩
  · omega
  · subst e1
    have hc := h.row.cells (g := g) rfl i (.bool (M.lives.getD i false)) (by unfold livesRow; rw [List.getElem?_map, List.getElem?_eq_getElem hi, List.getD_eq_getElem?_getD, List.getElem?_eq_getElem hi]; rfl)
    rw [add_plain] at hc
    refine ⟨g, cap, rfl, fun W => ?_, hc⟩
    have := run_index_slice Tryd.prog 67 4 Tryd.underlying67 1 (by kernel_rfl) ⟨g, 0, none⟩ M.lives.length cap i hi W
    rw [add_plain, Nat.mul_one] at this
    exact this
/-- What becomes of the document's master. -/
structure RMastTo (w w' : World) (R r : Nat) (vv vv' : Value) (M' : Sch.Master) : Prop where
  mast : RMast w' R r vv' M'
  upd : Upd (fun i => i = R ∨ i = r) w w'
  fresh : ∀ g, vv'.ownBlock = some g → vv.ownBlock = some g ∨ w.heap.size ≤ g
theorem RMastTo.same (h : RMast w R r vv M) (hb : Below w.heap.size w w') : RMastTo w w' R r vv vv M := ⟨h.below hb, Upd.of_below hb, fun _ hg => .inl hg⟩
theorem RMast.kinds (h : RMast w R r vv M) : R ≠ r ∧ ∀ g, vv.ownBlock = some g → g ≠ R ∧ g ≠ r :=
  ⟨fun e => BlkOf.ne (e ▸ h.struct.blk : BlkOf w r _) h.board.blk (by decide) rfl, fun g hg => ⟨fun e => BlkOf.ne (e ▸ ownsRow_blk h.row hg : BlkOf w R _) h.struct.blk (by decide) rfl, fun e => BlkOf.ne (e ▸ ownsRow_blk h.row hg : BlkOf w r _) h.board.blk (by decide) rfl⟩⟩
theorem RMast.boardTo {b' : Board} (h : RMast w R r vv M) (ht : RefTo w w' r b') : RMastTo w w' R r vv vv ⟨b', M.lives⟩ :=
  ⟨⟨h.struct.upd ht.upd h.kinds.1, ht.ref, ownsRow_upd h.row ht.upd (fun g hg => (h.kinds.2 g hg).2)⟩, ht.upd.mono fun _ e => .inr e, fun _ hg => .inl hg⟩
theorem RMastTo.then {w2 : World} {vv1 vv2 : Value} {M1 M2 : Sch.Master} (h : RMastTo w w1 R r vv vv1 M1) (h' : RMastTo w1 w2 R r vv1 vv2 M2) : RMastTo w w2 R r vv vv2 M2 :=
  ⟨h'.mast, h.upd.trans h'.upd (fun _ hi => .inl hi), fun g hg => by
    rcases h'.fresh g hg with e | e
    · exact h.fresh g e
    · have := h.upd.size; exact .inr (by omega)⟩
def MayM (L : List (List Int)) (W r : Int) : Prop := MayB L r ∧ 1 ≤ W ∧ W ≤ 16
def MayMPost (w : World) (L : List (List Int)) (W r : Int) (e : Ending) (w' : World) : Prop := ∃ v : Bool, e = .returned (.bool v) ∧ (v = true ↔ MayM L W r) ∧ Below w.heap.size w w'
set_option maxRecDepth 100000 in
theorem rmay31_any (a : Option Addr) (cap : Nat) (L : List (List Int)) (W r : Int) (w : World) (hL : NeedsAt w a L) (hlen : L.length ≤ 1000) (hrows : ∀ l ∈ L, l.length ≤ 1000) :
    Calls Tryd.prog 25 #[.slice a L.length cap, .int .i64 W, .int .i64 r] w (MayMPost w L W r) := by
  have HC := Lib.hid (rmay30_any a cap L r w hL hlen hrows)
  have HIF := Lib.hid (show ∀ v : Bool, (v = true ↔ MayB L r) → ((v && decide (1 ≤ W) && decide (W ≤ 16)) = true ↔ MayM L W r) from fun v hv => by
    unfold MayM
    rw [Bool.and_eq_true, Bool.and_eq_true, hv, decide_eq_true_eq, decide_eq_true_eq, and_assoc])
  clear hL hlen hrows
  go_enter Tryd.func25, Tryd.ntmps25
  go_wp2_with fail
  refine HC.out.mono ?_
  rintro e w1 ⟨v, rfl, hv, hb⟩
  have HI := Lib.hid (HIF.out v hv)
  have HB := Lib.hid hb
  clear hv hb HC HIF
  cases v with
  | false =>
    go_wp2_with fail
    go_ret
    exact ⟨false, rfl, HI.out, HB.out⟩
  | true =>
    by_cases h1 : 1 ≤ W
    · have HJ := Lib.hid (show decide (W ≤ 16) = true ↔ MayM L W r from by rw [← HI.out]; simp [h1])
      clear HI
      go_wp2_with fail
      go_ret
      exact ⟨_, rfl, HJ.out, HB.out⟩
    · have HJ := Lib.hid (show false = true ↔ MayM L W r from by rw [← HI.out]; simp [h1])
      clear HI
      go_wp2_with fail
      go_ret
      exact ⟨false, rfl, HJ.out, HB.out⟩
/-- What New makes. -/
def RMade31 (w : World) (L : List (List Int)) (r : Nat) (W : Nat) (e : Ending) (w' : World) : Prop := ∃ R r' vv, e = .returned (.pointer (some ⟨R, 0, none⟩)) ∧ RMast w' R r' vv ⟨Board.new (natsL L) r, List.replicate W true⟩ ∧ Below w.heap.size w w' ∧ w.heap.size ≤ R ∧ w.heap.size ≤ r' ∧ ∀ g, vv.ownBlock = some g → w.heap.size ≤ g
set_option maxRecDepth 100000 in
set_option maxHeartbeats 4000000 in
theorem rnew31_any (a : Option Addr) (cap : Nat) (L : List (List Int)) (r : Nat) (W : Nat) (w : World) (hL : NeedsAt w a L) (hlen : L.length ≤ 4096) (hok : OkNeeds L) (h16 : W ≤ 16) :
    Calls Tryd.prog 26 #[.slice a L.length cap, .int .i64 (W : Int), .int .i64 (r : Int)] w (RMade31 w L r W) := by
  obtain ⟨i0, hi0, hz0, hz1, hz2⟩ := info_parts bool_info
  have HN := Lib.hid (rnew30_any a cap L r w hL hlen hok)
  clear hL hok
  go_enter Tryd.func26, Tryd.ntmps26
  go_wp2_with fail
  refine HN.out.mono ?_
  rintro e w1 ⟨p, rfl, hB, hb, hnew⟩
  have HB := Lib.hid hB; have HBE := Lib.hid hb; have HNW := Lib.hid hnew
  clear hB hb hnew HN
  go_wp2_with fail
  have hp0 := RowAt.made w1 #[.pointer (some ⟨p, 0, none⟩), .slice none 0 0] 69
  have hb0 : Below w1.heap.size w1 (w1.alloc (.cells #[.pointer (some ⟨p, 0, none⟩), .slice none 0 0] 69)) := (Below.refl _ _).alloc (Nat.le_refl _) _
  generalize w1.alloc (.cells #[.pointer (some ⟨p, 0, none⟩), .slice none 0 0] 69) = ws at *
  generalize hPb : w1.heap.size = Pb at *
  go_loopw [8] (fun i wr => ∃ (j : Nat) (v : Value), j ≤ W ∧ i = .int .i64 j ∧ RowAt wr Pb 69 [.pointer (some ⟨p, 0, none⟩), v] ∧ wr.ownsRow (Pb + 1) 4 1 v j (livesRow (List.replicate j true)) ∧ Below Pb w1 wr) (fun i _ => W - (intOf i).toNat)
  case atStart => exact ⟨0, _, Nat.zero_le _, rfl, hp0, World.ownsRow_nil _ _ _ _, hb0⟩
  case round =>
    obtain ⟨j, v, hj, rfl, hp, hrow, hb⟩ := hrel
    have HP := Lib.hid hp; have HROW := Lib.hid hrow; have HBL := Lib.hid hb
    have c1 : wr.cell? ⟨Pb, 1, none⟩ = some v := hp.cell 1 (by simp)
    have hlt0 := hp.lt
    obtain ⟨qo, co, rfl⟩ := slice_len hrow
    clear hp hrow hb hp0 hb0
    by_cases hlt : j < W
    · go_wp2_with (at_builtin; refine wpList_append_lies _ rfl _ _ _ rfl (Pb + 1) 4 i0 _ 1 1 Tryd.underlying67 hi0 hz0 hz1 hz2 rfl (by omega) (.slice qo j co) j (livesRow (List.replicate j true)) rfl (HROW.out.alloc _) ⟨wr.heap.size, 0, none⟩ 1 1 [.bool true] rfl rfl (World.news_of_block (cs := #[.bool true]) (t := 4) (fr := (0, 0)) (heap_alloc_new wr _)) (fun u hu => by simp at hu; subst hu; rfl) (by omega) (by unfold maxLen; omega) (by omega) (by simp; omega) (wr.heap.size + 1) (by simp) ?_; intro gg cap2 w2 hown2 hgrow hat hlt2; have HOWN2 := Lib.hid hown2; have HGROW := Lib.hid hgrow; have hbA : Below wr.heap.size wr (wr.alloc (.cells #[.bool true] 4)) := (Below.refl _ _).alloc (Nat.le_refl _) _; have hu : Upd (fun k => Pb + 1 ≤ k) (wr.alloc (.cells #[.bool true] 4)) w2 := Upd.of_grownBy hgrow (fun k e => row_base HROW.out e); have hp2 := (HP.out.below hbA).upd hu (by omega); have HP2 := Lib.hid hp2; have c2 : w2.cell? ⟨Pb, 1, none⟩ = some (.slice qo j co) := hp2.cell 1 (by simp); have cf2 := hp2.free 1; clear hown2 hgrow hat hlt2 hbA hu hp2)
      go_roundw
      case rel =>
        have hne : ∀ g, (Value.slice (some ⟨gg, 0, none⟩) (j + 1) cap2).ownBlock = some g → ¬ g = Pb := fun g e => by have := row_base HOWN2.out e; omega
        have hbw : Below Pb w1 w2 := (HBL.out.alloc (by omega) _).grown HGROW.out (by simp; omega) (fun i e => by have := row_base HROW.out e; omega)
        refine ⟨j + 1, _, by omega, by go_num, HP2.out.set 1 _, ?_, hbw.setCell (Nat.le_refl _) _⟩
        rw [livesRow_snoc]
        exact ownsRow_upd HOWN2.out ((Upd.refl (fun k => k = Pb) w2).setCell (p := ⟨Pb, 1, none⟩) (.inl rfl) _) hne
      case measure => simp [intOf]; omega
    · obtain rfl : j = W := by omega
      go_wp2_with fail
      go_ret
      have hbw : Below w.heap.size w wr := HBE.out.trans (HBL.out.mono (by rw [← hPb]; exact HBE.out.size))
      have hle : w.heap.size ≤ Pb := by rw [← hPb]; exact HBE.out.size
      refine ⟨Pb, p, .slice qo j co, rfl, ⟨HP.out, HB.out.below (by rw [hPb]; exact HBL.out), ?_⟩, hbw, hle, HNW.out, fun g hg => by have := row_base HROW.out hg; omega⟩
      show wr.ownsRow 0 4 1 _ (List.replicate j true).length _
      rw [List.length_replicate]
      exact ownsRow_zero HROW.out
theorem livesRow_one (l : List Bool) : ∀ u ∈ livesRow l, u.oneCell' = true := by
  intro u hu
  unfold livesRow at hu
  obtain ⟨x, _, rfl⟩ := List.mem_map.1 hu
  rfl
set_option maxRecDepth 100000 in
set_option maxHeartbeats 4000000 in
theorem rlive_any (h : RMast w R r vv M) (hl : M.lives.length ≤ 16) (i : Nat) (hi : i < M.lives.length) (x : Bool) :
    Calls Tryd.prog 52 #[.pointer (some ⟨R, 0, none⟩), .int .i64 (i : Int), .bool x] w fun e w' => (∃ v, e = .returned v) ∧ ∃ vv', RMastTo w w' R r vv vv' ⟨M.b, M.lives.set i x⟩ := by
  obtain ⟨i0, hi0, hz0, hz1, hz2⟩ := info_parts bool_info
  have HM := Lib.hid h
  have HAO := Lib.hid (livesRow_one M.lives)
  have HROW := Lib.hid h.row
  have c1 := h.cells.2.1
  have hRl := h.struct.lt
  clear h
  go_enter Tryd.func52, Tryd.ntmps52
  go_upto_region 1 with (at_builtin; refine wpList_copy_row rfl _ _ 67 rfl rfl vv rfl 4 i0 _ 1 1 Tryd.underlying67 hi0 hz0 hz1 hz2 rfl (by omega) M.lives.length (livesRow M.lives) HAO.out HROW.out (by unfold maxLen; omega) (by omega) ?_; intro va wa hrow hba hna; have HRA := Lib.hid hrow; have HBB := Lib.hid hba; have HNA := Lib.hid hna; clear hrow hba hna)
  obtain ⟨ga, ca, rfl⟩ : ∃ ga ca, va = .slice (some ⟨ga, 0, none⟩) M.lives.length ca := by
    rcases HRA.out.2 with ⟨_, e2⟩ | ⟨g, cap, _, e1, _⟩
    · omega
    · exact ⟨g, cap, e1⟩
  have hix := run_index_slice Tryd.prog 67 4 Tryd.underlying67 1 (by kernel_rfl) ⟨ga, 0, none⟩ M.lives.length ca i hi
  rw [add_plain, Nat.mul_one] at hix
  have hc := HRA.out.cells (g := ga) rfl
  obtain ⟨u0, g0⟩ : ∃ u, wa.cell? ⟨ga, i, none⟩ = some u := by
    have := hc i _ (List.getElem?_eq_getElem (by unfold livesRow; rw [List.length_map]; exact hi))
    rw [add_plain] at this
    exact ⟨_, this⟩
  have f0 := ownsRow_free HRA.out i
  have hMa := HM.out.below HBB.out
  have r1 := hMa.cells.2.1
  have rf := hMa.cells.2.2 1
  have hgn := HNA.out ga rfl
  have hne : ga ≠ R := by omega
  have hne' : R ≠ ga := by omega
  have HMA := Lib.hid hMa
  clear hc hMa c1
  go_wp2_with fail
  go_end0
  have hb4 : Below w.heap.size w (wa.setCell ⟨ga, i, none⟩ (.bool x)) := HBB.out.setCell (p := ⟨ga, i, none⟩) hgn _
  have hM4 := HM.out.below hb4
  have hrow4 := ownsRow_turned HRA.out i (.bool x)
  rw [livesRow_set] at hrow4
  have hu : Upd (fun k => k = R) (wa.setCell ⟨ga, i, none⟩ (.bool x)) ((wa.setCell ⟨ga, i, none⟩ (.bool x)).setCell ⟨R, 1, none⟩ (.slice (some ⟨ga, 0, none⟩) M.lives.length ca)) := (Upd.refl (fun k => k = R) _).setCell (p := ⟨R, 1, none⟩) (.inl rfl) _
  refine ⟨⟨_, rfl⟩, .slice (some ⟨ga, 0, none⟩) M.lives.length ca, ⟨⟨hM4.struct.set 1 _, hM4.board.upd hu (fun k t hb ht e => ?_), ?_⟩, ?_, fun g hg => .inr ?_⟩⟩
  · exact BlkOf.ne (e ▸ hb : BlkOf _ R t) hM4.struct.blk (by intro e2; subst e2; revert ht; unfold RefTy; decide) rfl
  · show World.ownsRow _ 0 _ 1 _ (M.lives.set i x).length _
    rw [List.length_set]
    exact ownsRow_upd hrow4 hu (fun g hg e => by cases hg; exact hne e)
  · exact (Upd.of_below hb4).trans (hu.mono fun _ e => .inl e) (fun _ hi => .inl hi)
  · cases hg; exact hgn
set_option maxRecDepth 100000 in
set_option maxHeartbeats 4000000 in
theorem rin_any (h : RMast w R r vv M) (hF : M.b.Fine k) (hk : k ≤ 1000000) (s0 : Int) :
    Calls Tryd.prog 63 #[.pointer (some ⟨R, 0, none⟩), .int .u8 s0] w (IntsPost w (numsI (M.list s0))) := by
  obtain ⟨i0, hi0, hz0, hz1, hz2⟩ := info_parts int_info
  have HM := Lib.hid h; have HF := Lib.hid hF
  have hlen := hF.len
  obtain ⟨lv, tv, nvs, hB⟩ := h.board
  have HB := Lib.hid hB
  have HC0 := Lib.hid (fun (V : World) (hb : Below w.heap.size w V) => (hB.below hb).cells.1)
  have HR0 := Lib.hid (fun (V : World) (hb : Below w.heap.size w V) => (h.below hb).cells.1)
  have HALL := Lib.hid (listTo_all (M := M) (s := s0))
  obtain ⟨ql, cl, rfl⟩ := slice_len hB.row
  clear h hF hB
  go_enter Tryd.func63, Tryd.ntmps63
  go_wp2_with fail
  go_loopw [5, 6] (fun v i wr => ∃ j : Nat, j ≤ M.b.l.length ∧ i = .int .i64 j ∧ Below w.heap.size w wr ∧ wr.ownsRow w.heap.size 3 1 v (listTo M.b s0 j).length ((numsI (listTo M.b s0 j)).map encZ)) (fun _ i _ => M.b.l.length - (intOf i).toNat)
  case atStart => exact ⟨0, Nat.zero_le _, rfl, Below.refl _ _, World.ownsRow_nil _ _ _ _⟩
  case round =>
    obtain ⟨j, hj, rfl, hb, hrow⟩ := hrel
    have HBL := Lib.hid hb; have HROW := Lib.hid hrow
    have c0 := HC0.out wr hb
    have cR := HR0.out wr hb
    obtain ⟨qo, co, rfl⟩ := slice_len hrow
    clear hb hrow
    by_cases hlt : j < M.b.l.length
    · have HS := Lib.hid (rstate_in (HB.out.below HBL.out) HF.out hk j hlt)
      have HYES := Lib.hid (listTo_yes M.b s0 j)
      have HNO := Lib.hid (listTo_no M.b s0 j)
      have hrl := listTo_len M.b s0 j
      generalize listTo M.b s0 j = out at *
      generalize M.b.state j = s at *
      go_wp2_with fail
      refine HS.out.mono ?_
      rintro e w1 ⟨rfl, hb1⟩
      have HB1 := Lib.hid (HBL.out.trans (hb1.mono HBL.out.size))
      have HR1 := Lib.hid (row_below HROW.out hb1)
      have hs1 : w.heap.size ≤ w1.heap.size := HB1.out.size
      clear hb1 HS
      by_cases hs : s = s0
      · have HY := Lib.hid (HYES.out hs)
        have hsb : (s == s0) = true := by simpa using hs
        clear HYES HNO hs
        go_wp2_with (at_builtin; refine wpList_append_lies _ rfl _ _ _ rfl w.heap.size 3 i0 _ 1 8 Tryd.underlying31 hi0 hz0 hz1 hz2 rfl (by omega) (.slice qo out.length co) out.length ((numsI out).map encZ) rfl (HR1.out.alloc _) ⟨w1.heap.size, 0, none⟩ 1 1 [.int .i64 (j : Int)] rfl rfl (World.news_of_block (cs := #[.int .i64 (j : Int)]) (t := 3) (fr := (0, 0)) (heap_alloc_new w1 _)) (fun u hu => by simp at hu; subst hu; rfl) (by omega) (by unfold maxLen; omega) (by omega) (by simp; omega) (w1.heap.size + 1) (by simp) ?_; intro gg cap2 w2 hown2 hgrow hat hlt2; have HOWN2 := Lib.hid hown2; have HGROW := Lib.hid hgrow; clear hown2 hgrow hat hlt2)
        go_roundw
        case rel =>
          refine ⟨j + 1, by omega, by go_num, ((HB1.out.alloc hs1 _).grown HGROW.out (by simp; omega) (fun i e => row_base HROW.out e)), ?_⟩
          rw [HY.out, show (out ++ [j]).length = out.length + 1 by simp]
          have e : (numsI (out ++ [j])).map encZ = (numsI out).map encZ ++ [.int .i64 (j : Int)] := by unfold numsI; simp [encZ]
          rw [e]
          exact HOWN2.out
        case measure => simp [intOf]; omega
      · have hb1 : (s == s0) = false := by simpa using hs
        have HN := Lib.hid (HNO.out hs)
        clear HYES HNO hs
        go_wp2_with fail
        go_roundw
        case rel => exact ⟨j + 1, by omega, by go_num, HB1.out, by rw [HN.out]; exact HR1.out⟩
        case measure => simp [intOf]; omega
    · obtain rfl : j = M.b.l.length := by omega
      have hrow := HROW.out
      rw [← numsI_len, HALL.out] at hrow
      obtain ⟨ia, ic, ie, iat, _⟩ := ints_of_row hrow
      have HNEW := Lib.hid (fun g hg => row_base HROW.out (g := g) hg)
      injection ie with ie1 ie0 ie2
      subst ie1; subst ie2
      have HIA := Lib.hid (show IntsAt wr qo (numsI (M.list s0)) from iat)
      have HLEN := Lib.hid (show (listTo M.b s0 M.b.l.length).length = (numsI (M.list s0)).length from by rw [HALL.out]; exact (numsI_len _).symm)
      clear iat ie0 hrow
      go_wp2_with fail
      go_ret
      exact ⟨qo, co, by rw [← HLEN.out]; rfl, HIA.out, HBL.out, fun p hp => HNEW.out p.block (by subst hp; rfl)⟩
theorem round_low (t : Int) (n : Nat) (hn : 0 < n) (h : t.tmod n < 0) : t.tmod n + n = ((Sch.round t n : Nat) : Int) := by
  have h1 : -(n : Int) < t.tmod n := by
    have e := Int.natAbs_tmod t (n : Int)
    have := Nat.mod_lt t.natAbs (show 0 < (n : Int).natAbs by omega)
    omega
  unfold Sch.round
  rw [Int.tmod_eq_of_lt (a := t.tmod n + n) (by omega) (by omega)]
  omega
theorem round_high (t : Int) (n : Nat) (hn : 0 < n) (h : 0 ≤ t.tmod n) : t.tmod n = ((Sch.round t n : Nat) : Int) := by
  have h2 : t.tmod n < n := Int.tmod_lt_of_pos t (by omega)
  unfold Sch.round
  have e : (t.tmod n + n).tmod n = t.tmod n := by
    rw [Int.tmod_eq_emod_of_nonneg (by omega), Int.add_emod_right, Int.emod_eq_of_lt h h2]
  rw [e]
  omega
set_option maxRecDepth 100000 in
theorem rround_any (q : Option Addr) (cap : Nat) (l : List Nat) (t : Int) (w : World) (hl : l ≠ []) (hs : l.length ≤ 1000000) (hi : IntsAt w q (numsI l)) :
    Calls Tryd.prog 64 #[.slice q (numsI l).length cap, .int .i64 t] w fun e w' => e = .returned (.int .i64 ((l.getD (Sch.round t l.length) 0 : Nat) : Int)) ∧ w = w' := by
  have hpos : 0 < (numsI l).length := by rw [numsI_len]; exact List.length_pos_iff.2 hl
  have hsm : (numsI l).length ≤ 1000000 := by rw [numsI_len]; exact hs
  obtain ⟨r1, r2, _, r4⟩ := round_facts t _ hpos hsm
  have hlow := round_low t _ hpos
  have hhigh := round_high t _ hpos
  obtain ⟨qa, hix, hc⟩ := hi.index cap _ r4
  have hget : (numsI l)[Sch.round t (numsI l).length] = ((l.getD (Sch.round t l.length) 0 : Nat) : Int) := by
    rw [numsI_get _ (by rw [numsI_len] at r4 ⊢; exact r4), List.getD_eq_getElem?_getD]
    simp only [numsI_len]
    rw [List.getElem?_eq_getElem (by rw [numsI_len] at r4; exact r4)]
    rfl
  rw [hget] at hc
  generalize l.getD (Sch.round t l.length) 0 = x at *
  clear hget hi hs hl r4
  generalize (numsI l).length = n at *
  have hnz : ¬ (n : Int) = 0 := by omega
  generalize Sch.round t n = ro at *
  by_cases hneg : t.tmod n < 0
  · have HLOW := hlow hneg
    generalize htm : t.tmod n = tm at *
    clear hlow hhigh
    go_enter Tryd.func64, Tryd.ntmps64
    go_wp2_with fail
    go_ret
    exact ⟨rfl, rfl⟩
  · have HHI := hhigh (by omega)
    generalize htm : t.tmod n = tm at *
    subst HHI
    clear hlow hhigh
    go_enter Tryd.func64, Tryd.ntmps64
    go_wp2_with fail
    go_ret
    exact ⟨rfl, rfl⟩
def aliveF (b : Board) (idle : Bool) : Int → Bool := fun x => !idle || !(b.at_ x).isSome
set_option maxRecDepth 100000 in
set_option maxHeartbeats 4000000 in
theorem ralive_any (h : RMast w R r vv M) (hF : M.b.Fine k) (hk : k ≤ 1000000) (hl : M.lives.length ≤ 16) (idle : Bool) :
    Calls Tryd.prog 31 #[.pointer (some ⟨R, 0, none⟩), .bool idle] w (IntsPost w (numsI (whoL M.lives (aliveF M.b idle)))) := by
  obtain ⟨i0, hi0, hz0, hz1, hz2⟩ := info_parts int_info
  have HM := Lib.hid h; have HF := Lib.hid hF
  obtain ⟨lv, tv, nvs, hB⟩ := h.board
  have HB := Lib.hid hB
  have HSH := Lib.hid (show whoTo M.lives (aliveF M.b idle) M.lives.length = whoL M.lives (aliveF M.b idle) from rfl)
  have HR0 := Lib.hid (fun (V : World) (hb : Below w.heap.size w V) => (h.below hb).cells)
  obtain ⟨qv, cv, evv⟩ := slice_len h.row
  have HEV := Lib.hid evv
  clear h hF hB evv
  go_enter Tryd.func31, Tryd.ntmps31
  go_wp2_with fail
  go_loopw [5, 6] (fun v i wr => ∃ j : Nat, j ≤ M.lives.length ∧ i = .int .i64 j ∧ Below w.heap.size w wr ∧ wr.ownsRow w.heap.size 3 1 v (whoTo M.lives (aliveF M.b idle) j).length ((numsI (whoTo M.lives (aliveF M.b idle) j)).map encZ)) (fun _ i _ => M.lives.length - (intOf i).toNat)
  case atStart => exact ⟨0, Nat.zero_le _, rfl, Below.refl _ _, World.ownsRow_nil _ _ _ _⟩
  case round =>
    obtain ⟨j, hj, rfl, hb, hrow⟩ := hrel
    have HBL := Lib.hid hb; have HROW := Lib.hid hrow
    obtain ⟨cR, cV, _⟩ := HR0.out wr hb
    rw [HEV.out] at cV
    obtain ⟨qo, co, rfl⟩ := slice_len hrow
    clear hrow
    by_cases hlt : j < M.lives.length
    · obtain ⟨g, cap, ev, hix, hc⟩ := (HM.out.below hb).slice (i := j) hlt
      rw [HEV.out] at hix
      have HA := Lib.hid (rat_any (HB.out.below hb) HF.out hk (j : Int))
      have HYES := Lib.hid (whoTo_yes M.lives (aliveF M.b idle) j)
      have HNO := Lib.hid (whoTo_no M.lives (aliveF M.b idle) j)
      have HFV := Lib.hid (show aliveF M.b idle (j : Int) = (!idle || !(M.b.at_ (j : Int)).isSome) from rfl)
      have hrl := whoTo_len M.lives (aliveF M.b idle) j
      have hs1 : w.heap.size ≤ wr.heap.size := hb.size
      clear hb ev
      generalize whoTo M.lives (aliveF M.b idle) j = out at *
      generalize hlj : M.lives.getD j false = lj at *
      generalize aliveF M.b idle (j : Int) = fv at *
      generalize M.b.at_ (j : Int) = ao at *
      go_wp2_with fail
      refine HA.out.mono ?_
      rintro e w1 ⟨rfl, rfl⟩
      clear HA
      generalize ao.getD 0 = a0 at *
      generalize ao.isSome = az at *
      by_cases hyes : (lj && fv) = true
      · have HY := Lib.hid (HYES.out hyes)
        have hz : lj = true ∧ (!idle || !az) = true := by rw [← HFV.out]; simpa using hyes
        obtain ⟨rfl, hz⟩ := hz
        clear HYES HNO HFV hyes
        cases idle <;> cases az <;> first | (cases hz; done) | skip
        all_goals
          go_wp2_with (at_builtin; refine wpList_append_lies _ rfl _ _ _ rfl w.heap.size 3 i0 _ 1 8 Tryd.underlying31 hi0 hz0 hz1 hz2 rfl (by omega) (.slice qo out.length co) out.length ((numsI out).map encZ) rfl (HROW.out.alloc _) ⟨wr.heap.size, 0, none⟩ 1 1 [.int .i64 (j : Int)] rfl rfl (World.news_of_block (cs := #[.int .i64 (j : Int)]) (t := 3) (fr := (0, 0)) (heap_alloc_new wr _)) (fun u hu => by simp at hu; subst hu; rfl) (by omega) (by unfold maxLen; omega) (by omega) (by simp; omega) (wr.heap.size + 1) (by simp) ?_; intro gg cap2 w2 hown2 hgrow hat hlt2; have HOWN2 := Lib.hid hown2; have HGROW := Lib.hid hgrow; clear hown2 hgrow hat hlt2)
          go_roundw
          case rel =>
            refine ⟨j + 1, by omega, by go_num, ((HBL.out.alloc hs1 _).grown HGROW.out (by simp; omega) (fun i e => row_base HROW.out e)), ?_⟩
            rw [HY.out, show (out ++ [j]).length = out.length + 1 by simp]
            have e : (numsI (out ++ [j])).map encZ = (numsI out).map encZ ++ [.int .i64 (j : Int)] := by unfold numsI; simp [encZ]
            rw [e]
            exact HOWN2.out
          case measure => simp [intOf]; omega
      · have hno : (lj && fv) = false := by simpa using hyes
        have HN := Lib.hid (HNO.out hno)
        have hz : (lj && (!idle || !az)) = false := by rw [← HFV.out]; exact hno
        clear HYES HNO HFV hyes hno
        cases lj <;> cases idle <;> cases az <;> first | (cases hz; done) | skip
        all_goals
          clear hz
          go_wp2_with fail
          go_roundw
          case rel => exact ⟨j + 1, by omega, by go_num, HBL.out, by rw [HN.out]; exact HROW.out⟩
          case measure => simp [intOf]; omega
    · obtain rfl : j = M.lives.length := by omega
      have hrow := HROW.out
      rw [← numsI_len] at hrow
      obtain ⟨ia, ic, ie, iat, _⟩ := ints_of_row hrow
      have HNEW := Lib.hid (fun g hg => row_base HROW.out (g := g) hg)
      injection ie with ie1 ie0 ie2
      subst ie1; subst ie2
      have HIA := Lib.hid (show IntsAt wr qo (numsI (whoL M.lives (aliveF M.b idle))) from iat)
      have HLEN := Lib.hid (show (whoTo M.lives (aliveF M.b idle) M.lives.length).length = (numsI (whoL M.lives (aliveF M.b idle))).length from (numsI_len _).symm)
      clear iat ie0 hrow hb
      go_wp2_with fail
      go_ret
      exact ⟨qo, co, by rw [← HLEN.out]; rfl, HIA.out, HBL.out, fun p hp => HNEW.out p.block (by subst hp; rfl)⟩
end
end Go.Proofs.YtgmhglcdifhimaaDoor
