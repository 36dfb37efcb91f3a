/- maslin/wal: Open, walked. -/
import Derived.Test.YtcljpnkknehlmaaGreatWalRep
namespace Go.Proofs.YtcljpnkknehlmaaGreat
open Go.RowKit Go.Maps
open Wal

/-- What Open answers. -/
def Dsk.openW (D : Dsk) (a n : Int) : Option WLog × Int :=
  if n < 2 ∨ a < 0 ∨ (D.n : Int) < a ∨ (D.n : Int) - a < n then (none, 2)
  else if D.down then (none, 40)
  else match openS (Dsk.text D.now a.toNat n.toNat) n.toNat with
    | none => (none, 50)
    | some (g, u, l) => (some ⟨a.toNat, n.toNat, g, u, l, 0⟩, 0)
def OpenPost (w : World) (b : Nat) (D : Dsk) (a n : Int) (e : Ending) (w' : World) : Prop :=
  match D.openW a n with
  | (none, k) => e = .returned (.tuple #[.pointer none, .int .i64 k]) ∧ Below w.heap.size w w'
  | (some L, k) => ∃ x gv, e = .returned (.tuple #[.pointer (some ⟨x, 0, none⟩), .int .i64 k]) ∧ WalIn w' x b gv L ∧ Below w.heap.size w w' ∧ ∀ q, walBlocks x gv q → w.heap.size ≤ q
theorem openPost_none {w w' : World} {b : Nat} {D : Dsk} {a n k : Int} {e : Ending} (h : D.openW a n = (none, k)) (he : e = .returned (.tuple #[.pointer none, .int .i64 k])) (hb : Below w.heap.size w w') : OpenPost w b D a n e w' := by
  unfold OpenPost; rw [h]; exact ⟨he, hb⟩
theorem openPost_some {w w' : World} {b : Nat} {D : Dsk} {a n k : Int} {L : WLog} {e : Ending} {x : Nat} {gv : Value} (h : D.openW a n = (some L, k)) (he : e = .returned (.tuple #[.pointer (some ⟨x, 0, none⟩), .int .i64 k])) (hw : WalIn w' x b gv L) (hb : Below w.heap.size w w') (hn : ∀ q, walBlocks x gv q → w.heap.size ≤ q) : OpenPost w b D a n e w' := by
  unfold OpenPost; rw [h]; exact ⟨x, gv, he, hw, hb, hn⟩

theorem rows_info : (Tryz.prog.info? 36).map (fun i => (i.zero, i.size, i.bytes)) = some (some (.slice none 0 0), 1, 24) := by kernel_rfl
set_option maxRecDepth 100000 in
theorem walOpen_nil (a n : Int) (w : World) : Calls Tryz.prog 18 #[.pointer none, .int .i64 a, .int .i64 n] w fun e w' => e = .returned (.tuple #[.pointer none, .int .i64 1]) ∧ w = w' := by
  go_enter Tryz.func18, Tryz.ntmps18
  go_wp2_with fail
  go_ret2
  exact ⟨rfl, rfl⟩

set_option maxRecDepth 100000 in
set_option maxHeartbeats 1000000 in
theorem walOpen_arg {w : World} {b : Nat} {D : Dsk} {fp : Nat → Prop} (h : DiskAt w b D fp) (a n : Int) (ha : -9223372036854775808 ≤ a ∧ a ≤ 9223372036854775807) (hn : -9223372036854775808 ≤ n ∧ n ≤ 9223372036854775807)
    (hbad : n < 2 ∨ a < 0 ∨ (D.n : Int) < a ∨ (D.n : Int) - a < n) :
    Calls Tryz.prog 18 #[.pointer (some ⟨b, 0, none⟩), .int .i64 a, .int .i64 n] w fun e w' => OpenPost w b D a n e w' := by
  have hO : Hid (D.openW a n = (none, 2)) := Lib.hid (by unfold Dsk.openW; rw [if_pos hbad])
  have hN := h.fine.n2
  have H := Lib.hid h
  clear h
  generalize hNN : (D.n : Int) = N at *
  have HN := Lib.hid hNN
  have hN2 : 0 ≤ N ∧ N ≤ 16384 := by omega
  clear hNN hN
  by_cases h1 : n < 2
  · go_enter Tryz.func18, Tryz.ntmps18
    go_wp2_with fail
    go_ret2
    exact openPost_none hO.out rfl (Below.refl _ _)
  by_cases h2 : a < 0
  · go_enter Tryz.func18, Tryz.ntmps18
    go_wp2_with fail
    go_ret2
    exact openPost_none hO.out rfl (Below.refl _ _)
  by_cases h3 : N < a
  · go_enter Tryz.func18, Tryz.ntmps18
    go_wp2_with fail
    refine (sectors_any H.out).mono ?_
    rw [HN.out]
    rintro e w1 ⟨rfl, rfl⟩
    go_wp2_with fail
    go_ret2
    exact openPost_none hO.out rfl (Below.refl _ _)
  · have h4 : N - a < n := by omega
    go_enter Tryz.func18, Tryz.ntmps18
    go_wp2_with fail
    refine (sectors_any H.out).mono ?_
    rw [HN.out]
    rintro e w1 ⟨rfl, rfl⟩
    go_wp2_with fail
    refine (sectors_any H.out).mono ?_
    rw [HN.out]
    rintro e w1 ⟨rfl, rfl⟩
    go_wp2_with fail
    go_ret2
    exact openPost_none hO.out rfl (Below.refl _ _)

set_option maxRecDepth 100000 in
set_option maxHeartbeats 1000000 in
theorem walOpen_down {w : World} {b : Nat} {D : Dsk} {fp : Nat → Prop} (h : DiskAt w b D fp) (a n : Int) (ha : -9223372036854775808 ≤ a ∧ a ≤ 9223372036854775807) (hn : -9223372036854775808 ≤ n ∧ n ≤ 9223372036854775807)
    (hok : ¬ (n < 2 ∨ a < 0 ∨ (D.n : Int) < a ∨ (D.n : Int) - a < n)) (hd : D.down = true) :
    Calls Tryz.prog 18 #[.pointer (some ⟨b, 0, none⟩), .int .i64 a, .int .i64 n] w fun e w' => OpenPost w b D a n e w' := by
  have hO : Hid (D.openW a n = (none, 40)) := Lib.hid (by unfold Dsk.openW; rw [if_neg hok, if_pos hd])
  have hN := h.fine.n2
  have H := Lib.hid h
  obtain ⟨m, lv, hI, _⟩ := h
  have HI := Lib.hid hI
  have HD := Lib.hid hd
  clear hI hd
  generalize hNN : (D.n : Int) = N at *
  have HN := Lib.hid hNN
  have hN2 : 0 ≤ N ∧ N ≤ 16384 := by omega
  clear hNN hN
  have h1 : 2 ≤ n := by omega
  have h2 : 0 ≤ a := by omega
  have h3 : a ≤ N := by omega
  have h4 : n ≤ N - a := by omega
  clear hok
  go_enter Tryz.func18, Tryz.ntmps18
  go_wp2_with fail
  refine (sectors_any H.out).mono ?_
  rw [HN.out]
  rintro e w1 ⟨rfl, rfl⟩
  go_wp2_with fail
  refine (sectors_any H.out).mono ?_
  rw [HN.out]
  rintro e w1 ⟨rfl, rfl⟩
  go_wp2_with fail
  refine (read_down HI.out a n HD.out).mono ?_
  rintro e w1 ⟨rfl, rfl⟩
  go_wp2_with fail
  go_ret2
  exact openPost_none hO.out rfl (Below.refl _ _)

set_option maxRecDepth 100000 in
set_option maxHeartbeats 4000000 in
theorem walOpen_in {w : World} {b : Nat} {D : Dsk} {fp : Nat → Prop} (h : DiskAt w b D fp) (a n : Nat) (h2 : 2 ≤ n) (han : a + n ≤ D.n) (hd : D.down = false) :
    Calls Tryz.prog 18 #[.pointer (some ⟨b, 0, none⟩), .int .i64 (a : Int), .int .i64 (n : Int)] w fun e w' => OpenPost w b D a n e w' := by
  have hO : D.openW a n = match openS (Dsk.text D.now a n) n with | none => (none, 50) | some (g, u, l) => (some ⟨a, n, g, u, l, 0⟩, 0) := by
    unfold Dsk.openW
    rw [if_neg (by omega), if_neg (by simp [hd])]
    simp
  have hN := h.fine.n2
  have hlen : (Dsk.text D.now a n).length = 64 * n := Dsk.len_in (fun i h1 h2 => h.fine.now i (by omega))
  have H := Lib.hid h
  obtain ⟨m, lv, hI, _⟩ := h
  have hrd := read_in hI a n hd (by simp [Dsk.inside]; omega)
  have HRD := Lib.hid hrd
  clear hI hd hrd
  generalize hNN : D.n = N at *
  have HN := Lib.hid hNN
  generalize Dsk.text D.now a n = s at *
  clear hNN
  have hc64 : ∀ W, (Instr.slice 9 (.string (bs s)) none (some (.int .i64 64)) none).run Tryz.prog W = .ok (.string (bs (s.take 64))) W := fun W => run_cut_to Tryz.prog W 9 Tryz.underlying9 s 64 (by omega)
  have hc65 : ∀ W, (Instr.slice 9 (.string (bs s)) (some (.int .i64 64)) none none).run Tryz.prog W = .ok (.string (bs (s.drop 64))) W := fun W => run_cut_from Tryz.prog W 9 Tryz.underlying9 s 64 (by omega)
  have hf64 : (s.take 64).length = 64 := by rw [List.length_take]; omega
  have HF64 := Lib.hid hf64
  have HO := Lib.hid hO
  have HLEN := Lib.hid hlen
  clear hf64 hO hlen
  go_enter Tryz.func18, Tryz.ntmps18
  go_wp2_with fail
  refine (sectors_any H.out).mono ?_
  rw [HN.out]
  rintro e w1 ⟨rfl, rfl⟩
  go_wp2_with fail
  refine (sectors_any H.out).mono ?_
  rw [HN.out]
  rintro e w1 ⟨rfl, rfl⟩
  go_wp2_with fail
  refine HRD.out.mono ?_
  rintro e w1 ⟨rfl, hb⟩
  have HB := Lib.hid hb
  clear hb
  go_wp2_with fail
  go_quiet (fail)
  go_wp2_with fail
  refine (whole_any [0] _ (by simp)).mono ?_
  rintro e w2 ⟨rfl, hb2⟩
  have hx2 : w1.heap.size < w2.heap.size := Nat.lt_of_lt_of_le (by show w1.heap.size < (w1.alloc _).heap.size; rw [World.size_alloc]; omega) hb2.size
  have hB2 : Below w.heap.size w w2 := (HB.out.trans ((((Below.refl w1.heap.size w1).alloc (Nat.le_refl _) _).trans ((below_drawn _ _).mono (by rw [World.size_alloc]; omega))).mono HB.out.size)).trans (hb2.mono (by have := HB.out.size; show w.heap.size ≤ (w1.alloc _).heap.size; rw [World.size_alloc]; omega))
  have hw2 : WalIn w2 w1.heap.size b (.slice none 0 0) ⟨a, n, 0, 0, [], 0⟩ := ⟨(hb2.block w1.heap.size (by show w1.heap.size < (w1.alloc _).heap.size; rw [World.size_alloc]; omega)).trans (heap_alloc_new w1 _), GroupsAt.none _, by show 0 < 18446744073709551616; decide, by show 0 + 1 ≤ n; omega, by show a + n ≤ 16384; omega⟩
  have HX := Lib.hid (show w.heap.size ≤ w1.heap.size from HB.out.size)
  have HB2 := Lib.hid hB2
  have HW2 := Lib.hid hw2
  clear hb2 hB2 hw2 hx2
  have hOS : openS s n = if s.take 64 = pad [0] then some (0, 0, []) else
    if s.take 64 = Wal.mark (Crc.val (((s.take 64).take 12).drop 4)) (Crc.val (((s.take 64).take 16).drop 12)) ∧ Crc.val (((s.take 64).take 16).drop 12) ≤ n - 1 then
      (readGs (Crc.val (((s.take 64).take 16).drop 12)) ((s.drop 64).take (64 * Crc.val (((s.take 64).take 16).drop 12)))).map fun l => (Crc.val (((s.take 64).take 12).drop 4), Crc.val (((s.take 64).take 16).drop 12), l)
    else none := rfl
  have hdl : (s.drop 64).length = 64 * (n - 1) := by rw [List.length_drop, HLEN.out]; omega
  have HDL := Lib.hid hdl
  generalize s.take 64 = f at *
  generalize s.drop 64 = r at *
  clear hdl
  by_cases hz : f = pad [0]
  · rw [if_pos hz] at hOS
    have hbz : (f == pad [0]) = true := by simp [hz]
    have HOS := Lib.hid hOS
    clear hOS hz
    go_wp2_with fail
    go_ret2
    refine openPost_some (L := ⟨a, n, 0, 0, [], 0⟩) (k := 0) (by rw [HO.out, HOS.out]) rfl HW2.out HB2.out (fun q hq => ?_)
    rcases hq with rfl | hq
    · exact HX.out
    · simp [Value.ownBlock] at hq
  · rw [if_neg hz] at hOS
    have hbz : (f == pad [0]) = false := by simp [hz]
    have hfl := HF64.out
    have hcu1 : ∀ W, (Instr.slice 9 (.string (bs f)) (some (.int .i64 4)) (some (.int .i64 12)) none).run Tryz.prog W = .ok (.string (bs ((f.take 12).drop 4))) W := fun W => run_cut Tryz.prog W 9 Tryz.underlying9 f 4 12 (by omega) (by omega)
    have hcu2 : ∀ W, (Instr.slice 9 (.string (bs f)) (some (.int .i64 12)) (some (.int .i64 16)) none).run Tryz.prog W = .ok (.string (bs ((f.take 16).drop 12))) W := fun W => run_cut Tryz.prog W 9 Tryz.underlying9 f 12 16 (by omega) (by omega)
    have l1 : ((f.take 12).drop 4).length = 8 := by rw [List.length_drop, List.length_take]; omega
    have l2 : ((f.take 16).drop 12).length = 4 := by rw [List.length_drop, List.length_take]; omega
    have g1 := fun (W : World) => get_any ((f.take 12).drop 4) W (by omega) (by omega)
    have g2 := fun (W : World) => get_any ((f.take 16).drop 12) W (by omega) (by omega)
    have v1 := Crc.val_lt ((f.take 12).drop 4)
    have v2 := Crc.val_lt ((f.take 16).drop 12)
    rw [l1] at v1
    rw [l2] at v2
    generalize Crc.val ((f.take 12).drop 4) = gen at *
    generalize Crc.val ((f.take 16).drop 12) = used at *
    have v1' : gen < 18446744073709551616 := v1
    have v2' : used < 4294967296 := v2
    have HG1 := Lib.hid g1; have HG2 := Lib.hid g2; have HV1 := Lib.hid v1'
    have hwn : IntKind.u64.wrap ((n : Int) - 1) = (n : Int) - 1 := IntWalk.u64_in _ (by omega)
    clear hz hfl l1 l2 g1 g2 v1 v2 v1'
    by_cases hmk : f = Wal.mark gen used
    · have hbm : (f == Wal.mark gen used) = true := by rw [hmk]; simp
      by_cases hun : used ≤ n - 1
      · rw [if_pos ⟨hmk, hun⟩] at hOS
        have hui : (used : Int) ≤ (n : Int) - 1 := by omega
        have HOS := Lib.hid hOS
        have HMK := Lib.hid hmk
        obtain ⟨d0, d1, d2, d3, d4, d5, d6, df⟩ := HW2.out.cells
        clear hOS hmk
        go_wp2_with fail
        refine (HG1.out _).mono ?_
        rintro e w3 ⟨rfl, rfl⟩
        go_wp2_with fail
        refine (HG2.out _).mono ?_
        rintro e w3 ⟨rfl, rfl⟩
        go_wp2_with fail
        refine (mark_any gen used _ HV1.out v2').mono ?_
        rintro e w3 ⟨rfl, hb3⟩
        have HW3 := Lib.hid (HW2.out.below hb3)
        have HB3 := Lib.hid (HB2.out.trans (hb3.mono HB2.out.size))
        clear hb3 d0 d1 d2 d3 d4 d5 d6 df
        obtain ⟨d0, d1, d2, d3, d4, d5, d6, df⟩ := HW3.out.cells
        have df0 := df 0
        have df1 := df 1
        have hwu : (64 : Int) * (used : Int) ≤ 640000000 := by omega
        have hrl := HDL.out
        have hcr : ∀ W, (Instr.slice 9 (.string (bs r)) none (some (.int .i64 (64 * (used : Int)))) none).run Tryz.prog W = .ok (.string (bs (r.take (64 * used)))) W := fun W => by
          have := run_cut_to Tryz.prog W 9 Tryz.underlying9 r (64 * used) (by omega)
          rw [Int.natCast_mul] at this
          exact this
        have hw4 : WalIn ((w3.setCell ⟨w1.heap.size, 0, none⟩ (.int .u64 (gen : Int))).setCell ⟨w1.heap.size, 1, none⟩ (.int .i64 (used : Int))) w1.heap.size b (.slice none 0 0) ⟨a, n, gen, used, [], 0⟩ := by
          have e1 := heap_setCell_same w3 w1.heap.size 0 _ _ (.int .u64 (gen : Int)) HW3.out.struct
          have e2 := heap_setCell_same _ w1.heap.size 1 _ _ (.int .i64 (used : Int)) e1
          exact ⟨e2, GroupsAt.none _, HV1.out, by show used + 1 ≤ n; omega, HW3.out.n⟩
        have HW4 := Lib.hid hw4
        have HB4 := Lib.hid ((HB3.out.setCell (p := ⟨w1.heap.size, 0, none⟩) HX.out (.int .u64 (gen : Int))).setCell (p := ⟨w1.heap.size, 1, none⟩) HX.out (.int .i64 (used : Int)))
        have htl : (r.take (64 * used)).length = 64 * used := by rw [List.length_take]; omega
        have HTL := Lib.hid htl
        clear df hw4 htl
        go_wp2_with fail
        go_loopw [12] (fun rv wr => ∃ (k : Nat) (S : List UInt8) (l : List (List (List UInt8))) (gv : Value), rv = .string (bs S) ∧ S.length % 64 = 0 ∧ S.length ≤ 64 * k ∧ S.length ≤ 10000000 ∧ WalIn wr w1.heap.size b gv ⟨a, n, gen, used, l, 0⟩ ∧ Below w.heap.size w wr ∧ (∀ q, walBlocks w1.heap.size gv q → w.heap.size ≤ q) ∧ readGs used (r.take (64 * used)) = (readGs k S).map (l ++ ·) ∧ l.length + k = used) (fun rv _ => match rv with | .string s => s.size | _ => 0)
        case atStart =>
          refine ⟨used, r.take (64 * used), [], .slice none 0 0, rfl, by rw [HTL.out]; omega, by rw [HTL.out]; omega, by rw [HTL.out]; omega, HW4.out, HB4.out, fun q hq => ?_, by simp, by simp⟩
          rcases hq with rfl | hq
          · exact HX.out
          · simp [Value.ownBlock] at hq
        case round =>
          obtain ⟨k, S, l, gv, rfl, hS64, hSk, hSb, hwi, hb, hnew, hrs, hlk⟩ := hrel
          have HLK := Lib.hid hlk
          clear hlk
          have HWI := Lib.hid hwi; have HBR := Lib.hid hb; have HNW := Lib.hid hnew; have HRS := Lib.hid hrs
          clear hwi hb hnew hrs HW2 HW3 HW4 HB2 HB3 HB4 d0 d1 d2 d3 d4 d5 d6 df0 df1
          by_cases hS : S = []
          · subst hS
            go_wp2_with fail
            go_ret2
            refine openPost_some (L := ⟨a, n, gen, used, l, 0⟩) (k := 0) ?_ rfl HWI.out HBR.out HNW.out
            rw [HO.out, HOS.out, HRS.out, readGs_nil]
            simp
          · have hne : S.isEmpty = false := by
              cases S with
              | nil => exact absurd rfl hS
              | cons => rfl
            have HSN := Lib.hid hS
            clear hS
            go_wp2_with fail
            refine (next_any S _ hSb hS64).mono ?_
            intro e w5 hp
            unfold NextPost at hp
            have hkp : 0 < S.length := List.length_pos_iff.2 HSN.out
            obtain ⟨k', rfl⟩ : ∃ k', k = k' + 1 := ⟨k - 1, by omega⟩
            cases hnx : nextG S with
            | none =>
              rw [hnx] at hp
              obtain ⟨rfl, hb5⟩ := hp
              have HB5 := Lib.hid (HBR.out.trans (hb5.mono HBR.out.size))
              have hno : Hid (readGs used (r.take (64 * used)) = none) := Lib.hid (readGs_none HSN.out HRS.out hnx)
              clear hb5 hnx
              go_wp2_with fail
              go_ret2
              exact openPost_none (by rw [HO.out, HOS.out, hno.out]; rfl) rfl HB5.out
            | some pr =>
              obtain ⟨t, m⟩ := pr
              rw [hnx] at hp
              obtain ⟨lv, rfl, hrow, hb5, _⟩ := hp
              obtain ⟨hm1, hm2, hm3⟩ := nextG_some hnx
              have HB5 := Lib.hid (HBR.out.trans (hb5.mono HBR.out.size))
              have HW5 := Lib.hid (HWI.out.below hb5)
              obtain ⟨qa, ca, rfl, _⟩ := texts_of_row hrow
              have HRK := Lib.hid (RowOk.of_row hrow)
              have HST := Lib.hid (readGs_step HSN.out HRS.out hnx)
              have hux := HBR.out.size
              obtain ⟨cs, hc1, hc2, hc3, hc4⟩ := HW5.out.groups
              obtain ⟨qg, cg, rfl⟩ := slice_len hc1
              have HC1 := Lib.hid hc1; have HC2 := Lib.hid hc2; have HC3 := Lib.hid hc3; have HC4 := Lib.hid hc4
              obtain ⟨i0, hi0, hz0, hz1, hz2⟩ := info_parts rows_info
              obtain ⟨d0, d1, d2, d3, d4, d5, d6, df⟩ := HW5.out.cells
              have df5 := df 5
              have hll : l.length ≤ 16384 := by have := HLK.out; omega
              have k5 := fun (ob : Obj) => And.intro ((((Below.refl w5.heap.size w5).alloc (Nat.le_refl _) ob).cell (p := ⟨w1.heap.size, 5, none⟩) (HW5.out.lt _ (.inl rfl))).trans d5) ((((Below.refl w5.heap.size w5).alloc (Nat.le_refl _) ob).frozen (p := ⟨w1.heap.size, 5, none⟩) (HW5.out.lt _ (.inl rfl))).trans df5)
              have hcut5 : ∀ W, (Instr.slice 9 (.string (bs S)) (some (.int .i64 (m : Int))) none none).run Tryz.prog W = .ok (.string (bs (S.drop m))) W := fun W => run_cut_from Tryz.prog W 9 Tryz.underlying9 S m hm3
              have hsl := HW5.out.ne
              clear hc1 hc2 hc3 hc4 hrow hb5 hnx d0 d1 d2 d3 d4 d6 df
              go_wp2_with (
                at_builtin
                refine wpList_append_own_at _ rfl _ _ _ rfl 0 36 i0 _ 1 24 Tryz.underlying63 hi0 hz0 hz1 hz2 rfl (by omega) (.slice qg l.length cg) l.length cs rfl (HC1.out.alloc _) ⟨w5.heap.size, 0, none⟩ 1 1 [.slice qa t.length ca] rfl rfl (World.news_of_block (cs := #[.slice qa t.length ca]) (t := 36) (fr := (0, 0)) (heap_alloc_new w5 _)) (fun u hu => by rw [List.mem_singleton] at hu; subst hu; exact HRK.out.one) (by unfold maxLen; omega) (by omega) (Nat.zero_le _) ?_
                intro v' w6 hown hgrow _ hat
                have HPU := Lib.hid (HW5.out.pushed HRK.out HC2.out HC3.out HC4.out ((Below.refl w5.heap.size w5).alloc (Nat.le_refl _) _) hgrow hown hat)
                obtain ⟨qv, cv, rfl⟩ := slice_len hown
                have c6 := (hgrow.cell_far ⟨w1.heap.size, 5, none⟩ (by have := HW5.out.lt _ (.inl rfl); show w1.heap.size < (w5.alloc _).heap.size; rw [World.size_alloc]; omega) (Ne.symm hsl)).trans (k5 _).1
                have f6 := (hgrow.frozen_far ⟨w1.heap.size, 5, none⟩ (by have := HW5.out.lt _ (.inl rfl); show w1.heap.size < (w5.alloc _).heap.size; rw [World.size_alloc]; omega) (Ne.symm hsl)).trans (k5 _).2
                clear hown hgrow hat k5 d5 df5)
              refine ⟨⟨k', S.drop m, l ++ [t], _, rfl, by rw [List.length_drop]; omega, by rw [List.length_drop]; omega, by rw [List.length_drop]; omega, HPU.out.1, below_upd HB5.out HPU.out.2.1 HNW.out HB5.out.size, fun q hq => ?_, HST.out, by have := HLK.out; rw [List.length_append, List.length_singleton]; omega⟩, ?_⟩
              · rcases HPU.out.2.2 q hq with h1 | h1
                · exact HNW.out q h1
                · exact Nat.le_trans HB5.out.size h1
              · show (S.drop m).length < S.length
                rw [List.length_drop]; omega
      · rw [if_neg (fun h => hun h.2)] at hOS
        have hui : (n : Int) - 1 < (used : Int) := by omega
        have HOS := Lib.hid hOS
        clear hOS hmk
        go_wp2_with fail
        refine (HG1.out _).mono ?_
        rintro e w3 ⟨rfl, rfl⟩
        go_wp2_with fail
        refine (HG2.out _).mono ?_
        rintro e w3 ⟨rfl, rfl⟩
        go_wp2_with fail
        refine (mark_any gen used _ HV1.out v2').mono ?_
        rintro e w3 ⟨rfl, hb3⟩
        have HB3 := Lib.hid (HB2.out.trans (hb3.mono HB2.out.size))
        clear hb3
        go_wp2_with fail
        go_ret2
        exact openPost_none (by rw [HO.out, HOS.out]) rfl HB3.out
    · rw [if_neg (fun h => hmk h.1)] at hOS
      have hbm : (f == Wal.mark gen used) = false := by simp [hmk]
      have HOS := Lib.hid hOS
      clear hOS hmk
      go_wp2_with fail
      refine (HG1.out _).mono ?_
      rintro e w3 ⟨rfl, rfl⟩
      go_wp2_with fail
      refine (HG2.out _).mono ?_
      rintro e w3 ⟨rfl, rfl⟩
      go_wp2_with fail
      refine (mark_any gen used _ HV1.out v2').mono ?_
      rintro e w3 ⟨rfl, hb3⟩
      have HB3 := Lib.hid (HB2.out.trans (hb3.mono HB2.out.size))
      clear hb3
      go_wp2_with fail
      go_ret2
      exact openPost_none (by rw [HO.out, HOS.out]) rfl HB3.out
/-- Open. -/
theorem walOpen_any {w : World} {b : Nat} {D : Dsk} {fp : Nat → Prop} (h : DiskAt w b D fp) (a n : Int) (ha : -9223372036854775808 ≤ a ∧ a ≤ 9223372036854775807) (hn : -9223372036854775808 ≤ n ∧ n ≤ 9223372036854775807) :
    Calls Tryz.prog 18 #[.pointer (some ⟨b, 0, none⟩), .int .i64 a, .int .i64 n] w fun e w' => OpenPost w b D a n e w' := by
  by_cases hbad : n < 2 ∨ a < 0 ∨ (D.n : Int) < a ∨ (D.n : Int) - a < n
  · exact walOpen_arg h a n ha hn hbad
  · cases hd : D.down with
    | true => exact walOpen_down h a n ha hn hbad hd
    | false =>
      obtain ⟨a, rfl⟩ : ∃ k : Nat, a = (k : Int) := ⟨a.toNat, by omega⟩
      obtain ⟨n, rfl⟩ : ∃ k : Nat, n = (k : Int) := ⟨n.toNat, by omega⟩
      exact walOpen_in h a n (by omega) (by omega) hd
end Go.Proofs.YtcljpnkknehlmaaGreat
