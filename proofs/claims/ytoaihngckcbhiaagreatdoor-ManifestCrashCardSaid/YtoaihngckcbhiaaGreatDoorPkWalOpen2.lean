/- WalOpen2 -/
import Derived.Test.YtoaihngckcbhiaaGreatDoorPkWalRep
import Derived.Test.YtoaihngckcbhiaaGreatDoorPkDiskCopy2
import Derived.Test.YtoaihngckcbhiaaGreatDoorPkWalLaw2
namespace Go.Proofs.YtoaihngckcbhiaaGreatDoor
open Go.RowKit Go.Maps
open Wal
def Dsk.openW (D : Dsk) (a n : Int) : Option WLog × Int :=
  if n < 2 ∨ a < 0 ∨ (D.n : Int) < a ∨ (D.n : Int) - a < n then (none, 2)
  else if D.down then (none, 40)
  else match openS (Dsk.text D.now a.toNat n.toNat) n.toNat with
    | none => (none, 50)
    | some (g, u, l) => (some ⟨a.toNat, n.toNat, g, u, l, 0⟩, 0)
def OpenPost (w : World) (b : Nat) (D : Dsk) (a n : Int) (e : Ending) (w' : World) : Prop :=
  match D.openW a n with
  | (none, k) => e = .returned (.tuple #[.pointer none, .int .i64 k]) ∧ Below w.heap.size w w'
  | (some L, k) => ∃ x gv, e = .returned (.tuple #[.pointer (some ⟨x, 0, none⟩), .int .i64 k]) ∧ WalIn w' x b gv L ∧ Below w.heap.size w w' ∧ ∀ q, walBlocks x gv q → w.heap.size ≤ q
theorem openPost_none {w w' : World} {b : Nat} {D : Dsk} {a n k : Int} {e : Ending} (h : D.openW a n = (none, k)) (he : e = .returned (.tuple #[.pointer none, .int .i64 k])) (hb : Below w.heap.size w w') : OpenPost w b D a n e w' := by
  unfold OpenPost; rw [h]; exact ⟨he, hb⟩
theorem openPost_some {w w' : World} {b : Nat} {D : Dsk} {a n k : Int} {L : WLog} {e : Ending} {x : Nat} {gv : Value} (h : D.openW a n = (some L, k)) (he : e = .returned (.tuple #[.pointer (some ⟨x, 0, none⟩), .int .i64 k])) (hw : WalIn w' x b gv L) (hb : Below w.heap.size w w') (hn : ∀ q, walBlocks x gv q → w.heap.size ≤ q) : OpenPost w b D a n e w' := by
  unfold OpenPost; rw [h]; exact ⟨x, gv, he, hw, hb, hn⟩
theorem rows_info : (Tryz.prog.info? 30).map (fun i => (i.zero, i.size, i.bytes)) = some (some (.slice none 0 0), 1, 24) := by kernel_rfl
set_option maxRecDepth 100000 in
set_option maxHeartbeats 1000000 in
theorem walOpen_arg {w : World} {b : Nat} {D : Dsk} {fp : Nat → Prop} (h : DiskAt w b D fp) (a n : Int) (ha : -9223372036854775808 ≤ a ∧ a ≤ 9223372036854775807) (hn : -9223372036854775808 ≤ n ∧ n ≤ 9223372036854775807)
    (hbad : n < 2 ∨ a < 0 ∨ (D.n : Int) < a ∨ (D.n : Int) - a < n) :
    Calls Tryz.prog 28 #[.pointer (some ⟨b, 0, none⟩), .int .i64 a, .int .i64 n] w fun e w' => OpenPost w b D a n e w' := by
  have hO : Hid (D.openW a n = (none, 2)) := Lib.hid (by unfold Dsk.openW; rw [if_pos hbad])
  have hN := h.fine.n2
  have H := Lib.hid h
  clear h
  generalize hNN : (D.n : Int) = N at *
  have HN := Lib.hid hNN
  have hN2 : 0 ≤ N ∧ N ≤ 16384 := by omega
  clear hNN hN
  by_cases h1 : n < 2
  · go_enter Tryz.func28, Tryz.ntmps28
    go_wp2_with fail
    go_ret2
    exact openPost_none hO.out rfl (Below.refl _ _)
  by_cases h2 : a < 0
  · go_enter Tryz.func28, Tryz.ntmps28
    go_wp2_with fail
    go_ret2
    exact openPost_none hO.out rfl (Below.refl _ _)
  by_cases h3 : N < a
  · go_enter Tryz.func28, Tryz.ntmps28
    go_wp2_with fail
    refine (sectors_any H.out).mono ?_
    rw [HN.out]
    rintro e w1 ⟨rfl, rfl⟩
    go_wp2_with fail
    go_ret2
    exact openPost_none hO.out rfl (Below.refl _ _)
  · have h4 : N - a < n := by omega
    go_enter Tryz.func28, Tryz.ntmps28
    go_wp2_with fail
    refine (sectors_any H.out).mono ?_
    rw [HN.out]
    rintro e w1 ⟨rfl, rfl⟩
    go_wp2_with fail
    refine (sectors_any H.out).mono ?_
    rw [HN.out]
    rintro e w1 ⟨rfl, rfl⟩
    go_wp2_with fail
    go_ret2
    exact openPost_none hO.out rfl (Below.refl _ _)
set_option maxRecDepth 100000 in
set_option maxHeartbeats 1000000 in
theorem walOpen_down {w : World} {b : Nat} {D : Dsk} {fp : Nat → Prop} (h : DiskAt w b D fp) (a n : Int) (ha : -9223372036854775808 ≤ a ∧ a ≤ 9223372036854775807) (hn : -9223372036854775808 ≤ n ∧ n ≤ 9223372036854775807)
    (hok : ¬ (n < 2 ∨ a < 0 ∨ (D.n : Int) < a ∨ (D.n : Int) - a < n)) (hd : D.down = true) :
    Calls Tryz.prog 28 #[.pointer (some ⟨b, 0, none⟩), .int .i64 a, .int .i64 n] w fun e w' => OpenPost w b D a n e w' := by
  have hO : Hid (D.openW a n = (none, 40)) := Lib.hid (by unfold Dsk.openW; rw [if_neg hok, if_pos hd])
  have hN := h.fine.n2
  have H := Lib.hid h
  obtain ⟨m, lv, hI, _⟩ := h
  have HI := Lib.hid hI
  have HD := Lib.hid hd
  clear hI hd
  generalize hNN : (D.n : Int) = N at *
  have HN := Lib.hid hNN
  have hN2 : 0 ≤ N ∧ N ≤ 16384 := by omega
  clear hNN hN
  have h1 : 2 ≤ n := by omega
  have h2 : 0 ≤ a := by omega
  have h3 : a ≤ N := by omega
  have h4 : n ≤ N - a := by omega
  clear hok
  go_enter Tryz.func28, Tryz.ntmps28
  go_wp2_with fail
  refine (sectors_any H.out).mono ?_
  rw [HN.out]
  rintro e w1 ⟨rfl, rfl⟩
  go_wp2_with fail
  refine (sectors_any H.out).mono ?_
  rw [HN.out]
  rintro e w1 ⟨rfl, rfl⟩
  go_wp2_with fail
  refine (read_down HI.out a n HD.out).mono ?_
  rintro e w1 ⟨rfl, rfl⟩
  go_wp2_with fail
  go_ret2
  exact openPost_none hO.out rfl (Below.refl _ _)
set_option maxRecDepth 100000 in
set_option maxHeartbeats 4000000 in
theorem walOpen_in {w : World} {b : Nat} {D : Dsk} {fp : Nat → Prop} (h : DiskAt w b D fp) (a n : Nat) (h2 : 2 ≤ n) (han : a + n ≤ D.n) (hd : D.down = false) :
    Calls Tryz.prog 28 #[.pointer (some ⟨b, 0, none⟩), .int .i64 (a : Int), .int .i64 (n : Int)] w fun e w' => OpenPost w b D a n e w' := by
  have hO : D.openW a n = match openS (Dsk.text D.now a n) n with | none => (none, 50) | some (g, u, l) => (some ⟨a, n, g, u, l, 0⟩, 0) := by
    unfold Dsk.openW
    rw [if_neg (by omega), if_neg (by simp [hd])]
    simp
  have hN := h.fine.n2
  have hlen : (Dsk.text D.now a n).length = 64 * n := Dsk.len_in (fun i h1 h2 => h.fine.now i (by omega))
  have H := Lib.hid h
  obtain ⟨m, lv, hI, _⟩ := h
  have hrd := read_in hI a n hd (by simp [Dsk.inside]; omega)
  have HRD := Lib.hid hrd
  clear hI hd hrd
  generalize hNN : D.n = N at *
  have HN := Lib.hid hNN
  generalize Dsk.text D.now a n = s at *
  clear hNN
  have hc64 : ∀ W, (Instr.slice 9 (.string (bs s)) none (some (.int .i64 64)) none).run Tryz.prog W = .ok (.string (bs (s.take 64))) W := fun W => run_cut_to Tryz.prog W 9 Tryz.underlying9 s 64 (by omega)
  have hc65 : ∀ W, (Instr.slice 9 (.string (bs s)) (some (.int .i64 64)) none none).run Tryz.prog W = .ok (.string (bs (s.drop 64))) W := fun W => run_cut_from Tryz.prog W 9 Tryz.underlying9 s 64 (by omega)
  have hf64 : (s.take 64).length = 64 := by rw [List.length_take]; omega
  have HF64 := Lib.hid hf64
  have HO := Lib.hid hO
  have HLEN := Lib.hid hlen
  clear hf64 hO hlen
  go_enter Tryz.func28, Tryz.ntmps28
  go_wp2_with fail
  refine (sectors_any H.out).mono ?_
  rw [HN.out]
  rintro e w1 ⟨rfl, rfl⟩
  go_wp2_with fail
  refine (sectors_any H.out).mono ?_
  rw [HN.out]
  rintro e w1 ⟨rfl, rfl⟩
  go_wp2_with fail
  refine HRD.out.mono ?_
  rintro e w1 ⟨rfl, hb⟩
  have HB := Lib.hid hb
  clear hb
  go_wp2_with fail
  go_quiet (fail)
  go_wp2_with fail
  refine (whole_any [0] _ (by simp)).mono ?_
  rintro e w2 ⟨rfl, hb2⟩
  have hx2 : w1.heap.size < w2.heap.size := Nat.lt_of_lt_of_le (by show w1.heap.size < (w1.alloc _).heap.size; rw [World.size_alloc]; omega) hb2.size
  have hB2 : Below w.heap.size w w2 := (HB.out.trans ((((Below.refl w1.heap.size w1).alloc (Nat.le_refl _) _).trans ((below_drawn _ _).mono (by rw [World.size_alloc]; omega))).mono HB.out.size)).trans (hb2.mono (by have := HB.out.size; show w.heap.size ≤ (w1.alloc _).heap.size; rw [World.size_alloc]; omega))
  have hw2 : WalIn w2 w1.heap.size b (.slice none 0 0) ⟨a, n, 0, 0, [], 0⟩ := ⟨(hb2.block w1.heap.size (by show w1.heap.size < (w1.alloc _).heap.size; rw [World.size_alloc]; omega)).trans (heap_alloc_new w1 _), GroupsAt.none _, by show 0 < 18446744073709551616; decide, by show 0 + 1 ≤ n; omega, by show a + n ≤ 16384; omega⟩
  have HX := Lib.hid (show w.heap.size ≤ w1.heap.size from HB.out.size)
  have HB2 := Lib.hid hB2
  have HW2 := Lib.hid hw2
  clear hb2 hB2 hw2 hx2
  have hOS : openS s n = if s.take 64 = pad [0] then some (0, 0, []) else
    if s.take 64 = Wal.mark (Crc.val (((s.take 64).take 12).drop 4)) (Crc.val (((s.take 64).take 16).drop 12)) ∧ Crc.val (((s.take 64).take 16).drop 12) ≤ n - 1 then
      (readGs (Crc.val (((s.take 64).take 16).drop 12)) ((s.drop 64).take (64 * Crc.val (((s.take 64).take 16).drop 12)))).map fun l => (Crc.val (((s.take 64).take 12).drop 4), Crc.val (((s.take 64).take 16).drop 12), l)
    else none := rfl
  have hdl : (s.drop 64).length = 64 * (n - 1) := by rw [List.length_drop, HLEN.out]; omega
  have HDL := Lib.hid hdl
  generalize s.take 64 = f at *
  generalize s.drop 64 = r at *
  clear hdl
  by_cases hz : f = pad [0]
  · rw [if_pos hz] at hOS
    have hbz : (f == pad [0]) = true := by simp [hz]
    have HOS := Lib.hid hOS
    clear hOS hz
    go_wp2_with fail
    go_ret2
    refine openPost_some (L := ⟨a, n, 0, 0, [], 0⟩) (k := 0) (by rw [HO.out, HOS.out]) rfl HW2.out HB2.out (fun q hq => ?_)
    rcases hq with rfl | hq
    · exact HX.out
    · simp [Value.ownBlock] at hq
  · rw [if_neg hz] at hOS
    have hbz : (f == pad [0]) = false := by simp [hz]
    have hfl := HF64.out
    have hcu1 : ∀ W, (Instr.slice 9 (.string (bs f)) (some (.int .i64 4)) (some (.int .i64 12)) none).run Tryz.prog W = .ok (.string (bs ((f.take 12).drop 4))) W := fun W => run_cut Tryz.prog W 9 Tryz.underlying9 f 4 12 (by omega) (by omega)
    have hcu2 : ∀ W, (Instr.slice 9 (.string (bs f)) (some (.int .i64 12)) (some (.int .i64 16)) none).run Tryz.prog W = .ok (.string (bs ((f.take 16).drop 12))) W := fun W => run_cut Tryz.prog W 9 Tryz.underlying9 f 12 16 (by omega) (by omega)
    have l1 : ((f.take 12).drop 4).length = 8 := by rw [List.length_drop, List.length_take]; omega
    have l2 : ((f.take 16).drop 12).length = 4 := by rw [List.length_drop, List.length_take]; omega
    have g1 := fun (W : World) => get_any ((f.take 12).drop 4) W (by omega) (by omega)
    have g2 := fun (W : World) => get_any ((f.take 16).drop 12) W (by omega) (by omega)
    have v1 := Crc.val_lt ((f.take 12).drop 4)
    have v2 := Crc.val_lt ((f.take 16).drop 12)
    rw [l1] at v1
    rw [l2] at v2
    generalize Crc.val ((f.take 12).drop 4) = gen at *
    generalize Crc.val ((f.take 16).drop 12) = used at *
    have v1' : gen < 18446744073709551616 := v1
    have v2' : used < 4294967296 := v2
    have HG1 := Lib.hid g1; have HG2 := Lib.hid g2; have HV1 := Lib.hid v1'
    have hwn : IntKind.u64.wrap ((n : Int) - 1) = (n : Int) - 1 := IntWalk.u64_in _ (by omega)
    clear hz hfl l1 l2 g1 g2 v1 v2 v1'
    by_cases hmk : f = Wal.mark gen used
    · have hbm : (f == Wal.mark gen used) = true := by rw [hmk]; simp
      by_cases hun : used ≤ n - 1
      · rw [if_pos ⟨hmk, hun⟩] at hOS
        have hui : (used : Int) ≤ (n : Int) - 1 := by omega
        have HOS := Lib.hid hOS
        have HMK := Lib.hid hmk
        obtain ⟨d0, d1, d2, d3, d4, d5, d6, df⟩ := HW2.out.cells
        clear hOS hmk
        go_wp2_with fail
        refine (HG1.out _).mono ?_
        rintro e w3 ⟨rfl, rfl⟩
        go_wp2_with fail
        refine (HG2.out _).mono ?_
        rintro e w3 ⟨rfl, rfl⟩
        go_wp2_with fail
        refine (mark_any gen used _ HV1.out v2').mono ?_
        rintro e w3 ⟨rfl, hb3⟩
        have HW3 := Lib.hid (HW2.out.below hb3)
        have HB3 := Lib.hid (HB2.out.trans (hb3.mono HB2.out.size))
        clear hb3 d0 d1 d2 d3 d4 d5 d6 df
        obtain ⟨d0, d1, d2, d3, d4, d5, d6, df⟩ := HW3.out.cells
        have df0 := df 0
        have df1 := df 1
        have hwu : (64 : Int) * (used : Int) ≤ 640000000 := by omega
        have hrl := HDL.out
        have hcr : ∀ W, (Instr.slice 9 (.string (bs r)) none (some (.int .i64 (64 * (used : Int)))) none).run Tryz.prog W = .ok (.string (bs (r.take (64 * used)))) W := fun W => by
          have := run_cut_to Tryz.prog W 9 Tryz.underlying9 r (64 * used) (by omega)
          rw [Int.natCast_mul] at this
          exact this
        have hw4 : WalIn ((w3.setCell ⟨w1.heap.size, 0, none⟩ (.int .u64 (gen : Int))).setCell ⟨w1.heap.size, 1, none⟩ (.int .i64 (used : Int))) w1.heap.size b (.slice none 0 0) ⟨a, n, gen, used, [], 0⟩ := by
          have e1 := heap_setCell_same w3 w1.heap.size 0 _ _ (.int .u64 (gen : Int)) HW3.out.struct
          have e2 := heap_setCell_same _ w1.heap.size 1 _ _ (.int .i64 (used : Int)) e1
          exact ⟨e2, GroupsAt.none _, HV1.out, by show used + 1 ≤ n; omega, HW3.out.n⟩
        have HW4 := Lib.hid hw4
        have HB4 := Lib.hid ((HB3.out.setCell (p := ⟨w1.heap.size, 0, none⟩) HX.out (.int .u64 (gen : Int))).setCell (p := ⟨w1.heap.size, 1, none⟩) HX.out (.int .i64 (used : Int)))
        have htl : (r.take (64 * used)).length = 64 * used := by rw [List.length_take]; omega
        have HTL := Lib.hid htl
        clear df hw4 htl
        go_wp2_with fail
        go_loopw [12] (fun rv wr => ∃ (k : Nat) (S : List UInt8) (l : List (List (List UInt8))) (gv : Value), rv = .string (bs S) ∧ S.length % 64 = 0 ∧ S.length ≤ 64 * k ∧ S.length ≤ 10000000 ∧ WalIn wr w1.heap.size b gv ⟨a, n, gen, used, l, 0⟩ ∧ Below w.heap.size w wr ∧ (∀ q, walBlocks w1.heap.size gv q → w.heap.size ≤ q) ∧ readGs used (r.take (64 * used)) = (readGs k S).map (l ++ ·) ∧ l.length + k = used) (fun rv _ => match rv with | .string s => s.size | _ => 0)
        case atStart =>
          refine ⟨used, r.take (64 * used), [], .slice none 0 0, rfl, by rw [HTL.out]; omega, by rw [HTL.out]; omega, by rw [HTL.out]; omega, HW4.out, HB4.out, fun q hq => ?_, by simp, by simp⟩
          rcases hq with rfl | hq
          · exact HX.out
          · simp [Value.ownBlock] at hq
        case round =>
          obtain ⟨k, S, l, gv, rfl, hS64, hSk, hSb, hwi, hb, hnew, hrs, hlk⟩ := hrel
          have HLK := Lib.hid hlk
          clear hlk
          have HWI := Lib.hid hwi; have HBR := Lib.hid hb; have HNW := Lib.hid hnew; have HRS := Lib.hid hrs
          clear hwi hb hnew hrs HW2 HW3 HW4 HB2 HB3 HB4 d0 d1 d2 d3 d4 d5 d6 df0 df1
          by_cases hS : S = []
          · subst hS
            go_wp2_with fail
            go_ret2
            refine openPost_some (L := ⟨a, n, gen, used, l, 0⟩) (k := 0) ?_ rfl HWI.out HBR.out HNW.out
            rw [HO.out, HOS.out, HRS.out, readGs_nil]
            simp
          · have hne : S.isEmpty = false := by
              cases S with
              | nil => exact absurd rfl hS
              | cons => rfl
            have HSN := Lib.hid hS
            clear hS
            go_wp2_with fail
            refine (next_any S _ hSb hS64).mono ?_
            intro e w5 hp
            unfold NextPost at hp
            have hkp : 0 < S.length := List.length_pos_iff.2 HSN.out
            obtain ⟨k', rfl⟩ : ∃ k', k = k' + 1 := ⟨k - 1, by omega⟩
            cases hnx : nextG S with
            | none =>
              rw [hnx] at hp
              obtain ⟨rfl, hb5⟩ := hp
              have HB5 := Lib.hid (HBR.out.trans (hb5.mono HBR.out.size))
              have hno : Hid (readGs used (r.take (64 * used)) = none) := Lib.hid (readGs_none HSN.out HRS.out hnx)
              clear hb5 hnx
              go_wp2_with fail
              go_ret2
              exact openPost_none (by rw [HO.out, HOS.out, hno.out]; rfl) rfl HB5.out
            | some pr =>
              obtain ⟨t, m⟩ := pr
              rw [hnx] at hp
              obtain ⟨lv, rfl, hrow, hb5, _⟩ := hp
              obtain ⟨hm1, hm2, hm3⟩ := nextG_some hnx
              have HB5 := Lib.hid (HBR.out.trans (hb5.mono HBR.out.size))
              have HW5 := Lib.hid (HWI.out.below hb5)
              obtain ⟨qa, ca, rfl, _⟩ := texts_of_row hrow
              have HRK := Lib.hid (RowOk.of_row hrow)
              have HST := Lib.hid (readGs_step HSN.out HRS.out hnx)
              have hux := HBR.out.size
              obtain ⟨cs, hc1, hc2, hc3, hc4⟩ := HW5.out.groups
              obtain ⟨qg, cg, rfl⟩ := slice_len hc1
              have HC1 := Lib.hid hc1; have HC2 := Lib.hid hc2; have HC3 := Lib.hid hc3; have HC4 := Lib.hid hc4
              obtain ⟨i0, hi0, hz0, hz1, hz2⟩ := info_parts rows_info
              obtain ⟨d0, d1, d2, d3, d4, d5, d6, df⟩ := HW5.out.cells
              have df5 := df 5
              have hll : l.length ≤ 16384 := by have := HLK.out; omega
              have k5 := fun (ob : Obj) => And.intro ((((Below.refl w5.heap.size w5).alloc (Nat.le_refl _) ob).cell (p := ⟨w1.heap.size, 5, none⟩) (HW5.out.lt _ (.inl rfl))).trans d5) ((((Below.refl w5.heap.size w5).alloc (Nat.le_refl _) ob).frozen (p := ⟨w1.heap.size, 5, none⟩) (HW5.out.lt _ (.inl rfl))).trans df5)
              have hcut5 : ∀ W, (Instr.slice 9 (.string (bs S)) (some (.int .i64 (m : Int))) none none).run Tryz.prog W = .ok (.string (bs (S.drop m))) W := fun W => run_cut_from Tryz.prog W 9 Tryz.underlying9 S m hm3
              have hsl := HW5.out.ne
              clear hc1 hc2 hc3 hc4 hrow hb5 hnx d0 d1 d2 d3 d4 d6 df
              go_wp2_with (
                at_builtin
                refine wpList_append_own_at _ rfl _ _ _ rfl 0 30 i0 _ 1 24 Tryz.underlying83 hi0 hz0 hz1 hz2 rfl (by omega) (.slice qg l.length cg) l.length cs rfl (HC1.out.alloc _) ⟨w5.heap.size, 0, none⟩ 1 1 [.slice qa t.length ca] rfl rfl (World.news_of_block (cs := #[.slice qa t.length ca]) (t := 30) (fr := (0, 0)) (heap_alloc_new w5 _)) (fun u hu => by rw [List.mem_singleton] at hu; subst hu; exact HRK.out.one) (by unfold maxLen; omega) (by omega) (Nat.zero_le _) ?_
                intro v' w6 hown hgrow _ hat
                have HPU := Lib.hid (HW5.out.pushed HRK.out HC2.out HC3.out HC4.out ((Below.refl w5.heap.size w5).alloc (Nat.le_refl _) _) hgrow hown hat)
                obtain ⟨qv, cv, rfl⟩ := slice_len hown
                have c6 := (hgrow.cell_far ⟨w1.heap.size, 5, none⟩ (by have := HW5.out.lt _ (.inl rfl); show w1.heap.size < (w5.alloc _).heap.size; rw [World.size_alloc]; omega) (Ne.symm hsl)).trans (k5 _).1
                have f6 := (hgrow.frozen_far ⟨w1.heap.size, 5, none⟩ (by have := HW5.out.lt _ (.inl rfl); show w1.heap.size < (w5.alloc _).heap.size; rw [World.size_alloc]; omega) (Ne.symm hsl)).trans (k5 _).2
                clear hown hgrow hat k5 d5 df5)
              refine ⟨⟨k', S.drop m, l ++ [t], _, rfl, by rw [List.length_drop]; omega, by rw [List.length_drop]; omega, by rw [List.length_drop]; omega, HPU.out.1, below_upd HB5.out HPU.out.2.1 HNW.out HB5.out.size, fun q hq => ?_, HST.out, by have := HLK.out; rw [List.length_append, List.length_singleton]; omega⟩, ?_⟩
              · rcases HPU.out.2.2 q hq with h1 | h1
                · exact HNW.out q h1
                · exact Nat.le_trans HB5.out.size h1
              · show (S.drop m).length < S.length
                rw [List.length_drop]; omega
      · rw [if_neg (fun h => hun h.2)] at hOS
        have hui : (n : Int) - 1 < (used : Int) := by omega
        have HOS := Lib.hid hOS
        clear hOS hmk
        go_wp2_with fail
        refine (HG1.out _).mono ?_
        rintro e w3 ⟨rfl, rfl⟩
        go_wp2_with fail
        refine (HG2.out _).mono ?_
        rintro e w3 ⟨rfl, rfl⟩
        go_wp2_with fail
        refine (mark_any gen used _ HV1.out v2').mono ?_
        rintro e w3 ⟨rfl, hb3⟩
        have HB3 := Lib.hid (HB2.out.trans (hb3.mono HB2.out.size))
        clear hb3
        go_wp2_with fail
        go_ret2
        exact openPost_none (by rw [HO.out, HOS.out]) rfl HB3.out
    · rw [if_neg (fun h => hmk h.1)] at hOS
      have hbm : (f == Wal.mark gen used) = false := by simp [hmk]
      have HOS := Lib.hid hOS
      clear hOS hmk
      go_wp2_with fail
      refine (HG1.out _).mono ?_
      rintro e w3 ⟨rfl, rfl⟩
      go_wp2_with fail
      refine (HG2.out _).mono ?_
      rintro e w3 ⟨rfl, rfl⟩
      go_wp2_with fail
      refine (mark_any gen used _ HV1.out v2').mono ?_
      rintro e w3 ⟨rfl, hb3⟩
      have HB3 := Lib.hid (HB2.out.trans (hb3.mono HB2.out.size))
      clear hb3
      go_wp2_with fail
      go_ret2
      exact openPost_none (by rw [HO.out, HOS.out]) rfl HB3.out
theorem walOpen_any {w : World} {b : Nat} {D : Dsk} {fp : Nat → Prop} (h : DiskAt w b D fp) (a n : Int) (ha : -9223372036854775808 ≤ a ∧ a ≤ 9223372036854775807) (hn : -9223372036854775808 ≤ n ∧ n ≤ 9223372036854775807) :
    Calls Tryz.prog 28 #[.pointer (some ⟨b, 0, none⟩), .int .i64 a, .int .i64 n] w fun e w' => OpenPost w b D a n e w' := by
  by_cases hbad : n < 2 ∨ a < 0 ∨ (D.n : Int) < a ∨ (D.n : Int) - a < n
  · exact walOpen_arg h a n ha hn hbad
  · cases hd : D.down with
    | true => exact walOpen_down h a n ha hn hbad hd
    | false =>
      obtain ⟨a, rfl⟩ : ∃ k : Nat, a = (k : Int) := ⟨a.toNat, by omega⟩
      obtain ⟨n, rfl⟩ : ∃ k : Nat, n = (k : Int) := ⟨n.toNat, by omega⟩
      exact walOpen_in h a n (by omega) (by omega) hd
end Go.Proofs.YtoaihngckcbhiaaGreatDoor
namespace Go.Proofs.YtoaihngckcbhiaaGreatDoor
open Go.RowKit Go.Maps
open Wal
theorem eql_strs (w : World) (p : Option Addr) (n c : Nat) : (binOp .eql 30 (.slice p n c) (.slice none 0 0)).run Tryz.prog w = .ok (.bool p.isNone) w := by
  have h : ∀ d, (Op.equalIn (d + 1) 30 (.slice p n c) (.slice none 0 0)).run Tryz.prog w = .ok p.isNone w := fun d => by
    cases p <;> simp [Op.equalIn, run_underlying Tryz.underlying30]
  simp only [binOp]
  simp [show Op.equal 30 (.slice p n c) (.slice none 0 0) = Op.equalIn (9999 + 1) 30 (.slice p n c) (.slice none 0 0) from rfl, h 9999]
theorem empty_strs (w : World) : (w.alloc (.cells #[] 9)).ownsRow 0 9 1 (.slice (some ⟨w.heap.size, 0, none⟩) 0 0) 0 [] :=
  ⟨rfl, .inr ⟨w.heap.size, 0, #[], rfl, Nat.zero_le _, heap_alloc_new w _, Nat.le_refl _, Nat.zero_le _, rfl, rfl⟩⟩
theorem str_info3 : (Tryz.prog.info? 9).map (fun i => (i.zero, i.size, i.bytes)) = some (some (.string ByteArray.empty), 1, 16) := by kernel_rfl
theorem strCells_nil : strCells [] = [] := by unfold strCells; rfl
def CopyPost (w : World) (l : List (List UInt8)) (e : Ending) (w' : World) : Prop :=
  ∃ v', e = .returned v' ∧ w'.ownsRow 0 9 1 v' l.length (strCells l) ∧ Below w.heap.size w w' ∧ ∀ g, v'.ownBlock = some g → w.heap.size ≤ g
set_option maxRecDepth 100000 in
set_option maxHeartbeats 1000000 in
theorem strclone_any (w : World) (a : Option Addr) (cap : Nat) (l : List (List UInt8)) (h : TextsAt w a l) (hlen : l.length ≤ 1000000000) :
    Calls Tryz.prog 114 #[.slice a l.length cap] w fun e w' => CopyPost w l e w' := by
  have hq := fun w => eql_strs w a l.length cap
  cases a with
  | none =>
    have e : l = [] := by
      cases l with
      | nil => rfl
      | cons x l => obtain ⟨p, hp, _⟩ := h 0 (by simp); cases hp
    subst e
    have hq0 := fun w => eql_strs w none 0 cap
    clear h hq
    go_enter Tryz.func114, Tryz.ntmps114
    go_wp2_with fail
    go_ret
    refine ⟨_, rfl, ?_, Below.refl _ _, fun g e => by simp [Value.ownBlock] at e⟩
    rw [strCells_nil]
    exact World.ownsRow_nil _ _ _ _
  | some p =>
    have hc : ∀ j u, (strCells l)[j]? = some u → w.cell? (p.add j) = some u := fun j u hj => by
      have hjl : j < l.length := by
        have := (List.getElem?_eq_some_iff.1 hj).1
        rwa [strCells_length] at this
      obtain ⟨p', hp', hcell⟩ := h j hjl
      cases hp'
      rw [strCells_get l j hjl] at hj
      rw [hcell, ← hj]
    have HC := Lib.hid hc
    have hll := strCells_length l
    have HLL := Lib.hid hll
    obtain ⟨i0, hi0, hz0, hz1, hz2⟩ := info_parts str_info3
    have hsz := World.size_alloc w (.cells #[] 9)
    clear h hc hll
    go_enter Tryz.func114, Tryz.ntmps114
    go_wp2_with (at_builtin; refine wpList_append_own_at _ rfl _ _ _ rfl 0 9 i0 _ 1 16 Tryz.underlying30 hi0 hz0 hz1 hz2 rfl (by omega) _ 0 [] rfl (empty_strs w) p l.length cap (strCells l) rfl (by rw [HLL.out]; omega) (fun j u hj => (((Below.refl w.heap.size w).alloc (Nat.le_refl _) _).cell (block_lt_of_cell (HC.out j u hj))).trans (HC.out j u hj)) (strCells_one l) (by unfold maxLen; omega) (by omega) (Nat.zero_le _) ?_; intro v' w1 hown hgrow _ hat)
    go_ret
    refine ⟨v', rfl, by rw [Nat.zero_add, List.nil_append] at hown; exact hown, ((Below.refl w.heap.size w).alloc (Nat.le_refl _) _).grown hgrow (by omega) (fun k e => by have e' : some w.heap.size = some k := e; have := Option.some.inj e'; omega), fun k hk => ?_⟩
    rcases hat with hat | hat
    · rw [hat] at hk
      have e' : some w.heap.size = some k := hk
      have := Option.some.inj e'
      omega
    · rw [hat] at hk
      have := Option.some.inj hk
      omega
theorem GroupsAt.pushed {w w1 w2 : World} {gv lv v' : Value} {L : List (List (List UInt8))} {l : List (List UInt8)} {cs : List Value} {n : Nat} (hn : n = L.length) (h : w.ownsRow 0 30 1 gv n cs) (hl : RowOk w lv l)
    (hcl : cs.length = L.length) (hc1 : ∀ u ∈ cs, u.oneCell' = true) (hcr : ∀ i (h : i < L.length) (h' : i < cs.length), RowOk w cs[i] L[i])
    (hb : Below w.heap.size w w1) (hgrow : w1.grownBy w2 gv.ownBlock) (hown : w2.ownsRow 0 30 1 v' (n + 1) (cs ++ [lv])) :
    GroupsAt w2 v' (L ++ [l]) := by
  subst hn
  have u1 : Upd (fun k => gv.ownBlock = some k) w w2 := (Upd.of_below hb).trans (Upd.of_grownBy (F := fun k => gv.ownBlock = some k) hgrow (fun k e => e)) (fun k hk => .inl hk)
  have hgb : ∀ k, BlkOf w k 9 → ¬ gv.ownBlock = some k := fun k hk e => BlkOf.ne hk (ownsRow_blk h e) (by decide) rfl
  refine ⟨cs ++ [lv], by rw [List.length_append]; exact hown, by simp [hcl], fun u hu => ?_, fun i hi hi' => ?_⟩
  · rcases List.mem_append.1 hu with hu | hu
    · exact hc1 u hu
    · rw [List.mem_singleton] at hu; subst hu; exact hl.one
  · by_cases hlt : i < L.length
    · rw [List.getElem_append_left (by omega), List.getElem_append_left hlt]
      exact (hcr i hlt (by omega)).upd u1 hgb
    · have hi2 := hi
      rw [List.length_append, List.length_singleton] at hi2
      have e : i = L.length := by omega
      rw [List.getElem_append_right (by omega), List.getElem_append_right (by omega)]
      simp only [List.getElem_singleton]
      exact hl.upd u1 hgb
def CopiedPost (w : World) (L : List (List (List UInt8))) (e : Ending) (w' : World) : Prop :=
  ∃ v', e = .returned v' ∧ GroupsAt w' v' L ∧ Below w.heap.size w w' ∧ ∀ g, v'.ownBlock = some g → w.heap.size ≤ g
set_option maxRecDepth 100000 in
set_option maxHeartbeats 1000000 in
theorem copied_any (w : World) (gv : Value) (L : List (List (List UInt8))) (h : GroupsAt w gv L) (hlen : L.length ≤ 1000000) (hall : ∀ l ∈ L, l.length ≤ 1000000000) :
    Calls Tryz.prog 69 #[gv] w fun e w' => CopiedPost w L e w' := by
  obtain ⟨cs, h1, h2, h3, h4⟩ := h
  obtain ⟨qg, cg, rfl⟩ := slice_len h1
  have hcell : ∀ k, (hk : k < L.length) → ∃ g, qg = some ⟨g, 0, none⟩ ∧ ∀ v, cs[k]? = some v → w.cell? ⟨g, k, none⟩ = some v := fun k hk => by
    rcases h1.2 with ⟨e1, e2⟩ | ⟨g, cap, cur, e1, _⟩
    · omega
    · injection e1 with e1 e2 e3
      subst e1
      refine ⟨g, rfl, fun v hv => ?_⟩
      have := h1.cells (g := g) rfl k v hv
      rwa [add_plain] at this
  have HCELL := Lib.hid hcell
  have H1 := Lib.hid h1; have H2 := Lib.hid h2; have H3 := Lib.hid h3; have H4 := Lib.hid h4; have HALL := Lib.hid hall
  clear hcell h1 h2 h3 h4 hall
  go_enter Tryz.func69, Tryz.ntmps69
  go_wp2_with fail
  go_loopw [2, 7] (fun ov i wr => ∃ (k : Nat), k ≤ L.length ∧ i = .int .i64 k ∧ GroupsAt wr ov (L.take k) ∧ Below w.heap.size w wr ∧ ∀ g, ov.ownBlock = some g → w.heap.size ≤ g) (fun _ i _ => L.length - (intOf i).toNat)
  case atStart => exact ⟨0, Nat.zero_le _, rfl, GroupsAt.none _, Below.refl _ _, fun g e => by simp [Value.ownBlock] at e⟩
  case round =>
    obtain ⟨k, hk, rfl, hg, hb, hn⟩ := hrel
    have HB := Lib.hid hb; have HN := Lib.hid hn
    by_cases hlt : k < L.length
    · obtain ⟨g, rfl, hc⟩ := HCELL.out k hlt
      have hck : k < cs.length := by rw [H2.out]; exact hlt
      have hrow := H4.out k hlt hck
      have hc := hc cs[k] (List.getElem?_eq_getElem hck)
      have hc' : wr.cell? ⟨g, k, none⟩ = some cs[k] := (hb.cell (block_lt_of_cell hc)).trans hc
      have hrow' : RowOk wr cs[k] L[k] := hrow.upd (Upd.of_below (F := fun _ => False) hb) (fun _ _ f => f)
      obtain ⟨ar, cr, er, htx⟩ := hrow'.texts
      rw [er] at hc'
      have HTX := Lib.hid htx
      obtain ⟨cs', g1, g2, g3, g4⟩ := hg
      have htk : (L.take k).length = k := by rw [List.length_take]; omega
      rw [htk] at g1
      have G1 := Lib.hid g1; have G2 := Lib.hid g2; have G3 := Lib.hid g3; have G4 := Lib.hid g4
      obtain ⟨qo, co, rfl⟩ := slice_len g1
      have hlk : L[k].length ≤ 1000000000 := HALL.out _ (List.getElem_mem hlt)
      have HTK := Lib.hid htk
      have HTS : Hid (L.take (k + 1) = L.take k ++ [L[k]]) := Lib.hid (List.take_succ_eq_append_getElem hlt)
      generalize L[k] = l at *
      obtain ⟨i0, hi0, hz0, hz1, hz2⟩ := info_parts rows_info
      clear hb hn hc hrow hrow' htx g1 g2 g3 g4 htk er
      go_wp2_with fail
      refine (strclone_any wr ar cr l HTX.out hlk).mono ?_
      rintro e w1 ⟨lv, rfl, hown1, hb1, hn1⟩
      have HB1 := Lib.hid (HB.out.trans (hb1.mono HB.out.size))
      have HR1 := Lib.hid (RowOk.of_row hown1)
      obtain ⟨ql, cl, rfl⟩ := slice_len hown1
      have u1 := Upd.of_below (F := fun _ => False) hb1
      have G1' := Lib.hid (ownsRow_upd G1.out u1 (fun _ _ f => f))
      have G4' := Lib.hid (fun i (h : i < (L.take k).length) (h' : i < cs'.length) => (G4.out i h h').upd u1 (fun _ _ f => f))
      clear hown1 hb1 hn1 u1
      go_wp2_with (
        at_builtin
        refine wpList_append_own_at _ rfl _ _ _ rfl 0 30 i0 _ 1 24 Tryz.underlying83 hi0 hz0 hz1 hz2 rfl (by omega) (.slice qo k co) k cs' rfl (G1'.out.alloc _) ⟨w1.heap.size, 0, none⟩ 1 1 [.slice ql l.length cl] rfl rfl (World.news_of_block (cs := #[.slice ql l.length cl]) (t := 30) (fr := (0, 0)) (heap_alloc_new w1 _)) (fun u hu => by rw [List.mem_singleton] at hu; subst hu; exact HR1.out.one) (by unfold maxLen; omega) (by omega) (Nat.zero_le _) ?_
        intro v' w2 hown hgrow _ hat
        have HG2 := Lib.hid (GroupsAt.pushed HTK.out.symm G1'.out HR1.out G2.out G3.out G4'.out ((Below.refl w1.heap.size w1).alloc (Nat.le_refl _) _) hgrow hown)
        have HB2 := Lib.hid ((HB1.out.alloc HB1.out.size _).grown hgrow (Nat.le_trans HB1.out.size (by rw [World.size_alloc]; omega)) HN.out)
        have HN2 := Lib.hid (show ∀ g, v'.ownBlock = some g → w.heap.size ≤ g from fun g hg => by
          rcases hat with hat | hat
          · rw [hat] at hg; exact HN.out g hg
          · rw [hat] at hg
            have := Option.some.inj hg
            rw [World.size_alloc] at this
            have := HB1.out.size
            omega)
        clear hown hgrow hat)
      go_roundw
      case rel => exact ⟨k + 1, by omega, by go_num, by rw [HTS.out]; exact HG2.out, HB2.out, HN2.out⟩
      case measure => simp [intOf]; omega
    · obtain rfl : k = L.length := by omega
      have HG := Lib.hid hg
      clear hg hb hn
      go_wp2_with fail
      go_ret
      exact ⟨_, rfl, by have := HG.out; rwa [List.take_of_length_le (Nat.le_refl _)] at this, HB.out, HN.out⟩
section
variable {w : World} {x b : Nat} {gv : Value} {L : WLog}
theorem walGen_any (h : WalIn w x b gv L) : Calls Tryz.prog 29 #[.pointer (some ⟨x, 0, none⟩)] w fun e w' => e = .returned (.int .u64 (L.gen : Int)) ∧ w = w' := by
  obtain ⟨c0, c1, c2, c3, c4, c5, c6, cf⟩ := h.cells
  clear h
  go_enter Tryz.func29, Tryz.ntmps29
  go_wp2_with fail
  go_ret
  exact ⟨rfl, rfl⟩
theorem walCheck_any (h : WalIn w x b gv L) : Calls Tryz.prog 71 #[.pointer (some ⟨x, 0, none⟩)] w fun e w' => e = .returned (.int .i64 L.fault) ∧ w = w' := by
  obtain ⟨c0, c1, c2, c3, c4, c5, c6, cf⟩ := h.cells
  clear h
  go_enter Tryz.func71, Tryz.ntmps71
  go_wp2_with fail
  go_ret
  exact ⟨rfl, rfl⟩
theorem walRoom_any (h : WalIn w x b gv L) : Calls Tryz.prog 94 #[.pointer (some ⟨x, 0, none⟩)] w fun e w' => e = .returned (.int .i64 ((L.n - 1 - L.used : Nat) : Int)) ∧ Below w.heap.size w w' := by
  obtain ⟨c0, c1, c2, c3, c4, c5, c6, cf⟩ := h.cells
  have g1 := h.used
  have g2 := h.n
  have hv : ((L.n - 1 - L.used : Nat) : Int) = (L.n : Int) - 1 - (L.used : Int) := by omega
  have HV := Lib.hid hv
  have e1 : IntKind.i64.wrap ((L.n : Int) - 1) = (L.n : Int) - 1 := IntWalk.i64_in _ (by omega)
  have e2 : IntKind.i64.wrap ((L.n : Int) - 1 - (L.used : Int)) = (L.n : Int) - 1 - (L.used : Int) := IntWalk.i64_in _ (by omega)
  clear h hv
  go_enter Tryz.func94, Tryz.ntmps94
  go_wp2_with fail
  go_quiet (fail)
  go_wp2_with fail
  go_ret
  rw [HV.out]
  exact ⟨rfl, below_drawn _ _⟩
theorem walGroups_any (h : WalIn w x b gv L) (hlen : L.groups.length ≤ 1000000) (hall : ∀ l ∈ L.groups, l.length ≤ 1000000000) : Calls Tryz.prog 30 #[.pointer (some ⟨x, 0, none⟩)] w fun e w' => CopiedPost w L.groups e w' := by
  obtain ⟨c0, c1, c2, c3, c4, c5, c6, cf⟩ := h.cells
  have HG := Lib.hid h.groups
  clear h
  go_enter Tryz.func30, Tryz.ntmps30
  go_wp2_with fail
  refine (copied_any w gv L.groups HG.out hlen hall).mono ?_
  rintro e w1 ⟨v', rfl, g1, g2, g3⟩
  have G := Lib.hid (And.intro g1 (And.intro g2 g3))
  clear g1 g2 g3
  go_wp2_with fail
  go_ret
  exact ⟨v', rfl, G.out.1, G.out.2.1, G.out.2.2⟩
end
theorem groupV_length (l : List (List UInt8)) : (groupV l).1.length ≤ rowLen l + 68 := by
  unfold groupV
  cases h : groupE l with
  | none => simp
  | some s =>
    obtain ⟨a, ha, rfl⟩ := groupE_some h
    have h1 := rowE_length ha
    have h2 := pad_length (Crc.le 4 a.length ++ a)
    rw [List.length_append, Crc.le_length] at h2
    show (pad _).length ≤ _
    omega
set_option maxRecDepth 100000 in
theorem walNeed_any (l : List (List UInt8)) (a : Option Addr) (cap : Nat) (w : World) (hl : TextsAt w a l) (hlen : l.length ≤ maxLen) (hsum : rowLen l ≤ 10000000) :
    Calls Tryz.prog 93 #[.slice a l.length cap] w fun e w' => e = .returned (.tuple #[.int .i64 (((groupV l).1.length / 64 : Nat) : Int), .int .i64 (groupV l).2]) ∧ Below w.heap.size w w' := by
  have HL := Lib.hid hl; have HLEN := Lib.hid hlen
  clear hl hlen
  go_enter Tryz.func93, Tryz.ntmps93
  go_wp2_with fail
  obtain ⟨r1, r2, hr⟩ : ∃ r1 r2, groupV l = (r1, r2) := ⟨_, _, rfl⟩
  have hgl2 : r1.length ≤ 10000068 := by have := groupV_length l; rw [hr] at this; have h2 : r1.length ≤ rowLen l + 68 := this; omega
  have HR := Lib.hid hr
  clear hr
  refine (group_any l a cap w HL.out HLEN.out hsum).mono ?_
  rw [HR.out]
  rintro e w1 ⟨rfl, hb⟩
  have HB := Lib.hid hb
  clear hb
  have hv : ((r1.length / 64 : Nat) : Int) = (r1.length : Int) / 64 := by omega
  have HV := Lib.hid hv
  clear hv
  go_wp2_with fail
  go_ret2
  rw [HR.out]
  refine ⟨?_, HB.out⟩
  show _ = Ending.returned (.tuple #[.int .i64 ((r1.length / 64 : Nat) : Int), .int .i64 r2])
  rw [HV.out]
  rfl
end Go.Proofs.YtoaihngckcbhiaaGreatDoor
