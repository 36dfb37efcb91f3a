/- maslinlaw04.DiskKeeps, walked. -/
import Derived.Test.YthbdflmckfgleaaKeepsRep
import Derived.Test.YthbdflmckfgleaaKeepsLaw
import Derived.Deep.AppendLies
import Derived.BigQuiet
import Derived.Test.YthbdflmckfgleaaRegionT
import Derived.Deep.CutRange
import Derived.Deep.CutBlock
namespace Go.Proofs.Ythbdflmckfgleaa
open Go.RowKit Go.Maps

/-- 'make([][]string, n)' -/
theorem rows_made (w : World) (n : Nat) (hn : n ≤ 1000) : ∃ C, (Instr.makeSlice 43 (.int .i64 (n : Int)) (.int .i64 (n : Int))).run Try.prog w = .ok (.slice (some ⟨w.heap.size, 0, none⟩) n n) (w.alloc (.cells C 31)) ∧ C.size = n := by
  have hinfo : (Try.prog.info? 31).map (fun i => (i.zero, i.size, i.bytes)) = some (some (.slice none 0 0), 1, 24) := by kernel_rfl
  obtain ⟨i0, hi, hz0, hz1, hz2⟩ := info_parts hinfo
  have hrun := run_make (P := Try.prog) w 43 31 i0 _ Try.underlying43 hi hz0 .i64 .i64 n n (by omega) (Int.le_refl _) (by rw [hz2]; omega) (by omega)
  rw [Int.toNat_natCast] at hrun
  exact ⟨_, hrun, by rw [hz1]; simp [madeCells]⟩
theorem far_cell {w : World} {g g' i j : Nat} {u v : Value} (h : w.cell? ⟨g', j, none⟩ = some u) (hne : g ≠ g') : (w.setCell ⟨g, i, none⟩ v).cell? ⟨g', j, none⟩ = some u := (World.cell?_setCell_far w ⟨g, i, none⟩ ⟨g', j, none⟩ v hne).trans h
theorem rows_elem : (Try.prog.info? 31).map (·.size) = some 1 := by kernel_rfl
theorem rows_index (g n k : Nat) (hk : k < n) (W : World) : (Instr.indexAt 43 (.slice (some ⟨g, 0, none⟩) n n) (.int .i64 (k : Int))).run Try.prog W = .ok (.pointer (some ⟨g, k, none⟩)) W := by
  have := run_index_slice Try.prog 43 31 Try.underlying43 1 rows_elem ⟨g, 0, none⟩ n n k hk W
  rw [Nat.mul_one, add_plain] at this
  exact this
theorem fill_sec0 : fill [] (64 * (1 : Int).toNat) = sec0 := by decide +kernel

theorem row_index (g o L cp : Nat) (h1 : 1 ≤ L) (W : World) : (Instr.indexAt 31 (.slice (some ⟨g, o, none⟩) L cp) (.int .i64 ((L : Int) - 1))).run Try.prog W = .ok (.pointer (some ⟨g, o + (L - 1), none⟩)) W := by
  have e : (L : Int) - 1 = ((L - 1 : Nat) : Int) := by omega
  rw [e]
  have := run_index_slice Try.prog 31 9 Try.underlying31 1 (by kernel_rfl) ⟨g, o, none⟩ L cp (L - 1) (by omega) W
  rw [Nat.mul_one, add_off] at this
  exact this
theorem Dsk.read_one {D : Dsk} (hd : D.down = false) {i : Nat} (hi : i < D.n) : D.read (i : Int) 1 = (D.now i, 0) := by
  unfold Dsk.read
  rw [if_neg (by simp [hd]), if_pos (by simp [Dsk.inside]; omega)]
  simp [Dsk.text]

set_option maxRecDepth 100000 in
set_option maxHeartbeats 60000000 in
theorem diskKeeps_walk (W : World) (N : Int) (hN : (Lit.int .i64 N).wf = true) (a : Option Addr) (cap : Nat) (l : List Stp) (hl : StepsAt W a l) (hlen : l.length ≤ maxLen) (hok : ∀ x ∈ l, x.okay) (keep : List UInt8) (hs : keep.length ≤ reachBytes) :
    Calls Try.prog 6 #[.int .i64 N, .slice a l.length cap, .string (bs keep)] W fun e w' => e = .returned (.bool true) ∧ Below W.heap.size W w' := by
  unfold reachBytes at hs
  have HL := Lib.hid hl
  have HOK := Lib.hid hok
  have HLEN := Lib.hid hlen
  have hlen2 := hlen
  unfold maxLen at hlen2
  clear hl hok hlen
  go_enter Try.func6, Try.ntmps6
  go_wp2_with fail
  refine (heavy_any N hN a cap l W HL.out HLEN.out HOK.out).mono ?_
  rintro e w1 ⟨hv, rfl, rfl, himp⟩
  cases hv with
  | true =>
    clear himp
    go_wp2_with fail
    refine (alive4_any _).mono ?_
    rintro e w2 ⟨rfl, hb⟩
    go_wp2_with fail
    go_ret
    exact ⟨rfl, hb⟩
  | false =>
    obtain ⟨hLight, _⟩ := himp rfl
    have hall := light_at hLight HOK.out
    have HALL := Lib.hid hall
    have hlen80 := hLight.len
    clear himp hLight hall
    by_cases h200 : 200 < N
    · go_wp2_with fail
      refine (alive4_any _).mono ?_
      rintro e w2 ⟨rfl, hb⟩
      go_wp2_with fail
      go_ret
      exact ⟨rfl, hb⟩
    by_cases hk : 1024 < keep.length
    · go_wp2_with fail
      refine (alive4_any _).mono ?_
      rintro e w2 ⟨rfl, hb⟩
      go_wp2_with fail
      go_ret
      exact ⟨rfl, hb⟩
    by_cases h1 : N < 1
    · go_wp2_with fail
      refine (new_no N _ (.inl h1)).mono ?_
      rintro e w2 ⟨rfl, rfl⟩
      go_wp2_with fail
      refine (alive4_any _).mono ?_
      rintro e w2 ⟨rfl, hb⟩
      go_wp2_with fail
      go_ret
      exact ⟨rfl, hb⟩
    obtain ⟨n, rfl⟩ : ∃ n : Nat, N = (n : Int) := ⟨N.toNat, by omega⟩
    go_wp2_with fail
    refine (new_my (Below.refl W.heap.size W) (Nat.le_refl _) n (by omega) (by omega)).mono ?_
    rintro e w2 ⟨b, fp, rfl, h0⟩
    have H0 := Lib.hid h0
    obtain ⟨C1, hm1, hc1⟩ := rows_made w2 n (by omega)
    obtain ⟨C2, hm2, hc2⟩ := rows_made (w2.alloc (.cells C1 31)) n (by omega)
    have hsz : W.heap.size ≤ w2.heap.size := h0.below.size
    have hb2 := ((Below.refl w2.heap.size w2).alloc (Nat.le_refl _) (.cells C1 31)).alloc (by rw [World.size_alloc]; omega) (.cells C2 31)
    have e1 : ((w2.alloc (.cells C1 31)).alloc (.cells C2 31)).heap[w2.heap.size]? = some (.cells C1 31) :=
      (((Below.refl (w2.heap.size + 1) (w2.alloc (.cells C1 31))).alloc (by rw [World.size_alloc]; omega) (.cells C2 31)).block w2.heap.size (by omega)).trans (heap_alloc_new w2 _)
    have e2 := heap_alloc_new (w2.alloc (.cells C1 31)) (.cells C2 31)
    rw [World.size_alloc] at e2 hm2
    have HK0 := Lib.hid (KSt.mk (A := []) (K := []) (h0.step hb2) ⟨C1, e1, hc1, by simp, fun i hi => by simp at hi⟩ ⟨C2, e2, hc2, by simp, fun i hi => by simp at hi⟩ (by omega) hsz (by omega))
    generalize hg : w2.heap.size = g1 at *
    have HG := Lib.hid hg
    clear h0 e1 e2 hb2 H0 hc1 hc2 hg
    go_wp2_with fail
    go_loopw [11] (fun i wr => ∃ k : Nat, k ≤ n ∧ i = .int .i64 k ∧ KSt W.heap.size W wr b (Dsk.new n) fp g1 (g1 + 1) n (List.replicate k [sec0]) (List.replicate k [sec0])) (fun i _ => n - (intOf i).toNat)
    case atStart => exact ⟨0, by omega, rfl, HK0.out⟩
    case round =>
      clear HK0 hm1 hm2
      obtain ⟨k, hk, rfl, hS⟩ := hrel
      have HS := Lib.hid hS
      clear hS
      by_cases hlt : k < n
      · go_wp2_with fail
        refine (fill_any [] 1 _ (by decide) (by omega) (by omega)).mono ?_
        rw [fill_sec0]
        rintro e w3 ⟨rfl, hb⟩
        have h3 := (HS.out.step hb).step ((Below.refl w3.heap.size w3).alloc (Nat.le_refl _) (.cells #[.string (bs sec0)] 9))
        obtain ⟨o1, c1⟩ := h3.all.there k hlt
        have f1 := h3.all.free k
        obtain ⟨o2, c2⟩ := h3.kept.there k hlt
        have f2 := h3.kept.free k
        have hone := RowAt.one w3 sec0
        have hne : g1 ≠ g1 + 1 := by omega
        have c3 := fun (v : Value) => far_cell (i := k) (v := v) c2 hne
        have hs1 := h3.pushA k (by simp) hlt hone
        have hs2 := hs1.pushK k (by simp) hlt (hone.upd (upd_set _ g1 k _) (fun _ hk e => (hk.ne h3.all.blk str_rows_ne) e))
        have HS2 := Lib.hid hs2
        have hi1 := rows_index g1 n k hlt
        have hi2 := rows_index (g1 + 1) n k hlt
        clear hb h3 hs1 hs2 hone hne c2
        go_wp2_with fail
        go_roundw
        case rel =>
          refine ⟨k + 1, by omega, by go_num, ?_⟩
          have h := HS2.out
          rw [← List.replicate_succ'] at h
          exact h
        case measure => simp [intOf]; omega
      · obtain rfl : k = n := by omega
        have hlo : ∀ (D : Dsk) (j : Nat), j ≤ 80 → D.loose.length ≤ 512 * j → D.loose.length ≤ 50000 := fun D j h1 h2 => by omega
        have HLO := Lib.hid hlo
        clear hlo
        go_wp2_with fail
        go_loopw [12] (fun i wr => ∃ (j : Nat) (D : Dsk) (fp : Nat → Prop) (A K : List (List (List UInt8))), j ≤ l.length ∧ i = .int .i64 j ∧ KSt W.heap.size W wr b D fp g1 (g1 + 1) k A K ∧ Told D.base D.loose keep k A K ∧ D.n = k ∧ D.loose.length ≤ 512 * j) (fun i _ => l.length - (intOf i).toNat)
        case atStart => exact ⟨0, _, fp, _, _, by omega, rfl, HS.out, Told.start keep k, rfl, by simp [Dsk.new]⟩
        case round =>
          clear HS
          obtain ⟨wo, rfl⟩ : ∃ wo : World, wo = wr := ⟨_, rfl⟩
          obtain ⟨j, D, fp, A, K, hj, rfl, hS, hT, hDn, hDl⟩ := hrel
          have HS := Lib.hid hS
          have HT := Lib.hid hT
          have HDN := Lib.hid hDn
          by_cases hlt : j < l.length
          · obtain ⟨q, hidx, hat⟩ := HL.out.index cap j hlt
            obtain ⟨hx1, hx2, hx3⟩ := HALL.out l[j] (List.getElem_mem hlt)
            have hatk := hat.below hS.my.below
            have HAT := Lib.hid hatk
            obtain ⟨c0, c1, c2, c3, c4⟩ := hatk.cells
            clear hat hatk hS hT hDn
            generalize l[j] = x at *
            obtain ⟨q0, q1, q2, q3, q4⟩ := x
            dsimp only at c0 c1 c2 c3 c4
            have hx3' : q3.length ≤ 32768 := hx2
            have hx4 : q0 = 0 → q2 ≤ 100 := hx3
            have HX3 := Lib.hid hx3'
            have HX4 := Lib.hid hx4
            obtain ⟨_, o1, o2, _⟩ := hx1
            have o1' : -9223372036854775808 ≤ q1 ∧ q1 ≤ 9223372036854775807 := i64_of o1
            have o2' : -9223372036854775808 ≤ q2 ∧ q2 ≤ 9223372036854775807 := i64_of o2
            have HO2 : Hid ((Lit.int .i64 q2).wf = true) := Lib.hid o2
            have hD5 := HLO.out D j (by omega) hDl
            have HDL := Lib.hid hDl
            have hbs : wo.heap.size < (wo.alloc (.cells #[.int .i64 q0, .int .i64 q1, .int .i64 q2, .string (bs q3), .bool q4] 46)).heap.size := by rw [World.size_alloc]; omega
            have HBS := Lib.hid hbs
            have hbx := heap_alloc_new wo (.cells #[.int .i64 q0, .int .i64 q1, .int .i64 q2, .string (bs q3), .bool q4] 46)
            have HBX := Lib.hid hbx
            have HS1 := Lib.hid (HS.out.step ((Below.refl wo.heap.size wo).alloc (Nat.le_refl _) (.cells #[.int .i64 q0, .int .i64 q1, .int .i64 q2, .string (bs q3), .bool q4] 46)))
            clear hx2 hx3 hx3' hx4 o1 o2 hDl hbs hbx
            by_cases hw0 : q0 = 0
            · have b0 : (q0 == 0) = true := by simp [hw0]
              have HW0 := Lib.hid hw0
              clear hw0
              cases q4 with
              | true =>
                go_wp2_with fail
                refine (loose_my HS1.out.my).mono ?_
                rintro e w3 ⟨rfl, rfl⟩
                go_wp2_with fail
                go_roundw
                case rel => exact ⟨j + 1, D, fp, A, K, by omega, by go_num, HS1.out, HT.out, HDN.out, by have := HDL.out; omega⟩
                case measure => simp [intOf]; omega
              | false =>
                have hn100 : q2 ≤ 100 := HX4.out HW0.out
                have htl : (Stp.text ⟨q0, q1, q2, q3, false⟩).length = 64 * q2.toNat := by
                  show (fill q3 (64 * q2.toNat)).length = _
                  exact fill_length _ _
                have HTX := Lib.hid (fun (V : World) => text_any ⟨q0, q1, q2, q3, false⟩ V (by have := HX3.out; show q3.length ≤ _; omega) HO2.out (fun _ => by show q2 ≤ _; omega))
                unfold Stp.val at HTX
                obtain ⟨m, at_, hw1, hw2, hw3, hw4⟩ := Dsk.write_shape D q1 (Stp.text ⟨q0, q1, q2, q3, false⟩)
                have hwl := Dsk.write_loose D q1 (Stp.text ⟨q0, q1, q2, q3, false⟩)
                generalize Stp.text ⟨q0, q1, q2, q3, false⟩ = T at *
                have hT4 : T.length ≤ 6400 := by omega
                have hmle : m ≤ 100 := by
                  rw [hw1, List.length_append, Dsk.chunks_length] at hwl
                  omega
                have hlen' : (D.write q1 T).1.loose.length = D.loose.length + m := by rw [hw1, List.length_append, Dsk.chunks_length]
                have HLEN2 := Lib.hid hlen'
                have HW1 := Lib.hid hw1; have HW2 := Lib.hid hw2; have HW3 := Lib.hid hw3; have HW4 := Lib.hid hw4
                clear hw1 hw2 hw3 hw4 hwl hlen'
                have h1d := HS1.out.step ((Below.refl _ _).drew)
                have hbxd : (wo.alloc (.cells #[.int .i64 q0, .int .i64 q1, .int .i64 q2, .string (bs q3), .bool false] 46)).drew.heap[wo.heap.size]? = some (.cells #[.int .i64 q0, .int .i64 q1, .int .i64 q2, .string (bs q3), .bool false] 46) := HBX.out
                have H1D := Lib.hid h1d
                have HX0 := Lib.hid hbxd
                have hfp := HS.out.my.disk.lt
                have HFP := Lib.hid hfp
                have keepS := fun (V : World) (hb : V.heap[wo.heap.size]? = some (.cells #[.int .i64 q0, .int .i64 q1, .int .i64 q2, .string (bs q3), .bool false] 46)) => (⟨by rw [cell_of_row V _ _ _ _ _ hb]; rfl, by rw [cell_of_row V _ _ _ _ _ hb]; rfl, by rw [cell_of_row V _ _ _ _ _ hb]; rfl, by rw [cell_of_row V _ _ _ _ _ hb]; rfl, by rw [cell_of_row V _ _ _ _ _ hb]; rfl⟩ :
                  V.cell? ⟨wo.heap.size, 0, none⟩ = some (.int .i64 q0) ∧ V.cell? ⟨wo.heap.size, 1, none⟩ = some (.int .i64 q1) ∧ V.cell? ⟨wo.heap.size, 2, none⟩ = some (.int .i64 q2) ∧ V.cell? ⟨wo.heap.size, 3, none⟩ = some (.string (bs q3)) ∧ V.cell? ⟨wo.heap.size, 4, none⟩ = some (.bool false))
                have KS := Lib.hid keepS
                clear h1d hbxd hfp keepS
                go_wp2_with fail
                refine (loose_my HS1.out.my).mono ?_
                rintro e w3 ⟨rfl, rfl⟩
                go_wp2_with fail
                go_region_held3 (fun V => V.cell? ⟨wo.heap.size, 0, none⟩ = some (.int .i64 q0) ∧ V.cell? ⟨wo.heap.size, 1, none⟩ = some (.int .i64 q1) ∧ V.cell? ⟨wo.heap.size, 2, none⟩ = some (.int .i64 q2) ∧ V.cell? ⟨wo.heap.size, 3, none⟩ = some (.string (bs q3)) ∧ V.cell? ⟨wo.heap.size, 4, none⟩ = some (.bool false))
                  (first | exact KS.out _ HX0.out | exact KS.out _ HXA.out | exact KS.out _ HXB.out)
                  (first
                    | (go_at_call 28; refine (HTX.out _).mono ?_; rintro e wa ⟨rfl, hba⟩; have HA := Lib.hid (H1D.out.step hba); have HXA := Lib.hid ((hba.block wo.heap.size (blk_lt HX0.out)).trans HX0.out); clear hba)
                    | (go_at_call 27; refine (write_any HA.out.my.disk q1 T o1' (by omega) (by omega)).mono ?_; rintro e wb ⟨rfl, fpb, hdb, hub, hsb⟩; have HB := Lib.hid (HA.out.turn hdb hub hsb); have HXB := Lib.hid ((hub.block wo.heap.size (blk_lt HXA.out) (fun hk => by have := HFP.out _ hk; omega)).trans HXA.out); clear hdb hub hsb))
                generalize hDD : (D.write q1 T).1 = D' at *
                clear hDD
                clear HA HXA HX0 H1D HS1 HS HBX c0 c1 c2 c3 c4
                go_wp2_with fail
                go_loopw [15] (fun v wr => ∃ (i : Nat) (A' K' : List (List (List UInt8))), i ≤ m ∧ v = .int .i64 i ∧ KSt W.heap.size W wr b D' fpb g1 (g1 + 1) k A' K' ∧ Told D.base (D.loose ++ (Dsk.chunks at_ T m).take i) keep k A' K' ∧ wr.heap[wo.heap.size]? = some (.cells #[.int .i64 q0, .int .i64 q1, .int .i64 q2, .string (bs q3), .bool false] 46)) (fun v _ => m - (intOf v).toNat)
                case atStart => exact ⟨0, A, K, by omega, rfl, HB.out, by rw [List.take_zero, List.append_nil]; exact HT.out, HXB.out⟩
                case round =>
                  clear HB HXB HT
                  obtain ⟨i, A', K', hi, rfl, hq, htold, hbox⟩ := hrel
                  have HQ := Lib.hid hq
                  have HT2 := Lib.hid htold
                  have HBX := Lib.hid hbox
                  have HLM := (loose_my hq.my)
                  rw [HLEN2.out] at HLM
                  obtain ⟨e0, e1, e2, e3, e4⟩ := KS.out _ hbox
                  have HLMM := Lib.hid HLM
                  clear hq htold hbox HLM
                  by_cases him : i < m
                  · obtain ⟨hq1, hq2, hq3⟩ := HW4.out (by omega)
                    have hqi : q1 + (i : Int) = ((at_ + i : Nat) : Int) := by omega
                    have hpi : at_ + i < k := by have := HDN.out; omega
                    have hq0 : 0 ≤ q1 := by omega
                    have hq5 : (i : Int) < q2 := by omega
                    have hq6 : q1 + (i : Int) < (k : Int) := by omega
                    have hwr : IntKind.i64.wrap (q1 + (i : Int)) = q1 + (i : Int) := IntWalk.i64_in _ (by omega)
                    obtain ⟨hx1, hx2⟩ := chunk T i (by omega)
                    have hxe : List.drop (i * 64) (List.take ((i + 1) * 64) T) = (T.drop (64 * i)).take 64 := by rw [Nat.mul_comm i, Nat.mul_comm (i + 1)]; exact hx1
                    have hchk := Dsk.chunks_get at_ T m i him
                    have HCHK := Lib.hid hchk
                    have hsl : 64 * (i + 1) ≤ T.length := by omega
                    generalize (T.drop (64 * i)).take 64 = X at *
                    have hw1 : IntKind.i64.wrap ((i : Int) + 1) = (i : Int) + 1 := IntWalk.i64_in _ (by omega)
                    have hw2 : IntKind.i64.wrap (((i : Int) + 1) * 64) = ((i : Int) + 1) * 64 := IntWalk.i64_in _ (by omega)
                    have hw3 : IntKind.i64.wrap ((i : Int) * 64) = (i : Int) * 64 := IntWalk.i64_in _ (by omega)
                    have hb1 : (0 : Int) ≤ ((i : Int) + 1) * 64 := by omega
                    have hb2 : ((i : Int) + 1) * 64 ≤ (T.length : Int) := by omega
                    have hb3 : (0 : Int) ≤ (i : Int) * 64 := by omega
                    have hb4 : (i : Int) * 64 ≤ ((i : Int) + 1) * 64 := by omega
                    have hb5 : (i : Int) ≤ (i : Int) + 1 := by omega
                    have ht1 : ((i : Int) * 64).toNat = i * 64 := by omega
                    have ht2 : (((i : Int) + 1) * 64).toNat = (i + 1) * 64 := by omega
                    have HQI := Lib.hid hqi
                    clear hq1 hqi hx1 hx2 hchk
                    go_wp2_with fail
                    refine HLMM.out.mono ?_
                    rintro e w4 ⟨rfl, rfl⟩
                    go_wp2_with fail
                    refine (HTX.out _).mono ?_
                    rintro e w5 ⟨rfl, hb⟩
                    have HQ5 := Lib.hid (HQ.out.step hb)
                    have HBX5 := Lib.hid ((hb.block wo.heap.size (blk_lt HBX.out)).trans HBX.out)
                    obtain ⟨e0', e1', e2', e3', e4'⟩ := KS.out _ HBX5.out
                    clear hb e0 e1 e2 e3 e4
                    go_upto_region 26 with fail
                    clear hw1 hw2 hw3 hb1 hb2 hb3 hb4 hb5 ht1 ht2 hxe
                    obtain ⟨i0, hi0, hz0, hz1, hz2⟩ := info_parts str_info
                    have hlaA := HT2.out.la
                    have hna := HT2.out.na
                    have hnk := HT2.out.nk
                    have hLL : (D.loose ++ List.take i (Dsk.chunks at_ T m)).length ≤ 60000 := by rw [List.length_append, List.length_take]; omega
                    -- the row of 'all'
                    obtain ⟨v1, c1, hv1⟩ := HQ5.out.all.cell (at_ + i) (by omega)
                    have hlen1 := hlaA (at_ + i) (by omega)
                    obtain ⟨gr, o, L, cp, rfl, hL, hL1, hL2, hL3, _, hcs, _⟩ := hv1.opened
                    have hL9 : L ≤ 60001 := by omega
                    have f1 := HQ5.out.all.free (at_ + i)
                    have hneR : A'[at_ + i]'(by omega) ≠ [] := hv1.1
                    have hg1 : g1 < w5.heap.size := HQ5.out.all.blk.lt
                    have hxl : wo.heap.size < w5.heap.size := blk_lt HBX5.out
                    have k1 := fun (ob : Obj) => And.intro (((((Below.refl w5.heap.size w5).alloc (Nat.le_refl _) ob).drew).cell (p := ⟨wo.heap.size, 1, none⟩) hxl).trans e1') (((((Below.refl w5.heap.size w5).alloc (Nat.le_refl _) ob).drew).cell (p := ⟨g1, at_ + i, none⟩) hg1).trans c1)
                    have hix1 : ∀ V, (Instr.indexAt 43 (.slice (some ⟨g1, 0, none⟩) k k) (.int .i64 (q1 + (i : Int)))).run Try.prog V = .ok (.pointer (some ⟨g1, at_ + i, none⟩)) V := by rw [HQI.out]; exact rows_index g1 k (at_ + i) hpi
                    have HCS := Lib.hid (fun (V : World) (hb : Below w5.heap.size w5 V) (j : Nat) (u : Value) (hu : (strCells (A'[at_ + i]'(by omega)))[j]? = some u) => (hb.cell (block_lt_of_cell (hcs j u hu))).trans (hcs j u hu))
                    have HV1 := Lib.hid hv1
                    have HLr := Lib.hid hL
                    have HNR := Lib.hid hneR
                    have B1 := Lib.hid (show Below w5.heap.size w5 w5.drew from (Below.refl _ _).drew)
                    have B2 := Lib.hid (show Below w5.heap.size w5 (w5.alloc (.cells #[.string (bs X)] 9)).drew from ((Below.refl _ _).alloc (Nat.le_refl _) _).drew)
                    clear hcs hv1 hL
                    generalize hR : A'[at_ + i]'(by have := HT2.out.na; omega) = R at *
                    have HR := Lib.hid hR
                    clear hR
                    go_cut [] from 94 to 177 (fun wx => KSt W.heap.size W wx b D' fpb g1 (g1 + 1) k (A'.set (at_ + i) (R ++ [X])) K' ∧ wx.heap[wo.heap.size]? = some (.cells #[.int .i64 q0, .int .i64 q1, .int .i64 q2, .string (bs q3), .bool false] 46))
                    case first =>
                      as_aux_lemma =>
                        clear HL HOK HLEN HALL HG HLO HLEN2 HW1 HW2 HW3 HW4 HTX KS HFP HCHK HLMM HX3 HX4 HW0 HO2 HQI HBX HQ HV1 hsz hq0 hq2 hq3 hq5 hsl hmle hT4 hn100 htl o1' o2' e0' e2' e3' e4' b0
                        have keepP := fun (V : World) (hb : Below w5.heap.size w5 V) => (⟨(hb.cell (p := ⟨wo.heap.size, 1, none⟩) hxl).trans e1', (hb.cell (p := ⟨g1, at_ + i, none⟩) hg1).trans c1⟩ : (fun V : World => V.cell? ⟨wo.heap.size, 1, none⟩ = some (.int .i64 q1) ∧ V.cell? ⟨g1, at_ + i, none⟩ = some (.slice (some ⟨gr, o, none⟩) L cp)) V)
                        have HKP := Lib.hid keepP
                        clear keepP
                        refine wp_region_T (z := 17) (S := (fun V : World => V.cell? ⟨wo.heap.size, 1, none⟩ = some (.int .i64 q1) ∧ V.cell? ⟨g1, at_ + i, none⟩ = some (.slice (some ⟨gr, o, none⟩) L cp))) (by kernel_rfl) ?_
                        refine wpAnyT_take (i := 0) (oi := ({ dst := some 129, op := Go.Op.move (Go.Operand.tmp 9), type := 43, pos := "law.go:173", after := #[], guard := none } : Oper)) (v := ?vP_0) rfl (by kernel_rfl) (by kernel_rfl) (by kernel_rfl) (by kernel_rfl) (fun _ _ _ h => h) (Or.inl ⟨by rfl, ?yP_0⟩) (HKP.out _ B1.out) ?rP_0
                        case yP_0 =>
                          intro V hV
                          try dsimp only at hV
                          go_simp
                          all_goals with_reducible rfl
                        try simp only [Act.put, List.setIfInBounds_toArray, List.set_cons_zero, List.set_cons_succ]
                        refine wpAnyT_take (i := 1) (oi := ({ dst := some 130, op := Go.Op.fieldAddr 46 (Go.Operand.tmp 13) 1, type := 0, pos := "law.go:173", after := #[], guard := none } : Oper)) (v := ?vP_1) rfl (by kernel_rfl) (by kernel_rfl) (by kernel_rfl) (by kernel_rfl) (fun _ _ _ h => h) (Or.inl ⟨by rfl, ?yP_1⟩) (HKP.out _ B1.out) ?rP_1
                        case yP_1 =>
                          intro V hV
                          try dsimp only at hV
                          go_simp
                          all_goals with_reducible rfl
                        try simp only [Act.put, List.setIfInBounds_toArray, List.set_cons_zero, List.set_cons_succ]
                        refine wpAnyT_take (i := 2) (oi := ({ dst := some 131, op := Go.Op.load 3 (Go.Operand.tmp 130), type := 3, pos := "law.go:173", after := #[{ on := 1, ground := Go.Ground.data }], guard := none } : Oper)) (v := ?vP_2) rfl (by kernel_rfl) (by kernel_rfl) (by kernel_rfl) (by kernel_rfl) (fun _ _ _ h => h) (Or.inl ⟨by rfl, ?yP_2⟩) (HKP.out _ B1.out) ?rP_2
                        case yP_2 =>
                          intro V hV
                          try dsimp only at hV
                          go_simp
                          all_goals with_reducible rfl
                        try simp only [Act.put, List.setIfInBounds_toArray, List.set_cons_zero, List.set_cons_succ]
                        refine wpAnyT_take (i := 3) (oi := ({ dst := some 132, op := Go.Op.move (Go.Operand.tmp 15), type := 3, pos := "law.go:173", after := #[], guard := none } : Oper)) (v := ?vP_3) rfl (by kernel_rfl) (by kernel_rfl) (by kernel_rfl) (by kernel_rfl) (fun _ _ _ h => h) (Or.inl ⟨by rfl, ?yP_3⟩) (HKP.out _ B1.out) ?rP_3
                        case yP_3 =>
                          intro V hV
                          try dsimp only at hV
                          go_simp
                          all_goals with_reducible rfl
                        try simp only [Act.put, List.setIfInBounds_toArray, List.set_cons_zero, List.set_cons_succ]
                        refine wpAnyT_take (i := 4) (oi := ({ dst := some 133, op := Go.Op.binOp Go.BinOp.add 3 (Go.Operand.tmp 131) (Go.Operand.tmp 132) 3, type := 3, pos := "law.go:173", after := #[{ on := 2, ground := Go.Ground.data }, { on := 3, ground := Go.Ground.data }], guard := none } : Oper)) (v := ?vP_4) rfl (by kernel_rfl) (by kernel_rfl) (by kernel_rfl) (by kernel_rfl) (fun _ _ _ h => h) (Or.inl ⟨by rfl, ?yP_4⟩) (HKP.out _ B1.out) ?rP_4
                        case yP_4 =>
                          intro V hV
                          try dsimp only at hV
                          go_simp
                          all_goals with_reducible rfl
                        try simp only [Act.put, List.setIfInBounds_toArray, List.set_cons_zero, List.set_cons_succ]
                        refine wpAnyT_take (i := 5) (oi := ({ dst := some 134, op := Go.Op.move (Go.Operand.tmp 9), type := 43, pos := "law.go:173", after := #[], guard := none } : Oper)) (v := ?vP_5) rfl (by kernel_rfl) (by kernel_rfl) (by kernel_rfl) (by kernel_rfl) (fun _ _ _ h => h) (Or.inl ⟨by rfl, ?yP_5⟩) (HKP.out _ B1.out) ?rP_5
                        case yP_5 =>
                          intro V hV
                          try dsimp only at hV
                          go_simp
                          all_goals with_reducible rfl
                        try simp only [Act.put, List.setIfInBounds_toArray, List.set_cons_zero, List.set_cons_succ]
                        refine wpAnyT_take (i := 6) (oi := ({ dst := some 135, op := Go.Op.fieldAddr 46 (Go.Operand.tmp 13) 1, type := 0, pos := "law.go:173", after := #[], guard := none } : Oper)) (v := ?vP_6) rfl (by kernel_rfl) (by kernel_rfl) (by kernel_rfl) (by kernel_rfl) (fun _ _ _ h => h) (Or.inl ⟨by rfl, ?yP_6⟩) (HKP.out _ B1.out) ?rP_6
                        case yP_6 =>
                          intro V hV
                          try dsimp only at hV
                          go_simp
                          all_goals with_reducible rfl
                        try simp only [Act.put, List.setIfInBounds_toArray, List.set_cons_zero, List.set_cons_succ]
                        refine wpAnyT_take (i := 7) (oi := ({ dst := some 136, op := Go.Op.load 3 (Go.Operand.tmp 135), type := 3, pos := "law.go:173", after := #[{ on := 6, ground := Go.Ground.data }], guard := none } : Oper)) (v := ?vP_7) rfl (by kernel_rfl) (by kernel_rfl) (by kernel_rfl) (by kernel_rfl) (fun _ _ _ h => h) (Or.inl ⟨by rfl, ?yP_7⟩) (HKP.out _ B1.out) ?rP_7
                        case yP_7 =>
                          intro V hV
                          try dsimp only at hV
                          go_simp
                          all_goals with_reducible rfl
                        try simp only [Act.put, List.setIfInBounds_toArray, List.set_cons_zero, List.set_cons_succ]
                        refine wpAnyT_take (i := 8) (oi := ({ dst := some 137, op := Go.Op.move (Go.Operand.tmp 15), type := 3, pos := "law.go:173", after := #[], guard := none } : Oper)) (v := ?vP_8) rfl (by kernel_rfl) (by kernel_rfl) (by kernel_rfl) (by kernel_rfl) (fun _ _ _ h => h) (Or.inl ⟨by rfl, ?yP_8⟩) (HKP.out _ B1.out) ?rP_8
                        case yP_8 =>
                          intro V hV
                          try dsimp only at hV
                          go_simp
                          all_goals with_reducible rfl
                        try simp only [Act.put, List.setIfInBounds_toArray, List.set_cons_zero, List.set_cons_succ]
                        refine wpAnyT_take (i := 9) (oi := ({ dst := some 138, op := Go.Op.binOp Go.BinOp.add 3 (Go.Operand.tmp 136) (Go.Operand.tmp 137) 3, type := 3, pos := "law.go:173", after := #[{ on := 7, ground := Go.Ground.data }, { on := 8, ground := Go.Ground.data }], guard := none } : Oper)) (v := ?vP_9) rfl (by kernel_rfl) (by kernel_rfl) (by kernel_rfl) (by kernel_rfl) (fun _ _ _ h => h) (Or.inl ⟨by rfl, ?yP_9⟩) (HKP.out _ B1.out) ?rP_9
                        case yP_9 =>
                          intro V hV
                          try dsimp only at hV
                          go_simp
                          all_goals with_reducible rfl
                        try simp only [Act.put, List.setIfInBounds_toArray, List.set_cons_zero, List.set_cons_succ]
                        refine wpAnyT_take (i := 10) (oi := ({ dst := some 139, op := Go.Op.indexAddr 43 (Go.Operand.tmp 134) (Go.Operand.tmp 138), type := 0, pos := "law.go:173", after := #[{ on := 5, ground := Go.Ground.data }, { on := 9, ground := Go.Ground.data }], guard := none } : Oper)) (v := ?vP_10) rfl (by kernel_rfl) (by kernel_rfl) (by kernel_rfl) (by kernel_rfl) (fun _ _ _ h => h) (Or.inl ⟨by rfl, ?yP_10⟩) (HKP.out _ B1.out) ?rP_10
                        case yP_10 =>
                          intro V hV
                          try dsimp only at hV
                          go_simp
                          all_goals with_reducible rfl
                        try simp only [Act.put, List.setIfInBounds_toArray, List.set_cons_zero, List.set_cons_succ]
                        refine wpAnyT_take (i := 11) (oi := ({ dst := some 140, op := Go.Op.load 31 (Go.Operand.tmp 139), type := 31, pos := "law.go:173", after := #[{ on := 10, ground := Go.Ground.data }], guard := none } : Oper)) (v := ?vP_11) rfl (by kernel_rfl) (by kernel_rfl) (by kernel_rfl) (by kernel_rfl) (fun _ _ _ h => h) (Or.inl ⟨by rfl, ?yP_11⟩) (HKP.out _ B1.out) ?rP_11
                        case yP_11 =>
                          intro V hV
                          try dsimp only at hV
                          go_simp
                          all_goals with_reducible rfl
                        try simp only [Act.put, List.setIfInBounds_toArray, List.set_cons_zero, List.set_cons_succ]
                        refine wpAnyT_take (i := 13) (oi := ({ dst := some 142, op := Go.Op.move (Go.Operand.tmp 16), type := 9, pos := "law.go:173", after := #[], guard := none } : Oper)) (v := ?vP_13) rfl (by kernel_rfl) (by kernel_rfl) (by kernel_rfl) (by kernel_rfl) (fun _ _ _ h => h) (Or.inl ⟨by rfl, ?yP_13⟩) (HKP.out _ B1.out) ?rP_13
                        case yP_13 =>
                          intro V hV
                          try dsimp only at hV
                          go_simp
                          all_goals with_reducible rfl
                        try simp only [Act.put, List.setIfInBounds_toArray, List.set_cons_zero, List.set_cons_succ]
                        refine wpAnyT_two (i := 12) (j := 14) (o := ({ dst := some 141, op := Go.Op.call { callee := Go.Callee.builtin Go.Builtin.append, args := #[Go.Operand.const (Go.Value.slice none 0 0), Go.Operand.tmp 140], argTypes := #[31, 31] }, type := 31, pos := "law.go:173", after := #[{ on := 11, ground := Go.Ground.data }], guard := none } : Oper)) (p := ({ dst := some 143, op := Go.Op.buildSlice 31 1 #[(0, Go.Operand.tmp 142)], type := 31, pos := "law.go:173", after := #[{ on := 13, ground := Go.Ground.data }], guard := none } : Oper)) (by kernel_rfl) rfl rfl (fun K1 hK1 => ?bAP) (fun K1 hK1 => ?bBP)
                        case bAP =>
                          refine step_append_lies _ (by rfl) _ _ _ (by rfl) 0 9 i0 _ 1 16 Try.underlying31 hi0 hz0 hz1 hz2 (by rfl) (by omega) (.slice none 0 0) 0 [] (by rfl) (World.ownsRow_nil _ _ _ _) ⟨gr, o, none⟩ L cp (strCells R) (by rfl) (by rw [strCells_length, HLr.out, Nat.mul_one]) (HCS.out _ B1.out) (strCells_one _) (by omega) (by unfold maxLen; omega) (by omega) (Nat.zero_le _) _ (by rfl) ?_
                          intro ga capa wa howna hgrowa hata hlta
                          have HBA := Lib.hid (B1.out.grown hgrowa B1.out.size (fun k e => by cases e))
                          rw [Nat.zero_add, List.nil_append] at howna
                          have hga : w5.heap.size ≤ ga := (by rcases hata with e | e; cases e; (rw [e]; exact B1.out.size))
                          have HOWNA := Lib.hid howna
                          clear howna hata hlta
                          refine hK1 _ _ (fun _ => HKP.out _ HBA.out) ?_
                          try simp only [Act.put, List.setIfInBounds_toArray, List.set_cons_zero, List.set_cons_succ]
                          refine wpAnyT_one (i := 14) (o := ({ dst := some 143, op := Go.Op.buildSlice 31 1 #[(0, Go.Operand.tmp 142)], type := 31, pos := "law.go:173", after := #[{ on := 13, ground := Go.Ground.data }], guard := none } : Oper)) (by kernel_rfl) rfl (fun K2 hK2 => ?_)
                          go_simp
                          refine hK2 _ _ (fun _ => HKP.out _ (HBA.out.alloc HBA.out.size _)) ?_
                          try simp only [Act.put, List.setIfInBounds_toArray, List.set_cons_zero, List.set_cons_succ]
                          refine wpAnyT_one (i := 15) (o := ({ dst := some 144, op := Go.Op.call { callee := Go.Callee.builtin Go.Builtin.append, args := #[Go.Operand.tmp 141, Go.Operand.tmp 143], argTypes := #[31, 31] }, type := 31, pos := "law.go:173", after := #[{ on := 12, ground := Go.Ground.data }, { on := 14, ground := Go.Ground.data }, { on := 12, ground := Go.Ground.chain }], guard := none } : Oper)) (by kernel_rfl) rfl (fun K3 hK3 => ?_)
                          refine step_append_lies _ (by rfl) _ _ _ (by rfl) 0 9 i0 _ 1 16 Try.underlying31 hi0 hz0 hz1 hz2 (by rfl) (by omega) (.slice (some ⟨ga, 0, none⟩) L capa) L (strCells R) (by rfl) (HOWNA.out.alloc _) ⟨wa.heap.size, 0, none⟩ 1 1 [.string (bs X)] (by rfl) (by rfl) (World.news_of_block (cs := #[.string (bs X)]) (t := 9) (fr := (0, 0)) (heap_alloc_new wa _)) (str_one _) (by omega) (by unfold maxLen; omega) (by omega) (Nat.zero_le _) _ (by rfl) ?_
                          intro gb capb wb2 hownb hgrowb hatb hltb
                          have HBB := Lib.hid ((HBA.out.alloc HBA.out.size _).grown hgrowb (HBA.out.alloc HBA.out.size _).size (fun k e => by have e' : some ga = some k := e; have := Option.some.inj e'; omega))
                          have HOWNB := Lib.hid hownb
                          clear hownb hgrowb hatb hltb
                          have cb := (HBB.out.cell (p := ⟨g1, at_ + i, none⟩) hg1).trans c1
                          have fb := (HBB.out.frozen (p := ⟨g1, at_ + i, none⟩) hg1).trans f1
                          refine hK3 _ _ (fun _ => HKP.out _ HBB.out) ?_
                          try simp only [Act.put, List.setIfInBounds_toArray, List.set_cons_zero, List.set_cons_succ]
                          refine wpAnyT_take (i := 16) (oi := ({ dst := some 145, op := Go.Op.indexAddr 43 (Go.Operand.tmp 129) (Go.Operand.tmp 133), type := 0, pos := "law.go:173", after := #[{ on := 0, ground := Go.Ground.data }, { on := 4, ground := Go.Ground.data }, { on := 0, ground := Go.Ground.phase }, { on := 1, ground := Go.Ground.phase }, { on := 2, ground := Go.Ground.phase }, { on := 3, ground := Go.Ground.phase }, { on := 4, ground := Go.Ground.phase }, { on := 5, ground := Go.Ground.phase }, { on := 6, ground := Go.Ground.phase }, { on := 7, ground := Go.Ground.phase }, { on := 8, ground := Go.Ground.phase }, { on := 9, ground := Go.Ground.phase }, { on := 10, ground := Go.Ground.phase }, { on := 11, ground := Go.Ground.phase }, { on := 12, ground := Go.Ground.phase }, { on := 13, ground := Go.Ground.phase }, { on := 14, ground := Go.Ground.phase }, { on := 15, ground := Go.Ground.phase }], guard := none } : Oper)) (v := ?vP_a) rfl (by kernel_rfl) (by kernel_rfl) (by kernel_rfl) (by kernel_rfl) (fun _ _ _ h => h) (Or.inl ⟨by rfl, ?yP_a⟩) (HKP.out _ HBB.out) ?rP_a
                          case yP_a =>
                            intro V hV
                            try dsimp only at hV
                            go_simp
                            all_goals with_reducible rfl
                          try simp only [Act.put, List.setIfInBounds_toArray, List.set_cons_zero, List.set_cons_succ]
                          refine wpAnyT_one (i := 17) (o := ({ dst := none, op := Go.Op.store 31 (Go.Operand.tmp 145) (Go.Operand.tmp 144), type := 0, pos := "law.go:173", after := #[{ on := 16, ground := Go.Ground.data }, { on := 15, ground := Go.Ground.data }, { on := 15, ground := Go.Ground.chain }, { on := 0, ground := Go.Ground.phase }, { on := 1, ground := Go.Ground.phase }, { on := 2, ground := Go.Ground.phase }, { on := 3, ground := Go.Ground.phase }, { on := 4, ground := Go.Ground.phase }, { on := 5, ground := Go.Ground.phase }, { on := 6, ground := Go.Ground.phase }, { on := 7, ground := Go.Ground.phase }, { on := 8, ground := Go.Ground.phase }, { on := 9, ground := Go.Ground.phase }, { on := 10, ground := Go.Ground.phase }, { on := 11, ground := Go.Ground.phase }, { on := 12, ground := Go.Ground.phase }, { on := 13, ground := Go.Ground.phase }, { on := 14, ground := Go.Ground.phase }, { on := 15, ground := Go.Ground.phase }], guard := none } : Oper)) (by kernel_rfl) rfl (fun K4 hK4 => ?_)
                          go_simp
                          refine hK4 _ _ (fun h => absurd rfl h) ?_
                          clear hK1 hK2 hK3 hK4 K1 K2 K3 K4
                          refine wpAnyT_done (by kernel_rfl) ?_ _
                          have hrb : RowAt wb2 (.slice (some ⟨gb, 0, none⟩) (L + 1) capb) (R ++ [X]) := RowAt.of_owns (base := 0) (by rw [strCells_snoc]; exact HOWNB.out) (by simp) (by rw [List.length_append, List.length_singleton, HLr.out])
                          have hst := (HQ5.out.step HBB.out).setA (at_ + i) (by omega) hrb
                          have hgx : wo.heap.size ≠ g1 := BlkOf.ne ⟨_, _, HBX5.out⟩ HQ5.out.all.blk (by decide)
                          have hbx := ((upd_set wb2 g1 (at_ + i) (.slice (some ⟨gb, 0, none⟩) (L + 1) capb)).block wo.heap.size (Nat.lt_of_lt_of_le hxl HBB.out.size) (fun e => hgx e)).trans ((HBB.out.block wo.heap.size hxl).trans HBX5.out)
                          have HST := Lib.hid hst
                          have HBX6 := Lib.hid hbx
                          clear hst hbx hrb
                          go_wp2_with fail
                          go_meet
                          case rel => exact ⟨HST.out, HBX6.out⟩
                        case bBP =>
                          go_simp
                          refine hK1 _ _ (fun _ => HKP.out _ B2.out) ?_
                          try simp only [Act.put, List.setIfInBounds_toArray, List.set_cons_zero, List.set_cons_succ]
                          refine wpAnyT_one (i := 12) (o := ({ dst := some 141, op := Go.Op.call { callee := Go.Callee.builtin Go.Builtin.append, args := #[Go.Operand.const (Go.Value.slice none 0 0), Go.Operand.tmp 140], argTypes := #[31, 31] }, type := 31, pos := "law.go:173", after := #[{ on := 11, ground := Go.Ground.data }], guard := none } : Oper)) (by kernel_rfl) rfl (fun K2 hK2 => ?_)
                          refine step_append_lies _ (by rfl) _ _ _ (by rfl) 0 9 i0 _ 1 16 Try.underlying31 hi0 hz0 hz1 hz2 (by rfl) (by omega) (.slice none 0 0) 0 [] (by rfl) (World.ownsRow_nil _ _ _ _) ⟨gr, o, none⟩ L cp (strCells R) (by rfl) (by rw [strCells_length, HLr.out, Nat.mul_one]) (HCS.out _ B2.out) (strCells_one _) (by omega) (by unfold maxLen; omega) (by omega) (Nat.zero_le _) _ (by rfl) ?_
                          intro ga capa wa howna hgrowa hata hlta
                          have HBA := Lib.hid (B2.out.grown hgrowa B2.out.size (fun k e => by cases e))
                          rw [Nat.zero_add, List.nil_append] at howna
                          have hga : w5.heap.size ≤ ga := (by rcases hata with e | e; cases e; (rw [e]; exact B2.out.size))
                          have HOWNA := Lib.hid howna
                          clear howna hata hlta
                          refine hK2 _ _ (fun _ => HKP.out _ HBA.out) ?_
                          try simp only [Act.put, List.setIfInBounds_toArray, List.set_cons_zero, List.set_cons_succ]
                          simp only [Nat.zero_add]
                          refine wpAnyT_one (i := 15) (o := ({ dst := some 144, op := Go.Op.call { callee := Go.Callee.builtin Go.Builtin.append, args := #[Go.Operand.tmp 141, Go.Operand.tmp 143], argTypes := #[31, 31] }, type := 31, pos := "law.go:173", after := #[{ on := 12, ground := Go.Ground.data }, { on := 14, ground := Go.Ground.data }, { on := 12, ground := Go.Ground.chain }], guard := none } : Oper)) (by kernel_rfl) rfl (fun K3 hK3 => ?_)
                          refine step_append_lies _ (by rfl) _ _ _ (by rfl) 0 9 i0 _ 1 16 Try.underlying31 hi0 hz0 hz1 hz2 (by rfl) (by omega) (.slice (some ⟨ga, 0, none⟩) L capa) L (strCells R) (by rfl) HOWNA.out ⟨w5.heap.size, 0, none⟩ 1 1 [.string (bs X)] (by rfl) (by rfl) (World.news_of_block (cs := #[.string (bs X)]) (t := 9) (fr := (0, 0)) ((hgrowa.block w5.heap.size (by show w5.heap.size < (w5.alloc _).heap.size; rw [World.size_alloc]; omega) (by simp [Value.ownBlock])).trans (heap_alloc_new w5 _))) (str_one _) (by omega) (by unfold maxLen; omega) (by omega) (Nat.zero_le _) _ (by rfl) ?_
                          intro gb capb wb2 hownb hgrowb hatb hltb
                          have HBB := Lib.hid (HBA.out.grown hgrowb HBA.out.size (fun k e => by have e' : some ga = some k := e; have := Option.some.inj e'; omega))
                          have HOWNB := Lib.hid hownb
                          clear hownb hgrowb hatb hltb
                          have cb := (HBB.out.cell (p := ⟨g1, at_ + i, none⟩) hg1).trans c1
                          have fb := (HBB.out.frozen (p := ⟨g1, at_ + i, none⟩) hg1).trans f1
                          refine hK3 _ _ (fun _ => HKP.out _ HBB.out) ?_
                          try simp only [Act.put, List.setIfInBounds_toArray, List.set_cons_zero, List.set_cons_succ]
                          refine wpAnyT_take (i := 16) (oi := ({ dst := some 145, op := Go.Op.indexAddr 43 (Go.Operand.tmp 129) (Go.Operand.tmp 133), type := 0, pos := "law.go:173", after := #[{ on := 0, ground := Go.Ground.data }, { on := 4, ground := Go.Ground.data }, { on := 0, ground := Go.Ground.phase }, { on := 1, ground := Go.Ground.phase }, { on := 2, ground := Go.Ground.phase }, { on := 3, ground := Go.Ground.phase }, { on := 4, ground := Go.Ground.phase }, { on := 5, ground := Go.Ground.phase }, { on := 6, ground := Go.Ground.phase }, { on := 7, ground := Go.Ground.phase }, { on := 8, ground := Go.Ground.phase }, { on := 9, ground := Go.Ground.phase }, { on := 10, ground := Go.Ground.phase }, { on := 11, ground := Go.Ground.phase }, { on := 12, ground := Go.Ground.phase }, { on := 13, ground := Go.Ground.phase }, { on := 14, ground := Go.Ground.phase }, { on := 15, ground := Go.Ground.phase }], guard := none } : Oper)) (v := ?vP_b) rfl (by kernel_rfl) (by kernel_rfl) (by kernel_rfl) (by kernel_rfl) (fun _ _ _ h => h) (Or.inl ⟨by rfl, ?yP_b⟩) (HKP.out _ HBB.out) ?rP_b
                          case yP_b =>
                            intro V hV
                            try dsimp only at hV
                            go_simp
                            all_goals with_reducible rfl
                          try simp only [Act.put, List.setIfInBounds_toArray, List.set_cons_zero, List.set_cons_succ]
                          refine wpAnyT_one (i := 17) (o := ({ dst := none, op := Go.Op.store 31 (Go.Operand.tmp 145) (Go.Operand.tmp 144), type := 0, pos := "law.go:173", after := #[{ on := 16, ground := Go.Ground.data }, { on := 15, ground := Go.Ground.data }, { on := 15, ground := Go.Ground.chain }, { on := 0, ground := Go.Ground.phase }, { on := 1, ground := Go.Ground.phase }, { on := 2, ground := Go.Ground.phase }, { on := 3, ground := Go.Ground.phase }, { on := 4, ground := Go.Ground.phase }, { on := 5, ground := Go.Ground.phase }, { on := 6, ground := Go.Ground.phase }, { on := 7, ground := Go.Ground.phase }, { on := 8, ground := Go.Ground.phase }, { on := 9, ground := Go.Ground.phase }, { on := 10, ground := Go.Ground.phase }, { on := 11, ground := Go.Ground.phase }, { on := 12, ground := Go.Ground.phase }, { on := 13, ground := Go.Ground.phase }, { on := 14, ground := Go.Ground.phase }, { on := 15, ground := Go.Ground.phase }], guard := none } : Oper)) (by kernel_rfl) rfl (fun K4 hK4 => ?_)
                          go_simp
                          refine hK4 _ _ (fun h => absurd rfl h) ?_
                          clear hK1 hK2 hK3 hK4 K1 K2 K3 K4
                          refine wpAnyT_done (by kernel_rfl) ?_ _
                          have hrb : RowAt wb2 (.slice (some ⟨gb, 0, none⟩) (L + 1) capb) (R ++ [X]) := RowAt.of_owns (base := 0) (by rw [strCells_snoc]; exact HOWNB.out) (by simp) (by rw [List.length_append, List.length_singleton, HLr.out])
                          have hst := (HQ5.out.step HBB.out).setA (at_ + i) (by omega) hrb
                          have hgx : wo.heap.size ≠ g1 := BlkOf.ne ⟨_, _, HBX5.out⟩ HQ5.out.all.blk (by decide)
                          have hbx := ((upd_set wb2 g1 (at_ + i) (.slice (some ⟨gb, 0, none⟩) (L + 1) capb)).block wo.heap.size (Nat.lt_of_lt_of_le hxl HBB.out.size) (fun e => hgx e)).trans ((HBB.out.block wo.heap.size hxl).trans HBX5.out)
                          have HST := Lib.hid hst
                          have HBX6 := Lib.hid hbx
                          clear hst hbx hrb
                          go_wp2_with fail
                          go_meet
                          case rel => exact ⟨HST.out, HBX6.out⟩
                    case rest =>
                      as_aux_lemma =>
                        obtain ⟨w6, rfl⟩ : ∃ w6 : World, w6 = wc := ⟨_, rfl⟩
                        obtain ⟨hK6, hbx6⟩ := hcut
                        have HK6 := Lib.hid hK6
                        have HBX6 := Lib.hid hbx6
                        have hLs : D.loose ++ (Dsk.chunks at_ T m).take (i + 1) = (D.loose ++ (Dsk.chunks at_ T m).take i) ++ [(at_ + i, X)] := by rw [List.take_add_one, HCHK.out, List.append_assoc]; rfl
                        have hLn : (D.loose ++ (Dsk.chunks at_ T m).take i).length = D.loose.length + i := by rw [List.length_append, List.length_take, Dsk.chunks_length, Nat.min_eq_left (by omega)]
                        have HLS := Lib.hid hLs
                        have HLN := Lib.hid hLn
                        obtain ⟨d0, d1, d2, d3, d4⟩ := KS.out _ hbx6
                        clear hK6 hbx6 hLs hLn c1 f1 k1 hix1
                        have hwk : IntKind.i64.wrap ((D.loose.length : Int) + (i : Int)) = (D.loose.length : Int) + (i : Int) := IntWalk.i64_in _ (by omega)
                        by_cases hke : keep = []
                        · subst hke
                          go_wp2_with fail
                          go_roundw
                          case rel =>
                            have h := HT2.out.lost (at_ + i, X) (by show at_ + i < A'.length; have := HT2.out.na; omega) (by unfold stays; simp)
                            rw [← HLS.out] at h
                            simp only [HR.out] at h
                            exact ⟨i + 1, _, _, by omega, by go_num, HK6.out, h, HBX6.out⟩
                          case measure => simp [intOf]; omega
                        · have hkpos : 0 < keep.length := List.length_pos_iff.2 hke
                          have hml := Nat.mod_lt (D.loose.length + i) hkpos
                          have hmod : ((D.loose.length : Int) + (i : Int)) % (keep.length : Int) = (((D.loose.length + i) % keep.length : Nat) : Int) := by push_cast; rfl
                          have hmodT : ((D.loose.length : Int) + (i : Int)).tmod (keep.length : Int) = (((D.loose.length + i) % keep.length : Nat) : Int) := by rw [Int.tmod_eq_emod_of_nonneg (by omega)]; exact hmod
                          have hst : stays keep (D.loose.length + i) = (keep[(D.loose.length + i) % keep.length].toNat % 2 == 1) := by
                            unfold stays
                            rw [List.getD_eq_getElem?_getD, List.getElem?_eq_getElem hml]
                            simp [hke]
                          generalize (D.loose.length + i) % keep.length = im at *
                          cases hs : stays keep (D.loose.length + i) with
                          | false =>
                            rw [hs] at hst
                            have hbit : (((keep[im].toNat : Int)) % 2 == 1) = false := by
                              rw [Bool.eq_false_iff]; intro e
                              have e := eq_of_beq e
                              have e2 : (keep[im].toNat % 2 == 1) = true := by rw [beq_iff_eq]; omega
                              rw [← hst] at e2; cases e2
                            have hbitT : (((keep[im].toNat : Int)).tmod 2 == 1) = false := by rw [Int.tmod_eq_emod_of_nonneg (by omega)]; exact hbit
                            have HSS := Lib.hid hs
                            clear hst hs
                            go_wp2_with fail
                            go_roundw
                            case rel =>
                              have h := HT2.out.lost (at_ + i, X) (by show at_ + i < A'.length; have := HT2.out.na; omega) (by rw [HLN.out]; exact HSS.out)
                              rw [← HLS.out] at h
                              simp only [HR.out] at h
                              exact ⟨i + 1, _, _, by omega, by go_num, HK6.out, h, HBX6.out⟩
                            case measure => simp [intOf]; omega
                          | true =>
                            rw [hs] at hst
                            have hbit : (((keep[im].toNat : Int)) % 2 == 1) = true := by
                              have e := eq_of_beq hst.symm
                              rw [beq_iff_eq]; omega
                            have hbitT : (((keep[im].toNat : Int)).tmod 2 == 1) = true := by rw [Int.tmod_eq_emod_of_nonneg (by omega)]; exact hbit
                            have HSS := Lib.hid hs
                            clear hst hs
                            go_upto_region 28 with fail
                            clear hbit hbitT hmod hmodT hwk
                            -- the row of 'kept'
                            have hnk2 := HT2.out.nk
                            obtain ⟨v2, c2, hv2⟩ := HK6.out.kept.cell (at_ + i) (by omega)
                            have hlen2 := HT2.out.lk (at_ + i) (by omega)
                            obtain ⟨gr2, o2, L2, cp2, rfl, hL, hM1, hM2, hM3, _, hcs, _⟩ := hv2.opened
                            have hM9 : L2 ≤ 60001 := by omega
                            have f2 := HK6.out.kept.free (at_ + i)
                            have hg2 : g1 + 1 < w6.heap.size := HK6.out.kept.blk.lt
                            have hxl2 : wo.heap.size < w6.heap.size := blk_lt HBX6.out
                            have k2 := fun (ob : Obj) => And.intro (((((Below.refl w6.heap.size w6).alloc (Nat.le_refl _) ob).drew).cell (p := ⟨wo.heap.size, 1, none⟩) hxl2).trans d1) (((((Below.refl w6.heap.size w6).alloc (Nat.le_refl _) ob).drew).cell (p := ⟨g1 + 1, at_ + i, none⟩) hg2).trans c2)
                            have hix2 : ∀ V, (Instr.indexAt 43 (.slice (some ⟨g1 + 1, 0, none⟩) k k) (.int .i64 (q1 + (i : Int)))).run Try.prog V = .ok (.pointer (some ⟨g1 + 1, at_ + i, none⟩)) V := by rw [HQI.out]; exact rows_index (g1 + 1) k (at_ + i) hpi
                            have HCS2 := Lib.hid (fun (V : World) (hb : Below w6.heap.size w6 V) (j : Nat) (u : Value) (hu : (strCells (K'[at_ + i]'(by omega)))[j]? = some u) => (hb.cell (block_lt_of_cell (hcs j u hu))).trans (hcs j u hu))
                            have HLr2 := Lib.hid hL
                            have B3 := Lib.hid (show Below w6.heap.size w6 w6.drew from (Below.refl _ _).drew)
                            have B4 := Lib.hid (show Below w6.heap.size w6 (w6.alloc (.cells #[.string (bs X)] 9)).drew from ((Below.refl _ _).alloc (Nat.le_refl _) _).drew)
                            clear hcs hv2 hL hnk2 hlen2
                            generalize hR2 : K'[at_ + i]'(by have := HT2.out.nk; omega) = R2 at *
                            have HR2 := Lib.hid hR2
                            clear hR2
                            have h := HT2.out.stay (at_ + i, X) (by show at_ + i < A'.length; have := HT2.out.na; omega) (by show at_ + i < K'.length; have := HT2.out.nk; omega) (by rw [HLN.out]; exact HSS.out)
                            rw [← HLS.out] at h
                            simp only [HR.out, HR2.out] at h
                            have HTT := Lib.hid h
                            clear h
                            as_aux_lemma =>
                              clear HL HOK HLEN HALL HG HLO HLEN2 HW1 HW2 HW3 HW4 HTX KS HFP HCHK HLMM HX3 HX4 HW0 HO2 HQI HBX HQ HV1 hsz hq0 hq2 hq3 hq5 hsl hT4 hn100 htl o1' o2' e0' e2' e3' e4' b0 HLS HLN HSS d0 d2 d3 d4 HQ5 HBX5 HCS HLr HNR B1 B2
                              have keepR := fun (V : World) (hb : Below w6.heap.size w6 V) => (⟨(hb.cell (p := ⟨wo.heap.size, 1, none⟩) hxl2).trans d1, (hb.cell (p := ⟨g1 + 1, at_ + i, none⟩) hg2).trans c2⟩ : (fun V : World => V.cell? ⟨wo.heap.size, 1, none⟩ = some (.int .i64 q1) ∧ V.cell? ⟨g1 + 1, at_ + i, none⟩ = some (.slice (some ⟨gr2, o2, none⟩) L2 cp2)) V)
                              have HKR := Lib.hid keepR
                              clear keepR
                              refine wp_region_T (z := 17) (S := (fun V : World => V.cell? ⟨wo.heap.size, 1, none⟩ = some (.int .i64 q1) ∧ V.cell? ⟨g1 + 1, at_ + i, none⟩ = some (.slice (some ⟨gr2, o2, none⟩) L2 cp2))) (by kernel_rfl) ?_
                              refine wpAnyT_take (i := 0) (oi := ({ dst := some 161, op := Go.Op.move (Go.Operand.tmp 10), type := 43, pos := "law.go:175", after := #[], guard := none } : Oper)) (v := ?vR_0) rfl (by kernel_rfl) (by kernel_rfl) (by kernel_rfl) (by kernel_rfl) (fun _ _ _ h => h) (Or.inl ⟨by rfl, ?yR_0⟩) (HKR.out _ B3.out) ?rR_0
                              case yR_0 =>
                                intro V hV
                                try dsimp only at hV
                                go_simp
                                all_goals with_reducible rfl
                              try simp only [Act.put, List.setIfInBounds_toArray, List.set_cons_zero, List.set_cons_succ]
                              refine wpAnyT_take (i := 1) (oi := ({ dst := some 162, op := Go.Op.fieldAddr 46 (Go.Operand.tmp 13) 1, type := 0, pos := "law.go:175", after := #[], guard := none } : Oper)) (v := ?vR_1) rfl (by kernel_rfl) (by kernel_rfl) (by kernel_rfl) (by kernel_rfl) (fun _ _ _ h => h) (Or.inl ⟨by rfl, ?yR_1⟩) (HKR.out _ B3.out) ?rR_1
                              case yR_1 =>
                                intro V hV
                                try dsimp only at hV
                                go_simp
                                all_goals with_reducible rfl
                              try simp only [Act.put, List.setIfInBounds_toArray, List.set_cons_zero, List.set_cons_succ]
                              refine wpAnyT_take (i := 2) (oi := ({ dst := some 163, op := Go.Op.load 3 (Go.Operand.tmp 162), type := 3, pos := "law.go:175", after := #[{ on := 1, ground := Go.Ground.data }], guard := none } : Oper)) (v := ?vR_2) rfl (by kernel_rfl) (by kernel_rfl) (by kernel_rfl) (by kernel_rfl) (fun _ _ _ h => h) (Or.inl ⟨by rfl, ?yR_2⟩) (HKR.out _ B3.out) ?rR_2
                              case yR_2 =>
                                intro V hV
                                try dsimp only at hV
                                go_simp
                                all_goals with_reducible rfl
                              try simp only [Act.put, List.setIfInBounds_toArray, List.set_cons_zero, List.set_cons_succ]
                              refine wpAnyT_take (i := 3) (oi := ({ dst := some 164, op := Go.Op.move (Go.Operand.tmp 15), type := 3, pos := "law.go:175", after := #[], guard := none } : Oper)) (v := ?vR_3) rfl (by kernel_rfl) (by kernel_rfl) (by kernel_rfl) (by kernel_rfl) (fun _ _ _ h => h) (Or.inl ⟨by rfl, ?yR_3⟩) (HKR.out _ B3.out) ?rR_3
                              case yR_3 =>
                                intro V hV
                                try dsimp only at hV
                                go_simp
                                all_goals with_reducible rfl
                              try simp only [Act.put, List.setIfInBounds_toArray, List.set_cons_zero, List.set_cons_succ]
                              refine wpAnyT_take (i := 4) (oi := ({ dst := some 165, op := Go.Op.binOp Go.BinOp.add 3 (Go.Operand.tmp 163) (Go.Operand.tmp 164) 3, type := 3, pos := "law.go:175", after := #[{ on := 2, ground := Go.Ground.data }, { on := 3, ground := Go.Ground.data }], guard := none } : Oper)) (v := ?vR_4) rfl (by kernel_rfl) (by kernel_rfl) (by kernel_rfl) (by kernel_rfl) (fun _ _ _ h => h) (Or.inl ⟨by rfl, ?yR_4⟩) (HKR.out _ B3.out) ?rR_4
                              case yR_4 =>
                                intro V hV
                                try dsimp only at hV
                                go_simp
                                all_goals with_reducible rfl
                              try simp only [Act.put, List.setIfInBounds_toArray, List.set_cons_zero, List.set_cons_succ]
                              refine wpAnyT_take (i := 5) (oi := ({ dst := some 166, op := Go.Op.move (Go.Operand.tmp 10), type := 43, pos := "law.go:175", after := #[], guard := none } : Oper)) (v := ?vR_5) rfl (by kernel_rfl) (by kernel_rfl) (by kernel_rfl) (by kernel_rfl) (fun _ _ _ h => h) (Or.inl ⟨by rfl, ?yR_5⟩) (HKR.out _ B3.out) ?rR_5
                              case yR_5 =>
                                intro V hV
                                try dsimp only at hV
                                go_simp
                                all_goals with_reducible rfl
                              try simp only [Act.put, List.setIfInBounds_toArray, List.set_cons_zero, List.set_cons_succ]
                              refine wpAnyT_take (i := 6) (oi := ({ dst := some 167, op := Go.Op.fieldAddr 46 (Go.Operand.tmp 13) 1, type := 0, pos := "law.go:175", after := #[], guard := none } : Oper)) (v := ?vR_6) rfl (by kernel_rfl) (by kernel_rfl) (by kernel_rfl) (by kernel_rfl) (fun _ _ _ h => h) (Or.inl ⟨by rfl, ?yR_6⟩) (HKR.out _ B3.out) ?rR_6
                              case yR_6 =>
                                intro V hV
                                try dsimp only at hV
                                go_simp
                                all_goals with_reducible rfl
                              try simp only [Act.put, List.setIfInBounds_toArray, List.set_cons_zero, List.set_cons_succ]
                              refine wpAnyT_take (i := 7) (oi := ({ dst := some 168, op := Go.Op.load 3 (Go.Operand.tmp 167), type := 3, pos := "law.go:175", after := #[{ on := 6, ground := Go.Ground.data }], guard := none } : Oper)) (v := ?vR_7) rfl (by kernel_rfl) (by kernel_rfl) (by kernel_rfl) (by kernel_rfl) (fun _ _ _ h => h) (Or.inl ⟨by rfl, ?yR_7⟩) (HKR.out _ B3.out) ?rR_7
                              case yR_7 =>
                                intro V hV
                                try dsimp only at hV
                                go_simp
                                all_goals with_reducible rfl
                              try simp only [Act.put, List.setIfInBounds_toArray, List.set_cons_zero, List.set_cons_succ]
                              refine wpAnyT_take (i := 8) (oi := ({ dst := some 169, op := Go.Op.move (Go.Operand.tmp 15), type := 3, pos := "law.go:175", after := #[], guard := none } : Oper)) (v := ?vR_8) rfl (by kernel_rfl) (by kernel_rfl) (by kernel_rfl) (by kernel_rfl) (fun _ _ _ h => h) (Or.inl ⟨by rfl, ?yR_8⟩) (HKR.out _ B3.out) ?rR_8
                              case yR_8 =>
                                intro V hV
                                try dsimp only at hV
                                go_simp
                                all_goals with_reducible rfl
                              try simp only [Act.put, List.setIfInBounds_toArray, List.set_cons_zero, List.set_cons_succ]
                              refine wpAnyT_take (i := 9) (oi := ({ dst := some 170, op := Go.Op.binOp Go.BinOp.add 3 (Go.Operand.tmp 168) (Go.Operand.tmp 169) 3, type := 3, pos := "law.go:175", after := #[{ on := 7, ground := Go.Ground.data }, { on := 8, ground := Go.Ground.data }], guard := none } : Oper)) (v := ?vR_9) rfl (by kernel_rfl) (by kernel_rfl) (by kernel_rfl) (by kernel_rfl) (fun _ _ _ h => h) (Or.inl ⟨by rfl, ?yR_9⟩) (HKR.out _ B3.out) ?rR_9
                              case yR_9 =>
                                intro V hV
                                try dsimp only at hV
                                go_simp
                                all_goals with_reducible rfl
                              try simp only [Act.put, List.setIfInBounds_toArray, List.set_cons_zero, List.set_cons_succ]
                              refine wpAnyT_take (i := 10) (oi := ({ dst := some 171, op := Go.Op.indexAddr 43 (Go.Operand.tmp 166) (Go.Operand.tmp 170), type := 0, pos := "law.go:175", after := #[{ on := 5, ground := Go.Ground.data }, { on := 9, ground := Go.Ground.data }], guard := none } : Oper)) (v := ?vR_10) rfl (by kernel_rfl) (by kernel_rfl) (by kernel_rfl) (by kernel_rfl) (fun _ _ _ h => h) (Or.inl ⟨by rfl, ?yR_10⟩) (HKR.out _ B3.out) ?rR_10
                              case yR_10 =>
                                intro V hV
                                try dsimp only at hV
                                go_simp
                                all_goals with_reducible rfl
                              try simp only [Act.put, List.setIfInBounds_toArray, List.set_cons_zero, List.set_cons_succ]
                              refine wpAnyT_take (i := 11) (oi := ({ dst := some 172, op := Go.Op.load 31 (Go.Operand.tmp 171), type := 31, pos := "law.go:175", after := #[{ on := 10, ground := Go.Ground.data }], guard := none } : Oper)) (v := ?vR_11) rfl (by kernel_rfl) (by kernel_rfl) (by kernel_rfl) (by kernel_rfl) (fun _ _ _ h => h) (Or.inl ⟨by rfl, ?yR_11⟩) (HKR.out _ B3.out) ?rR_11
                              case yR_11 =>
                                intro V hV
                                try dsimp only at hV
                                go_simp
                                all_goals with_reducible rfl
                              try simp only [Act.put, List.setIfInBounds_toArray, List.set_cons_zero, List.set_cons_succ]
                              refine wpAnyT_take (i := 13) (oi := ({ dst := some 174, op := Go.Op.move (Go.Operand.tmp 16), type := 9, pos := "law.go:175", after := #[], guard := none } : Oper)) (v := ?vR_13) rfl (by kernel_rfl) (by kernel_rfl) (by kernel_rfl) (by kernel_rfl) (fun _ _ _ h => h) (Or.inl ⟨by rfl, ?yR_13⟩) (HKR.out _ B3.out) ?rR_13
                              case yR_13 =>
                                intro V hV
                                try dsimp only at hV
                                go_simp
                                all_goals with_reducible rfl
                              try simp only [Act.put, List.setIfInBounds_toArray, List.set_cons_zero, List.set_cons_succ]
                              refine wpAnyT_two (i := 12) (j := 14) (o := ({ dst := some 173, op := Go.Op.call { callee := Go.Callee.builtin Go.Builtin.append, args := #[Go.Operand.const (Go.Value.slice none 0 0), Go.Operand.tmp 172], argTypes := #[31, 31] }, type := 31, pos := "law.go:175", after := #[{ on := 11, ground := Go.Ground.data }], guard := none } : Oper)) (p := ({ dst := some 175, op := Go.Op.buildSlice 31 1 #[(0, Go.Operand.tmp 174)], type := 31, pos := "law.go:175", after := #[{ on := 13, ground := Go.Ground.data }], guard := none } : Oper)) (by kernel_rfl) rfl rfl (fun K1 hK1 => ?bAR) (fun K1 hK1 => ?bBR)
                              case bAR =>
                                refine step_append_lies _ (by rfl) _ _ _ (by rfl) 0 9 i0 _ 1 16 Try.underlying31 hi0 hz0 hz1 hz2 (by rfl) (by omega) (.slice none 0 0) 0 [] (by rfl) (World.ownsRow_nil _ _ _ _) ⟨gr2, o2, none⟩ L2 cp2 (strCells R2) (by rfl) (by rw [strCells_length, HLr2.out, Nat.mul_one]) (HCS2.out _ B3.out) (strCells_one _) (by omega) (by unfold maxLen; omega) (by omega) (Nat.zero_le _) _ (by rfl) ?_
                                intro ga capa wa howna hgrowa hata hlta
                                have HBA := Lib.hid (B3.out.grown hgrowa B3.out.size (fun k e => by cases e))
                                rw [Nat.zero_add, List.nil_append] at howna
                                have hga : w6.heap.size ≤ ga := (by rcases hata with e | e; cases e; (rw [e]; exact B3.out.size))
                                have HOWNA := Lib.hid howna
                                clear howna hata hlta
                                refine hK1 _ _ (fun _ => HKR.out _ HBA.out) ?_
                                try simp only [Act.put, List.setIfInBounds_toArray, List.set_cons_zero, List.set_cons_succ]
                                refine wpAnyT_one (i := 14) (o := ({ dst := some 175, op := Go.Op.buildSlice 31 1 #[(0, Go.Operand.tmp 174)], type := 31, pos := "law.go:175", after := #[{ on := 13, ground := Go.Ground.data }], guard := none } : Oper)) (by kernel_rfl) rfl (fun K2 hK2 => ?_)
                                go_simp
                                refine hK2 _ _ (fun _ => HKR.out _ (HBA.out.alloc HBA.out.size _)) ?_
                                try simp only [Act.put, List.setIfInBounds_toArray, List.set_cons_zero, List.set_cons_succ]
                                refine wpAnyT_one (i := 15) (o := ({ dst := some 176, op := Go.Op.call { callee := Go.Callee.builtin Go.Builtin.append, args := #[Go.Operand.tmp 173, Go.Operand.tmp 175], argTypes := #[31, 31] }, type := 31, pos := "law.go:175", after := #[{ on := 12, ground := Go.Ground.data }, { on := 14, ground := Go.Ground.data }, { on := 12, ground := Go.Ground.chain }], guard := none } : Oper)) (by kernel_rfl) rfl (fun K3 hK3 => ?_)
                                refine step_append_lies _ (by rfl) _ _ _ (by rfl) 0 9 i0 _ 1 16 Try.underlying31 hi0 hz0 hz1 hz2 (by rfl) (by omega) (.slice (some ⟨ga, 0, none⟩) L2 capa) L2 (strCells R2) (by rfl) (HOWNA.out.alloc _) ⟨wa.heap.size, 0, none⟩ 1 1 [.string (bs X)] (by rfl) (by rfl) (World.news_of_block (cs := #[.string (bs X)]) (t := 9) (fr := (0, 0)) (heap_alloc_new wa _)) (str_one _) (by omega) (by unfold maxLen; omega) (by omega) (Nat.zero_le _) _ (by rfl) ?_
                                intro gb capb wb2 hownb hgrowb hatb hltb
                                have HBB := Lib.hid ((HBA.out.alloc HBA.out.size _).grown hgrowb (HBA.out.alloc HBA.out.size _).size (fun k e => by have e' : some ga = some k := e; have := Option.some.inj e'; omega))
                                have HOWNB := Lib.hid hownb
                                clear hownb hgrowb hatb hltb
                                have cb := (HBB.out.cell (p := ⟨g1 + 1, at_ + i, none⟩) hg2).trans c2
                                have fb := (HBB.out.frozen (p := ⟨g1 + 1, at_ + i, none⟩) hg2).trans f2
                                refine hK3 _ _ (fun _ => HKR.out _ HBB.out) ?_
                                try simp only [Act.put, List.setIfInBounds_toArray, List.set_cons_zero, List.set_cons_succ]
                                refine wpAnyT_take (i := 16) (oi := ({ dst := some 177, op := Go.Op.indexAddr 43 (Go.Operand.tmp 161) (Go.Operand.tmp 165), type := 0, pos := "law.go:175", after := #[{ on := 0, ground := Go.Ground.data }, { on := 4, ground := Go.Ground.data }, { on := 0, ground := Go.Ground.phase }, { on := 1, ground := Go.Ground.phase }, { on := 2, ground := Go.Ground.phase }, { on := 3, ground := Go.Ground.phase }, { on := 4, ground := Go.Ground.phase }, { on := 5, ground := Go.Ground.phase }, { on := 6, ground := Go.Ground.phase }, { on := 7, ground := Go.Ground.phase }, { on := 8, ground := Go.Ground.phase }, { on := 9, ground := Go.Ground.phase }, { on := 10, ground := Go.Ground.phase }, { on := 11, ground := Go.Ground.phase }, { on := 12, ground := Go.Ground.phase }, { on := 13, ground := Go.Ground.phase }, { on := 14, ground := Go.Ground.phase }, { on := 15, ground := Go.Ground.phase }], guard := none } : Oper)) (v := ?vR_a) rfl (by kernel_rfl) (by kernel_rfl) (by kernel_rfl) (by kernel_rfl) (fun _ _ _ h => h) (Or.inl ⟨by rfl, ?yR_a⟩) (HKR.out _ HBB.out) ?rR_a
                                case yR_a =>
                                  intro V hV
                                  try dsimp only at hV
                                  go_simp
                                  all_goals with_reducible rfl
                                try simp only [Act.put, List.setIfInBounds_toArray, List.set_cons_zero, List.set_cons_succ]
                                refine wpAnyT_one (i := 17) (o := ({ dst := none, op := Go.Op.store 31 (Go.Operand.tmp 177) (Go.Operand.tmp 176), type := 0, pos := "law.go:175", after := #[{ on := 16, ground := Go.Ground.data }, { on := 15, ground := Go.Ground.data }, { on := 15, ground := Go.Ground.chain }, { on := 0, ground := Go.Ground.phase }, { on := 1, ground := Go.Ground.phase }, { on := 2, ground := Go.Ground.phase }, { on := 3, ground := Go.Ground.phase }, { on := 4, ground := Go.Ground.phase }, { on := 5, ground := Go.Ground.phase }, { on := 6, ground := Go.Ground.phase }, { on := 7, ground := Go.Ground.phase }, { on := 8, ground := Go.Ground.phase }, { on := 9, ground := Go.Ground.phase }, { on := 10, ground := Go.Ground.phase }, { on := 11, ground := Go.Ground.phase }, { on := 12, ground := Go.Ground.phase }, { on := 13, ground := Go.Ground.phase }, { on := 14, ground := Go.Ground.phase }, { on := 15, ground := Go.Ground.phase }], guard := none } : Oper)) (by kernel_rfl) rfl (fun K4 hK4 => ?_)
                                go_simp
                                refine hK4 _ _ (fun h => absurd rfl h) ?_
                                clear hK1 hK2 hK3 hK4 K1 K2 K3 K4
                                refine wpAnyT_done (by kernel_rfl) ?_ _
                                have hrb : RowAt wb2 (.slice (some ⟨gb, 0, none⟩) (L2 + 1) capb) (R2 ++ [X]) := RowAt.of_owns (base := 0) (by rw [strCells_snoc]; exact HOWNB.out) (by simp) (by rw [List.length_append, List.length_singleton, HLr2.out])
                                have hst := (HK6.out.step HBB.out).setK (at_ + i) (by have := HT2.out.nk; omega) hrb
                                have hgx : wo.heap.size ≠ g1 + 1 := BlkOf.ne ⟨_, _, HBX6.out⟩ HK6.out.kept.blk (by decide)
                                have hbx := ((upd_set wb2 (g1 + 1) (at_ + i) (.slice (some ⟨gb, 0, none⟩) (L2 + 1) capb)).block wo.heap.size (Nat.lt_of_lt_of_le hxl2 HBB.out.size) (fun e => hgx e)).trans ((HBB.out.block wo.heap.size hxl2).trans HBX6.out)
                                have HST := Lib.hid hst
                                have HBX7 := Lib.hid hbx
                                clear hst hbx hrb
                                go_wp2_with fail
                                go_roundw
                                case rel => exact ⟨i + 1, _, _, by omega, by go_num, HST.out, HTT.out, HBX7.out⟩
                                case measure => simp [intOf]; omega
                              case bBR =>
                                go_simp
                                refine hK1 _ _ (fun _ => HKR.out _ B4.out) ?_
                                try simp only [Act.put, List.setIfInBounds_toArray, List.set_cons_zero, List.set_cons_succ]
                                refine wpAnyT_one (i := 12) (o := ({ dst := some 173, op := Go.Op.call { callee := Go.Callee.builtin Go.Builtin.append, args := #[Go.Operand.const (Go.Value.slice none 0 0), Go.Operand.tmp 172], argTypes := #[31, 31] }, type := 31, pos := "law.go:175", after := #[{ on := 11, ground := Go.Ground.data }], guard := none } : Oper)) (by kernel_rfl) rfl (fun K2 hK2 => ?_)
                                refine step_append_lies _ (by rfl) _ _ _ (by rfl) 0 9 i0 _ 1 16 Try.underlying31 hi0 hz0 hz1 hz2 (by rfl) (by omega) (.slice none 0 0) 0 [] (by rfl) (World.ownsRow_nil _ _ _ _) ⟨gr2, o2, none⟩ L2 cp2 (strCells R2) (by rfl) (by rw [strCells_length, HLr2.out, Nat.mul_one]) (HCS2.out _ B4.out) (strCells_one _) (by omega) (by unfold maxLen; omega) (by omega) (Nat.zero_le _) _ (by rfl) ?_
                                intro ga capa wa howna hgrowa hata hlta
                                have HBA := Lib.hid (B4.out.grown hgrowa B4.out.size (fun k e => by cases e))
                                rw [Nat.zero_add, List.nil_append] at howna
                                have hga : w6.heap.size ≤ ga := (by rcases hata with e | e; cases e; (rw [e]; exact B4.out.size))
                                have HOWNA := Lib.hid howna
                                clear howna hata hlta
                                refine hK2 _ _ (fun _ => HKR.out _ HBA.out) ?_
                                try simp only [Act.put, List.setIfInBounds_toArray, List.set_cons_zero, List.set_cons_succ]
                                simp only [Nat.zero_add]
                                refine wpAnyT_one (i := 15) (o := ({ dst := some 176, op := Go.Op.call { callee := Go.Callee.builtin Go.Builtin.append, args := #[Go.Operand.tmp 173, Go.Operand.tmp 175], argTypes := #[31, 31] }, type := 31, pos := "law.go:175", after := #[{ on := 12, ground := Go.Ground.data }, { on := 14, ground := Go.Ground.data }, { on := 12, ground := Go.Ground.chain }], guard := none } : Oper)) (by kernel_rfl) rfl (fun K3 hK3 => ?_)
                                refine step_append_lies _ (by rfl) _ _ _ (by rfl) 0 9 i0 _ 1 16 Try.underlying31 hi0 hz0 hz1 hz2 (by rfl) (by omega) (.slice (some ⟨ga, 0, none⟩) L2 capa) L2 (strCells R2) (by rfl) HOWNA.out ⟨w6.heap.size, 0, none⟩ 1 1 [.string (bs X)] (by rfl) (by rfl) (World.news_of_block (cs := #[.string (bs X)]) (t := 9) (fr := (0, 0)) ((hgrowa.block w6.heap.size (by show w6.heap.size < (w6.alloc _).heap.size; rw [World.size_alloc]; omega) (by simp [Value.ownBlock])).trans (heap_alloc_new w6 _))) (str_one _) (by omega) (by unfold maxLen; omega) (by omega) (Nat.zero_le _) _ (by rfl) ?_
                                intro gb capb wb2 hownb hgrowb hatb hltb
                                have HBB := Lib.hid (HBA.out.grown hgrowb HBA.out.size (fun k e => by have e' : some ga = some k := e; have := Option.some.inj e'; omega))
                                have HOWNB := Lib.hid hownb
                                clear hownb hgrowb hatb hltb
                                have cb := (HBB.out.cell (p := ⟨g1 + 1, at_ + i, none⟩) hg2).trans c2
                                have fb := (HBB.out.frozen (p := ⟨g1 + 1, at_ + i, none⟩) hg2).trans f2
                                refine hK3 _ _ (fun _ => HKR.out _ HBB.out) ?_
                                try simp only [Act.put, List.setIfInBounds_toArray, List.set_cons_zero, List.set_cons_succ]
                                refine wpAnyT_take (i := 16) (oi := ({ dst := some 177, op := Go.Op.indexAddr 43 (Go.Operand.tmp 161) (Go.Operand.tmp 165), type := 0, pos := "law.go:175", after := #[{ on := 0, ground := Go.Ground.data }, { on := 4, ground := Go.Ground.data }, { on := 0, ground := Go.Ground.phase }, { on := 1, ground := Go.Ground.phase }, { on := 2, ground := Go.Ground.phase }, { on := 3, ground := Go.Ground.phase }, { on := 4, ground := Go.Ground.phase }, { on := 5, ground := Go.Ground.phase }, { on := 6, ground := Go.Ground.phase }, { on := 7, ground := Go.Ground.phase }, { on := 8, ground := Go.Ground.phase }, { on := 9, ground := Go.Ground.phase }, { on := 10, ground := Go.Ground.phase }, { on := 11, ground := Go.Ground.phase }, { on := 12, ground := Go.Ground.phase }, { on := 13, ground := Go.Ground.phase }, { on := 14, ground := Go.Ground.phase }, { on := 15, ground := Go.Ground.phase }], guard := none } : Oper)) (v := ?vR_b) rfl (by kernel_rfl) (by kernel_rfl) (by kernel_rfl) (by kernel_rfl) (fun _ _ _ h => h) (Or.inl ⟨by rfl, ?yR_b⟩) (HKR.out _ HBB.out) ?rR_b
                                case yR_b =>
                                  intro V hV
                                  try dsimp only at hV
                                  go_simp
                                  all_goals with_reducible rfl
                                try simp only [Act.put, List.setIfInBounds_toArray, List.set_cons_zero, List.set_cons_succ]
                                refine wpAnyT_one (i := 17) (o := ({ dst := none, op := Go.Op.store 31 (Go.Operand.tmp 177) (Go.Operand.tmp 176), type := 0, pos := "law.go:175", after := #[{ on := 16, ground := Go.Ground.data }, { on := 15, ground := Go.Ground.data }, { on := 15, ground := Go.Ground.chain }, { on := 0, ground := Go.Ground.phase }, { on := 1, ground := Go.Ground.phase }, { on := 2, ground := Go.Ground.phase }, { on := 3, ground := Go.Ground.phase }, { on := 4, ground := Go.Ground.phase }, { on := 5, ground := Go.Ground.phase }, { on := 6, ground := Go.Ground.phase }, { on := 7, ground := Go.Ground.phase }, { on := 8, ground := Go.Ground.phase }, { on := 9, ground := Go.Ground.phase }, { on := 10, ground := Go.Ground.phase }, { on := 11, ground := Go.Ground.phase }, { on := 12, ground := Go.Ground.phase }, { on := 13, ground := Go.Ground.phase }, { on := 14, ground := Go.Ground.phase }, { on := 15, ground := Go.Ground.phase }], guard := none } : Oper)) (by kernel_rfl) rfl (fun K4 hK4 => ?_)
                                go_simp
                                refine hK4 _ _ (fun h => absurd rfl h) ?_
                                clear hK1 hK2 hK3 hK4 K1 K2 K3 K4
                                refine wpAnyT_done (by kernel_rfl) ?_ _
                                have hrb : RowAt wb2 (.slice (some ⟨gb, 0, none⟩) (L2 + 1) capb) (R2 ++ [X]) := RowAt.of_owns (base := 0) (by rw [strCells_snoc]; exact HOWNB.out) (by simp) (by rw [List.length_append, List.length_singleton, HLr2.out])
                                have hst := (HK6.out.step HBB.out).setK (at_ + i) (by have := HT2.out.nk; omega) hrb
                                have hgx : wo.heap.size ≠ g1 + 1 := BlkOf.ne ⟨_, _, HBX6.out⟩ HK6.out.kept.blk (by decide)
                                have hbx := ((upd_set wb2 (g1 + 1) (at_ + i) (.slice (some ⟨gb, 0, none⟩) (L2 + 1) capb)).block wo.heap.size (Nat.lt_of_lt_of_le hxl2 HBB.out.size) (fun e => hgx e)).trans ((HBB.out.block wo.heap.size hxl2).trans HBX6.out)
                                have HST := Lib.hid hst
                                have HBX7 := Lib.hid hbx
                                clear hst hbx hrb
                                go_wp2_with fail
                                go_roundw
                                case rel => exact ⟨i + 1, _, _, by omega, by go_num, HST.out, HTT.out, HBX7.out⟩
                                case measure => simp [intOf]; omega
                  · obtain rfl : i = m := by omega
                    go_wp2_with fail
                    refine HLMM.out.mono ?_
                    rintro e w4 ⟨rfl, rfl⟩
                    go_wp2_with fail
                    go_roundw
                    case rel =>
                      have h := HT2.out
                      rw [List.take_of_length_le (by rw [Dsk.chunks_length]; omega), ← HW1.out, ← HW2.out] at h
                      exact ⟨j + 1, D', fpb, A', K', by omega, by go_num, HQ.out, h, by rw [HW3.out]; exact HDN.out, by rw [HLEN2.out]; have := HDL.out; omega⟩
                    case measure => simp [intOf]; omega
            · have b0 : (q0 == 0) = false := by simp [hw0]
              clear hw0
              by_cases hw2 : q0 = 2
              · have b2 : (q0 == 2) = true := by simp [hw2]
                clear hw2
                go_wp2_with fail
                refine (loose_my HS1.out.my).mono ?_
                rintro e w3 ⟨rfl, rfl⟩
                go_wp2_with fail
                refine (flush_any HS1.out.my.disk (by omega)).mono ?_
                by_cases hdn : D.down = true
                · have hfl : D.flush = (D, 40) := by unfold Dsk.flush; rw [if_pos hdn]
                  rw [hfl]
                  rintro e w3 ⟨rfl, fp2, g1', g2', g3'⟩
                  have HS2 := Lib.hid (HS1.out.turn g1' g2' g3')
                  clear g1' g2' g3' hfl hdn
                  go_wp2_with fail
                  go_roundw
                  case rel => exact ⟨j + 1, D, fp2, A, K, by omega, by go_num, HS2.out, HT.out, HDN.out, by have := HDL.out; omega⟩
                  case measure => simp [intOf]; omega
                · as_aux_lemma =>
                    have hfl : D.flush = ({ D with base := Dsk.lay D.base D.loose, loose := [] }, 0) := by unfold Dsk.flush; rw [if_neg hdn]
                    rw [hfl]
                    rintro e w3 ⟨rfl, fp2, g1', g2', g3'⟩
                    have HS2 := Lib.hid (HS1.out.turn g1' g2' g3')
                    clear g1' g2' g3' hfl hdn
                    go_wp2_with fail
                    go_loopw [17] (fun v wr => ∃ i : Nat, i ≤ k ∧ v = .int .i64 i ∧ KSt W.heap.size W wr b { D with base := Dsk.lay D.base D.loose, loose := [] } fp2 g1 (g1 + 1) k (mixed A A i) (mixed A K i)) (fun v _ => k - (intOf v).toNat)
                    case atStart => exact ⟨0, by omega, rfl, by rw [mixed_zero, mixed_zero]; exact HS2.out⟩
                    case round =>
                      clear HS2 HS1 HS HBX
                      obtain ⟨i, hi, rfl, hq⟩ := hrel
                      have HQ := Lib.hid hq
                      clear hq
                      by_cases hik : i < k
                      · have hna := HT.out.na
                        have hnk := HT.out.nk
                        have hlA : (mixed A A i).length = A.length := mixed_length rfl (by omega)
                        have hlK : (mixed A K i).length = A.length := mixed_length (by omega) (by omega)
                        obtain ⟨v, c1, hv⟩ := HQ.out.all.cell i (by omega)
                        rw [mixed_get (by omega)] at hv
                        obtain ⟨gr, o, L, cp, rfl, hL, hL1, hL2, hL3, _, _, _⟩ := hv.opened
                        have hL9 : L ≤ 60000 := by have := HT.out.la i (by omega); omega
                        have hone : L - (L - 1) = 1 := by omega
                        have htail : RowAt wr (.slice (some ⟨gr, o + (L - 1), none⟩) (L - (L - 1)) (cp - (L - 1))) [A[i].getLastD []] := by rw [hone]; exact hv.tail
                        have f1 := HQ.out.all.free i
                        obtain ⟨o2, c2⟩ := HQ.out.kept.there i (by omega)
                        have f2 := HQ.out.kept.free i
                        have hne : g1 ≠ g1 + 1 := by omega
                        have hs1 := HQ.out.setA i (by omega) htail
                        have hs2 := hs1.setK i (by omega) (htail.upd (upd_set _ g1 i (.slice (some ⟨gr, o + (L - 1), none⟩) (L - (L - 1)) (cp - (L - 1)))) (fun _ hk e => (hk.ne HQ.out.all.blk str_rows_ne) e))
                        have e1 := mixed_set (X := A) rfl (i := i) (by omega)
                        have e2 := mixed_set (X := K) (A := A) (by omega) (i := i) (by omega)
                        rw [e1, e2] at hs2
                        have HS3 := Lib.hid (hs2.step ((Below.refl _ _).drew))
                        have c3 : (wr.setCell ⟨g1, i, none⟩ (.slice (some ⟨gr, o + (L - 1), none⟩) (L - (L - 1)) (cp - (L - 1)))).cell? ⟨g1 + 1, i, none⟩ = some o2 := far_cell c2 hne
                        have hi1 := rows_index g1 k i hik
                        have hi2 := rows_index (g1 + 1) k i hik
                        clear hv htail hs1 hs2 e1 e2 c2 hL hone
                        go_wp2_with fail
                        go_region
                        go_wp2_with fail
                        go_roundw
                        case rel => exact ⟨i + 1, by omega, by go_num, HS3.out⟩
                        case measure => simp [intOf]; omega
                      · obtain rfl : i = k := by omega
                        have hna := HT.out.na
                        have hnk := HT.out.nk
                        have e1 := mixed_full (A := A) (X := A) rfl
                        have e2 := mixed_full (A := A) (X := K) (by omega)
                        have HE1 := Lib.hid e1; have HE2 := Lib.hid e2; have HNA := Lib.hid hna
                        clear e1 e2 hna hnk
                        go_wp2_with fail
                        go_roundw
                        case rel =>
                          refine ⟨j + 1, { D with base := Dsk.lay D.base D.loose, loose := [] }, fp2, flushed A, flushed A, by omega, by go_num, ?_, HT.out.flush, HDN.out, by simp⟩
                          have h := HQ.out
                          rw [← HNA.out] at h
                          rw [HE1.out, HE2.out] at h
                          rw [← HNA.out]
                          exact h
                        case measure => simp [intOf]; omega
              · have b2 : (q0 == 2) = false := by simp [hw2]
                clear hw2
                by_cases hw3 : q0 = 3
                · have b3 : (q0 == 3) = true := by simp [hw3]
                  clear hw3
                  go_wp2_with fail
                  refine (loose_my HS1.out.my).mono ?_
                  rintro e w3 ⟨rfl, rfl⟩
                  go_wp2_with fail
                  refine (fuse_any HS1.out.my.disk q2 o2'.2).mono ?_
                  rintro e w3 ⟨rfl, g1', g2'⟩
                  have HS2 := Lib.hid (HS1.out.turn g1' g2' (fun _ h => .inl h))
                  clear g1' g2'
                  go_wp2_with fail
                  go_roundw
                  case rel => exact ⟨j + 1, D.fuse q2, fp, A, K, by omega, by go_num, HS2.out, HT.out, HDN.out, by have := HDL.out; show D.loose.length ≤ _; omega⟩
                  case measure => simp [intOf]; omega
                · have b3 : (q0 == 3) = false := by simp [hw3]
                  clear hw3
                  go_wp2_with fail
                  refine (loose_my HS1.out.my).mono ?_
                  rintro e w3 ⟨rfl, rfl⟩
                  go_wp2_with fail
                  go_roundw
                  case rel => exact ⟨j + 1, D, fp, A, K, by omega, by go_num, HS1.out, HT.out, HDN.out, by have := HDL.out; omega⟩
                  case measure => simp [intOf]; omega
          · as_aux_lemma =>
              obtain rfl : j = l.length := by omega
              clear hS hT hDn
              have hD5 := HLO.out D l.length (by omega) hDl
              go_wp2_with fail
              refine (down_my HS.out.my).mono ?_
              rintro e w3 ⟨rfl, rfl⟩
              go_upto_if 217 with fail
              go_cut [] from 215 (fun wx => KSt W.heap.size W wx b D fp g1 (g1 + 1) k A K)
              case first =>
                cases hdn : D.down with
                | true =>
                  go_wp2_with fail
                  go_meet
                  case rel => exact HS.out
                | false =>
                  have HDW := Lib.hid hdn
                  go_wp2_with fail
                  clear hdn
                  simp only [Bool.not_false]
                  go_loopw [18] (fun v wr => ∃ i : Nat, i ≤ k ∧ v = .int .i64 i ∧ KSt W.heap.size W wr b D fp g1 (g1 + 1) k A K) (fun v _ => k - (intOf v).toNat)
                  case atStart => exact ⟨0, by omega, rfl, HS.out⟩
                  case round =>
                    clear HS
                    obtain ⟨i, hi, rfl, hq⟩ := hrel
                    have HQ := Lib.hid hq
                    clear hq
                    by_cases hik : i < k
                    · have hr1 := Dsk.read_one HDW.out (i := i) (by rw [HDN.out]; exact hik)
                      have HR1 := Lib.hid hr1
                      clear hr1
                      go_wp2_with fail
                      refine (read_my HQ.out.my i 1 (by omega) (by omega)).mono ?_
                      rw [HR1.out]
                      rintro e w4 ⟨rfl, hb⟩
                      have HQ4 := Lib.hid (HQ.out.step hb)
                      have hna := HT.out.na
                      obtain ⟨v, c1, hv⟩ := HQ4.out.all.cell i (by omega)
                      obtain ⟨gr, o, L, cp, rfl, hL, hL1, hL2, hL3, _, _, hlast⟩ := hv.opened
                      have hL9 : L ≤ 60001 := by have := HT.out.la i (by omega); omega
                      have hc5 := hlast _ (HT.out.all i (by omega))
                      have hi1 := rows_index g1 k i hik
                      have hi2 := row_index gr o L cp hL1
                      have hnow : Dsk.lay D.base D.loose i = D.now i := rfl
                      rw [hnow] at hc5
                      generalize D.now i = X at *
                      have hXX : (X == X) = true := by simp
                      clear hb hlast hv hL hnow
                      go_wp2_with fail
                      go_quiet (fail)
                      go_wp2_with fail
                      go_roundw
                      case rel => exact ⟨i + 1, by omega, by go_num, HQ4.out.step (below_drewN _ _)⟩
                      case measure => simp [intOf]; omega
                    · go_wp2_with fail
                      go_meet
                      case rel => exact HQ.out
              case rest =>
                obtain ⟨w4, rfl⟩ : ∃ w4 : World, w4 = wc := ⟨_, rfl⟩
                have HK4 := Lib.hid hcut
                clear hcut HS
                go_wp2_with fail
                refine (crash_any HK4.out.my.disk keep (by omega) (by omega)).mono ?_
                rintro e w5 ⟨rfl, fp5, g1', g2', g3'⟩
                have HK5 := Lib.hid (HK4.out.turn g1' g2' g3')
                clear g1' g2' g3'
                go_wp2_with fail
                go_loopw [21] (fun v wr => ∃ i : Nat, i ≤ k ∧ v = .int .i64 i ∧ KSt W.heap.size W wr b (D.crash keep) fp5 g1 (g1 + 1) k A K) (fun v _ => k - (intOf v).toNat)
                case atStart => exact ⟨0, by omega, rfl, HK5.out⟩
                case round =>
                  clear HK5 HK4
                  obtain ⟨i, hi, rfl, hq⟩ := hrel
                  have HQ := Lib.hid hq
                  clear hq
                  by_cases hik : i < k
                  · have hr1 := Dsk.read_one (D := D.crash keep) rfl (i := i) (by show i < D.n; rw [HDN.out]; exact hik)
                    have HR1 := Lib.hid hr1
                    clear hr1
                    go_wp2_with fail
                    refine (read_my HQ.out.my i 1 (by omega) (by omega)).mono ?_
                    rw [HR1.out]
                    rintro e w6 ⟨rfl, hb⟩
                    have HQ4 := Lib.hid (HQ.out.step hb)
                    have hnk := HT.out.nk
                    obtain ⟨v, c1, hv⟩ := HQ4.out.kept.cell i (by omega)
                    obtain ⟨gr, o, L, cp, rfl, hL, hL1, hL2, hL3, _, _, hlast⟩ := hv.opened
                    have hL9 : L ≤ 60001 := by have := HT.out.lk i (by omega); omega
                    have hc5 := hlast _ (HT.out.kept i (by omega))
                    have hi1 := rows_index (g1 + 1) k i hik
                    have hi2 := row_index gr o L cp hL1
                    have hnow : Dsk.lay D.base (Dsk.keptFrom keep 0 D.loose) i = (D.crash keep).now i := rfl
                    rw [hnow] at hc5
                    generalize (D.crash keep).now i = X at *
                    have hXX : (X == X) = true := by simp
                    clear hb hlast hv hL hnow
                    go_wp2_with fail
                    go_quiet (fail)
                    go_wp2_with fail
                    go_roundw
                    case rel => exact ⟨i + 1, by omega, by go_num, HQ4.out.step (below_drewN _ _)⟩
                    case measure => simp [intOf]; omega
                  · go_wp2_with fail
                    have hL0 : (D.crash keep).loose.length = 0 := rfl
                    have hdw : (D.crash keep).down = false := rfl
                    have HL0 := Lib.hid hL0
                    have HDW := Lib.hid hdw
                    clear hL0 hdw
                    refine (loose_my HQ.out.my).mono ?_
                    rw [HL0.out]
                    rintro e w7 ⟨rfl, rfl⟩
                    go_wp2_with fail
                    refine (down_my HQ.out.my).mono ?_
                    rw [HDW.out]
                    rintro e w7 ⟨rfl, rfl⟩
                    go_wp2_with fail
                    refine (alive4_any _).mono ?_
                    rintro e w8 ⟨rfl, hb⟩
                    have HB8 := Lib.hid (HQ.out.my.below.trans (hb.mono HQ.out.my.below.size))
                    clear hb
                    go_wp2_with fail
                    go_ret
                    exact ⟨rfl, HB8.out⟩
set_option maxRecDepth 100000 in
theorem diskKeeps_any {H : Type} {enc : TypeId × Value → H} {base : Nat} (W : World) (N : Int) (hN : (Lit.int .i64 N).wf = true) (v : Value) (d : DataW H) (p : List MemPlace)
    (ho : Value.okWide Try.prog W .any base 38 v) (h : DataW.Trod enc Try.prog W 0 (fun _ => true) true 38 v d p) (hz : ∀ n ∈ DataW.weights Try.prog 38 d, (decide (n ≤ reachBytes)) = true) (s : List UInt8) (hs : s.length ≤ reachBytes) :
    Calls Try.prog 6 #[.int .i64 N, v, .string (bs s)] W fun e w' => e = .returned (.bool true) ∧ Below W.heap.size W w' := by
  obtain ⟨a, cap, l, rfl, h1, h2, h3⟩ := steps_of_trod ho h hz
  exact diskKeeps_walk W N hN a cap l h1 h2 h3 s hs
end Go.Proofs.Ythbdflmckfgleaa
