/- ManCrashW ManCrashWalk -/
import Derived.Test.YtoaihngckcbhiaaGreatDoorPkFilDown
import Derived.Deep.CutRange
import Derived.Deep.CutBlock
section
namespace Go.Proofs.YtoaihngckcbhiaaGreatDoor.Man
open Go.RowKit Go.Maps Wal Fil
set_option maxRecDepth 100000 in
set_option maxHeartbeats 8000000 in
theorem manCrashW_any (w : World) (n0 : Int) {a : Option Addr} {cap : Nat} {l : List Stp} (hl : StpsIn w a l) (hlen : l.length ≤ maxLen) (hok : ∀ x ∈ l, x.okay) :
    Calls Tryz.prog 3 #[.int .i64 n0, .slice a l.length cap] w fun e w' => e = .returned (.bool true) ∧ Below w.heap.size w w' := by
  by_cases h40 : 40 < l.length
  · have HH := Lib.hid (heavyMany_any n0 a cap l w hl h40 hlen)
    clear hl hok
    go_enter Tryz.func3, Tryz.ntmps3
    go_wp2_with fail
    refine HH.out.mono ?_
    rintro e w1 ⟨rfl, hb1⟩
    go_wp2_with fail
    refine (alive32_any _).mono ?_
    rintro e wz ⟨rfl, hbz⟩
    go_wp2_with fail
    go_ret
    exact ⟨rfl, hb1.trans (hbz.mono hb1.size)⟩
  have HH := Lib.hid (heavy32_any n0 a cap l w hl (by omega) (fun x hx => (hok x hx).2.2.2))
  have HL0 := Lib.hid hl
  have HOK := Lib.hid hok
  clear hl hok
  go_enter Tryz.func3, Tryz.ntmps3
  go_wp2_with fail
  refine HH.out.mono ?_
  clear HH
  rintro e w1 ⟨hv1, rfl, hb1, hlight⟩
  cases hv1 with
  | true =>
    go_wp2_with fail
    refine (alive32_any _).mono ?_
    rintro e wz ⟨rfl, hbz⟩
    go_wp2_with fail
    go_ret
    exact ⟨rfl, hb1.trans (hbz.mono hb1.size)⟩
  | false =>
    obtain ⟨hli, hn8, hn200⟩ := hlight rfl
    have HLI := Lib.hid hli
    have HL := Lib.hid (HL0.out.below hb1)
    have HB1 := Lib.hid hb1
    clear hlight hli hb1 HL0
    obtain ⟨n, rfl⟩ := Int.eq_ofNat_of_zero_le (show 0 ≤ n0 by omega)
    go_wp2_with fail
    refine (made32_any n (by omega) (by omega) _).mono ?_
    rintro e w2 ⟨b0, yy0, rfl, h2⟩
    go_wp2_with fail
    refine (rnew6_any n (by omega) (by omega) _).mono ?_
    rintro e w3 ⟨rr0, rfl, hr3, hlow3, hb3⟩
    have HST0 := Lib.hid (st_made h2 hr3 hlow3 hb3)
    clear h2 hr3 hlow3 hb3
    obtain ⟨base, hbase⟩ : ∃ base, base = w1.heap.size := ⟨_, rfl⟩
    rw [← hbase] at HST0
    have HAT0 := Lib.hid hbase.symm
    clear hbase
    go_wp2_with fail
    go_loopw [5, 6, 7, 8, 9] (fun fv sv nxv lv i wr => ∃ (k : Nat) (dn : Bool) (b y N : Nat) (A A' : M) (p u p' u' : Mf) (r : Nat) (rv : Value) (nx : Nat) (nv : Value) (la : Nat), k ≤ l.length ∧ k ≤ 40 ∧ N ≤ 2 * k ∧ fv = .pointer (some ⟨y, 0, none⟩) ∧ sv = .pointer (some ⟨r, 0, none⟩) ∧ nxv = .pointer (some ⟨nx, 0, none⟩) ∧ lv = .int .u64 (la : Int) ∧ i = .int .i64 k ∧ St32 base w1 wr dn b y n N A A' p u p' u' r rv nx nv la) (fun _ _ _ _ i _ => l.length - (intOf i).toNat)
    case atStart => exact ⟨0, false, b0, yy0, 0, [], [], none, none, none, none, rr0, _, rr0, _, 0, by omega, by omega, by omega, rfl, rfl, rfl, rfl, rfl, HST0.out⟩
    case round =>
      clear HST0
      obtain ⟨k, dn, b, y, N, A, A', p, u, p', u', r, rv, nx, nv, la, hk, hk40, hN, rfl, rfl, rfl, rfl, rfl, hst⟩ := hrel
      have HST := Lib.hid hst
      by_cases hlt : k < l.length
      · have hin := hst.bel
        have hinB : Below w1.heap.size w1 wr := by rw [HAT0.out]; exact hin
        obtain ⟨q, hidx, hat⟩ := HL.out.index cap k hlt
        have hokx := HOK.out l[k] (List.getElem_mem hlt)
        have hsm := HLI.out.sum (List.getElem_mem hlt)
        clear hin hst
        generalize l[k] = x at *
        obtain ⟨xw, xn, xvi, xj, xo, xt, xx⟩ := x
        obtain ⟨hw, hn, ⟨xv, hxv, hv64⟩, hfine⟩ := hokx
        have hxv : xvi = (xv : Int) := hxv
        subst hxv
        obtain ⟨ht11, ho20, hx16, hj16, hts, hsum⟩ := hsm
        have ht11 : xt.length ≤ 1100 := ht11
        have ho20 : xo.length ≤ 20 := ho20
        have hx16 : xx.length ≤ 16384 := hx16
        have hj16 : xj.length ≤ 16384 := hj16
        obtain ⟨d0, d1, d2, d3, ⟨ov, d4, ⟨⟨oa, oc, rfl, hotx, hoz⟩, _, hos⟩⟩, ⟨tv, d5, ⟨⟨ta, tc, rfl, htty, htz⟩, _, _⟩⟩, d6⟩ := hat.cells
        have HOT := Lib.hid hotx; have HTT := Lib.hid htty; have HOZ := Lib.hid hoz; have HTZ := Lib.hid htz; have HTS := Lib.hid hts; have HOS := Lib.hid hos; have HSUM := Lib.hid hsum
        have hni := i64_of hn
        have c0 := (hinB.cell (block_lt_of_cell d0)).trans d0
        have c1 := (hinB.cell (block_lt_of_cell d1)).trans d1
        have c2 := (hinB.cell (block_lt_of_cell d2)).trans d2
        have c3 := (hinB.cell (block_lt_of_cell d3)).trans d3
        have c4 := (hinB.cell (block_lt_of_cell d4)).trans d4
        have c5 := (hinB.cell (block_lt_of_cell d5)).trans d5
        have c6 := (hinB.cell (block_lt_of_cell d6)).trans d6
        dsimp only at c0 c1 c2 c3 c4 c5 c6
        clear hat hotx htty hoz htz hts hos hsum hinB hw hn hfine d0 d1 d2 d3 d4 d5 d6
        obtain ⟨wo, rfl⟩ : ∃ wo : World, wo = wr := ⟨_, rfl⟩
        have hb4 : Below wo.heap.size wo (wo.alloc (.cells #[.int .i64 xw, .int .i64 xn, .int .u64 (xv : Int), .string (bs xj), .slice oa xo.length oc, .slice ta xt.length tc, .string (bs xx)] 34)) := (Below.refl _ _).alloc (Nat.le_refl _) _
        have HSB := Lib.hid (heap_alloc_new wo (.cells #[.int .i64 xw, .int .i64 xn, .int .u64 (xv : Int), .string (bs xj), .slice oa xo.length oc, .slice ta xt.length tc, .string (bs xx)] 34))
        have HS := Lib.hid (HST.out.step hb4)
        clear hb4 HST
        go_upto_block 2 with fail
        obtain ⟨sb, hsb⟩ : ∃ sb, sb = wo.heap.size := ⟨_, rfl⟩
        rw [← hsb] at HSB
        generalize wo.alloc (.cells #[.int .i64 xw, .int .i64 xn, .int .u64 (xv : Int), .string (bs xj), .slice oa xo.length oc, .slice ta xt.length tc, .string (bs xx)] 34) = wi at *
        rw [← hsb]
        clear hsb
        obtain ⟨s0, s1, s2, s3, s4, s5, s6⟩ := row7 HSB.out
        by_cases h6 : xw = 6
        · subst h6
          clear s0 s2 s3 s4 s5 s6
          go_wp2_with fail
          go_region_held3 (fun V => V.cell? ⟨sb, 1, none⟩ = some (.int .i64 xn)) (go_keep)
            (first
              | (go_at_call 8; refine (st_disk (HS.out.step (Below.refl _ wi).drew)).mono ?_; rintro e w3 ⟨rfl, rfl⟩)
              | (go_at_call 9; refine (st_fuse (HS.out.step (Below.refl _ wi).drew) _ (by omega)).mono ?_; rintro e w4 ⟨rfl, h4, hrow4⟩; have HT := Lib.hid h4; obtain ⟨_, s1, _, _, _, _, _⟩ := row7 (hrow4 (show wi.drew.heap[sb]? = _ from HSB.out) (by decide)); clear h4 hrow4))
          all_goals
            clear s1
            go_wp2_with fail
            cases p with
            | none =>
              refine (st_none HT.out).mono ?_
              rintro e w8 ⟨⟨q8, c8, rfl⟩, hb8⟩
              have H8 := Lib.hid ((HT.out.step hb8).step (below_alloc w8 (.cells #[.int .u64 0, .string (bs []), .slice q8 0 c8] 32)))
              clear hb8
              go_wp2_with fail
              go_roundw
              case rel => exact ⟨k + 1, dn, b, y, N, A, A', none, u, p', u', r, rv, nx, nv, la, by omega, by omega, by omega, rfl, rfl, rfl, rfl, by go_num, H8.out⟩
              case measure => simp [intOf]; omega
            | some x8 =>
              obtain ⟨v8, j8, o8⟩ := x8
              refine (st_some HT.out).mono ?_
              rintro e w8 ⟨⟨q8, c8, rfl⟩, hb8⟩
              have H8 := Lib.hid ((HT.out.step hb8).step (below_alloc w8 (.cells #[.int .u64 (v8 : Int), .string (bs j8), .slice q8 o8.length c8] 32)))
              have hm8 := heap_alloc_new w8 (.cells #[.int .u64 (v8 : Int), .string (bs j8), .slice q8 o8.length c8] 32)
              obtain ⟨z0, z1, z2, _⟩ := row3 hm8
              clear hb8 hm8
              go_wp2_with fail
              cases dn with
              | false =>
                refine (st_up H8.out).mono ?_
                rintro e w9 ⟨rfl, rfl⟩
                have hge8 := H8.out.ge
                go_wp2_with fail
                go_roundw
                case rel => exact ⟨k + 1, false, b, y, N, A, A', (some (v8, j8, o8)), u, p', u', r, rv, nx, nv, v8, by omega, by omega, by omega, rfl, rfl, rfl, rfl, by go_num, H8.out.seen⟩
                case measure => simp [intOf]; omega
              | true =>
                refine (st_dn H8.out).mono ?_
                rintro e w9 ⟨rfl, rfl⟩
                go_wp2_with fail
                go_roundw
                case rel => exact ⟨k + 1, true, b, y, N, A, A', (some (v8, j8, o8)), u, p', u', r, rv, nx, nv, la, by omega, by omega, by omega, rfl, rfl, rfl, rfl, by go_num, H8.out⟩
                case measure => simp [intOf]; omega
        by_cases h5 : xw = 5
        · subst h5
          clear s0 s1 s2 s3 s4 s5
          have hfew := HS.out.few
          go_wp2_with fail
          go_region_held3 (fun V => V.cell? ⟨sb, 6, none⟩ = some (.string (bs xx))) (go_keep)
            (first
              | (go_at_call 8; refine (st_disk (HS.out.step (Below.refl _ wi).drew)).mono ?_; rintro e w3 ⟨rfl, rfl⟩)
              | (go_at_call 10; refine (st_crash (HS.out.step (Below.refl _ wi).drew) _ (by omega)).mono ?_; rintro e w4 ⟨rfl, h4, hrow4⟩; have HR := Lib.hid h4; obtain ⟨_, _, _, _, _, _, s6⟩ := row7 (hrow4 (show wi.drew.heap[sb]? = _ from HSB.out) (by decide)); clear h4 hrow4))
          all_goals
            clear s6
            go_wp2_with fail
            refine (rd_disk HR.out).mono ?_
            rintro e w5 ⟨rfl, rfl⟩
            go_wp2_with fail
            refine (rd_up HR.out hfew).mono ?_
            rintro e w5 ⟨y2, A2, p2, u2, rfl, hup⟩
            have HU := Lib.hid hup
            clear hup HR
            go_wp2_with fail
            by_cases hd : p2 = p ∧ u2 = u
            · refine (up_first HU.out (show decide (p2 = p ∧ u2 = u) = true from by simp [hd])).mono ?_
              rintro e w6 ⟨rfl, hb6⟩
              have HV := Lib.hid ((up_stay HU.out hd).step hb6)
              clear hb6 hd
              go_wp2_with fail
              refine (st_again HV.out).mono ?_
              rintro e w7 ⟨rfl, hb7⟩
              have HT := Lib.hid (HV.out.step hb7)
              clear hb7 HV HU HS
              go_wp2_with fail
              cases p with
              | none =>
                refine (st_none HT.out).mono ?_
                rintro e w8 ⟨⟨q8, c8, rfl⟩, hb8⟩
                have H8 := Lib.hid ((HT.out.step hb8).step (below_alloc w8 (.cells #[.int .u64 0, .string (bs []), .slice q8 0 c8] 32)))
                clear hb8
                go_wp2_with fail
                go_roundw
                case rel => exact ⟨k + 1, false, b, y2, N, A, A, none, u, none, u, r, rv, r, rv, la, by omega, by omega, by omega, rfl, rfl, rfl, rfl, by go_num, H8.out⟩
                case measure => simp [intOf]; omega
              | some x8 =>
                obtain ⟨v8, j8, o8⟩ := x8
                refine (st_some HT.out).mono ?_
                rintro e w8 ⟨⟨q8, c8, rfl⟩, hb8⟩
                have H8 := Lib.hid ((HT.out.step hb8).step (below_alloc w8 (.cells #[.int .u64 (v8 : Int), .string (bs j8), .slice q8 o8.length c8] 32)))
                have hm8 := heap_alloc_new w8 (.cells #[.int .u64 (v8 : Int), .string (bs j8), .slice q8 o8.length c8] 32)
                obtain ⟨z0, z1, z2, _⟩ := row3 hm8
                clear hb8 hm8
                go_wp2_with fail
                refine (st_up H8.out).mono ?_
                rintro e w9 ⟨rfl, rfl⟩
                have hge8 := H8.out.ge
                go_wp2_with fail
                go_roundw
                case rel => exact ⟨k + 1, false, b, y2, N, A, A, (some (v8, j8, o8)), u, (some (v8, j8, o8)), u, r, rv, r, rv, v8, by omega, by omega, by omega, rfl, rfl, rfl, rfl, by go_num, H8.out.seen⟩
                case measure => simp [intOf]; omega
            · refine (up_first HU.out (show decide (p2 = p ∧ u2 = u) = false from by simp [hd])).mono ?_
              rintro e w6 ⟨rfl, hb6⟩
              have HV := Lib.hid ((up_turn HU.out hd).step hb6)
              clear hb6 hd
              go_wp2_with fail
              refine (st_again HV.out).mono ?_
              rintro e w7 ⟨rfl, hb7⟩
              have HT := Lib.hid (HV.out.step hb7)
              clear hb7 HV HU HS
              go_wp2_with fail
              cases p' with
              | none =>
                refine (st_none HT.out).mono ?_
                rintro e w8 ⟨⟨q8, c8, rfl⟩, hb8⟩
                have H8 := Lib.hid ((HT.out.step hb8).step (below_alloc w8 (.cells #[.int .u64 0, .string (bs []), .slice q8 0 c8] 32)))
                clear hb8
                go_wp2_with fail
                go_roundw
                case rel => exact ⟨k + 1, false, b, y2, N, A', A', none, u', none, u', nx, nv, nx, nv, la, by omega, by omega, by omega, rfl, rfl, rfl, rfl, by go_num, H8.out⟩
                case measure => simp [intOf]; omega
              | some x8 =>
                obtain ⟨v8, j8, o8⟩ := x8
                refine (st_some HT.out).mono ?_
                rintro e w8 ⟨⟨q8, c8, rfl⟩, hb8⟩
                have H8 := Lib.hid ((HT.out.step hb8).step (below_alloc w8 (.cells #[.int .u64 (v8 : Int), .string (bs j8), .slice q8 o8.length c8] 32)))
                have hm8 := heap_alloc_new w8 (.cells #[.int .u64 (v8 : Int), .string (bs j8), .slice q8 o8.length c8] 32)
                obtain ⟨z0, z1, z2, _⟩ := row3 hm8
                clear hb8 hm8
                go_wp2_with fail
                refine (st_up H8.out).mono ?_
                rintro e w9 ⟨rfl, rfl⟩
                have hge8 := H8.out.ge
                go_wp2_with fail
                go_roundw
                case rel => exact ⟨k + 1, false, b, y2, N, A', A', (some (v8, j8, o8)), u', (some (v8, j8, o8)), u', nx, nv, nx, nv, v8, by omega, by omega, by omega, rfl, rfl, rfl, rfl, by go_num, H8.out.seen⟩
                case measure => simp [intOf]; omega
        by_cases h0 : xw = 0
        · subst h0
          cases dn with
          | true =>
            go_wp2_with fail
            refine (st_dn HS.out).mono ?_
            rintro e w3 ⟨rfl, rfl⟩
            go_wp2_with fail
            go_roundw
            case rel => exact ⟨k + 1, true, b, y, N, A, A', p, u, p', u', r, rv, nx, nv, la, by omega, by omega, by omega, rfl, rfl, rfl, rfl, by go_num, HS.out⟩
            case measure => simp [intOf]; omega
          | false =>
            go_wp2_with fail
            refine (st_up HS.out).mono ?_
            rintro e w3 ⟨rfl, rfl⟩
            obtain ⟨rq, rc, rfl⟩ := slice_len HS.out.ref.2
            have r0 : wi.cell? ⟨r, 0, none⟩ = some (.slice rq A.length rc) := by rw [cell_of_row _ _ _ _ _ _ HS.out.ref.1]; rfl
            have r1 : wi.cell? ⟨r, 1, none⟩ = some (.int .i64 (roomN n)) := by rw [cell_of_row _ _ _ _ _ _ HS.out.ref.1]; rfl
            go_wp2_with fail
            go_region
            have HBI := Lib.hid ((below_alloc wi (.cells #[.slice rq A.length rc, .int .i64 (roomN n)] 46)).drew)
            have HYC := Lib.hid (show (wi.alloc (.cells #[.slice rq A.length rc, .int .i64 (roomN n)] 46)).drew.heap[wi.heap.size]? = _ from heap_alloc_new wi (.cells #[.slice rq A.length rc, .int .i64 (roomN n)] 46))
            have HC7 := Lib.hid ((HBI.out.block sb (blk_lt HSB.out)).trans HSB.out)
            obtain ⟨y0, hy0⟩ : ∃ y0, y0 = wi.heap.size := ⟨_, rfl⟩
            have HYE := Lib.hid hy0
            obtain ⟨W3, hW3⟩ : ∃ W3, W3 = (wi.alloc (.cells #[.slice rq A.length rc, .int .i64 (roomN n)] 46)).drew := ⟨_, rfl⟩
            rw [← hW3, ← hy0] at HYC
            rw [← hW3] at HBI HC7
            have HY := Lib.hid (show RFil W3 y0 (.slice rq A.length rc) A (roomN n) from ⟨HYC.out, (HS.out.ref.below HBI.out).2⟩)
            have H3 := Lib.hid (HS.out.step HBI.out)
            have HYB := Lib.hid (show base ≤ y0 from by have := HS.out.low; have := HYE.out; omega)
            have HYN := Lib.hid (show r ≠ y0 from by have := blk_lt HS.out.ref.1; have := HYE.out; omega)
            rw [← hW3, ← hy0]
            clear hy0 hW3 HBI HYC HYE r0 r1 s0 s1 s2 s3 s4 s5 s6
            obtain ⟨s0, s1, s2, s3, s4, s5, s6⟩ := row7 HC7.out
            obtain ⟨blI, hin⟩ := H3.out.goes HY.out HYB.out HAT0.out (by omega)
            have hdoes := pub32 hin xn xv hv64 xj (by omega) HOT.out HOZ.out ho20 (fun s hs => by have := HOS.out s hs; unfold reachBytes at this; omega) HSUM.out (.slice ta xt.length tc) xx
            clear hin
            go_wp2_with fail
            refine hdoes.mono ?_
            clear hdoes s0 s1 s2 s3 s4 s5 s6
            rintro e w6 ⟨b2, A6, rv6, rfl, hb6, hl6, ⟨bl6, hf6, ho6⟩, hr6, ⟨p6, u6, hc6, hla6⟩, hk6⟩
            rcases hf6 with ⟨rfl, hf6⟩ | ⟨rfl, hf6⟩
            · have HT := Lib.hid (does_yes H3.out HYB.out hb6 hl6 hf6 ho6 hr6 hc6 hla6)
              clear hb6 hl6 hf6 ho6 hr6 hc6 hla6 hk6
              go_wp2_with fail
              cases p6 with
              | none =>
                refine (st_none HT.out).mono ?_
                rintro e w8 ⟨⟨q8, c8, rfl⟩, hb8⟩
                have H8 := Lib.hid ((HT.out.step hb8).step (below_alloc w8 (.cells #[.int .u64 0, .string (bs []), .slice q8 0 c8] 32)))
                clear hb8
                go_wp2_with fail
                go_roundw
                case rel => exact ⟨k + 1, false, b, y, (N + 1), A6, A6, none, u6, none, u6, y0, rv6, y0, rv6, la, by omega, by omega, by omega, rfl, rfl, rfl, rfl, by go_num, H8.out⟩
                case measure => simp [intOf]; omega
              | some x8 =>
                obtain ⟨v8, j8, o8⟩ := x8
                refine (st_some HT.out).mono ?_
                rintro e w8 ⟨⟨q8, c8, rfl⟩, hb8⟩
                have H8 := Lib.hid ((HT.out.step hb8).step (below_alloc w8 (.cells #[.int .u64 (v8 : Int), .string (bs j8), .slice q8 o8.length c8] 32)))
                have hm8 := heap_alloc_new w8 (.cells #[.int .u64 (v8 : Int), .string (bs j8), .slice q8 o8.length c8] 32)
                obtain ⟨z0, z1, z2, _⟩ := row3 hm8
                clear hb8 hm8
                go_wp2_with fail
                refine (st_up H8.out).mono ?_
                rintro e w9 ⟨rfl, rfl⟩
                have hge8 := H8.out.ge
                go_wp2_with fail
                go_roundw
                case rel => exact ⟨k + 1, false, b, y, (N + 1), A6, A6, (some (v8, j8, o8)), u6, (some (v8, j8, o8)), u6, y0, rv6, y0, rv6, v8, by omega, by omega, by omega, rfl, rfl, rfl, rfl, by go_num, H8.out.seen⟩
                case measure => simp [intOf]; omega
            · have HT := Lib.hid (does_no H3.out HYB.out HYN.out hb6 hl6 hf6 ho6 hr6 hc6 hla6 hk6)
              clear hb6 hl6 hf6 ho6 hr6 hc6 hla6 hk6
              go_wp2_with fail
              refine (st_dn HT.out).mono ?_
              rintro e w7 ⟨rfl, rfl⟩
              go_wp2_with fail
              cases p with
              | none =>
                refine (st_none HT.out).mono ?_
                rintro e w8 ⟨⟨q8, c8, rfl⟩, hb8⟩
                have H8 := Lib.hid ((HT.out.step hb8).step (below_alloc w8 (.cells #[.int .u64 0, .string (bs []), .slice q8 0 c8] 32)))
                clear hb8
                go_wp2_with fail
                go_roundw
                case rel => exact ⟨k + 1, true, b, y, (N + 1), A, A6, none, u, p6, u6, r, (.slice rq A.length rc), y0, rv6, la, by omega, by omega, by omega, rfl, rfl, rfl, rfl, by go_num, H8.out⟩
                case measure => simp [intOf]; omega
              | some x8 =>
                obtain ⟨v8, j8, o8⟩ := x8
                refine (st_some HT.out).mono ?_
                rintro e w8 ⟨⟨q8, c8, rfl⟩, hb8⟩
                have H8 := Lib.hid ((HT.out.step hb8).step (below_alloc w8 (.cells #[.int .u64 (v8 : Int), .string (bs j8), .slice q8 o8.length c8] 32)))
                have hm8 := heap_alloc_new w8 (.cells #[.int .u64 (v8 : Int), .string (bs j8), .slice q8 o8.length c8] 32)
                obtain ⟨z0, z1, z2, _⟩ := row3 hm8
                clear hb8 hm8
                go_wp2_with fail
                refine (st_dn H8.out).mono ?_
                rintro e w9 ⟨rfl, rfl⟩
                go_wp2_with fail
                go_roundw
                case rel => exact ⟨k + 1, true, b, y, (N + 1), A, A6, (some (v8, j8, o8)), u, p6, u6, r, (.slice rq A.length rc), y0, rv6, la, by omega, by omega, by omega, rfl, rfl, rfl, rfl, by go_num, H8.out⟩
                case measure => simp [intOf]; omega
        by_cases h1 : xw = 1
        · subst h1
          cases dn with
          | true =>
            go_wp2_with fail
            refine (st_dn HS.out).mono ?_
            rintro e w3 ⟨rfl, rfl⟩
            go_wp2_with fail
            go_roundw
            case rel => exact ⟨k + 1, true, b, y, N, A, A', p, u, p', u', r, rv, nx, nv, la, by omega, by omega, by omega, rfl, rfl, rfl, rfl, by go_num, HS.out⟩
            case measure => simp [intOf]; omega
          | false =>
            go_wp2_with fail
            refine (st_up HS.out).mono ?_
            rintro e w3 ⟨rfl, rfl⟩
            obtain ⟨rq, rc, rfl⟩ := slice_len HS.out.ref.2
            have r0 : wi.cell? ⟨r, 0, none⟩ = some (.slice rq A.length rc) := by rw [cell_of_row _ _ _ _ _ _ HS.out.ref.1]; rfl
            have r1 : wi.cell? ⟨r, 1, none⟩ = some (.int .i64 (roomN n)) := by rw [cell_of_row _ _ _ _ _ _ HS.out.ref.1]; rfl
            go_wp2_with fail
            go_region
            have HBI := Lib.hid ((below_alloc wi (.cells #[.slice rq A.length rc, .int .i64 (roomN n)] 46)).drew)
            have HYC := Lib.hid (show (wi.alloc (.cells #[.slice rq A.length rc, .int .i64 (roomN n)] 46)).drew.heap[wi.heap.size]? = _ from heap_alloc_new wi (.cells #[.slice rq A.length rc, .int .i64 (roomN n)] 46))
            have HC7 := Lib.hid ((HBI.out.block sb (blk_lt HSB.out)).trans HSB.out)
            obtain ⟨y0, hy0⟩ : ∃ y0, y0 = wi.heap.size := ⟨_, rfl⟩
            have HYE := Lib.hid hy0
            obtain ⟨W3, hW3⟩ : ∃ W3, W3 = (wi.alloc (.cells #[.slice rq A.length rc, .int .i64 (roomN n)] 46)).drew := ⟨_, rfl⟩
            rw [← hW3, ← hy0] at HYC
            rw [← hW3] at HBI HC7
            have HY := Lib.hid (show RFil W3 y0 (.slice rq A.length rc) A (roomN n) from ⟨HYC.out, (HS.out.ref.below HBI.out).2⟩)
            have H3 := Lib.hid (HS.out.step HBI.out)
            have HYB := Lib.hid (show base ≤ y0 from by have := HS.out.low; have := HYE.out; omega)
            have HYN := Lib.hid (show r ≠ y0 from by have := blk_lt HS.out.ref.1; have := HYE.out; omega)
            rw [← hW3, ← hy0]
            clear hy0 hW3 HBI HYC HYE r0 r1 s0 s1 s2 s3 s4 s5 s6
            obtain ⟨s0, s1, s2, s3, s4, s5, s6⟩ := row7 HC7.out
            obtain ⟨blI, hin⟩ := H3.out.goes HY.out HYB.out HAT0.out (by omega)
            have hdoes := begin32 hin xn xv hv64 xj (by omega) (.slice oa xo.length oc) (.slice ta xt.length tc) xx
            clear hin
            go_wp2_with fail
            refine hdoes.mono ?_
            clear hdoes s0 s1 s2 s3 s4 s5 s6
            rintro e w6 ⟨b2, A6, rv6, rfl, hb6, hl6, ⟨bl6, hf6, ho6⟩, hr6, ⟨p6, u6, hc6, hla6⟩, hk6⟩
            rcases hf6 with ⟨rfl, hf6⟩ | ⟨rfl, hf6⟩
            · have HT := Lib.hid (does_yes H3.out HYB.out hb6 hl6 hf6 ho6 hr6 hc6 hla6)
              clear hb6 hl6 hf6 ho6 hr6 hc6 hla6 hk6
              go_wp2_with fail
              cases p6 with
              | none =>
                refine (st_none HT.out).mono ?_
                rintro e w8 ⟨⟨q8, c8, rfl⟩, hb8⟩
                have H8 := Lib.hid ((HT.out.step hb8).step (below_alloc w8 (.cells #[.int .u64 0, .string (bs []), .slice q8 0 c8] 32)))
                clear hb8
                go_wp2_with fail
                go_roundw
                case rel => exact ⟨k + 1, false, b, y, (N + 1), A6, A6, none, u6, none, u6, y0, rv6, y0, rv6, la, by omega, by omega, by omega, rfl, rfl, rfl, rfl, by go_num, H8.out⟩
                case measure => simp [intOf]; omega
              | some x8 =>
                obtain ⟨v8, j8, o8⟩ := x8
                refine (st_some HT.out).mono ?_
                rintro e w8 ⟨⟨q8, c8, rfl⟩, hb8⟩
                have H8 := Lib.hid ((HT.out.step hb8).step (below_alloc w8 (.cells #[.int .u64 (v8 : Int), .string (bs j8), .slice q8 o8.length c8] 32)))
                have hm8 := heap_alloc_new w8 (.cells #[.int .u64 (v8 : Int), .string (bs j8), .slice q8 o8.length c8] 32)
                obtain ⟨z0, z1, z2, _⟩ := row3 hm8
                clear hb8 hm8
                go_wp2_with fail
                refine (st_up H8.out).mono ?_
                rintro e w9 ⟨rfl, rfl⟩
                have hge8 := H8.out.ge
                go_wp2_with fail
                go_roundw
                case rel => exact ⟨k + 1, false, b, y, (N + 1), A6, A6, (some (v8, j8, o8)), u6, (some (v8, j8, o8)), u6, y0, rv6, y0, rv6, v8, by omega, by omega, by omega, rfl, rfl, rfl, rfl, by go_num, H8.out.seen⟩
                case measure => simp [intOf]; omega
            · have HT := Lib.hid (does_no H3.out HYB.out HYN.out hb6 hl6 hf6 ho6 hr6 hc6 hla6 hk6)
              clear hb6 hl6 hf6 ho6 hr6 hc6 hla6 hk6
              go_wp2_with fail
              refine (st_dn HT.out).mono ?_
              rintro e w7 ⟨rfl, rfl⟩
              go_wp2_with fail
              cases p with
              | none =>
                refine (st_none HT.out).mono ?_
                rintro e w8 ⟨⟨q8, c8, rfl⟩, hb8⟩
                have H8 := Lib.hid ((HT.out.step hb8).step (below_alloc w8 (.cells #[.int .u64 0, .string (bs []), .slice q8 0 c8] 32)))
                clear hb8
                go_wp2_with fail
                go_roundw
                case rel => exact ⟨k + 1, true, b, y, (N + 1), A, A6, none, u, p6, u6, r, (.slice rq A.length rc), y0, rv6, la, by omega, by omega, by omega, rfl, rfl, rfl, rfl, by go_num, H8.out⟩
                case measure => simp [intOf]; omega
              | some x8 =>
                obtain ⟨v8, j8, o8⟩ := x8
                refine (st_some HT.out).mono ?_
                rintro e w8 ⟨⟨q8, c8, rfl⟩, hb8⟩
                have H8 := Lib.hid ((HT.out.step hb8).step (below_alloc w8 (.cells #[.int .u64 (v8 : Int), .string (bs j8), .slice q8 o8.length c8] 32)))
                have hm8 := heap_alloc_new w8 (.cells #[.int .u64 (v8 : Int), .string (bs j8), .slice q8 o8.length c8] 32)
                obtain ⟨z0, z1, z2, _⟩ := row3 hm8
                clear hb8 hm8
                go_wp2_with fail
                refine (st_dn H8.out).mono ?_
                rintro e w9 ⟨rfl, rfl⟩
                go_wp2_with fail
                go_roundw
                case rel => exact ⟨k + 1, true, b, y, (N + 1), A, A6, (some (v8, j8, o8)), u, p6, u6, r, (.slice rq A.length rc), y0, rv6, la, by omega, by omega, by omega, rfl, rfl, rfl, rfl, by go_num, H8.out⟩
                case measure => simp [intOf]; omega
        by_cases h2 : xw = 2
        · subst h2
          cases dn with
          | true =>
            go_wp2_with fail
            refine (st_dn HS.out).mono ?_
            rintro e w3 ⟨rfl, rfl⟩
            go_wp2_with fail
            go_roundw
            case rel => exact ⟨k + 1, true, b, y, N, A, A', p, u, p', u', r, rv, nx, nv, la, by omega, by omega, by omega, rfl, rfl, rfl, rfl, by go_num, HS.out⟩
            case measure => simp [intOf]; omega
          | false =>
            go_wp2_with fail
            refine (st_up HS.out).mono ?_
            rintro e w3 ⟨rfl, rfl⟩
            obtain ⟨rq, rc, rfl⟩ := slice_len HS.out.ref.2
            have r0 : wi.cell? ⟨r, 0, none⟩ = some (.slice rq A.length rc) := by rw [cell_of_row _ _ _ _ _ _ HS.out.ref.1]; rfl
            have r1 : wi.cell? ⟨r, 1, none⟩ = some (.int .i64 (roomN n)) := by rw [cell_of_row _ _ _ _ _ _ HS.out.ref.1]; rfl
            go_wp2_with fail
            go_region
            have HBI := Lib.hid ((below_alloc wi (.cells #[.slice rq A.length rc, .int .i64 (roomN n)] 46)).drew)
            have HYC := Lib.hid (show (wi.alloc (.cells #[.slice rq A.length rc, .int .i64 (roomN n)] 46)).drew.heap[wi.heap.size]? = _ from heap_alloc_new wi (.cells #[.slice rq A.length rc, .int .i64 (roomN n)] 46))
            have HC7 := Lib.hid ((HBI.out.block sb (blk_lt HSB.out)).trans HSB.out)
            obtain ⟨y0, hy0⟩ : ∃ y0, y0 = wi.heap.size := ⟨_, rfl⟩
            have HYE := Lib.hid hy0
            obtain ⟨W3, hW3⟩ : ∃ W3, W3 = (wi.alloc (.cells #[.slice rq A.length rc, .int .i64 (roomN n)] 46)).drew := ⟨_, rfl⟩
            rw [← hW3, ← hy0] at HYC
            rw [← hW3] at HBI HC7
            have HY := Lib.hid (show RFil W3 y0 (.slice rq A.length rc) A (roomN n) from ⟨HYC.out, (HS.out.ref.below HBI.out).2⟩)
            have H3 := Lib.hid (HS.out.step HBI.out)
            have HYB := Lib.hid (show base ≤ y0 from by have := HS.out.low; have := HYE.out; omega)
            have HYN := Lib.hid (show r ≠ y0 from by have := blk_lt HS.out.ref.1; have := HYE.out; omega)
            rw [← hW3, ← hy0]
            clear hy0 hW3 HBI HYC HYE r0 r1 s0 s1 s2 s3 s4 s5 s6
            obtain ⟨s0, s1, s2, s3, s4, s5, s6⟩ := row7 HC7.out
            obtain ⟨blI, hin⟩ := H3.out.goes HY.out HYB.out HAT0.out (by omega)
            have hdoes := done32 hin xn (xv : Int) xj (.slice oa xo.length oc) HTT.out HTZ.out ht11 (fun t ht => by have := HTS.out t ht; omega) xx
            clear hin
            go_wp2_with fail
            refine hdoes.mono ?_
            clear hdoes s0 s1 s2 s3 s4 s5 s6
            rintro e w6 ⟨b2, A6, rv6, rfl, hb6, hl6, ⟨bl6, hf6, ho6⟩, hr6, ⟨p6, u6, hc6, hla6⟩, hk6⟩
            rcases hf6 with ⟨rfl, hf6⟩ | ⟨rfl, hf6⟩
            · have HT := Lib.hid (does_yes H3.out HYB.out hb6 hl6 hf6 ho6 hr6 hc6 hla6)
              clear hb6 hl6 hf6 ho6 hr6 hc6 hla6 hk6
              go_wp2_with fail
              cases p6 with
              | none =>
                refine (st_none HT.out).mono ?_
                rintro e w8 ⟨⟨q8, c8, rfl⟩, hb8⟩
                have H8 := Lib.hid ((HT.out.step hb8).step (below_alloc w8 (.cells #[.int .u64 0, .string (bs []), .slice q8 0 c8] 32)))
                clear hb8
                go_wp2_with fail
                go_roundw
                case rel => exact ⟨k + 1, false, b, y, (N + 1), A6, A6, none, u6, none, u6, y0, rv6, y0, rv6, la, by omega, by omega, by omega, rfl, rfl, rfl, rfl, by go_num, H8.out⟩
                case measure => simp [intOf]; omega
              | some x8 =>
                obtain ⟨v8, j8, o8⟩ := x8
                refine (st_some HT.out).mono ?_
                rintro e w8 ⟨⟨q8, c8, rfl⟩, hb8⟩
                have H8 := Lib.hid ((HT.out.step hb8).step (below_alloc w8 (.cells #[.int .u64 (v8 : Int), .string (bs j8), .slice q8 o8.length c8] 32)))
                have hm8 := heap_alloc_new w8 (.cells #[.int .u64 (v8 : Int), .string (bs j8), .slice q8 o8.length c8] 32)
                obtain ⟨z0, z1, z2, _⟩ := row3 hm8
                clear hb8 hm8
                go_wp2_with fail
                refine (st_up H8.out).mono ?_
                rintro e w9 ⟨rfl, rfl⟩
                have hge8 := H8.out.ge
                go_wp2_with fail
                go_roundw
                case rel => exact ⟨k + 1, false, b, y, (N + 1), A6, A6, (some (v8, j8, o8)), u6, (some (v8, j8, o8)), u6, y0, rv6, y0, rv6, v8, by omega, by omega, by omega, rfl, rfl, rfl, rfl, by go_num, H8.out.seen⟩
                case measure => simp [intOf]; omega
            · have HT := Lib.hid (does_no H3.out HYB.out HYN.out hb6 hl6 hf6 ho6 hr6 hc6 hla6 hk6)
              clear hb6 hl6 hf6 ho6 hr6 hc6 hla6 hk6
              go_wp2_with fail
              refine (st_dn HT.out).mono ?_
              rintro e w7 ⟨rfl, rfl⟩
              go_wp2_with fail
              cases p with
              | none =>
                refine (st_none HT.out).mono ?_
                rintro e w8 ⟨⟨q8, c8, rfl⟩, hb8⟩
                have H8 := Lib.hid ((HT.out.step hb8).step (below_alloc w8 (.cells #[.int .u64 0, .string (bs []), .slice q8 0 c8] 32)))
                clear hb8
                go_wp2_with fail
                go_roundw
                case rel => exact ⟨k + 1, true, b, y, (N + 1), A, A6, none, u, p6, u6, r, (.slice rq A.length rc), y0, rv6, la, by omega, by omega, by omega, rfl, rfl, rfl, rfl, by go_num, H8.out⟩
                case measure => simp [intOf]; omega
              | some x8 =>
                obtain ⟨v8, j8, o8⟩ := x8
                refine (st_some HT.out).mono ?_
                rintro e w8 ⟨⟨q8, c8, rfl⟩, hb8⟩
                have H8 := Lib.hid ((HT.out.step hb8).step (below_alloc w8 (.cells #[.int .u64 (v8 : Int), .string (bs j8), .slice q8 o8.length c8] 32)))
                have hm8 := heap_alloc_new w8 (.cells #[.int .u64 (v8 : Int), .string (bs j8), .slice q8 o8.length c8] 32)
                obtain ⟨z0, z1, z2, _⟩ := row3 hm8
                clear hb8 hm8
                go_wp2_with fail
                refine (st_dn H8.out).mono ?_
                rintro e w9 ⟨rfl, rfl⟩
                go_wp2_with fail
                go_roundw
                case rel => exact ⟨k + 1, true, b, y, (N + 1), A, A6, (some (v8, j8, o8)), u, p6, u6, r, (.slice rq A.length rc), y0, rv6, la, by omega, by omega, by omega, rfl, rfl, rfl, rfl, by go_num, H8.out⟩
                case measure => simp [intOf]; omega
        have hb6 : (xw == 6) = false := by simp [h6]
        have hb5 : (xw == 5) = false := by simp [h5]
        have hb0 : (xw == 0) = false := by simp [h0]
        have hb1 : (xw == 1) = false := by simp [h1]
        have hb2 : (xw == 2) = false := by simp [h2]
        go_wp2_with fail
        cases p with
        | none =>
          refine (st_none HS.out).mono ?_
          rintro e w8 ⟨⟨q8, c8, rfl⟩, hb8⟩
          have H8 := Lib.hid ((HS.out.step hb8).step (below_alloc w8 (.cells #[.int .u64 0, .string (bs []), .slice q8 0 c8] 32)))
          clear hb8
          go_wp2_with fail
          go_roundw
          case rel => exact ⟨k + 1, dn, b, y, N, A, A', none, u, p', u', r, rv, nx, nv, la, by omega, by omega, by omega, rfl, rfl, rfl, rfl, by go_num, H8.out⟩
          case measure => simp [intOf]; omega
        | some x8 =>
          obtain ⟨v8, j8, o8⟩ := x8
          refine (st_some HS.out).mono ?_
          rintro e w8 ⟨⟨q8, c8, rfl⟩, hb8⟩
          have H8 := Lib.hid ((HS.out.step hb8).step (below_alloc w8 (.cells #[.int .u64 (v8 : Int), .string (bs j8), .slice q8 o8.length c8] 32)))
          have hm8 := heap_alloc_new w8 (.cells #[.int .u64 (v8 : Int), .string (bs j8), .slice q8 o8.length c8] 32)
          obtain ⟨z0, z1, z2, _⟩ := row3 hm8
          clear hb8 hm8
          go_wp2_with fail
          cases dn with
          | false =>
            refine (st_up H8.out).mono ?_
            rintro e w9 ⟨rfl, rfl⟩
            have hge8 := H8.out.ge
            go_wp2_with fail
            go_roundw
            case rel => exact ⟨k + 1, false, b, y, N, A, A', (some (v8, j8, o8)), u, p', u', r, rv, nx, nv, v8, by omega, by omega, by omega, rfl, rfl, rfl, rfl, by go_num, H8.out.seen⟩
            case measure => simp [intOf]; omega
          | true =>
            refine (st_dn H8.out).mono ?_
            rintro e w9 ⟨rfl, rfl⟩
            go_wp2_with fail
            go_roundw
            case rel => exact ⟨k + 1, true, b, y, N, A, A', (some (v8, j8, o8)), u, p', u', r, rv, nx, nv, la, by omega, by omega, by omega, rfl, rfl, rfl, rfl, by go_num, H8.out⟩
            case measure => simp [intOf]; omega
      · obtain rfl : k = l.length := by omega
        go_wp2_with fail
        refine (alive32_any _).mono ?_
        rintro e wz ⟨rfl, hbz⟩
        have hw1 : Below w1.heap.size w1 wr := by rw [HAT0.out]; exact HST.out.bel
        have hz := HB1.out.trans ((hw1.trans (hbz.mono hw1.size)).mono HB1.out.size)
        go_wp2_with fail
        go_ret
        exact ⟨rfl, hz⟩
end Go.Proofs.YtoaihngckcbhiaaGreatDoor.Man
end
section
namespace Go.Proofs.YtoaihngckcbhiaaGreatDoor
open Go.RowKit
set_option maxRecDepth 100000 in
theorem manifestCrash_any {H : Type} {enc : TypeId × Value → H} {base1 : Nat} (W : World) (n0 : Int) (_ : (Lit.int .i64 n0).wf = true) (v1 : Value) (d1 : DataW H) (p1 : List MemPlace)
    (ho1 : Value.okWide Tryz.prog W .any base1 22 v1) (h1 : DataW.Trod enc Tryz.prog W 0 (fun _ => true) true 22 v1 d1 p1) (hz1 : ∀ n ∈ DataW.weights Tryz.prog 22 d1, (decide (n ≤ reachBytes)) = true) :
    Calls Tryz.prog 3 #[.int .i64 n0, v1] W fun e W' => e = .returned (.bool true) ∧ Below W.heap.size W W' := by
  obtain ⟨a, cap, l, rfl, h2, h3, h4⟩ := Man.msteps_of_trod ho1 h1 hz1
  exact Man.manCrashW_any W n0 h2 h3 h4
end Go.Proofs.YtoaihngckcbhiaaGreatDoor
end
