/- Ref32b Ref32c Ref32d Ref32e Ref32f -/
import Derived.Test.YtoaihngckcbhiaaGreatDoorPkRef32
import Derived.Test.YtoaihngckcbhiaaGreatDoorPkManCrashP
import Derived.Test.YtoaihngckcbhiaaGreatDoorPkManE
section
namespace Go.Proofs.YtoaihngckcbhiaaGreatDoor.Man
open Go.RowKit Go.Maps Wal Fil
theorem Canon.man {A : M} {u : Mf} {v : Nat} {job : T} {outs : List T} (h : Canon A (some (v, job, outs)) u) : ∃ S, Fil.get A manT = some S ∧ unpackT S = some (v, job, outs.map Sha.shaS) ∧ S.length ≤ 1000 := by
  obtain ⟨f1, f2, f3, _⟩ := h.fp
  obtain ⟨p1, p2⟩ := pack_sums (v := v) f3 f2
  exact ⟨_, get_mem h.up ((h.mem _).2 (.inl (.inl rfl))), unpack_pack p1 f1, by omega⟩
theorem Canon.man_none {A : M} {u : Mf} (h : Canon A none u) : Fil.get A manT = none := get_none.2 fun q hq e => by
  rcases (h.mem q).1 hq with h1 | h1
  · exact h1
  · exact man_ne_under (e.symm.trans (inU_name h1))
theorem Canon.out {A : M} {u : Mf} {v : Nat} {job : T} {outs : List T} (h : Canon A (some (v, job, outs)) u) (k : Nat) (hk : k < outs.length) : Fil.get A (outT k) = some (Crc.sealT outs[k]) := by
  have := get_mem h.up ((h.mem (outT k, Crc.sealT (outs.getD k []))).2 (.inl (.inr ⟨k, hk, rfl⟩)))
  rw [this, List.getD_eq_getElem?_getD, List.getElem?_eq_getElem hk]
  rfl
theorem Canon.under_none {A : M} {p : Mf} (h : Canon A p none) : Fil.get A underT = none := get_none.2 fun q hq e => by
  rcases (h.mem q).1 hq with h1 | h1
  · exact (inP_name h.fp h1).1 e
  · exact h1
theorem Canon.under {A : M} {p : Mf} {v : Nat} {job : T} {l : List T} (h : Canon A p (some (v, job, l))) : ∃ S, Fil.get A underT = some S ∧ unpackT S = some (v, job, l) ∧ S.length ≤ 65535 := by
  obtain ⟨f1, f2, f3, f4, f5⟩ := h.fu
  exact ⟨_, get_mem h.up ((h.mem _).2 (.inr rfl)), unpack_pack f2 f1, packT_len f2⟩
def RGetsAt (w : World) (r : Nat) (A : M) : Prop := ∀ W, Below w.heap.size w W → ∀ k : T, Calls Tryz.prog 76 #[.pointer (some ⟨r, 0, none⟩), .string (bs k)] W fun e w' => e = .returned (.tuple #[.string (bs ((Fil.get A k).getD [])), .bool (Fil.get A k).isSome]) ∧ Below W.heap.size W w'
theorem rgets_of {w : World} {r : Nat} {v : Value} {A : M} {most : Int} (h : RFil w r v A most) (hA : A.length ≤ 1000000) : RGetsAt w r A := fun _ hW k => rget6_any (h.below hW) hA k
theorem RGetsAt.below {w w' : World} {r : Nat} {A : M} (h : RGetsAt w r A) (hb : Below w.heap.size w w') : RGetsAt w' r A := fun W hW k => h W (hb.trans (hW.mono hb.size)) k
section
variable {w w' : World} {r : Nat} {A : M} {p u : Mf}
set_option maxRecDepth 100000 in
set_option maxHeartbeats 4000000 in
theorem rnow32_any (h : RGetsAt w r A) (hc : Canon A p u) : Calls Tryz.prog 36 #[.pointer (some ⟨r, 0, none⟩)] w fun e w' => NowPost w (u, 0) e w' := by
  have hget := fun W hW => h W hW underT
  cases u with
  | none =>
    rw [hc.under_none] at hget
    simp only [Option.getD_none, Option.isSome_none] at hget
    have HGET := Lib.hid hget
    clear h hget hc
    go_enter Tryz.func36, Tryz.ntmps36
    go_wp2_with fail
    refine (HGET.out _ ((Below.refl _ _).alloc (Nat.le_refl _) _)).mono ?_
    rintro e w1 ⟨rfl, hb1⟩
    obtain ⟨hr1, hb1', hlt1⟩ := new3 hb1
    obtain ⟨c0, c1, c2, f0, f1, f2⟩ := row3 hr1
    have HB1 := Lib.hid hb1'
    have HR1 := Lib.hid hr1
    clear hb1 hr1 hb1'
    go_wp2_with fail
    obtain ⟨d0, d1, d2, _⟩ := row3 (set3 HR1.out (.int .u64 0) (.string { data := #[] }) (.slice none 0 0))
    refine bodyPost_ret (v := .tuple #[.agg #[.int .u64 0, .string (bs []), .slice none 0 0], .bool false, .int .i64 0]) (under_out Tryz.results36 _ _ w.heap.size 0 [] (.slice none 0 0) (by rfl) d0 d1 d2) rfl ?_
    exact ⟨set3_below HB1.out (Nat.le_refl _) _ _ _, rfl⟩
  | some x =>
    obtain ⟨v, job, l⟩ := x
    obtain ⟨S, hS, hu, hSl⟩ := hc.under
    obtain ⟨_, _, _, hl, hups⟩ := hc.fu
    rw [hS] at hget
    simp only [Option.getD_some, Option.isSome_some] at hget
    have hunp := fun W => runpack_any S W (by omega)
    unfold UnpackPost at hunp
    rw [hu] at hunp
    have HGET := Lib.hid hget
    have HUNP := Lib.hid hunp
    have HUPS := Lib.hid (show risingR l = l by rw [risingR_eq]; exact riseT_of_up hups)
    clear h hget hunp hu hups hS hc
    go_enter Tryz.func36, Tryz.ntmps36
    go_wp2_with fail
    refine (HGET.out _ ((Below.refl _ _).alloc (Nat.le_refl _) _)).mono ?_
    rintro e w1 ⟨rfl, hb1⟩
    obtain ⟨hr1, hb1', hlt1⟩ := new3 hb1
    have HB1 := Lib.hid hb1'
    have HR1 := Lib.hid hr1
    clear hb1 hr1 hb1'
    go_wp2_with fail
    refine (HUNP.out _).mono ?_
    intro e w2 h2
    obtain ⟨hb2, sl, rfl, ho2, hg2⟩ := h2
    obtain ⟨q2, cap2, rfl⟩ := slice_len ho2
    have HB2 := Lib.hid (HB1.out.trans (hb2.mono HB1.out.size))
    have HR2 := Lib.hid ((hb2.block _ hlt1).trans HR1.out)
    have hlt2 : w.heap.size < w2.heap.size := Nat.lt_of_lt_of_le hlt1 hb2.size
    clear hb2 hlt1
    have HG2 := Lib.hid (show ∀ g, (Value.slice q2 l.length cap2).ownBlock = some g → w.heap.size ≤ g from fun g h => Nat.le_trans HB1.out.size (hg2 g h))
    have HO2 := Lib.hid ho2
    have HRS := Lib.hid (rising26_any (w := w2) (cap := cap2) (l := l) (textsAt_of_row ho2) (by omega))
    rw [HUPS.out] at HRS
    clear ho2 hg2
    have hli : ¬ (1000 : Int) < (l.length : Int) := by omega
    go_wp2_with fail
    refine HRS.out.mono ?_
    rintro e w3 ⟨v3, rfl, ho3, hb3⟩
    obtain ⟨q3, cap3, rfl⟩ := slice_len ho3
    have HB3 := Lib.hid (HB2.out.trans (hb3.mono HB2.out.size))
    have HR3 := Lib.hid ((hb3.block _ hlt2).trans HR2.out)
    have hlt3 : w.heap.size < w3.heap.size := Nat.lt_of_lt_of_le hlt2 hb3.size
    have HO3 := Lib.hid (row_below HO2.out hb3)
    have HE := Lib.hid (rsame_any l l q2 q3 cap2 cap3 w3 (textsAt_of_row HO3.out) (textsAt_of_row ho3) (by unfold maxLen; omega) (by unfold maxLen; omega))
    rw [show decide (l = l) = true by simp] at HE
    clear hb3 ho3 hlt2
    go_wp2_with fail
    refine HE.out.mono ?_
    rintro e w4 ⟨rfl, hb4⟩
    have HB4 := Lib.hid (HB3.out.trans (hb4.mono HB3.out.size))
    have HR4 := Lib.hid ((hb4.block _ hlt3).trans HR3.out)
    have HO4 := Lib.hid (row_below HO3.out hb4)
    clear hb4 hlt3
    obtain ⟨c0, c1, c2, f0, f1, f2⟩ := row3 HR4.out
    go_wp2_with fail
    obtain ⟨d0, d1, d2, _⟩ := row3 (set3 HR4.out (.int .u64 (v : Int)) (.string (bs job)) (.slice q2 l.length cap2))
    refine bodyPost_ret (v := .tuple #[.agg #[.int .u64 (v : Int), .string (bs job), .slice q2 l.length cap2], .bool true, .int .i64 0]) (under_out Tryz.results36 _ _ w.heap.size v job (.slice q2 l.length cap2) (by rfl) d0 d1 d2) rfl ?_
    exact ⟨set3_below HB4.out (Nat.le_refl _) _ _ _, _, rfl, set3_row HO4.out HR4.out (by decide), HG2.out⟩
set_option maxRecDepth 100000 in
set_option maxHeartbeats 4000000 in
theorem rlatest_any (h : RGetsAt w r A) (hc : Canon A p u) : Calls Tryz.prog 34 #[.pointer (some ⟨r, 0, none⟩)] w fun e w' => LatPost w (p, 0) e w' := by
  have hget := fun W hW => h W hW manT
  cases p with
  | none =>
    rw [hc.man_none] at hget
    simp only [Option.getD_none, Option.isSome_none] at hget
    have HGET := Lib.hid hget
    clear h hget hc
    go_enter Tryz.func34, Tryz.ntmps34
    go_wp2_with fail
    refine (HGET.out _ ((Below.refl _ _).alloc (Nat.le_refl _) _)).mono ?_
    rintro e w1 ⟨rfl, hb1⟩
    obtain ⟨hr1, hb1', hlt1⟩ := new3 hb1
    obtain ⟨c0, c1, c2, f0, f1, f2⟩ := row3 hr1
    have HB1 := Lib.hid hb1'
    have HR1 := Lib.hid hr1
    clear hb1 hr1 hb1'
    go_wp2_with fail
    obtain ⟨d0, d1, d2, _⟩ := row3 (set3 HR1.out (.int .u64 0) (.string { data := #[] }) (.slice none 0 0))
    refine bodyPost_ret (v := .tuple #[.agg #[.int .u64 0, .string (bs []), .slice none 0 0], .bool false, .int .i64 0]) (manifest_out Tryz.results34 _ _ w.heap.size 0 [] (.slice none 0 0) (by rfl) d0 d1 d2) rfl ?_
    exact ⟨set3_below HB1.out (Nat.le_refl _) _ _ _, rfl⟩
  | some x =>
    obtain ⟨v, job, outs⟩ := x
    obtain ⟨S, hS, hu, hSl⟩ := hc.man
    obtain ⟨_, h16, _, hsl⟩ := hc.fp
    rw [hS] at hget
    simp only [Option.getD_some, Option.isSome_some] at hget
    have hunp := fun W => runpack_any S W (by omega)
    unfold UnpackPost at hunp
    rw [hu] at hunp
    have HGET := Lib.hid hget
    have HUNP := Lib.hid hunp
    have HH := Lib.hid h
    have HOUT := Lib.hid (fun k hk => hc.out k hk)
    have HSL := Lib.hid hsl
    obtain ⟨L, hL⟩ : ∃ L, outs.map Sha.shaS = L := ⟨_, rfl⟩
    have hLl : L.length = outs.length := by rw [← hL, List.length_map]
    rw [hL] at HUNP
    have HLK := Lib.hid (fun k (hk : k < outs.length) (hk2 : k < L.length) => show L[k] = Sha.shaS outs[k] by subst hL; rw [List.getElem_map])
    have HLL := Lib.hid hLl
    have hL16 : L.length ≤ 16 := by omega
    clear h hget hunp hu hS hc hL hsl hLl
    go_enter Tryz.func34, Tryz.ntmps34
    go_wp2_with fail
    refine (HGET.out _ ((Below.refl _ _).alloc (Nat.le_refl _) _)).mono ?_
    rintro e w1 ⟨rfl, hb1⟩
    obtain ⟨hr1, hb1', hlt1⟩ := new3 hb1
    have HB1 := Lib.hid hb1'
    have HR1 := Lib.hid hr1
    clear hb1 hr1 hb1'
    go_wp2_with fail
    refine (HUNP.out _).mono ?_
    intro e w2 h2
    obtain ⟨hb2, sl, rfl, ho2, hg2⟩ := h2
    obtain ⟨q2, cap2, rfl⟩ := slice_len ho2
    have HB2 := Lib.hid (HB1.out.trans (hb2.mono HB1.out.size))
    have HR2 := Lib.hid ((hb2.block _ hlt1).trans HR1.out)
    have hlt2 : w.heap.size < w2.heap.size := Nat.lt_of_lt_of_le hlt1 hb2.size
    clear hb2 hlt1
    have HO2 := Lib.hid ho2
    have HQM := Lib.hid (show ∀ g, (Value.slice q2 L.length cap2).ownBlock = some g → g < w2.heap.size from fun g hg => ownsRow_lt ho2 hg)
    clear ho2 hg2
    have hli : ¬ (16 : Int) < (L.length : Int) := by omega
    go_wp2_with fail
    have HR3 := Lib.hid ((heap_alloc_old w2 (.cells #[.int .u64 (v : Int), .string (bs job), .slice none 0 0] 32) hlt2).trans HR2.out)
    have HM3 := Lib.hid (heap_alloc_new w2 (.cells #[.int .u64 (v : Int), .string (bs job), .slice none 0 0] 32))
    have HB3 := Lib.hid (HB2.out.alloc HB2.out.size (.cells #[.int .u64 (v : Int), .string (bs job), .slice none 0 0] 32))
    have HO3 := Lib.hid (HO2.out.alloc (.cells #[.int .u64 (v : Int), .string (bs job), .slice none 0 0] 32))
    obtain ⟨MB, hMB⟩ : ∃ MB, w2.heap.size = MB := ⟨_, rfl⟩
    rw [hMB] at HM3 HQM ⊢
    have hlo := HB2.out.size
    rw [hMB] at hlo hlt2
    clear HR2 HB2 HO2 hMB
    go_loopw [12] (fun i wr => ∃ (k : Nat) (sl : Value), k ≤ outs.length ∧ i = .int .i64 k ∧ wr.heap[MB]? = some (.cells #[.int .u64 (v : Int), .string (bs job), sl] 32) ∧ wr.heap[w.heap.size]? = some (.cells #[.int .u64 0, .string { data := #[] }, .slice none 0 0] 32) ∧ wr.ownsRow (MB + 1) 9 1 sl k (strCells (outs.take k)) ∧ Below w.heap.size w wr ∧ RowAt wr 0 (.slice q2 L.length cap2) L ∧ MB < wr.heap.size)
      (fun i _ => outs.length - (intOf i).toNat)
    case atStart => exact ⟨0, .slice none 0 0, by omega, rfl, HM3.out, HR3.out, by rw [List.take_zero, strCells_nil]; exact World.ownsRow_nil _ _ _ _, HB3.out, HO3.out, blk_lt HM3.out⟩
    case round =>
      obtain ⟨k, sl, hk, rfl, hm, hr, hown, hb, hol, hms⟩ := hrel
      obtain ⟨qs, caps, rfl⟩ := slice_len hown
      obtain ⟨i0, hi0, hz0, hz1, hz2⟩ := info_parts str_info
      have HM := Lib.hid hm; have HR := Lib.hid hr; have HOWN := Lib.hid hown; have HB := Lib.hid hb; have HOL := Lib.hid hol
      clear hm hr hown hb hol HM3 HR3 HB3 HO3
      have hll := HLL.out
      by_cases hlt : k < outs.length
      · have hltL : k < L.length := by omega
        obtain ⟨q, hq1, hq2⟩ := (textsAt_of_row HOL.out).index cap2 k hltL
        obtain ⟨s, hs⟩ : ∃ s, outs[k] = s := ⟨_, rfl⟩
        have hX := HLK.out k hlt hltL
        rw [hs] at hX
        rw [hX] at hq2
        have hsl : s.length ≤ 65531 := HSL.out s (hs ▸ List.getElem_mem hlt)
        have hgk := fun W (hW : Below w.heap.size w W) => HH.out W hW (outT k)
        have hok := HOUT.out k hlt
        rw [hs] at hok
        simp only [hok, Option.getD_some, Option.isSome_some] at hgk
        have HGK := Lib.hid hgk
        have hop := fun W => ropen_any (Crc.sealT s) W (by rw [Crc.seal_length]; omega)
        simp only [Crc.openT_seal] at hop
        have HOP := Lib.hid hop
        have HTK := Lib.hid (show outs.take (k + 1) = outs.take k ++ [s] by rw [List.take_succ_eq_append_getElem hlt, hs])
        have hk100 : k < 100 := by omega
        have HQ2 := Lib.hid hq2
        have hki : (k : Int) < (L.length : Int) := by omega
        clear hgk hop hX hs hok hll
        go_wp2_with fail
        refine (rout_any k hk100 _).mono ?_
        rintro e w4 ⟨rfl, rfl⟩
        go_wp2_with fail
        refine (HGK.out _ HB.out).mono ?_
        rintro e w5 ⟨rfl, hb5⟩
        have HB5 := Lib.hid hb5
        clear hb5
        go_wp2_with fail
        refine (HOP.out _).mono ?_
        rintro e w6 ⟨rfl, hb6⟩
        have HB6 := Lib.hid (HB5.out.trans (hb6.mono HB5.out.size))
        have q6 : w6.cell? q = some (.string (bs (Sha.shaS s))) := (HB6.out.cell (block_lt_of_cell HQ2.out)).trans HQ2.out
        clear hb6 hq2
        go_wp2_with fail
        go_region_held3 (fun V => V.cell? q = some (.string (bs (Sha.shaS s)))) (go_keep)
          (first | (go_at_call 80; refine (rsha_any s (by omega) _).mono ?_; rintro e w7 ⟨rfl, hb7⟩; have HB7 := Lib.hid (HB6.out.trans ((show Below w6.heap.size w6 w7 from ((Below.refl _ w6).drew).trans hb7).mono HB6.out.size)); have q7 : w7.cell? q = some (.string (bs (Sha.shaS s))) := (HB7.out.cell (block_lt_of_cell HQ2.out)).trans HQ2.out; clear hb7))
        all_goals
          have HM7 := Lib.hid ((HB7.out.block MB hms).trans HM.out)
          have HR7 := Lib.hid ((HB7.out.block w.heap.size (blk_lt HR.out)).trans HR.out)
          have HO7 := Lib.hid (row_below HOWN.out HB7.out)
          have HL7 := Lib.hid (row_below HOL.out HB7.out)
          have HW7 := Lib.hid (HB.out.trans (HB7.out.mono HB.out.size))
          have hs7 := HB7.out.size
          clear q6 q7 hq1
          obtain ⟨c0, c1, c2, f0, f1, f2⟩ := row3 HM7.out
          have HM7a := Lib.hid ((heap_alloc_old w7 (.cells #[.string (bs s)] 9) (blk_lt HM7.out)).trans HM7.out)
          have HR7a := Lib.hid ((heap_alloc_old w7 (.cells #[.string (bs s)] 9) (blk_lt HR7.out)).trans HR7.out)
          have hneb := row_ne_low HO7.out (Nat.lt_succ_self MB)
          have hner := row_ne_low HO7.out (show w.heap.size < MB + 1 by omega)
          have h7a : MB < (w7.alloc (.cells #[.string (bs s)] 9)).heap.size := by rw [World.size_alloc]; omega
          go_wp2_with (at_builtin; refine wpList_append_own_at _ rfl _ _ 30 rfl (MB + 1) 9 i0 _ 1 16 Tryz.underlying30 hi0 hz0 hz1 hz2 rfl (by decide) _ _ _ rfl (HO7.out.alloc _) ⟨w7.heap.size, 0, none⟩ 1 1 [.string (bs s)] rfl rfl (cell_one_new _ _ _) (by simp [Value.oneCell']) (by unfold maxLen; omega) (by omega) (by rw [World.size_alloc]; omega) ?_; intro v' w8 hown' hgrow _ hat; obtain ⟨g', cap', rfl⟩ := ownsRow_succ hown'; have HM8 := Lib.hid ((hgrow.block MB h7a hneb).trans HM7a.out); have HR8 := Lib.hid ((hgrow.block w.heap.size (by rw [World.size_alloc]; omega) hner).trans HR7a.out); have HOW8 := Lib.hid hown'; have HGR := Lib.hid hgrow; obtain ⟨d0, d1, d2, e0, e1, e2⟩ := row3 HM8.out; clear hown' hgrow hat)
          have HT := HTK.out
          go_roundw
          case rel =>
            refine ⟨k + 1, _, by omega, by go_num, heap_setCell_same _ _ 2 _ _ _ HM8.out, ?_, ?_, ?_, ?_, ?_⟩
            · rw [heap_setCell_other _ _ _ _ (show w.heap.size ≠ MB by omega)]
              exact HR8.out
            · rw [HT, strCells_snoc]
              exact set1_row HOW8.out HM8.out (by decide)
            · exact ((HW7.out.alloc HW7.out.size _).grown HGR.out (by rw [World.size_alloc]; omega) (fun j hj => by
                have := row_low HO7.out hj
                omega)).setCell (p := ⟨MB, 2, none⟩) (by omega) _
            · have h1 := (HL7.out.alloc (.cells #[.string (bs s)] 9))
              have h2 := ownsRow_upd h1 (Upd.of_grownBy HGR.out (F := fun j => (Value.slice qs k caps).ownBlock = some j) (fun j e => e)) (fun g hg e => by
                have := row_low HO7.out e
                have := HQM.out g hg
                omega)
              exact set1_row h2 HM8.out (by decide)
            · have := HGR.out.size
              rw [World.size_alloc] at this
              simp
              omega
          case measure => simp [intOf]; omega
      · obtain rfl : k = outs.length := by omega
        have hki : ¬ (outs.length : Int) < (L.length : Int) := by omega
        have HTK := Lib.hid (show outs.take outs.length = outs from List.take_length)
        clear hll
        obtain ⟨c0, c1, c2, f0, f1, f2⟩ := row3 HM.out
        obtain ⟨b0, b1, b2, a0, a1, a2⟩ := row3 HR.out
        go_wp2_with fail
        obtain ⟨d0, d1, d2, _⟩ := row3 (set3 HR.out (.int .u64 (v : Int)) (.string (bs job)) (.slice qs outs.length caps))
        refine bodyPost_ret (v := .tuple #[.agg #[.int .u64 (v : Int), .string (bs job), .slice qs outs.length caps], .bool true, .int .i64 0]) (manifest_out Tryz.results34 _ _ w.heap.size v job (.slice qs outs.length caps) (by rfl) d0 d1 d2) rfl ?_
        refine ⟨set3_below HB.out (Nat.le_refl _) _ _ _, _, rfl, ?_, fun g hg => by have := row_low HOWN.out hg; omega⟩
        have h1 := set3_row (x := .int .u64 (v : Int)) (y := .string (bs job)) (z := .slice qs outs.length caps) HOWN.out HR.out (by decide)
        rw [HTK.out] at h1
        exact row_base h1
end
end Go.Proofs.YtoaihngckcbhiaaGreatDoor.Man
end
section
namespace Go.Proofs.YtoaihngckcbhiaaGreatDoor.Man
open Go.RowKit Go.Maps Wal Fil
set_option maxRecDepth 100000 in
set_option maxHeartbeats 1000000 in
theorem rsame32_any {v1 v2 : Nat} {j1 j2 : T} {l k : List T} {q1 q2 : Option Addr} {cap1 cap2 : Nat} (w : World) (h1 : TextsAt w q1 l) (h2 : TextsAt w q2 k) (hl : l.length ≤ 1000000) (hk : k.length ≤ 1000000) :
    Calls Tryz.prog 19 #[.agg #[.int .u64 (v1 : Int), .string (bs j1), .slice q1 l.length cap1], .agg #[.int .u64 (v2 : Int), .string (bs j2), .slice q2 k.length cap2]] w fun e w' => e = .returned (.bool (decide (v1 = v2 ∧ j1 = j2 ∧ l = k))) ∧ Below w.heap.size w w' := by
  have hb1 := below_alloc w (.cells #[.int .u64 (v1 : Int), .string (bs j1), .slice q1 l.length cap1] 32)
  have hb2 := hb1.alloc hb1.size (.cells #[.int .u64 (v2 : Int), .string (bs j2), .slice q2 k.length cap2] 32)
  have HS := Lib.hid (rsame_any l k q1 q2 cap1 cap2 _ (h1.below hb2) (h2.below hb2) (by unfold maxLen; omega) (by unfold maxLen; omega))
  have HB := Lib.hid hb2
  clear h1 h2 hb1 hb2
  by_cases hv : v1 = v2
  · subst hv
    by_cases hj : j1 = j2
    · subst hj
      have HD := Lib.hid (show decide (v1 = v1 ∧ j1 = j1 ∧ l = k) = decide (l = k) by simp)
      rw [HD.out]
      go_enter Tryz.func19, Tryz.ntmps19
      go_wp2_with fail
      refine HS.out.mono ?_
      rintro e w1 ⟨rfl, hb⟩
      have HB1 := Lib.hid (HB.out.trans (hb.mono HB.out.size))
      clear hb
      go_wp2_with fail
      go_ret
      exact ⟨by simp, HB1.out⟩
    · have HD := Lib.hid (show decide (v1 = v1 ∧ j1 = j2 ∧ l = k) = false by simp [hj])
      have hjb : (j1 == j2) = false := by simpa using hj
      rw [HD.out]
      go_enter Tryz.func19, Tryz.ntmps19
      go_wp2_with fail
      go_ret
      exact ⟨by simp, HB.out⟩
  · have HD := Lib.hid (show decide (v1 = v2 ∧ j1 = j2 ∧ l = k) = false by simp [hv])
    have hvi : ¬ (v1 : Int) = (v2 : Int) := by omega
    rw [HD.out]
    go_enter Tryz.func19, Tryz.ntmps19
    go_wp2_with fail
    go_ret
    exact ⟨by simp, HB.out⟩
set_option maxRecDepth 100000 in
set_option maxHeartbeats 1000000 in
theorem ralike32_any {v1 v2 : Nat} {j1 j2 : T} {l k : List T} {q1 q2 : Option Addr} {cap1 cap2 : Nat} (w : World) (h1 : TextsAt w q1 l) (h2 : TextsAt w q2 k) (hl : l.length ≤ 1000000) (hk : k.length ≤ 1000000) :
    Calls Tryz.prog 37 #[.agg #[.int .u64 (v1 : Int), .string (bs j1), .slice q1 l.length cap1], .agg #[.int .u64 (v2 : Int), .string (bs j2), .slice q2 k.length cap2]] w fun e w' => e = .returned (.bool (decide (v1 = v2 ∧ j1 = j2 ∧ l = k))) ∧ Below w.heap.size w w' := by
  have hb1 := below_alloc w (.cells #[.int .u64 (v1 : Int), .string (bs j1), .slice q1 l.length cap1] 52)
  have hb2 := hb1.alloc hb1.size (.cells #[.int .u64 (v2 : Int), .string (bs j2), .slice q2 k.length cap2] 52)
  have HS := Lib.hid (rsame_any l k q1 q2 cap1 cap2 _ (h1.below hb2) (h2.below hb2) (by unfold maxLen; omega) (by unfold maxLen; omega))
  have HB := Lib.hid hb2
  clear h1 h2 hb1 hb2
  by_cases hv : v1 = v2
  · subst hv
    by_cases hj : j1 = j2
    · subst hj
      have HD := Lib.hid (show decide (v1 = v1 ∧ j1 = j1 ∧ l = k) = decide (l = k) by simp)
      rw [HD.out]
      go_enter Tryz.func37, Tryz.ntmps37
      go_wp2_with fail
      refine HS.out.mono ?_
      rintro e w1 ⟨rfl, hb⟩
      have HB1 := Lib.hid (HB.out.trans (hb.mono HB.out.size))
      clear hb
      go_wp2_with fail
      go_ret
      exact ⟨by simp, HB1.out⟩
    · have HD := Lib.hid (show decide (v1 = v1 ∧ j1 = j2 ∧ l = k) = false by simp [hj])
      have hjb : (j1 == j2) = false := by simpa using hj
      rw [HD.out]
      go_enter Tryz.func37, Tryz.ntmps37
      go_wp2_with fail
      go_ret
      exact ⟨by simp, HB.out⟩
  · have HD := Lib.hid (show decide (v1 = v2 ∧ j1 = j2 ∧ l = k) = false by simp [hv])
    have hvi : ¬ (v1 : Int) = (v2 : Int) := by omega
    rw [HD.out]
    go_enter Tryz.func37, Tryz.ntmps37
    go_wp2_with fail
    go_ret
    exact ⟨by simp, HB.out⟩
set_option maxRecDepth 100000 in
set_option maxHeartbeats 1000000 in
theorem rold_any {w : World} {r : Nat} {A : M} {p u : Mf} (h : RGetsAt w r A) (hc : Canon A p u) (v : Nat) : Calls Tryz.prog 85 #[.pointer (some ⟨r, 0, none⟩), .int .u64 (v : Int)] w fun e w' => e = .returned (.bool (oldP p v)) ∧ Below w.heap.size w w' := by
  have hl := rlatest_any h hc
  unfold LatPost at hl
  cases p with
  | none =>
    have hO : Hid (oldP none v = false) := Lib.hid rfl
    have H := Lib.hid hl
    clear hl h hc
    go_enter Tryz.func85, Tryz.ntmps85
    go_wp2_with fail
    refine H.out.mono ?_
    rintro e w1 ⟨hb1, rfl⟩
    have HB1 := Lib.hid hb1
    clear hb1
    go_wp2_with fail
    go_ret
    rw [hO.out]
    exact ⟨rfl, HB1.out.alloc HB1.out.size _⟩
  | some x =>
    obtain ⟨x, j, l⟩ := x
    have hO : Hid (oldP (some (x, j, l)) v = decide (v ≤ x)) := Lib.hid rfl
    have H := Lib.hid hl
    clear hl h hc
    go_enter Tryz.func85, Tryz.ntmps85
    go_wp2_with fail
    refine H.out.mono ?_
    rintro e w1 ⟨hb1, sl, rfl, ho, _⟩
    obtain ⟨q, cap, rfl⟩ := slice_len ho
    have HB1 := Lib.hid hb1
    clear hb1 ho
    go_wp2_with fail
    go_ret
    rw [hO.out]
    refine ⟨?_, HB1.out.alloc HB1.out.size _⟩
    simp
end Go.Proofs.YtoaihngckcbhiaaGreatDoor.Man
end
section
namespace Go.Proofs.YtoaihngckcbhiaaGreatDoor.Man
open Go.RowKit Go.Maps Wal Fil
section
variable {w w' : World} {r : Nat} {A : M} {p u : Mf}
def RBeginPost (w : World) (r n : Nat) (q : (T × Nat × List T) × Int × M) (e : Ending) (w' : World) : Prop :=
  ∃ sl rv, e = .returned (.tuple #[.agg #[.int .u64 (q.1.2.1 : Int), .string (bs q.1.1), sl], .int .i64 q.2.1]) ∧ RowAt w' 0 sl q.1.2.2 ∧ RFil w' r rv q.2.2 (roomN n) ∧ Upd (fun k => k = r) w w'
theorem RFil.set3 {W : World} {g : Nat} {v a b c : Value} {most : Int} {A : M} (h : RFil W r v A most) (hr : W.heap[g]? = some (.cells #[a, b, c] 52)) (x y z : Value) :
    RFil (((W.setCell ⟨g, 0, none⟩ x).setCell ⟨g, 1, none⟩ y).setCell ⟨g, 2, none⟩ z) r v A most ∧ Upd (fun k => k = g) W (((W.setCell ⟨g, 0, none⟩ x).setCell ⟨g, 1, none⟩ y).setCell ⟨g, 2, none⟩ z) := by
  have hne : r ≠ g := BlkOf.ne ⟨_, _, h.1⟩ ⟨_, _, hr⟩ (by decide)
  have hu := (((Upd.refl (fun k => k = g) W).setCell (p := ⟨g, 0, none⟩) (.inl rfl) x).setCell (p := ⟨g, 1, none⟩) (.inl rfl) y).setCell (p := ⟨g, 2, none⟩) (.inl rfl) z
  exact ⟨⟨(hu.block r (blk_lt h.1) hne).trans h.1, set3_row h.2 hr (by decide)⟩, hu⟩
theorem rbegin_end {w5 w6 : World} {n : Nat} {rv a0 b0 c0 : Value} {A' : M} (hb5 : Below w.heap.size w w5) (hr6 : w6.heap[w.heap.size]? = some (.cells #[a0, b0, c0] 52)) (g1 : RFil w6 r rv A' (roomN n)) (g2 : Upd (fun k => k = r) w5 w6) (x : Nat) (j : T) (c : Int) :
    RBeginPost w r n ((j, x, []), c, A') (.returned (.tuple #[.agg #[.int .u64 (x : Int), .string (bs j), .slice none 0 0], .int .i64 c])) (((w6.setCell ⟨w.heap.size, 0, none⟩ (.int .u64 (x : Int))).setCell ⟨w.heap.size, 1, none⟩ (.string (bs j))).setCell ⟨w.heap.size, 2, none⟩ (.slice none 0 0)) := by
  obtain ⟨h1, h2⟩ := RFil.set3 g1 hr6 (.int .u64 (x : Int)) (.string (bs j)) (.slice none 0 0)
  exact ⟨.slice none 0 0, rv, rfl, by unfold RowAt; rw [strCells_enc]; exact World.ownsRow_nil _ _ _ _, h1, ((Upd.of_below hb5).trans g2 (fun k hk => .inl hk)).trans h2 (fun k hk => .inr (by omega))⟩
theorem rbegin_zero {w5 : World} {n : Nat} {rv a0 b0 c0 : Value} (h : RFil w r rv A (roomN n)) (hb5 : Below w.heap.size w w5) (_ : w5.heap[w.heap.size]? = some (.cells #[a0, b0, c0] 52)) (c : Int) :
    RBeginPost w r n (([], 0, []), c, A) (.returned (.tuple #[.agg #[.int .u64 0, .string (bs []), .slice none 0 0], .int .i64 c])) (((w5.setCell ⟨w.heap.size, 0, none⟩ (.int .u64 0)).setCell ⟨w.heap.size, 1, none⟩ (.string { data := #[] })).setCell ⟨w.heap.size, 2, none⟩ (.slice none 0 0)) := by
  have hb := set3_below hb5 (Nat.le_refl _) (.int .u64 0) (.string { data := #[] }) (.slice none 0 0)
  exact ⟨.slice none 0 0, rv, rfl, by unfold RowAt; rw [strCells_enc]; exact World.ownsRow_nil _ _ _ _, h.below hb, Upd.of_below hb⟩
-- BEGIN
set_option maxRecDepth 100000 in
set_option maxHeartbeats 8000000 in
theorem rbegin32_any {n : Nat} {rv0 : Value} (h : RFil w r rv0 A (roomN n)) (hc : Canon A p u) (hn : n ≤ 16384) (hA : used A ≤ roomN n) (v : Nat) (hv : v < 18446744073709551616) (job : T) (hj : job.length ≤ 100000000) :
    Calls Tryz.prog 39 #[.pointer (some ⟨r, 0, none⟩), .int .u64 (v : Int), .string (bs job)] w fun e w' => RBeginPost w r n (beginT n A v job) e w' := by
  have hul := used_len A
  have hroom := roomN_le hn
  have hpack := fun W => rpack_any v job [] none 0 W hv hj (fun i hi => by simp at hi) (by simp) (by simp [rowLen])
  have hlen := fun e => packT_len (v := v) (job := job) (l := []) e
  have hcode := packT_code v job []
  obtain ⟨S, hS⟩ : ∃ S, (packT v job []).1 = S := ⟨_, rfl⟩
  obtain ⟨E, hE⟩ : ∃ E, (packT v job []).2 = E := ⟨_, rfl⟩
  have hold0 := hc.old v
  have hbeg : beginT n A v job = if E ≠ 0 then (([], 0, []), E, A) else match u with
    | some (x, j, l) => if x = v ∧ j = job then ((job, v, l), 0, A) else if oldP p v then (([], 0, []), 2, A) else if codeC n A [⟨underT, S, false⟩] ≠ 0 then (([], 0, []), codeC n A [⟨underT, S, false⟩], A) else ((job, v, []), 0, nextC n A [⟨underT, S, false⟩])
    | none => if oldP p v then (([], 0, []), 2, A) else if codeC n A [⟨underT, S, false⟩] ≠ 0 then (([], 0, []), codeC n A [⟨underT, S, false⟩], A) else ((job, v, []), 0, nextC n A [⟨underT, S, false⟩]) := by
    unfold beginT
    rw [hS, hE, hold0, hc.now]
    rfl
  unfold RPackPost at hpack
  rw [hS, hE] at hpack
  rw [hS] at hlen
  rw [hE] at hlen hcode
  have HPACK := Lib.hid hpack
  have HBEG := Lib.hid hbeg
  have H := Lib.hid h
  have hg := rgets_of h (by omega)
  have HNOW := Lib.hid (fun W (hW : Below w.heap.size w W) => rnow32_any (hg.below hW) hc)
  have HOLD := Lib.hid (fun W (hW : Below w.heap.size w W) => rold_any (hg.below hW) hc v)
  have hup := hc.up
  clear hpack hbeg h hS hE hg hold0
  by_cases hE0 : E = 0
  · have hSl := hlen hE0
    have HCOM := Lib.hid (fun W (hW : Below w.heap.size w W) => rcommit6_any (cap := 1) (l := [⟨underT, S, false⟩]) (H.out.below (hW.alloc hW.size (.cells #[.string { data := #[117, 110, 100, 101, 114] }, .string (bs S), .bool false] 99))) hup (chgs_one (c := ⟨underT, S, false⟩) (heap_alloc_new W _)) hn hA (by simp) (by simp [weigh, underT]; omega))
    have HBEG2 := Lib.hid HBEG.out
    rw [if_neg (by simp [hE0])] at HBEG2
    have EQE : decide (E = 0) = true := by simp [hE0]
    have HE0 := Lib.hid hE0
    clear hlen hcode hc
    cases u with
    | none =>
      have HTAIL := Lib.hid (show beginT n A v job = if oldP p v then (([], 0, []), 2, A) else if codeC n A [⟨underT, S, false⟩] ≠ 0 then (([], 0, []), codeC n A [⟨underT, S, false⟩], A) else ((job, v, []), 0, nextC n A [⟨underT, S, false⟩]) from HBEG2.out)
      go_enter Tryz.func39, Tryz.ntmps39
      go_wp2_with fail
      refine (HPACK.out _).mono ?_
      rintro e w2 ⟨hb2, S', rfl, hS'⟩
      rw [EQE]
      obtain ⟨hr2, hb2', hlt2⟩ := new3 hb2
      have HB2 := Lib.hid hb2'
      have HR2 := Lib.hid hr2
      clear hb2 hr2 hb2'
      have hSS := (hS' HE0.out).symm
      subst hSS
      clear hS'
      go_wp2_with fail
      refine (HNOW.out _ HB2.out).mono ?_
      intro e w3 h3
      obtain ⟨hb3, rfl⟩ := h3
      have HB3 := Lib.hid (HB2.out.trans (hb3.mono HB2.out.size))
      have HR3 := Lib.hid ((hb3.block _ hlt2).trans HR2.out)
      have hlt3 : w.heap.size < w3.heap.size := Nat.lt_of_lt_of_le hlt2 hb3.size
      clear hb3 hlt2
      go_wp2_with fail
      refine (HOLD.out _ (HB3.out.alloc HB3.out.size _)).mono ?_
      rintro e w5 ⟨rfl, hb5⟩
      obtain ⟨_, hb5', _⟩ := new3 hb5
      have hlt5 : w.heap.size < w5.heap.size := Nat.lt_of_lt_of_le hlt3 hb5'.size
      have HB5 := Lib.hid (HB3.out.trans (hb5'.mono HB3.out.size))
      have HR5 := Lib.hid ((hb5'.block _ hlt3).trans HR3.out)
      clear hb5 hb5'
      cases hold : oldP p v with
      | true =>
        have HT := Lib.hid (show beginT n A v job = (([], 0, []), 2, A) by rw [HTAIL.out, hold]; rfl)
        clear hold
        obtain ⟨c0, c1, c2, f0, f1, f2⟩ := row3 HR5.out
        go_wp2_with fail
        obtain ⟨d0, d1, d2, _⟩ := row3 (set3 HR5.out (.int .u64 0) (.string { data := #[] }) (.slice none 0 0))
        refine bodyPost_ret (v := .tuple #[.agg #[.int .u64 0, .string (bs []), .slice none 0 0], .int .i64 2]) (under_out2 Tryz.results39 _ _ w.heap.size 0 [] (.slice none 0 0) (by rfl) d0 d1 d2) rfl ?_
        rw [HT.out]
        exact rbegin_zero H.out HB5.out HR5.out _
      | false =>
        have HTL := Lib.hid (show beginT n A v job = if codeC n A [⟨underT, S, false⟩] ≠ 0 then (([], 0, []), codeC n A [⟨underT, S, false⟩], A) else ((job, v, []), 0, nextC n A [⟨underT, S, false⟩]) by rw [HTAIL.out, hold]; rfl)
        clear hold
        go_wp2_with fail
        refine (HCOM.out _ HB5.out).mono ?_
        rintro e w6 ⟨rfl, rv, g1, g2⟩
        have hba := HB5.out.alloc HB5.out.size (.cells #[.string { data := #[117, 110, 100, 101, 114] }, .string (bs S), .bool false] 99)
        have HRA := (((Below.refl w5.heap.size w5).alloc (Nat.le_refl _) (.cells #[.string { data := #[117, 110, 100, 101, 114] }, .string (bs S), .bool false] 99)).block _ hlt5).trans HR5.out
        have HR6 := Lib.hid ((g2.block w.heap.size (blk_lt HRA) (fun e => by have := blk_lt H.out.1; omega)).trans HRA)
        have HG1 := Lib.hid g1; have HG2 := Lib.hid g2; have HBA := Lib.hid hba
        clear g1 g2 hba HRA
        obtain ⟨K, hK⟩ : ∃ K, codeC n A [⟨underT, S, false⟩] = K := ⟨_, rfl⟩
        rw [hK]
        by_cases hK0 : K = 0
        · have HT := Lib.hid (show beginT n A v job = ((job, v, []), 0, nextC n A [⟨underT, S, false⟩]) by rw [HTL.out, hK, if_neg (by simp [hK0])])
          subst hK0
          clear hK
          obtain ⟨c0, c1, c2, f0, f1, f2⟩ := row3 HR6.out
          go_wp2_with fail
          obtain ⟨d0, d1, d2, _⟩ := row3 (set3 HR6.out (.int .u64 (v : Int)) (.string (bs job)) (.slice none 0 0))
          refine bodyPost_ret (v := .tuple #[.agg #[.int .u64 (v : Int), .string (bs job), .slice none 0 0], .int .i64 0]) (under_out2 Tryz.results39 _ _ w.heap.size v job (.slice none 0 0) (by rfl) d0 d1 d2) rfl ?_
          rw [HT.out]
          exact rbegin_end HBA.out HR6.out HG1.out HG2.out v job 0
        · have HT := Lib.hid (show beginT n A v job = (([], 0, []), K, A) by rw [HTL.out, hK, if_pos hK0])
          have hsame := nextC_not (n := n) (A := A) (l := [⟨underT, S, false⟩]) (by rw [hK]; exact hK0)
          clear hK
          obtain ⟨c0, c1, c2, f0, f1, f2⟩ := row3 HR6.out
          go_wp2_with fail
          obtain ⟨d0, d1, d2, _⟩ := row3 (set3 HR6.out (.int .u64 0) (.string { data := #[] }) (.slice none 0 0))
          refine bodyPost_ret (v := .tuple #[.agg #[.int .u64 0, .string (bs []), .slice none 0 0], .int .i64 K]) (under_out2 Tryz.results39 _ _ w.heap.size 0 [] (.slice none 0 0) (by rfl) d0 d1 d2) rfl ?_
          rw [HT.out]
          exact rbegin_end HBA.out HR6.out (hsame ▸ HG1.out) HG2.out 0 [] K
    | some x =>
      obtain ⟨x, j, l⟩ := x
      by_cases hx : x = v
      · by_cases hj2 : j = job
        · have HT := Lib.hid (show beginT n A v job = ((job, v, l), 0, A) by rw [HBEG2.out]; show (if x = v ∧ j = job then _ else _) = _; rw [if_pos ⟨hx, hj2⟩])
          have hx' := hx.symm; have hj' := hj2.symm
          subst hx' hj'
          go_enter Tryz.func39, Tryz.ntmps39
          go_wp2_with fail
          refine (HPACK.out _).mono ?_
          rintro e w2 ⟨hb2, S', rfl, hS'⟩
          rw [EQE]
          obtain ⟨hr2, hb2', hlt2⟩ := new3 hb2
          have HB2 := Lib.hid hb2'
          have HR2 := Lib.hid hr2
          clear hb2 hr2 hb2'
          have hSS := (hS' HE0.out).symm
          subst hSS
          clear hS'
          go_wp2_with fail
          refine (HNOW.out _ HB2.out).mono ?_
          intro e w3 h3
          obtain ⟨hb3, sl, rfl, ho3, hg3⟩ := h3
          obtain ⟨q3, cap3, rfl⟩ := slice_len ho3
          have HB3 := Lib.hid (HB2.out.trans (hb3.mono HB2.out.size))
          have HR3 := Lib.hid ((hb3.block _ hlt2).trans HR2.out)
          have hlt3 : w.heap.size < w3.heap.size := Nat.lt_of_lt_of_le hlt2 hb3.size
          clear hb3 hlt2
          have HO3 := Lib.hid ho3
          clear ho3 hg3
          obtain ⟨c0, c1, c2, f0, f1, f2⟩ := row3 HR3.out
          have hx2 : ∀ ob, (w3.alloc ob).cell? ⟨w.heap.size, 0, none⟩ = some (.int .u64 0) ∧ (w3.alloc ob).cell? ⟨w.heap.size, 1, none⟩ = some (.string { data := #[] }) ∧ (w3.alloc ob).cell? ⟨w.heap.size, 2, none⟩ = some (.slice none 0 0) := fun ob => by
            have h1 := (((Below.refl w3.heap.size w3).alloc (Nat.le_refl _) ob).block _ hlt3).trans HR3.out
            obtain ⟨e0, e1, e2, _⟩ := row3 h1
            exact ⟨e0, e1, e2⟩
          go_wp2_with fail
          have hz1 := set3 HR3.out (.int .u64 (v : Int)) (.string (bs job)) (.slice q3 l.length cap3)
          have hz2 := (heap_alloc_old _ (.cells #[.int .u64 (v : Int), .string (bs job), .slice q3 l.length cap3] 52) (blk_lt hz1)).trans hz1
          obtain ⟨d0, d1, d2, _⟩ := row3 hz2
          refine bodyPost_ret (v := .tuple #[.agg #[.int .u64 (v : Int), .string (bs job), .slice q3 l.length cap3], .int .i64 0]) (under_out2 Tryz.results39 _ _ w.heap.size v job (.slice q3 l.length cap3) (by rfl) d0 d1 d2) rfl ?_
          rw [HT.out]
          have hbe0 := set3_below HB3.out (Nat.le_refl _) (.int .u64 (v : Int)) (.string (bs job)) (.slice q3 l.length cap3)
          have hbe := hbe0.alloc hbe0.size (.cells #[.int .u64 (v : Int), .string (bs job), .slice q3 l.length cap3] 52)
          exact ⟨.slice q3 l.length cap3, rv0, rfl, (set3_row HO3.out HR3.out (by decide)).alloc _, H.out.below hbe, Upd.of_below hbe⟩
        · have HTAIL := Lib.hid (show beginT n A v job = if oldP p v then (([], 0, []), 2, A) else if codeC n A [⟨underT, S, false⟩] ≠ 0 then (([], 0, []), codeC n A [⟨underT, S, false⟩], A) else ((job, v, []), 0, nextC n A [⟨underT, S, false⟩]) by rw [HBEG2.out]; show (if x = v ∧ j = job then _ else _) = _; rw [if_neg (fun e => hj2 e.2)])
          have hx' := hx.symm
          subst hx'
          have hjb : (j == job) = false := by simpa using hj2
          go_enter Tryz.func39, Tryz.ntmps39
          go_wp2_with fail
          refine (HPACK.out _).mono ?_
          rintro e w2 ⟨hb2, S', rfl, hS'⟩
          rw [EQE]
          obtain ⟨hr2, hb2', hlt2⟩ := new3 hb2
          have HB2 := Lib.hid hb2'
          have HR2 := Lib.hid hr2
          clear hb2 hr2 hb2'
          have hSS := (hS' HE0.out).symm
          subst hSS
          clear hS'
          go_wp2_with fail
          refine (HNOW.out _ HB2.out).mono ?_
          intro e w3 h3
          obtain ⟨hb3, sl, rfl, ho3, hg3⟩ := h3
          obtain ⟨q3, cap3, rfl⟩ := slice_len ho3
          clear ho3 hg3
          have HB3 := Lib.hid (HB2.out.trans (hb3.mono HB2.out.size))
          have HR3 := Lib.hid ((hb3.block _ hlt2).trans HR2.out)
          have hlt3 : w.heap.size < w3.heap.size := Nat.lt_of_lt_of_le hlt2 hb3.size
          clear hb3 hlt2
          go_wp2_with fail
          refine (HOLD.out _ (HB3.out.alloc HB3.out.size _)).mono ?_
          rintro e w5 ⟨rfl, hb5⟩
          obtain ⟨_, hb5', _⟩ := new3 hb5
          have hlt5 : w.heap.size < w5.heap.size := Nat.lt_of_lt_of_le hlt3 hb5'.size
          have HB5 := Lib.hid (HB3.out.trans (hb5'.mono HB3.out.size))
          have HR5 := Lib.hid ((hb5'.block _ hlt3).trans HR3.out)
          clear hb5 hb5'
          cases hold : oldP p v with
          | true =>
            have HT := Lib.hid (show beginT n A v job = (([], 0, []), 2, A) by rw [HTAIL.out, hold]; rfl)
            clear hold
            obtain ⟨c0, c1, c2, f0, f1, f2⟩ := row3 HR5.out
            go_wp2_with fail
            obtain ⟨d0, d1, d2, _⟩ := row3 (set3 HR5.out (.int .u64 0) (.string { data := #[] }) (.slice none 0 0))
            refine bodyPost_ret (v := .tuple #[.agg #[.int .u64 0, .string (bs []), .slice none 0 0], .int .i64 2]) (under_out2 Tryz.results39 _ _ w.heap.size 0 [] (.slice none 0 0) (by rfl) d0 d1 d2) rfl ?_
            rw [HT.out]
            exact rbegin_zero H.out HB5.out HR5.out _
          | false =>
            have HTL := Lib.hid (show beginT n A v job = if codeC n A [⟨underT, S, false⟩] ≠ 0 then (([], 0, []), codeC n A [⟨underT, S, false⟩], A) else ((job, v, []), 0, nextC n A [⟨underT, S, false⟩]) by rw [HTAIL.out, hold]; rfl)
            clear hold
            go_wp2_with fail
            refine (HCOM.out _ HB5.out).mono ?_
            rintro e w6 ⟨rfl, rv, g1, g2⟩
            have hba := HB5.out.alloc HB5.out.size (.cells #[.string { data := #[117, 110, 100, 101, 114] }, .string (bs S), .bool false] 99)
            have HRA := (((Below.refl w5.heap.size w5).alloc (Nat.le_refl _) (.cells #[.string { data := #[117, 110, 100, 101, 114] }, .string (bs S), .bool false] 99)).block _ hlt5).trans HR5.out
            have HR6 := Lib.hid ((g2.block w.heap.size (blk_lt HRA) (fun e => by have := blk_lt H.out.1; omega)).trans HRA)
            have HG1 := Lib.hid g1; have HG2 := Lib.hid g2; have HBA := Lib.hid hba
            clear g1 g2 hba HRA
            obtain ⟨K, hK⟩ : ∃ K, codeC n A [⟨underT, S, false⟩] = K := ⟨_, rfl⟩
            rw [hK]
            by_cases hK0 : K = 0
            · have HT := Lib.hid (show beginT n A v job = ((job, v, []), 0, nextC n A [⟨underT, S, false⟩]) by rw [HTL.out, hK, if_neg (by simp [hK0])])
              subst hK0
              clear hK
              obtain ⟨c0, c1, c2, f0, f1, f2⟩ := row3 HR6.out
              go_wp2_with fail
              obtain ⟨d0, d1, d2, _⟩ := row3 (set3 HR6.out (.int .u64 (v : Int)) (.string (bs job)) (.slice none 0 0))
              refine bodyPost_ret (v := .tuple #[.agg #[.int .u64 (v : Int), .string (bs job), .slice none 0 0], .int .i64 0]) (under_out2 Tryz.results39 _ _ w.heap.size v job (.slice none 0 0) (by rfl) d0 d1 d2) rfl ?_
              rw [HT.out]
              exact rbegin_end HBA.out HR6.out HG1.out HG2.out v job 0
            · have HT := Lib.hid (show beginT n A v job = (([], 0, []), K, A) by rw [HTL.out, hK, if_pos hK0])
              have hsame := nextC_not (n := n) (A := A) (l := [⟨underT, S, false⟩]) (by rw [hK]; exact hK0)
              clear hK
              obtain ⟨c0, c1, c2, f0, f1, f2⟩ := row3 HR6.out
              go_wp2_with fail
              obtain ⟨d0, d1, d2, _⟩ := row3 (set3 HR6.out (.int .u64 0) (.string { data := #[] }) (.slice none 0 0))
              refine bodyPost_ret (v := .tuple #[.agg #[.int .u64 0, .string (bs []), .slice none 0 0], .int .i64 K]) (under_out2 Tryz.results39 _ _ w.heap.size 0 [] (.slice none 0 0) (by rfl) d0 d1 d2) rfl ?_
              rw [HT.out]
              exact rbegin_end HBA.out HR6.out (hsame ▸ HG1.out) HG2.out 0 [] K
      · have HTAIL := Lib.hid (show beginT n A v job = if oldP p v then (([], 0, []), 2, A) else if codeC n A [⟨underT, S, false⟩] ≠ 0 then (([], 0, []), codeC n A [⟨underT, S, false⟩], A) else ((job, v, []), 0, nextC n A [⟨underT, S, false⟩]) by rw [HBEG2.out]; show (if x = v ∧ j = job then _ else _) = _; rw [if_neg (fun e => hx e.1)])
        have hxi : ¬ (x : Int) = (v : Int) := by omega
        go_enter Tryz.func39, Tryz.ntmps39
        go_wp2_with fail
        refine (HPACK.out _).mono ?_
        rintro e w2 ⟨hb2, S', rfl, hS'⟩
        rw [EQE]
        obtain ⟨hr2, hb2', hlt2⟩ := new3 hb2
        have HB2 := Lib.hid hb2'
        have HR2 := Lib.hid hr2
        clear hb2 hr2 hb2'
        have hSS := (hS' HE0.out).symm
        subst hSS
        clear hS'
        go_wp2_with fail
        refine (HNOW.out _ HB2.out).mono ?_
        intro e w3 h3
        obtain ⟨hb3, sl, rfl, ho3, hg3⟩ := h3
        obtain ⟨q3, cap3, rfl⟩ := slice_len ho3
        clear ho3 hg3
        have HB3 := Lib.hid (HB2.out.trans (hb3.mono HB2.out.size))
        have HR3 := Lib.hid ((hb3.block _ hlt2).trans HR2.out)
        have hlt3 : w.heap.size < w3.heap.size := Nat.lt_of_lt_of_le hlt2 hb3.size
        clear hb3 hlt2
        go_wp2_with fail
        refine (HOLD.out _ (HB3.out.alloc HB3.out.size _)).mono ?_
        rintro e w5 ⟨rfl, hb5⟩
        obtain ⟨_, hb5', _⟩ := new3 hb5
        have hlt5 : w.heap.size < w5.heap.size := Nat.lt_of_lt_of_le hlt3 hb5'.size
        have HB5 := Lib.hid (HB3.out.trans (hb5'.mono HB3.out.size))
        have HR5 := Lib.hid ((hb5'.block _ hlt3).trans HR3.out)
        clear hb5 hb5'
        cases hold : oldP p v with
        | true =>
          have HT := Lib.hid (show beginT n A v job = (([], 0, []), 2, A) by rw [HTAIL.out, hold]; rfl)
          clear hold
          obtain ⟨c0, c1, c2, f0, f1, f2⟩ := row3 HR5.out
          go_wp2_with fail
          obtain ⟨d0, d1, d2, _⟩ := row3 (set3 HR5.out (.int .u64 0) (.string { data := #[] }) (.slice none 0 0))
          refine bodyPost_ret (v := .tuple #[.agg #[.int .u64 0, .string (bs []), .slice none 0 0], .int .i64 2]) (under_out2 Tryz.results39 _ _ w.heap.size 0 [] (.slice none 0 0) (by rfl) d0 d1 d2) rfl ?_
          rw [HT.out]
          exact rbegin_zero H.out HB5.out HR5.out _
        | false =>
          have HTL := Lib.hid (show beginT n A v job = if codeC n A [⟨underT, S, false⟩] ≠ 0 then (([], 0, []), codeC n A [⟨underT, S, false⟩], A) else ((job, v, []), 0, nextC n A [⟨underT, S, false⟩]) by rw [HTAIL.out, hold]; rfl)
          clear hold
          go_wp2_with fail
          refine (HCOM.out _ HB5.out).mono ?_
          rintro e w6 ⟨rfl, rv, g1, g2⟩
          have hba := HB5.out.alloc HB5.out.size (.cells #[.string { data := #[117, 110, 100, 101, 114] }, .string (bs S), .bool false] 99)
          have HRA := (((Below.refl w5.heap.size w5).alloc (Nat.le_refl _) (.cells #[.string { data := #[117, 110, 100, 101, 114] }, .string (bs S), .bool false] 99)).block _ hlt5).trans HR5.out
          have HR6 := Lib.hid ((g2.block w.heap.size (blk_lt HRA) (fun e => by have := blk_lt H.out.1; omega)).trans HRA)
          have HG1 := Lib.hid g1; have HG2 := Lib.hid g2; have HBA := Lib.hid hba
          clear g1 g2 hba HRA
          obtain ⟨K, hK⟩ : ∃ K, codeC n A [⟨underT, S, false⟩] = K := ⟨_, rfl⟩
          rw [hK]
          by_cases hK0 : K = 0
          · have HT := Lib.hid (show beginT n A v job = ((job, v, []), 0, nextC n A [⟨underT, S, false⟩]) by rw [HTL.out, hK, if_neg (by simp [hK0])])
            subst hK0
            clear hK
            obtain ⟨c0, c1, c2, f0, f1, f2⟩ := row3 HR6.out
            go_wp2_with fail
            obtain ⟨d0, d1, d2, _⟩ := row3 (set3 HR6.out (.int .u64 (v : Int)) (.string (bs job)) (.slice none 0 0))
            refine bodyPost_ret (v := .tuple #[.agg #[.int .u64 (v : Int), .string (bs job), .slice none 0 0], .int .i64 0]) (under_out2 Tryz.results39 _ _ w.heap.size v job (.slice none 0 0) (by rfl) d0 d1 d2) rfl ?_
            rw [HT.out]
            exact rbegin_end HBA.out HR6.out HG1.out HG2.out v job 0
          · have HT := Lib.hid (show beginT n A v job = (([], 0, []), K, A) by rw [HTL.out, hK, if_pos hK0])
            have hsame := nextC_not (n := n) (A := A) (l := [⟨underT, S, false⟩]) (by rw [hK]; exact hK0)
            clear hK
            obtain ⟨c0, c1, c2, f0, f1, f2⟩ := row3 HR6.out
            go_wp2_with fail
            obtain ⟨d0, d1, d2, _⟩ := row3 (set3 HR6.out (.int .u64 0) (.string { data := #[] }) (.slice none 0 0))
            refine bodyPost_ret (v := .tuple #[.agg #[.int .u64 0, .string (bs []), .slice none 0 0], .int .i64 K]) (under_out2 Tryz.results39 _ _ w.heap.size 0 [] (.slice none 0 0) (by rfl) d0 d1 d2) rfl ?_
            rw [HT.out]
            exact rbegin_end HBA.out HR6.out (hsame ▸ HG1.out) HG2.out 0 [] K
  · have hE5 : E = 5 := hcode.resolve_left hE0
    have HT := Lib.hid (show beginT n A v job = (([], 0, []), 5, A) by rw [HBEG.out, if_pos hE0, hE5])
    have EQE : decide (E = 0) = false := by simp [hE0]
    clear hlen hcode
    go_enter Tryz.func39, Tryz.ntmps39
    go_wp2_with fail
    refine (HPACK.out _).mono ?_
    rintro e w2 ⟨hb2, S', rfl, hS'⟩
    rw [EQE]
    obtain ⟨hr2, hb2', hlt2⟩ := new3 hb2
    have HB2 := Lib.hid hb2'
    have HR2 := Lib.hid hr2
    clear hb2 hr2 hb2'
    clear hS'
    obtain ⟨c0, c1, c2, f0, f1, f2⟩ := row3 HR2.out
    go_wp2_with fail
    obtain ⟨d0, d1, d2, _⟩ := row3 (set3 HR2.out (.int .u64 0) (.string { data := #[] }) (.slice none 0 0))
    refine bodyPost_ret (v := .tuple #[.agg #[.int .u64 0, .string (bs []), .slice none 0 0], .int .i64 5]) (under_out2 Tryz.results39 _ _ w.heap.size 0 [] (.slice none 0 0) (by rfl) d0 d1 d2) rfl ?_
    rw [HT.out]
    exact rbegin_zero H.out HB2.out HR2.out _
-- END
end
end Go.Proofs.YtoaihngckcbhiaaGreatDoor.Man
end
section
namespace Go.Proofs.YtoaihngckcbhiaaGreatDoor.Man
open Go.RowKit Go.Maps Wal Fil
section
variable {w w' : World} {r : Nat} {A : M} {p u : Mf}
def RPost (w : World) (r n : Nat) (q : Int × M) (e : Ending) (w' : World) : Prop := e = .returned (.int .i64 q.1) ∧ ∃ rv, RFil w' r rv q.2 (roomN n) ∧ Upd (fun k => k = r) w w'
set_option maxRecDepth 100000 in
set_option maxHeartbeats 8000000 in
theorem rdone32_any {n : Nat} {rv0 : Value} (h : RFil w r rv0 A (roomN n)) (hc : Canon A p u) (hn : n ≤ 16384) (hA : used A ≤ roomN n) {q : Option Addr} {cap : Nat} {k : List T} (hk : TextsAt w q k) (hq : q = none → cap = 0) (hkl : k.length ≤ 40000) (hks : ∀ t ∈ k, t.length ≤ 500000) :
    Calls Tryz.prog 40 #[.pointer (some ⟨r, 0, none⟩), .slice q k.length cap] w fun e w' => RPost w r n (doneR n A k) e w' := by
  have hul := used_len A
  have hroom := roomN_le hn
  have hup := hc.up
  have hg := rgets_of h (by omega)
  have HNOW := Lib.hid (rnow32_any hg hc)
  have H := Lib.hid h
  have HK := Lib.hid hk
  have hnow := hc.now
  cases u with
  | none =>
    have HT := Lib.hid (show doneR n A k = (3, A) by unfold doneR; rw [hnow]; rfl)
    clear h hk hg hc hnow hks hup
    go_enter Tryz.func40, Tryz.ntmps40
    go_wp2_with fail
    refine HNOW.out.mono ?_
    rintro e w2 ⟨hb2, rfl⟩
    have HB2 := Lib.hid hb2
    clear hb2
    go_wp2_with fail
    go_ret
    rw [HT.out]
    have hb := HB2.out.alloc HB2.out.size (.cells #[.int .u64 0, .string (bs []), .slice none 0 0] 52)
    exact ⟨rfl, rv0, H.out.below hb, Upd.of_below hb⟩
  | some x =>
    obtain ⟨v, job, l⟩ := x
    obtain ⟨f1, f2, f3, f4, f5⟩ := hc.fu
    obtain ⟨_, _, _, _, hls⟩ := now_some hnow
    obtain ⟨L, hL0⟩ : ∃ L, riseT (l ++ k) = L := ⟨_, rfl⟩
    have HL := Lib.hid (show risingR (l ++ k) = L by rw [risingR_eq, hL0])
    have HLL := Lib.hid (show ∀ t ∈ L, t.length ≤ 500000 from fun t ht => by
      rw [← hL0, riseT_mem, List.mem_append] at ht
      rcases ht with e | e
      · have := hls t e; omega
      · exact hks t e)
    have hcode := packT_code v job L
    obtain ⟨S, hS⟩ : ∃ S, (packT v job L).1 = S := ⟨_, rfl⟩
    obtain ⟨E, hE⟩ : ∃ E, (packT v job L).2 = E := ⟨_, rfl⟩
    have HTT := Lib.hid (show doneR n A k = if 1000 < L.length then (4, A) else if E ≠ 0 then (E, A) else (codeC n A [⟨underT, S, false⟩], nextC n A [⟨underT, S, false⟩]) by unfold doneR; rw [hnow]; show (if 1000 < (riseT (l ++ k)).length then _ else _) = _; rw [hL0, hS, hE])
    have hSl : E = 0 → S.length ≤ 65535 := fun e => by rw [← hS]; exact packT_len (by rw [hE]; exact e)
    rw [hE] at hcode
    have HSE := Lib.hid (And.intro hS hE)
    have HV := Lib.hid f1
    clear h hk hg hc hnow hks hL0 hls f1 f2 f5 hS hE
    go_enter Tryz.func40, Tryz.ntmps40
    go_wp2_with fail
    refine HNOW.out.mono ?_
    rintro e w2 ⟨hb2, sl, rfl, ho2, hg2⟩
    obtain ⟨q2, cap2, rfl⟩ := slice_len ho2
    have HB2 := Lib.hid hb2
    have hba := HB2.out.alloc HB2.out.size (.cells #[.int .u64 (v : Int), .string (bs job), .slice q2 l.length cap2] 52)
    have HBA := Lib.hid hba
    have HRA := Lib.hid (heap_alloc_new w2 (.cells #[.int .u64 (v : Int), .string (bs job), .slice q2 l.length cap2] 52))
    have HOA := Lib.hid (ho2.alloc (.cells #[.int .u64 (v : Int), .string (bs job), .slice q2 l.length cap2] 52))
    have HKA := Lib.hid (HK.out.below hba)
    have HSA := Lib.hid (World.size_alloc w2 (.cells #[.int .u64 (v : Int), .string (bs job), .slice q2 l.length cap2] 52))
    have hq2c : q2 = none → cap2 = 0 := fun e => by
      rcases RowAt.parts (show RowAt w2 0 (.slice q2 l.length cap2) l from ho2) with ⟨e1, _⟩ | ⟨_, cap', e1, _⟩
      · injection e1
      · injection e1 with e1; rw [e1] at e; cases e
    have HQ2 := Lib.hid hq2c
    obtain ⟨c0, c1, c2, f0, f1', f2'⟩ := row3 HRA.out
    have HREF := Lib.hid (Below.refl (w2.alloc (.cells #[.int .u64 (v : Int), .string (bs job), .slice q2 l.length cap2] 52)).heap.size (w2.alloc (.cells #[.int .u64 (v : Int), .string (bs job), .slice q2 l.length cap2] 52)))
    clear hb2 hg2 ho2 hba hq2c
    go_wp2_with (first
      | (at_builtin; refine wpList_append_texts rfl _ _ rfl (w2.heap.size + 1) (.slice none 0 0) [] l rfl (by unfold RowAt; rw [strCells_enc]; exact World.ownsRow_nil _ _ _ _) q2 cap2 rfl (textsAt_of_row HOA.out) HQ2.out (by simp; omega) (by rw [HSA.out]; omega) ?_; intro v3 w3 ho3 hg3 hat3; rw [List.nil_append] at ho3; obtain ⟨q3, cap3, rfl⟩ := slice_len ho3; have HO3 := Lib.hid ho3; have HG3 := Lib.hid (HREF.out.grown hg3 (Nat.le_refl _) (fun j e => by cases e)); clear ho3 hg3 hat3)
      | (at_builtin; refine wpList_append_texts rfl _ _ rfl (w2.heap.size + 1) (.slice q3 l.length cap3) l k rfl HO3.out q cap rfl (HKA.out.below HG3.out) hq (by omega) (by have := HG3.out.size; rw [HSA.out] at this; exact this) ?_; intro v4 w4 ho4 hg4 hat4; obtain ⟨q4, cap4, rfl⟩ := slice_len ho4; have HO4 := Lib.hid ho4; have HG4 := Lib.hid (HG3.out.grown hg4 HG3.out.size (fun j hj => by rw [HSA.out]; exact row_low HO3.out hj)); clear ho4 hg4 hat4))
    have HB4 := Lib.hid (HBA.out.trans (HG4.out.mono HBA.out.size))
    have HR4 := Lib.hid ((HG4.out.block w2.heap.size (by rw [HSA.out]; omega)).trans HRA.out)
    have HRS := Lib.hid (rising26_any (cap := cap4) (textsAt_of_row (n := (l ++ k).length) (c := cap4) HO4.out) (by rw [List.length_append]; omega))
    rw [List.length_append] at HRS
    rw [HL.out] at HRS
    clear c0 c1 c2 f0 f1' f2'
    refine HRS.out.mono ?_
    rintro e w5 ⟨v5, rfl, ho5, hb5⟩
    obtain ⟨q5, cap5, rfl⟩ := slice_len ho5
    have HO5 := Lib.hid ho5
    have HB5 := Lib.hid (HB4.out.trans (hb5.mono HB4.out.size))
    have HR5 := Lib.hid ((hb5.block _ (blk_lt HR4.out)).trans HR4.out)
    clear ho5 hb5
    obtain ⟨c0, c1, c2, f0, f1', f2'⟩ := row3 HR5.out
    by_cases hL : 1000 < L.length
    · have HT := Lib.hid (show doneR n A k = (4, A) by rw [HTT.out, if_pos hL])
      have hLi : (1000 : Int) < (L.length : Int) := by omega
      go_wp2_with fail
      go_ret
      rw [HT.out]
      exact ⟨rfl, rv0, H.out.below HB5.out, Upd.of_below HB5.out⟩
    · have hLi : ¬ (1000 : Int) < (L.length : Int) := by omega
      have hpk := rpack_any v job L q5 cap5 w5 HV.out (by omega) (textsAt_of_row HO5.out) (by omega) (rowLen_small HLL.out (Nat.le_of_not_lt hL))
      unfold RPackPost at hpk
      rw [HSE.out.1, HSE.out.2] at hpk
      have HPK := Lib.hid hpk
      clear hpk
      by_cases hE0 : E = 0
      · have hSl := hSl hE0
        have HT := Lib.hid (show doneR n A k = (codeC n A [⟨underT, S, false⟩], nextC n A [⟨underT, S, false⟩]) by rw [HTT.out, if_neg hL, if_neg (by simp [hE0])])
        have HE0 := Lib.hid hE0
        have EQE : decide (E = 0) = true := by simp [hE0]
        clear hE0
        go_wp2_with fail
        refine HPK.out.mono ?_
        rintro e w6 ⟨hb6, S', rfl, hS'⟩
        rw [EQE]
        have hSS := (hS' HE0.out).symm
        subst hSS
        have HB6 := Lib.hid (HB5.out.trans (hb6.mono HB5.out.size))
        clear hS' hb6 EQE
        have HCOM := Lib.hid (rcommit6_any (cap := 1) (l := [⟨underT, S, false⟩]) (H.out.below (HB6.out.alloc HB6.out.size (.cells #[.string { data := #[117, 110, 100, 101, 114] }, .string (bs S), .bool false] 99))) hup (chgs_one (c := ⟨underT, S, false⟩) (heap_alloc_new w6 _)) hn hA (by simp) (by simp [weigh, underT]; omega))
        have hba := HB6.out.alloc HB6.out.size (.cells #[.string { data := #[117, 110, 100, 101, 114] }, .string (bs S), .bool false] 99)
        have HBA6 := Lib.hid hba
        clear hba
        go_wp2_with fail
        refine HCOM.out.mono ?_
        rintro e w7 ⟨rfl, rv, g1, g2⟩
        have HG := Lib.hid (And.intro g1 ((Upd.of_below HBA6.out).trans g2 (fun k hk => .inl hk)))
        clear g1 g2
        go_wp2_with fail
        go_ret
        rw [HT.out]
        exact ⟨rfl, rv, HG.out.1, HG.out.2⟩
      · have hE5 : E = 5 := hcode.resolve_left hE0
        have HT := Lib.hid (show doneR n A k = (5, A) by rw [HTT.out, if_neg hL, if_pos hE0, hE5])
        have EQE : decide (E = 0) = false := by simp [hE0]
        clear hE0 hE5
        go_wp2_with fail
        refine HPK.out.mono ?_
        rintro e w6 ⟨hb6, S', rfl, hS'⟩
        rw [EQE]
        have HB6 := Lib.hid (HB5.out.trans (hb6.mono HB5.out.size))
        clear hS' hb6
        go_wp2_with fail
        go_ret
        rw [HT.out]
        exact ⟨rfl, rv0, H.out.below HB6.out, Upd.of_below HB6.out⟩
end
end Go.Proofs.YtoaihngckcbhiaaGreatDoor.Man
end
section
namespace Go.Proofs.YtoaihngckcbhiaaGreatDoor.Man
open Go.RowKit Go.Maps Wal Fil
def pubR (S : T) (l : List T) (k : Nat) : List Chg := pubC S l (min k l.length) (k - l.length)
theorem pubR_zero (S : T) (l : List T) : pubR S l 0 = [⟨manT, S, false⟩, ⟨underT, [], true⟩] := by unfold pubR pubC; simp
theorem pubR_out (S : T) (l : List T) (k : Nat) (h : k < l.length) : pubR S l (k + 1) = pubR S l k ++ [outG l k] := by
  unfold pubR
  rw [Nat.min_eq_left (by omega), Nat.min_eq_left (by omega), show k + 1 - l.length = 0 by omega, show k - l.length = 0 by omega, pubC_out]
theorem pubR_gone (S : T) (l : List T) (k : Nat) (h : l.length ≤ k) : pubR S l (k + 1) = pubR S l k ++ [⟨outT k, [], true⟩] := by
  unfold pubR
  rw [Nat.min_eq_right (by omega), Nat.min_eq_right (by omega), show k + 1 - l.length = k - l.length + 1 by omega, pubC_gone]
  unfold goneG
  rw [show l.length + (k - l.length) = k by omega]
theorem pubR_length (S : T) (l : List T) (k : Nat) : (pubR S l k).length = 2 + k := by
  unfold pubR
  rw [pubC_length]
  omega
theorem pubR_all (S : T) (l : List T) (h : l.length ≤ 16) : pubR S l 16 = pubC S l l.length (16 - l.length) := by
  unfold pubR
  rw [Nat.min_eq_right h]
theorem chgCells_two (S : T) : chgCells [⟨manT, S, false⟩, ⟨underT, [], true⟩] = [.string { data := #[109, 97, 110, 105, 102, 101, 115, 116] }, .string (bs S), .bool false, .string { data := #[117, 110, 100, 101, 114] }, .string { data := #[] }, .bool true] := by
  unfold chgCells
  rfl
section
variable {w w' : World} {r : Nat} {A : M} {p u : Mf}
set_option maxRecDepth 100000 in
set_option maxHeartbeats 8000000 in
theorem rpublish32_any {n : Nat} {rv0 : Value} (h : RFil w r rv0 A (roomN n)) (hc : Canon A p u) (hn : n ≤ 16384) (hA : used A ≤ roomN n) {q : Option Addr} {cap : Nat} {outs : List T} (ho : TextsAt w q outs) (hol : outs.length ≤ 1000) (hmax : ∀ s ∈ outs, s.length ≤ 300000000000000) (v : Nat) (hv : v < 18446744073709551616) (job : T) (hj : job.length ≤ 100000000)
    (hsum : (∀ s ∈ outs, s.length ≤ 65531) → (outs.map List.length).sum ≤ 800000) :
    Calls Tryz.prog 38 #[.pointer (some ⟨r, 0, none⟩), .agg #[.int .u64 (v : Int), .string (bs job), .slice q outs.length cap]] w fun e w' => RPost w r n (pubT n A v job outs) e w' := by
  have hul := used_len A
  have hroom := roomN_le hn
  have hup := hc.up
  have H := Lib.hid h
  have HO := Lib.hid ho
  have HMX := Lib.hid hmax
  have HSUM := Lib.hid hsum
  have hg := rgets_of h (by omega)
  have HOLD := Lib.hid (fun W (hW : Below w.heap.size w W) => rold_any (hg.below hW) hc v)
  have HOT := Lib.hid (hc.old v)
  have HB1 := Lib.hid (below_alloc w (.cells #[.int .u64 (v : Int), .string (bs job), .slice q outs.length cap] 32))
  have HR1 := Lib.hid (heap_alloc_new w (.cells #[.int .u64 (v : Int), .string (bs job), .slice q outs.length cap] 32))
  clear h ho hsum hg hc hmax
  go_enter Tryz.func38, Tryz.ntmps38
  go_wp2_with fail
  go_loopw [5] (fun i wr => ∃ k : Nat, k ≤ outs.length ∧ i = .int .i64 (k : Int) ∧ (∀ s ∈ outs.take k, s.length ≤ 65531) ∧ Below w.heap.size w wr ∧ wr.heap[w.heap.size]? = some (.cells #[.int .u64 (v : Int), .string (bs job), .slice q outs.length cap] 32)) (fun i _ => outs.length - (intOf i).toNat)
  case atStart => exact ⟨0, Nat.zero_le _, rfl, by simp, HB1.out, HR1.out⟩
  case round =>
    obtain ⟨k, hk, rfl, hall, hb, hr⟩ := hrel
    have HB := Lib.hid hb; have HR := Lib.hid hr; have HALL := Lib.hid hall
    clear hb hr hall HB1 HR1
    obtain ⟨c0, c1, c2, f0, f1, f2⟩ := row3 HR.out
    by_cases hlt : k < outs.length
    · obtain ⟨qa, hq1, hq2⟩ := (textsAt_below HO.out HB.out).index cap k hlt
      obtain ⟨X, hX⟩ : ∃ X, outs[k] = X := ⟨_, rfl⟩
      rw [hX] at hq2
      have hXm := HMX.out X (hX ▸ List.getElem_mem hlt)
      by_cases hlong : 65531 < X.length
      · have hlongi : (65531 : Int) < (X.length : Int) := by omega
        have HT := Lib.hid (show pubT n A v job outs = (5, A) by unfold pubT; rw [if_pos ⟨X, hX ▸ List.getElem_mem hlt, hlong⟩])
        go_wp2_with fail
        go_ret
        rw [HT.out]
        exact ⟨rfl, rv0, H.out.below HB.out, Upd.of_below HB.out⟩
      · have hlongi : ¬ (65531 : Int) < (X.length : Int) := by omega
        have HX := Lib.hid hX
        clear hX
        go_wp2_with fail
        go_roundw
        case rel => exact ⟨k + 1, by omega, by go_num, fun s hs => by
          rw [List.take_succ_eq_append_getElem hlt, List.mem_append, List.mem_singleton, HX.out] at hs
          rcases hs with e | e
          · exact HALL.out s e
          · rw [e]; omega, HB.out, HR.out⟩
        case measure => simp [intOf]; omega
    · obtain rfl : k = outs.length := by omega
      have hsml : ∀ s ∈ outs, s.length ≤ 65531 := by have := HALL.out; rwa [List.take_length] at this
      obtain ⟨L, hL⟩ : ∃ L, outs.map Sha.shaS = L := ⟨_, rfl⟩
      have hLl : L.length = outs.length := by rw [← hL, List.length_map]
      have hrl := rowLen_le (c := 1000) (B := 32) (l := L) (by omega) (fun t ht => by
        rw [← hL] at ht
        obtain ⟨u, _, rfl⟩ := List.mem_map.1 ht
        exact Nat.le_of_eq (Sha.shaS_length u))
      obtain ⟨S, hS⟩ : ∃ S, (packT v job L).1 = S := ⟨_, rfl⟩
      obtain ⟨E, hE⟩ : ∃ E, (packT v job L).2 = E := ⟨_, rfl⟩
      have hSl : E = 0 → S.length ≤ 65535 := fun e => by rw [← hS]; exact packT_len (by rw [hE]; exact e)
      have HTT := Lib.hid (show pubT n A v job outs = if E ≠ 0 ∨ 16 < outs.length then (5, A) else if oldP p v then (2, A) else (codeC n A (pubR S outs 16), nextC n A (pubR S outs 16)) by
        unfold pubT
        rw [if_neg (fun ⟨s, h1, h2⟩ => by have := hsml s h1; omega), hL, hS, hE, HOT.out]
        by_cases hx : E ≠ 0 ∨ 16 < outs.length
        · rw [if_pos hx, if_pos hx]
        · rw [if_neg hx, if_neg hx, pubR_all S outs (by omega)])
      have HSU := Lib.hid (fun (W : World) (hW : Below w.heap.size w W) => (show Calls Tryz.prog 84 #[.slice q outs.length cap] W fun e w' => ∃ qs caps, e = .returned (.slice qs outs.length caps) ∧ TextsAt w' qs L ∧ Below W.heap.size W w' from by
        have := rsums_any (cap := cap) (textsAt_below HO.out hW) (by omega) (fun s hs => by have := hsml s hs; omega)
        rw [hL] at this
        refine this.mono ?_
        rintro e w' ⟨sv, rfl, hrow, hb⟩
        obtain ⟨qs, caps, rfl⟩ := slice_len hrow
        rw [hLl]
        exact ⟨qs, caps, rfl, textsAt_of_row hrow, hb⟩))
      have HPK := Lib.hid (fun (W : World) (qs : Option Addr) (caps : Nat) (hT : TextsAt W qs L) => (show Calls Tryz.prog 83 #[.int .u64 (v : Int), .string (bs job), .slice qs outs.length caps] W fun e w' => RPackPost W (S, E) e w' from by
        have := rpack_any v job L qs caps W hv hj hT (by omega) (by omega)
        rw [hLl] at this
        refine this.mono ?_
        rintro e w' hp
        unfold RPackPost at hp ⊢
        rw [hS, hE] at hp
        exact hp))
      have HSML := Lib.hid hsml
      have HBX := Lib.hid (fun (W : World) (hW : Below wr.heap.size wr W) => ((hW.block _ (blk_lt HR.out)).trans HR.out))
      clear hS hE hrl hsml hL hLl
      go_wp2_with fail
      go_region_held3 (fun V => V.cell? ⟨w.heap.size, 0, none⟩ = some (.int .u64 (v : Int)) ∧ V.cell? ⟨w.heap.size, 1, none⟩ = some (.string (bs job)) ∧ V.cell? ⟨w.heap.size, 2, none⟩ = some (.slice q outs.length cap)) (go_keep)
        (first
          | (go_at_call 84; refine (HSU.out _ HB.out.drew).mono ?_; rintro e w2 ⟨qs, caps, rfl, ht2, hb2⟩; have HT2 := Lib.hid ht2; have HB2 := Lib.hid (show Below wr.heap.size wr w2 from ((Below.refl _ wr).drew).trans hb2); obtain ⟨c0', c1', c2', _, _, _⟩ := row3 (HBX.out _ HB2.out); clear ht2 hb2)
          | (go_at_call 83; refine (HPK.out _ _ _ HT2.out).mono ?_; rintro e w3 ⟨hb3, S', rfl, hS'⟩; have HB3 := Lib.hid (HB2.out.trans (hb3.mono HB2.out.size)); have HS' := Lib.hid hS'; obtain ⟨c0'', c1'', c2'', _, _, _⟩ := row3 (HBX.out _ HB3.out); clear hb3 hS'))
      all_goals
        have HW3 := Lib.hid (HB.out.trans (HB3.out.mono HB.out.size))
        have HR3 := Lib.hid (HBX.out _ HB3.out)
        clear c0 c1 c2 f0 f1 f2
        obtain ⟨c0, c1, c2, f0, f1, f2⟩ := row3 HR3.out
        by_cases hE0 : E = 0
        · have hSl := hSl hE0
          have hSS := (HS'.out hE0).symm
          subst hSS
          have EQE : decide (E = 0) = true := by simp [hE0]
          have HE0 := Lib.hid hE0
          rw [EQE]
          clear hE0 HS'
          by_cases h16 : 16 < outs.length
          · have HT := Lib.hid (show pubT n A v job outs = (5, A) by rw [HTT.out, if_pos (.inr h16)])
            have h16i : (16 : Int) < (outs.length : Int) := by omega
            go_wp2_with fail
            go_ret
            rw [HT.out]
            exact ⟨rfl, rv0, H.out.below HW3.out, Upd.of_below HW3.out⟩
          · have h16i : ¬ (16 : Int) < (outs.length : Int) := by omega
            go_wp2_with fail
            refine (HOLD.out _ HW3.out).mono ?_
            rintro e w4 ⟨rfl, hb4⟩
            have HW4 := Lib.hid (HW3.out.trans (hb4.mono HW3.out.size))
            have HR4 := Lib.hid ((hb4.block _ (blk_lt HR3.out)).trans HR3.out)
            clear hb4 c0 c1 c2 f0 f1 f2
            cases hold : oldP p v with
            | true =>
              have HT := Lib.hid (show pubT n A v job outs = (2, A) by rw [HTT.out, if_neg (fun e => e.elim (fun e => e HE0.out) h16), if_pos hold])
              clear hold
              go_wp2_with fail
              go_ret
              rw [HT.out]
              exact ⟨rfl, rv0, H.out.below HW4.out, Upd.of_below HW4.out⟩
            | false =>
              have HT := Lib.hid (show pubT n A v job outs = (codeC n A (pubR S outs 16), nextC n A (pubR S outs 16)) by rw [HTT.out, if_neg (fun e => e.elim (fun e => e HE0.out) h16), if_neg (by rw [hold]; simp)])
              have hba := HW4.out.alloc HW4.out.size (.cells #[.string { data := #[109, 97, 110, 105, 102, 101, 115, 116] }, .string (bs S), .bool false, .string { data := #[117, 110, 100, 101, 114] }, .string { data := #[] }, .bool true] 99)
              have HBA := Lib.hid hba
              have HRA := Lib.hid ((heap_alloc_old w4 (.cells #[.string { data := #[109, 97, 110, 105, 102, 101, 115, 116] }, .string (bs S), .bool false, .string { data := #[117, 110, 100, 101, 114] }, .string { data := #[] }, .bool true] 99) (blk_lt HR4.out)).trans HR4.out)
              have hlt4 := blk_lt HR4.out
              have HOA := Lib.hid (show (w4.alloc (.cells #[.string { data := #[109, 97, 110, 105, 102, 101, 115, 116] }, .string (bs S), .bool false, .string { data := #[117, 110, 100, 101, 114] }, .string { data := #[] }, .bool true] 99)).ownsRow (w.heap.size + 1) 99 3 (.slice (some ⟨w4.heap.size, 0, none⟩) 2 2) 2 (chgCells (pubR S outs 0)) from by
                rw [pubR_zero, chgCells_two]
                exact World.ownsRow_lit (base := w.heap.size + 1) (e := 99) (size := 3) w4 #[.string { data := #[109, 97, 110, 105, 102, 101, 115, 116] }, .string (bs S), .bool false, .string { data := #[117, 110, 100, 101, 114] }, .string { data := #[] }, .bool true] 2 (by omega) (by unfold maxLen; omega) (by simp))
              have HLEN := Lib.hid (fun k => pubR_length S outs k)
              have hSl2 := hSl
              clear hold hba HR4 HW4 hSl
              go_wp2_with fail
              obtain ⟨i0, hi0, hz0, hz1, hz2⟩ := info_parts chg_info3
              have HSL := Lib.hid hSl2
              clear hSl2
              go_loopw [8, 9] (fun cv i wr => ∃ (k : Nat) (l : List Chg), k ≤ 16 ∧ i = .int .i64 (k : Int) ∧ l = pubR S outs k ∧ l.length = 2 + k ∧ wr.ownsRow (w.heap.size + 1) 99 3 cv (2 + k) (chgCells l) ∧ Below w.heap.size w wr ∧ wr.heap[w.heap.size]? = some (.cells #[.int .u64 (v : Int), .string (bs job), .slice q outs.length cap] 32))
                (fun _ i _ => 16 - (intOf i).toNat)
              case atStart => exact ⟨0, _, Nat.zero_le _, rfl, rfl, HLEN.out 0, HOA.out, HBA.out, HRA.out⟩
              case round =>
                clear HOA HBA HRA HBX HR HB
                obtain ⟨k, l, hk, rfl, hl, hll, hown, hb, hr⟩ := hrel
                obtain ⟨cq, ccap, rfl⟩ := slice_len hown
                have HL := Lib.hid hl; have HI := Lib.hid hown; have HBI := Lib.hid hb; have HRI := Lib.hid hr; have HLI := Lib.hid hll
                clear hl hown hb hr hll
                obtain ⟨c0, c1, c2, f0, f1, f2⟩ := row3 HRI.out
                by_cases hlt16 : k < 16
                · have hk100 : k < 100 := by omega
                  have hki : (k : Int) < 16 := by omega
                  by_cases hlt : k < outs.length
                  · have hkli : (k : Int) < (outs.length : Int) := by omega
                    obtain ⟨qa, hq1, hq2⟩ := (textsAt_below HO.out HBI.out).index cap k hlt
                    obtain ⟨X, hX⟩ : ∃ X, outs[k] = X := ⟨_, rfl⟩
                    rw [hX] at hq2
                    have hXl : X.length ≤ 1099511627776 := by have := HSML.out X (hX ▸ List.getElem_mem hlt); omega
                    have HX := Lib.hid (show (⟨outT k, Crc.sealT X, false⟩ : Chg) = outG outs k by unfold outG; rw [List.getD_eq_getElem?_getD, List.getElem?_eq_getElem hlt, Option.getD_some, hX])
                    have HPO := Lib.hid (pubR_out S outs k hlt)
                    have HSEAL := Lib.hid (fun W => rseal_any X W hXl)
                    clear hX
                    go_wp2_with fail
                    go_region_law
                      (first
                        | (go_simp; go_at_call 78; refine (rout_any k hk100 _).mono ?_; intro e w5 h5; obtain ⟨rfl, h5⟩ := h5; have h5' := h5.symm; clear h5; subst h5'; go_wp2_with fail)
                        | (refine step_append_lies _ (by rfl) _ _ _ (by rfl) (w.heap.size + 1) 99 i0 _ 3 40 Tryz.underlying85 hi0 hz0 hz1 hz2 (by rfl) (by omega) (.slice cq (2 + k) ccap) (2 + k) (chgCells l) (by rfl) (HI6.out.alloc _) ⟨w6.heap.size, 0, none⟩ 1 1 [.string (bs (outT k)), .string (bs (Crc.sealT X)), .bool false] (by rfl) (by rfl) (World.news_of_block (cs := #[.string (bs (outT k)), .string (bs (Crc.sealT X)), .bool false]) (t := 99) (fr := (0, 0)) (heap_alloc_new w6 _)) (chg_one _ _ _) (by omega) (by unfold maxLen; omega) (by omega) (by rw [World.size_alloc]; omega) (w6.heap.size + 1) (by simp) ?_; intro gg cap2 w7 hown7 hgrow hat hlt7)
                        | (go_simp; go_at_call 86; refine (HSEAL.out _).mono ?_; rintro e w6 ⟨rfl, hb6⟩; have hb6' : Below wr.heap.size wr w6 := ((Below.refl _ wr).drew).trans (hb6.mono (Nat.le_refl _)); have HB6 := Lib.hid hb6'; have HI6 := Lib.hid (ownsRow_upd HI.out (Upd.of_below (F := fun _ => False) hb6') (fun _ _ f => f)); have HR6 := Lib.hid ((hb6'.block _ (blk_lt HRI.out)).trans HRI.out); have hlt6 := blk_lt HR6.out; clear hb6 hb6'; go_wp2_with fail))
                    all_goals
                      have hsz6 : (w6.alloc (.cells #[.string (bs (outT k)), .string (bs (Crc.sealT X)), .bool false] 99)).heap.size = w6.heap.size + 1 := World.size_alloc _ _
                      have HWW := Lib.hid (HBI.out.trans (HB6.out.mono HBI.out.size))
                      have HW7 := Lib.hid ((HWW.out.alloc HWW.out.size (.cells #[.string (bs (outT k)), .string (bs (Crc.sealT X)), .bool false] 99)).grown hgrow (by rw [hsz6]; have := HWW.out.size; omega) (fun j hj => by have := row_low HI6.out hj; omega))
                      have HR7 := Lib.hid ((hgrow.block w.heap.size (by rw [hsz6]; omega) (row_ne_low HI6.out (Nat.lt_succ_self _))).trans ((heap_alloc_old w6 (.cells #[.string (bs (outT k)), .string (bs (Crc.sealT X)), .bool false] 99) hlt6).trans HR6.out))
                      have HO7 := Lib.hid hown7
                      have HN7 := Lib.hid (show l ++ [⟨outT k, Crc.sealT X, false⟩] = pubR S outs (k + 1) by rw [HPO.out, HL.out, HX.out])
                      clear hown7 hgrow hat hsz6
                      go_wp2_with fail
                      go_roundw
                      case rel => exact ⟨k + 1, _, by omega, by go_num, HN7.out, by rw [List.length_append, HLI.out]; rfl, by rw [chgCells_snoc]; exact HO7.out, HW7.out, HR7.out⟩
                      case measure => simp [intOf]; omega
                  · have hkli : ¬ (k : Int) < (outs.length : Int) := by omega
                    have HPG := Lib.hid (pubR_gone S outs k (by omega))
                    have hsw := HBI.out.size
                    have hltr := blk_lt HRI.out
                    go_wp2_with fail
                    refine (rout_any k hk100 _).mono ?_
                    rintro e w5 ⟨rfl, rfl⟩
                    go_wp2_with (at_builtin; refine wpList_append_own_at _ rfl _ _ 85 rfl (w.heap.size + 1) 99 i0 _ 3 40 Tryz.underlying85 hi0 hz0 hz1 hz2 rfl (by decide) (.slice cq (2 + k) ccap) (2 + k) _ rfl (HI.out.alloc _) ⟨w5.heap.size, 0, none⟩ 1 1 [.string (bs (outT k)), .string (bs []), .bool true] rfl rfl (by intro j u hj; rw [add_plain, cell_new_row]; exact (Array.getElem?_toList ▸ hj)) (by simp [Value.oneCell']) (by unfold maxLen; omega) (by omega) (by rw [World.size_alloc]; omega) ?_; intro v7 w7 ho7 hg7 _ _; obtain ⟨g7, cap7, rfl⟩ := ownsRow_succ ho7; have HG7 := Lib.hid hg7; have HO7 := Lib.hid ho7; clear ho7 hg7)
                    have hsz6 : (w5.alloc (.cells #[.string (bs (outT k)), .string (bs []), .bool true] 99)).heap.size = w5.heap.size + 1 := World.size_alloc _ _
                    have HW7 := Lib.hid ((HBI.out.alloc HBI.out.size (.cells #[.string (bs (outT k)), .string (bs []), .bool true] 99)).grown HG7.out (by rw [hsz6]; omega) (fun j hj => by have := row_low HI.out hj; omega))
                    have HR7 := Lib.hid ((HG7.out.block w.heap.size (by rw [World.size_alloc]; omega) (row_ne_low HI.out (Nat.lt_succ_self _))).trans ((heap_alloc_old w5 (.cells #[.string (bs (outT k)), .string (bs []), .bool true] 99) hltr).trans HRI.out))
                    have HN7 := Lib.hid (show l ++ [⟨outT k, [], true⟩] = pubR S outs (k + 1) by rw [HPG.out, HL.out])
                    clear hsz6
                    go_roundw
                    case rel => exact ⟨k + 1, _, by omega, by go_num, HN7.out, by rw [List.length_append, HLI.out]; rfl, by rw [chgCells_snoc]; exact HO7.out, HW7.out, HR7.out⟩
                    case measure => simp [intOf]; omega
                · obtain rfl : k = 16 := by omega
                  have HLE := Lib.hid (show l = pubR S outs 16 from HL.out)
                  have hown := HI.out
                  rw [HLE.out] at hown
                  have hlen := HLEN.out 16
                  have hcom := rcommit6_any (cap := ccap) (l := pubR S outs 16) (H.out.below HBI.out) hup (ChgsAt.of_row (by rw [hlen]; exact hown)) hn hA (by rw [hlen]; omega) (by rw [pubR_all S outs (by omega)]; exact pubC_weigh S outs HSL.out (by omega) HSML.out (HSUM.out HSML.out))
                  rw [hlen] at hcom
                  have HCOM := Lib.hid hcom
                  clear hcom hlen hown
                  go_wp2_with fail
                  refine HCOM.out.mono ?_
                  rintro e w7 ⟨rfl, rv, g1, g2⟩
                  have HG := Lib.hid (And.intro g1 ((Upd.of_below HBI.out).trans g2 (fun k hk => .inl hk)))
                  clear g1 g2
                  go_wp2_with fail
                  go_ret
                  rw [HT.out]
                  exact ⟨rfl, rv, HG.out.1, HG.out.2⟩
        · have HT := Lib.hid (show pubT n A v job outs = (5, A) by rw [HTT.out, if_pos (.inl hE0)])
          have EQE : decide (E = 0) = false := by simp [hE0]
          rw [EQE]
          clear hE0 HS'
          go_wp2_with fail
          go_ret
          rw [HT.out]
          exact ⟨rfl, rv0, H.out.below HW3.out, Upd.of_below HW3.out⟩
end
end Go.Proofs.YtoaihngckcbhiaaGreatDoor.Man
end
