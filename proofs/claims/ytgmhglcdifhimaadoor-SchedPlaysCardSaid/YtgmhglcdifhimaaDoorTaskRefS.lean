/- maslinref30: State, Ready, walked. -/
import Derived.Test.YtgmhglcdifhimaaDoorTaskRefW
namespace Go.Proofs.YtgmhglcdifhimaaDoor
open Go.RowKit Go.Maps Go.Sort
open Tsk

theorem numsI_get {l : List Nat} {i : Nat} (h : i < (numsI l).length) (h' : i < l.length) : (numsI l)[i] = (l[i] : Int) := by simp only [numsI, List.getElem_map]
section
variable {w w' : World} {r : Nat} {lv tv : Value} {nvs : List Value} {b : Board} {k : Nat}
theorem waits_all {b : Board} {x : Task} (h : ∀ i (hi : i < x.needs.length), b.isDone x.needs[i] = true) : b.waits x = false := by
  unfold Board.waits
  rw [List.any_eq_false]
  intro n hn
  obtain ⟨i, hi, rfl⟩ := List.getElem_of_mem hn
  rw [h i hi]; decide
theorem waits_one {b : Board} {x : Task} {i : Nat} (hi : i < x.needs.length) (h : b.isDone x.needs[i] = false) : b.waits x = true := by
  unfold Board.waits
  rw [List.any_eq_true]
  exact ⟨_, List.getElem_mem hi, by rw [h]; rfl⟩
set_option maxRecDepth 100000 in
set_option maxHeartbeats 4000000 in
theorem rstate_in (h : RefB w r lv tv nvs b) (hF : b.Fine k) (hk : k ≤ 1000000) (t : Nat) (ht : t < b.l.length) :
    Calls Tryd.prog 55 #[.pointer (some ⟨r, 0, none⟩), .int .i64 (t : Int)] w fun e w' => e = .returned (.int .u8 (b.state t)) ∧ Below w.heap.size w w' := by
  rw [state_get ht]
  have hnt := hF.needs t b.l[t] (List.getElem?_eq_getElem ht)
  have hslim := hF.slim _ (List.getElem_mem ht)
  have HW := Lib.hid (fun (V : World) (hb : Below w.heap.size w V) => rworkers_any (h.below hb) hF hk t)
  have HB := Lib.hid h
  obtain ⟨d0, _, d2, _, _⟩ := h.cells
  obtain ⟨g, cap, rfl, hix, c0, c1, c2, c3, _⟩ := h.index t ht
  have hn1 : t < nvs.length := by rw [h.nlen]; exact ht
  rw [List.getElem?_eq_getElem hn1] at c0
  obtain ⟨na, ncap, hnv, hnat⟩ := (h.needs t ht hn1).ints
  rw [hnv] at c0
  have HNA := Lib.hid hnat; have HNT := Lib.hid hnt
  have HR := Lib.hid (runs_eq b t)
  have HST := Lib.hid (show b.stateX t b.l[t] = _ from rfl)
  have hrl := blk_lt h.struct
  clear h hF hnv hnat hn1 hnt HST
  generalize b.l[t] = x at *
  obtain ⟨xn, xi, xv, xf⟩ := x
  simp only at *
  cases xi with
  | true =>
    go_enter Tryd.func55, Tryd.ntmps55
    go_wp2_with fail
    go_ret
    exact ⟨by rw [show b.stateX t ⟨xn, true, xv, xf⟩ = 3 from by unfold Board.stateX; rfl]; rfl, (Below.refl _ _).alloc (Nat.le_refl _) _⟩
  | false =>
    have hbA : Below w.heap.size w (w.alloc (.cells #[.slice na (numsI xn).length ncap, .bool false, .string (bs xv), .int .i64 (xf : Int)] 108)) := (Below.refl _ _).alloc (Nat.le_refl _) _
    have HBA := Lib.hid hbA
    clear hbA
    by_cases hf : b.retries < xf
    · have hbf : decide ((b.retries : Int) < (xf : Int)) = true := by simp; omega
      have HF := Lib.hid hf
      clear hf
      go_enter Tryd.func55, Tryd.ntmps55
      go_wp2_with fail
      go_region
      go_wp2_with fail
      go_ret
      exact ⟨by rw [show b.stateX t ⟨xn, false, xv, xf⟩ = 4 from by unfold Board.stateX; rw [if_neg (by show ¬ (false = true); decide), if_pos HF.out]]; rfl, HBA.out.drew⟩
    · have hbf : decide ((b.retries : Int) < (xf : Int)) = false := by simp; omega
      have HF := Lib.hid hf
      clear hf
      have HXB := Lib.hid (show RowAt (w.alloc (.cells #[.slice na (numsI xn).length ncap, .bool false, .string (bs xv), .int .i64 (xf : Int)] 108)) w.heap.size 108 [.slice na (numsI xn).length ncap, .bool false, .string (bs xv), .int .i64 (xf : Int)] from heap_alloc_new w _)
      have hnl : (numsI xn).length = xn.length := by unfold numsI; simp
      have HNL := Lib.hid hnl
      clear hnl
      go_enter Tryd.func55, Tryd.ntmps55
      go_wp2_with fail
      go_region
      go_wp2_with fail
      generalize w.alloc (.cells #[.slice na (numsI xn).length ncap, .bool false, .string (bs xv), .int .i64 (xf : Int)] 108) = w1 at *
      go_loopw [6] (fun i wr => ∃ j : Nat, j ≤ (numsI xn).length ∧ i = .int .i64 j ∧ Below w1.heap.size w1 wr ∧ ∀ i, i < j → (h : i < xn.length) → b.isDone xn[i] = true) (fun i _ => (numsI xn).length - (intOf i).toNat)
      case atStart => exact ⟨0, Nat.zero_le _, rfl, (Below.refl _ _).drew, fun i hi => by omega⟩
      case round =>
        obtain ⟨j, hj, rfl, hb, hall⟩ := hrel
        have hx0 := (HXB.out.below hb).cell 0 (by simp)
        have hx0 : wr.cell? ⟨w.heap.size, 0, none⟩ = some (.slice na (numsI xn).length ncap) := hx0
        have HBW := Lib.hid (HBA.out.trans (hb.mono HBA.out.size))
        have HALL := Lib.hid hall; have HBR := Lib.hid hb
        clear hb hall
        by_cases hlt : j < (numsI xn).length
        · have hlx : j < xn.length := by rw [← HNL.out]; exact hlt
          obtain ⟨q, hqx, hqc⟩ := (HNA.out.below' HBW.out).index ncap j hlt
          have hqc2 := numsI_get hlt hlx
          rw [hqc2] at hqc
          have hn : xn[j] < b.l.length := Nat.lt_trans (HNT.out _ (List.getElem_mem hlx)) ht
          have HRB := HB.out.below HBW.out
          have d0w := HRB.cells.1
          obtain ⟨g2, cap2, hg2, hix2, _, e1, _, _, _⟩ := HRB.index xn[j] hn
          have HYES := Lib.hid (show b.l[xn[j]].is = true → ∀ i, i < j + 1 → (h : i < xn.length) → b.isDone xn[i] = true from fun h i hi h' => by
            by_cases e : i = j
            · subst e; rw [isDone_get hn]; exact h
            · exact HALL.out i (by omega) h')
          have HNO := Lib.hid (show b.l[xn[j]].is = false → b.waits ⟨xn, false, xv, xf⟩ = true from fun h => waits_one (x := ⟨xn, false, xv, xf⟩) hlx (by rw [isDone_get hn]; exact h))
          generalize b.l[xn[j]].is = s at *
          clear HRB hg2 hqc2
          cases s with
          | true =>
            have HY := Lib.hid (HYES.out rfl)
            clear HYES HNO
            go_wp2_with fail
            go_region
            go_wp2_with fail
            go_roundw
            case rel => exact ⟨j + 1, by omega, by go_num, HBR.out.drew, HY.out⟩
            case measure => simp [intOf]; omega
          | false =>
            have HN := Lib.hid (HNO.out rfl)
            clear HYES HNO
            go_wp2_with fail
            go_region
            go_wp2_with fail
            go_ret
            exact ⟨by rw [show b.stateX t ⟨xn, false, xv, xf⟩ = 0 from by unfold Board.stateX; rw [if_neg (by show ¬ (false = true); decide), if_neg HF.out, HN.out]; rfl]; rfl, HBW.out.drew⟩
        · obtain rfl : j = (numsI xn).length := by omega
          have HWT := Lib.hid (show b.waits ⟨xn, false, xv, xf⟩ = false from waits_all (x := ⟨xn, false, xv, xf⟩) (fun i hi => HALL.out i (by rw [HNL.out]; exact hi) hi))
          have HWK := Lib.hid (HW.out wr HBW.out)
          go_wp2_with fail
          refine HWK.out.mono ?_
          rintro e w4 ⟨q, wcap, rfl, _, hb4, _⟩
          have HB4 := Lib.hid (HBW.out.trans (hb4.mono HBW.out.size))
          clear hb4
          have hr := HR.out
          obtain ⟨rt, hrt⟩ : ∃ rt, rt = b.runs t := ⟨_, rfl⟩
          have HRT := Lib.hid hrt
          rw [← hrt] at hr
          clear hrt HR HW HWK
          generalize (b.workers t).length = wl at *
          cases rt with
          | true =>
            obtain ⟨k, rfl⟩ : ∃ k, wl = k + 1 := ⟨wl - 1, by simp at hr; omega⟩
            have hkp : decide ((0 : Int) < ((k + 1 : Nat) : Int)) = true := by rw [decide_eq_true_eq]; omega
            clear hr
            go_wp2_with fail
            go_ret
            exact ⟨by rw [show b.stateX t ⟨xn, false, xv, xf⟩ = 2 from by unfold Board.stateX; rw [if_neg (by show ¬ (false = true); decide), if_neg HF.out, HWT.out, ← HRT.out]; rfl]; rfl, HB4.out⟩
          | false =>
            obtain rfl : wl = 0 := by simp at hr; omega
            clear hr
            go_wp2_with fail
            go_ret
            exact ⟨by rw [show b.stateX t ⟨xn, false, xv, xf⟩ = 1 from by unfold Board.stateX; rw [if_neg (by show ¬ (false = true); decide), if_neg HF.out, HWT.out, ← HRT.out]; rfl]; rfl, HB4.out⟩
def readyTo (b : Board) (j : Nat) : List Nat := (List.range j).filter fun t => b.state t == 1
theorem readyTo_yes (b : Board) (j : Nat) (h : b.state j = 1) : readyTo b (j + 1) = readyTo b j ++ [j] := by
  unfold readyTo
  rw [List.range_succ, List.filter_append]
  simp [h]
theorem readyTo_no (b : Board) (j : Nat) (h : ¬ b.state j = 1) : readyTo b (j + 1) = readyTo b j := by
  unfold readyTo
  rw [List.range_succ, List.filter_append]
  simp [h]
theorem readyTo_len (b : Board) (j : Nat) : (readyTo b j).length ≤ j := by
  unfold readyTo
  exact Nat.le_trans (List.length_filter_le _ _) (by rw [List.length_range]; exact Nat.le_refl _)
theorem numsI_len (l : List Nat) : (numsI l).length = l.length := by unfold numsI; simp
set_option maxRecDepth 100000 in
set_option maxHeartbeats 4000000 in
theorem rready_any (h : RefB w r lv tv nvs b) (hF : b.Fine k) (hk : k ≤ 1000000) :
    Calls Tryd.prog 33 #[.pointer (some ⟨r, 0, none⟩)] w (IntsPost w (numsI b.ready)) := by
  obtain ⟨i0, hi0, hz0, hz1, hz2⟩ := info_parts int_info
  have HB := Lib.hid h; have HF := Lib.hid hF
  have hlen := hF.len
  have HC0 := Lib.hid (fun (V : World) (hb : Below w.heap.size w V) => (h.below hb).cells.1)
  obtain ⟨ql, cl, rfl⟩ := slice_len h.row
  clear h hF
  go_enter Tryd.func33, Tryd.ntmps33
  go_wp2_with fail
  go_loopw [3, 4] (fun v i wr => ∃ j : Nat, j ≤ b.l.length ∧ i = .int .i64 j ∧ Below w.heap.size w wr ∧ wr.ownsRow w.heap.size 3 1 v (readyTo b j).length ((numsI (readyTo b j)).map encZ)) (fun _ i _ => b.l.length - (intOf i).toNat)
  case atStart => exact ⟨0, Nat.zero_le _, rfl, Below.refl _ _, World.ownsRow_nil _ _ _ _⟩
  case round =>
    obtain ⟨j, hj, rfl, hb, hrow⟩ := hrel
    have HBL := Lib.hid hb; have HROW := Lib.hid hrow
    have c0 := HC0.out wr hb
    obtain ⟨qo, co, rfl⟩ := slice_len hrow
    clear hb hrow
    by_cases hlt : j < b.l.length
    · have HS := Lib.hid (rstate_in (HB.out.below HBL.out) HF.out hk j hlt)
      have HYES := Lib.hid (readyTo_yes b j)
      have HNO := Lib.hid (readyTo_no b j)
      have hrl := readyTo_len b j
      generalize readyTo b j = out at *
      generalize b.state j = s at *
      go_wp2_with fail
      refine HS.out.mono ?_
      rintro e w1 ⟨rfl, hb1⟩
      have HB1 := Lib.hid (HBL.out.trans (hb1.mono HBL.out.size))
      have HR1 := Lib.hid (row_below HROW.out hb1)
      have hs1 : w.heap.size ≤ w1.heap.size := HB1.out.size
      clear hb1 HS
      by_cases hs : s = 1
      · have HY := Lib.hid (HYES.out hs)
        subst hs
        clear HYES HNO
        go_wp2_with (at_builtin; refine wpList_append_lies _ rfl _ _ _ rfl w.heap.size 3 i0 _ 1 8 Tryd.underlying31 hi0 hz0 hz1 hz2 rfl (by omega) (.slice qo out.length co) out.length ((numsI out).map encZ) rfl (HR1.out.alloc _) ⟨w1.heap.size, 0, none⟩ 1 1 [.int .i64 (j : Int)] rfl rfl (World.news_of_block (cs := #[.int .i64 (j : Int)]) (t := 3) (fr := (0, 0)) (heap_alloc_new w1 _)) (fun u hu => by simp at hu; subst hu; rfl) (by omega) (by unfold maxLen; omega) (by omega) (by simp; omega) (w1.heap.size + 1) (by simp) ?_; intro gg cap2 w2 hown2 hgrow hat hlt2; have HOWN2 := Lib.hid hown2; have HGROW := Lib.hid hgrow; clear hown2 hgrow hat hlt2)
        go_roundw
        case rel =>
          refine ⟨j + 1, by omega, by go_num, ((HB1.out.alloc hs1 _).grown HGROW.out (by simp; omega) (fun i e => row_base HROW.out e)), ?_⟩
          rw [HY.out, show (out ++ [j]).length = out.length + 1 by simp]
          have e : (numsI (out ++ [j])).map encZ = (numsI out).map encZ ++ [.int .i64 (j : Int)] := by unfold numsI; simp [encZ]
          rw [e]
          exact HOWN2.out
        case measure => simp [intOf]; omega
      · have hb1 : (s == 1) = false := by simpa using hs
        have HN := Lib.hid (HNO.out hs)
        clear HYES HNO hs
        go_wp2_with fail
        go_roundw
        case rel => exact ⟨j + 1, by omega, by go_num, HB1.out, by rw [HN.out]; exact HR1.out⟩
        case measure => simp [intOf]; omega
    · obtain rfl : j = b.l.length := by omega
      have hrow := HROW.out
      rw [← numsI_len] at hrow
      obtain ⟨ia, ic, ie, iat, _⟩ := ints_of_row hrow
      have HNEW := Lib.hid (fun g hg => row_base HROW.out (g := g) hg)
      injection ie with ie1 ie0 ie2
      subst ie1; subst ie2
      have HIA := Lib.hid (show IntsAt wr qo (numsI b.ready) from iat)
      have HLEN := Lib.hid (show (readyTo b b.l.length).length = (numsI b.ready).length from (numsI_len _).symm)
      clear iat ie0 hrow
      go_wp2_with fail
      go_ret
      exact ⟨qo, co, by rw [← HLEN.out]; rfl, HIA.out, HBL.out, fun p hp => HNEW.out p.block (by subst hp; rfl)⟩
end
end Go.Proofs.YtgmhglcdifhimaaDoor
