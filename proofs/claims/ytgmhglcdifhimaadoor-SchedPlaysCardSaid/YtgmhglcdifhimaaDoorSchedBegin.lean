/- maslin/sched: in, begin, start, copy, walked. maslin/sched: begin, start, copy, walked. -/
import Derived.Test.YtgmhglcdifhimaaDoorSchedOps
import Derived.Test.YtgmhglcdifhimaaDoorTaskRefS
namespace Go.Proofs.YtgmhglcdifhimaaDoor
open Go.RowKit Go.Maps Go.Sort
open Tsk

def listTo (b : Board) (s : Int) (j : Nat) : List Nat := (List.range j).filter fun t => b.state t == s
theorem listTo_yes (b : Board) (s : Int) (j : Nat) (h : b.state j = s) : listTo b s (j + 1) = listTo b s j ++ [j] := by
  unfold listTo
  rw [List.range_succ, List.filter_append]
  simp [h]
theorem listTo_no (b : Board) (s : Int) (j : Nat) (h : ¬ b.state j = s) : listTo b s (j + 1) = listTo b s j := by
  unfold listTo
  rw [List.range_succ, List.filter_append]
  simp [h]
theorem listTo_len (b : Board) (s : Int) (j : Nat) : (listTo b s j).length ≤ j := by
  unfold listTo
  exact Nat.le_trans (List.length_filter_le _ _) (by simp)
theorem listTo_all (M : Sch.Master) (s : Int) : listTo M.b s M.b.l.length = M.list s := rfl
section
variable {w w' w1 w2 : World} {P p m k sb : Nat} {lv vv : Value} {nvs : List Value} {M M' : Sch.Master}
set_option maxRecDepth 100000 in
set_option maxHeartbeats 4000000 in
theorem in_any (h : MastIn w P p m lv nvs vv M) (hF : M.b.Fine k) (hk : k ≤ 1000000) (s : Int) :
    Calls Tryd.prog 126 #[.pointer (some ⟨P, 0, none⟩), .int .u8 s] w (IntsPost w (numsI (M.list s))) := by
  obtain ⟨i0, hi0, hz0, hz1, hz2⟩ := info_parts int_info
  have HM := Lib.hid h; have HF := Lib.hid hF
  have hlen := hF.len
  have HC0 := Lib.hid (fun (V : World) (hb : Below w.heap.size w V) => (h.below hb).cells.1)
  have c2 := h.cells.2.2
  have HSH := Lib.hid (listTo_all M s)
  clear h hF
  go_enter Tryd.func126, Tryd.ntmps126
  go_wp2_with fail
  go_loopw [4, 13] (fun v i wr => ∃ j : Nat, j ≤ M.b.l.length ∧ i = .int .i64 j ∧ Below w.heap.size w wr ∧ wr.ownsRow w.heap.size 3 1 v (listTo M.b s j).length ((numsI (listTo M.b s j)).map encZ)) (fun _ i _ => M.b.l.length - (intOf i).toNat)
  case atStart => exact ⟨0, Nat.zero_le _, rfl, Below.refl _ _, World.ownsRow_nil _ _ _ _⟩
  case round =>
    obtain ⟨j, hj, rfl, hb, hrow⟩ := hrel
    have HBL := Lib.hid hb; have HROW := Lib.hid hrow
    have c0 := HC0.out wr hb
    obtain ⟨qo, co, rfl⟩ := slice_len hrow
    clear hb hrow
    by_cases hlt : j < M.b.l.length
    · have HS := Lib.hid (stateP_in (HM.out.below HBL.out).board HF.out hk j hlt)
      have HYES := Lib.hid (listTo_yes M.b s j)
      have HNO := Lib.hid (listTo_no M.b s j)
      have hrl := listTo_len M.b s j
      generalize listTo M.b s j = out at *
      generalize M.b.state j = st at *
      go_wp2_with fail
      refine HS.out.mono ?_
      rintro e w1 ⟨rfl, hb1⟩
      have HB1 := Lib.hid (HBL.out.trans (hb1.mono HBL.out.size))
      have HR1 := Lib.hid (row_below HROW.out hb1)
      have hs1 : w.heap.size ≤ w1.heap.size := HB1.out.size
      clear hb1 HS
      by_cases hs : st = s
      · have HY := Lib.hid (HYES.out hs)
        subst hs
        clear HYES HNO
        go_wp2_with (at_builtin; refine wpList_append_lies _ rfl _ _ _ rfl w.heap.size 3 i0 _ 1 8 Tryd.underlying31 hi0 hz0 hz1 hz2 rfl (by omega) (.slice qo out.length co) out.length ((numsI out).map encZ) rfl (HR1.out.alloc _) ⟨w1.heap.size, 0, none⟩ 1 1 [.int .i64 (j : Int)] rfl rfl (World.news_of_block (cs := #[.int .i64 (j : Int)]) (t := 3) (fr := (0, 0)) (heap_alloc_new w1 _)) (fun u hu => by simp at hu; subst hu; rfl) (by omega) (by unfold maxLen; omega) (by omega) (by simp; omega) (w1.heap.size + 1) (by simp) ?_; intro gg cap2 w2 hown2 hgrow hat hlt2; have HOWN2 := Lib.hid hown2; have HGROW := Lib.hid hgrow; clear hown2 hgrow hat hlt2)
        go_roundw
        case rel =>
          refine ⟨j + 1, by omega, by go_num, ((HB1.out.alloc hs1 _).grown HGROW.out (by simp; omega) (fun i e => row_base HROW.out e)), ?_⟩
          rw [HY.out, show (out ++ [j]).length = out.length + 1 by simp]
          have e : (numsI (out ++ [j])).map encZ = (numsI out).map encZ ++ [.int .i64 (j : Int)] := by unfold numsI; simp [encZ]
          rw [e]
          exact HOWN2.out
        case measure => simp [intOf]; omega
      · have hb1 : (st == s) = false := by simpa using hs
        have HN := Lib.hid (HNO.out hs)
        clear HYES HNO hs
        go_wp2_with fail
        go_roundw
        case rel => exact ⟨j + 1, by omega, by go_num, HB1.out, by rw [HN.out]; exact HR1.out⟩
        case measure => simp [intOf]; omega
    · obtain rfl : j = M.b.l.length := by omega
      have hrow := HROW.out
      rw [← numsI_len] at hrow
      obtain ⟨ia, ic, ie, iat, _⟩ := ints_of_row hrow
      have HNEW := Lib.hid (fun g hg => row_base HROW.out (g := g) hg)
      injection ie with ie1 ie0 ie2
      subst ie1; subst ie2
      have HIA := Lib.hid (show IntsAt wr qo (numsI (M.list s)) from iat)
      have HLEN := Lib.hid (show (listTo M.b s M.b.l.length).length = (numsI (M.list s)).length from (numsI_len _).symm)
      clear iat ie0 hrow
      go_wp2_with fail
      go_ret
      exact ⟨qo, co, by rw [← HLEN.out]; rfl, HIA.out, HBL.out, fun p hp => HNEW.out p.block (by subst hp; rfl)⟩
end
end Go.Proofs.YtgmhglcdifhimaaDoor

namespace Go.Proofs.YtgmhglcdifhimaaDoor
open Go.RowKit Go.Maps Go.Sort
open Tsk

/-- An int's remainder, round. -/
theorem round_facts (t : Int) (n : Nat) (hn : 0 < n) (hs : n ≤ 1000000) : -(n : Int) < t.tmod n ∧ t.tmod n < n ∧ (t.tmod n + n).tmod n = ((Sch.round t n : Nat) : Int) ∧ Sch.round t n < n := by
  have h1 : -(n : Int) < t.tmod n := by
    have e := Int.natAbs_tmod t (n : Int)
    rw [Int.natAbs_natCast] at e
    have := Nat.mod_lt t.natAbs hn
    omega
  have h2 : t.tmod n < n := Int.tmod_lt_of_pos t (by omega)
  have h3 : 0 ≤ (t.tmod n + n).tmod n := Int.tmod_nonneg _ (by omega)
  have h4 : (t.tmod n + n).tmod n < n := Int.tmod_lt_of_pos _ (by omega)
  refine ⟨h1, h2, ?_, ?_⟩ <;> unfold Sch.round <;> omega
section
variable {w w' w1 w2 : World} {P p m k sb : Nat} {lv vv : Value} {nvs : List Value} {M M' : Sch.Master}
set_option maxRecDepth 100000 in
set_option maxHeartbeats 4000000 in
theorem begin_any (h : MastIn w P p m lv nvs vv M) (hF : M.b.Fine k) (hk : k ≤ 1000000) (d : Int) (i : Nat) (t : Int) (hi : i < M.lives.length) (hl : M.lives.length ≤ 16) (s : Int) :
    Calls Tryd.prog 123 #[.pointer (some ⟨P, 0, none⟩), .agg #[.int .u8 d, .int .i64 (i : Int), .int .i64 t], .int .u8 s] w fun e w' => e = .returned (ansV (M.begin (i : Int) t s).2) ∧ MastTo w w' P p m lv nvs vv (M.begin (i : Int) t s).1 := by
  have hx : (Lit.int .i64 (i : Int)).wf = true := WalkArith.wf_i64 (by omega)
  obtain ⟨hbx, hmx, hpx, hex⟩ := boxes h d i t
  have HT0 := Lib.hid (MastTo.below h hbx)
  have HF := Lib.hid hF
  have HSZ := Lib.hid (⟨Nat.le_succ _, Nat.succ_pos _⟩ : w.heap.size ≤ w.heap.size + 1 ∧ 0 < w.heap.size + 1)
  have k0 := hmx.cells.1
  have HO := Lib.hid (over_any hmx.board)
  have HM0 := Lib.hid hmx; have HX0 := Lib.hid hpx; have HE0 := Lib.hid hex
  have HBG := Lib.hid (show M.begin (i : Int) t s = _ from rfl)
  have e0 := hex.free 0; have e1 := hex.free 1
  have c0 := hex.cell 0 (by simp)
  have c1 := hex.cell 1 (by simp)
  clear h hF hmx hpx hex hbx
  go_enter Tryd.func123, Tryd.ntmps123
  go_wp2_with fail
  generalize hsb : w.heap.size = sb at *
  generalize (w.alloc (.cells #[.int .u8 d, .int .i64 (i : Int), .int .i64 t] 46)).alloc (.cells #[.int .i64 0, .bool false] 42) = wi at *
  refine HO.out.mono ?_
  rintro e w1 ⟨rfl, rfl⟩
  clear HO
  cases hov : M.b.failed with
  | some f =>
    have HL := Lib.hid (show M.begin (i : Int) t s = (M, Sch.none_ 301) from by unfold Sch.Master.begin; rw [if_pos (by rw [hov]; rfl)])
    clear hov
    go_wp2_with fail
    have HE5 := Lib.hid ((HE0.out.set 0 (.int .i64 0)).set 1 (.bool false))
    (try simp only [Exit.inBlock, Exit.then])
    refine bodyPost_ret (event_out rfl _ _ (sb + 1) _ _ rfl HE5.out) rfl ?_
    rw [HL.out]
    exact ⟨rfl, HT0.out.event HE0.out (by omega) (Nat.succ_pos _) _ _⟩
  | none =>
    have HOV := Lib.hid hov
    clear hov k0 c0 c1 e0 e1
    go_wp2_with fail
    have hdr : Below wi.heap.size wi wi.drew := (Below.refl _ _).drew
    have HT1 := Lib.hid (HT0.out.then (MastTo.below HM0.out hdr))
    have HM1 := Lib.hid (HM0.out.below hdr)
    have HX1 := Lib.hid (HX0.out.below hdr)
    have HE1 := Lib.hid (HE0.out.below hdr)
    have KP := Lib.hid (fun (V : World) (hm : MastIn V P p m lv nvs vv M) (hb : RowAt V sb 46 (pickV d i t)) => (⟨hm.cells.1, hb.cell 1 (by simp [pickV])⟩ : V.cell? ⟨P, 0, none⟩ = some (.pointer (some ⟨p, 0, none⟩)) ∧ V.cell? ⟨sb, 1, none⟩ = some (.int .i64 (i : Int))))
    have HA := Lib.hid (at_any HM1.out.board (i : Int) hx)
    clear hdr HT0 HM0 HX0 HE0
    go_region_held3 (fun V => V.cell? ⟨P, 0, none⟩ = some (.pointer (some ⟨p, 0, none⟩)) ∧ V.cell? ⟨sb, 1, none⟩ = some (.int .i64 (i : Int)))
      (exact KP.out _ HM1.out HX1.out)
      (first | (go_at_call 13; refine HA.out.mono ?_; rintro e wb ⟨rfl, rfl⟩))
    clear KP HA
    generalize wi.drew = wj at *
    cases hat : M.b.at_ (i : Int) with
    | some u =>
      have HL := Lib.hid (show M.begin (i : Int) t s = (M, Sch.none_ 300) from by unfold Sch.Master.begin; rw [if_neg (by rw [HOV.out]; exact Bool.false_ne_true), if_pos (by rw [hat]; rfl)])
      have e0 := HE1.out.free 0; have e1 := HE1.out.free 1
      have c0 : wj.cell? ⟨sb + 1, 0, none⟩ = some (.int .i64 0) := HE1.out.cell 0 (by simp)
      have c1 : wj.cell? ⟨sb + 1, 1, none⟩ = some (.bool false) := HE1.out.cell 1 (by simp)
      clear hat
      go_wp2_with fail
      have HE5 := Lib.hid ((HE1.out.set 0 (.int .i64 0)).set 1 (.bool false))
      (try simp only [Exit.inBlock, Exit.then])
      refine bodyPost_ret (event_out rfl _ _ (sb + 1) _ _ rfl HE5.out) rfl ?_
      rw [HL.out]
      exact ⟨rfl, HT1.out.event HE1.out (by omega) (Nat.succ_pos _) _ _⟩
    | none =>
      have HAT := Lib.hid hat
      have HIN := Lib.hid (in_any HM1.out HF.out hk s)
      clear hat
      go_wp2_with fail
      refine HIN.out.mono ?_
      rintro e w2 ⟨q, cap, rfl, hia, hb2, hnew⟩
      have HIA := Lib.hid hia
      have HT2 := Lib.hid (HT1.out.then (MastTo.below HM1.out hb2))
      have HM2 := Lib.hid (HM1.out.below hb2)
      have HX2 := Lib.hid (HX1.out.below hb2)
      have HE2 := Lib.hid (HE1.out.below hb2)
      have e0 := HE2.out.free 0; have e1 := HE2.out.free 1
      have c0 : w2.cell? ⟨sb + 1, 0, none⟩ = some (.int .i64 0) := HE2.out.cell 0 (by simp)
      have c1 : w2.cell? ⟨sb + 1, 1, none⟩ = some (.bool false) := HE2.out.cell 1 (by simp)
      have x2 : w2.cell? ⟨sb, 2, none⟩ = some (.int .i64 t) := HX2.out.cell 2 (by simp [pickV])
      clear hia hb2 hnew HIN HT1 HM1 HX1 HE1
      by_cases hnil : M.list s = []
      · have HL := Lib.hid (show M.begin (i : Int) t s = (M, Sch.none_ 3) from by unfold Sch.Master.begin; rw [if_neg (by rw [HOV.out]; exact Bool.false_ne_true), if_neg (by rw [HAT.out]; exact Bool.false_ne_true), if_pos hnil])
        have hz : (numsI (M.list s)).length = 0 := by rw [numsI_len, hnil]; rfl
        rw [hz] at *
        clear hnil hz
        go_wp2_with fail
        have HE5 := Lib.hid ((HE2.out.set 0 (.int .i64 0)).set 1 (.bool false))
        (try simp only [Exit.inBlock, Exit.then])
        refine bodyPost_ret (event_out rfl _ _ (sb + 1) _ _ rfl HE5.out) rfl ?_
        rw [HL.out]
        exact ⟨rfl, HT2.out.event HE2.out (by omega) (Nat.succ_pos _) _ _⟩
      · have hpos : 0 < (numsI (M.list s)).length := by rw [numsI_len]; exact List.length_pos_iff.2 hnil
        have hsm : (numsI (M.list s)).length ≤ 1000000 := by
          rw [numsI_len]
          have := listTo_len M.b s M.b.l.length
          rw [listTo_all] at this
          have := HF.out.len
          omega
        obtain ⟨xt, hxt⟩ : ∃ xt, (M.list s).getD (Sch.round t (M.list s).length) 0 = xt := ⟨_, rfl⟩
        have HL := Lib.hid (show M.begin (i : Int) t s = (⟨(M.b.start xt (i : Int)).1, M.lives⟩, ⟨xt, false, (M.b.start xt (i : Int)).2⟩) from by
          unfold Sch.Master.begin; rw [if_neg (by rw [HOV.out]; exact Bool.false_ne_true), if_neg (by rw [HAT.out]; exact Bool.false_ne_true), if_neg hnil]; simp only [hxt])
        obtain ⟨r1, r2, r3, r4⟩ := round_facts t _ hpos hsm
        obtain ⟨qa, hix, hc⟩ := HIA.out.index cap _ r4
        have hget : (numsI (M.list s))[Sch.round t (numsI (M.list s)).length] = (xt : Int) := by
          have r5 := r4
          rw [numsI_len] at r5
          rw [← hxt, List.getD_eq_getElem?_getD]
          simp only [numsI_len, List.getElem?_eq_getElem r5, Option.getD_some]
          exact numsI_get _ _
        rw [hget] at hc
        clear hget hxt hnil
        generalize hn : (numsI (M.list s)).length = n at *
        clear HIA
        go_wp2_with fail
        clear hix hc r1 r2 r3 r4 x2 c0 c1 e0 e1
        have HT3 := Lib.hid (HT2.out.wrote HE2.out (by omega) (Nat.succ_pos _) 0 (.int .i64 (xt : Int)))
        have HX3 := Lib.hid (HX2.out.far (Nat.succ_ne_self _) 0 (.int .i64 (xt : Int)))
        have HE3 := Lib.hid (show RowAt (w2.setCell ⟨sb + 1, 0, none⟩ (.int .i64 (xt : Int))) (sb + 1) 42 [.int .i64 (xt : Int), .bool false] from HE2.out.set 0 (.int .i64 (xt : Int)))
        generalize w2.setCell ⟨sb + 1, 0, none⟩ (.int .i64 (xt : Int)) = w3 at *
        clear HT2 HX2 HE2 HM2
        have hdr : Below w3.heap.size w3 w3.drew := (Below.refl _ _).drew
        have HT4 := Lib.hid (HT3.out.then (MastTo.below HT3.out.mast hdr))
        have HX4 := Lib.hid (HX3.out.below hdr)
        have HE4 := Lib.hid (HE3.out.below hdr)
        have KP := Lib.hid (fun (V : World) (hm : V.cell? ⟨P, 0, none⟩ = some (.pointer (some ⟨p, 0, none⟩))) (hb : RowAt V sb 46 (pickV d i t)) (he : RowAt V (sb + 1) 42 [.int .i64 (xt : Int), .bool false]) => (⟨hm, hb.cell 1 (by simp [pickV]), he.cell 0 (by simp), he.cell 1 (by simp)⟩ : V.cell? ⟨P, 0, none⟩ = some (.pointer (some ⟨p, 0, none⟩)) ∧ V.cell? ⟨sb, 1, none⟩ = some (.int .i64 (i : Int)) ∧ V.cell? ⟨sb + 1, 0, none⟩ = some (.int .i64 (xt : Int)) ∧ V.cell? ⟨sb + 1, 1, none⟩ = some (.bool false)))
        have HA := Lib.hid (start_any HT4.out.mast.board HF.out hk (xt : Int) (i : Int) hx)
        clear hdr HT3 HX3 HE3
        go_region_held3 (fun V => V.cell? ⟨P, 0, none⟩ = some (.pointer (some ⟨p, 0, none⟩)) ∧ V.cell? ⟨sb, 1, none⟩ = some (.int .i64 (i : Int)) ∧ V.cell? ⟨sb + 1, 0, none⟩ = some (.int .i64 (xt : Int)) ∧ V.cell? ⟨sb + 1, 1, none⟩ = some (.bool false))
          (first | exact KP.out _ HT4.out.mast.cells.1 HX4.out HE4.out | exact KP.out _ HTA.out.mast.cells.1 HXA.out HEA.out | exact KP.out _ HTS.out.mast.cells.1 HXS.out HES.out)
          (first | (go_at_call 127; refine HA.out.mono ?_; rintro e wb ⟨rfl, g1⟩; have HMA := Lib.hid (HT4.out.mast.boardTo g1 (start_len _ _).1); have HTA := Lib.hid (HT4.out.then HMA.out); have HXA := Lib.hid (HX4.out.upd HMA.out.upd (HT4.out.mast.notOf HX4.out.blk (by decide) (by decide) (by decide) (by decide))); have HEA := Lib.hid (HE4.out.upd HMA.out.upd (HT4.out.mast.notOf HE4.out.blk (by decide) (by decide) (by decide) (by decide))); have ce0 : wb.cell? ⟨sb + 1, 0, none⟩ = some (.int .i64 (xt : Int)) := HEA.out.cell 0 (by simp); have ce1 : wb.cell? ⟨sb + 1, 1, none⟩ = some (.bool false) := HEA.out.cell 1 (by simp); have cf0 := HEA.out.free 0; have cf1 := HEA.out.free 1; have HTS := Lib.hid (HTA.out.event HEA.out (by omega) (Nat.succ_pos _) (.int .i64 (xt : Int)) (.bool false)); have HES := Lib.hid (show RowAt ((wb.setCell ⟨sb + 1, 0, none⟩ (.int .i64 (xt : Int))).setCell ⟨sb + 1, 1, none⟩ (.bool false)) (sb + 1) 42 [.int .i64 (xt : Int), .bool false] from (HEA.out.set 0 (.int .i64 (xt : Int))).set 1 (.bool false)); have HXS := Lib.hid ((HXA.out.far (Nat.succ_ne_self _) 0 (.int .i64 (xt : Int))).far (Nat.succ_ne_self _) 1 (.bool false)); clear g1))
        go_wp2_with fail
        (try simp only [Exit.inBlock, Exit.then])
        refine bodyPost_ret (event_out rfl _ _ (sb + 1) _ _ rfl HES.out) rfl ?_
        rw [HL.out]
        exact ⟨rfl, HTS.out⟩
set_option maxRecDepth 100000 in
set_option maxHeartbeats 2000000 in
theorem mstart_any (h : MastIn w P p m lv nvs vv M) (hF : M.b.Fine k) (hk : k ≤ 1000000) (d : Int) (i : Nat) (t : Int) (hi : i < M.lives.length) (hl : M.lives.length ≤ 16) (s : List UInt8) :
    Calls Tryd.prog 117 #[.pointer (some ⟨P, 0, none⟩), .agg #[.int .u8 d, .int .i64 (i : Int), .int .i64 t], .string (bs s)] w fun e w' => e = .returned (ansV (M.begin (i : Int) t 1).2) ∧ MastTo w w' P p m lv nvs vv (M.begin (i : Int) t 1).1 := by
  obtain ⟨hbx, hmx, hpx, hex⟩ := boxes h d i t
  have HT0 := Lib.hid (MastTo.below h hbx)
  have HM0 := Lib.hid hmx; have HE0 := Lib.hid hex
  have HB := Lib.hid (begin_any hmx hF hk d i t hi hl 1)
  have x0 := hpx.cell 0 (by simp [pickV])
  have x1 := hpx.cell 1 (by simp [pickV])
  have x2 := hpx.cell 2 (by simp [pickV])
  simp only [pickV, List.getElem_cons_zero, List.getElem_cons_succ] at x0 x1 x2
  generalize (M.begin (i : Int) t 1) = r at *
  obtain ⟨M2, a1, a2, a3⟩ := r
  clear h hF hmx hpx hex hbx
  go_enter Tryd.func117, Tryd.ntmps117
  go_wp2_with fail
  generalize hsb : w.heap.size = sb at *
  generalize (w.alloc (.cells #[.int .u8 d, .int .i64 (i : Int), .int .i64 t] 46)).alloc (.cells #[.int .i64 0, .bool false] 42) = wi at *
  refine HB.out.mono ?_
  rintro e w2 ⟨rfl, g1⟩
  have HT1 := Lib.hid (HT0.out.then g1)
  have HE1 := Lib.hid (HE0.out.upd g1.upd (HM0.out.notOf HE0.out.blk (by decide) (by decide) (by decide) (by decide)))
  have e0 := HE1.out.free 0; have e1 := HE1.out.free 1
  have c0 : w2.cell? ⟨sb + 1, 0, none⟩ = some (.int .i64 0) := HE1.out.cell 0 (by simp)
  have c1 : w2.cell? ⟨sb + 1, 1, none⟩ = some (.bool false) := HE1.out.cell 1 (by simp)
  clear g1 x0 x1 x2
  unfold ansV
  go_wp2_with fail
  have HE5 := Lib.hid ((HE1.out.set 0 (.int .i64 a1)).set 1 (.bool a2))
  (try simp only [Exit.inBlock, Exit.then])
  refine bodyPost_ret (event_out rfl _ _ (sb + 1) _ _ rfl HE5.out) rfl ?_
  exact ⟨rfl, HT1.out.event HE1.out (by omega) (Nat.succ_pos _) _ _⟩
set_option maxRecDepth 100000 in
set_option maxHeartbeats 2000000 in
theorem mcopy_any (h : MastIn w P p m lv nvs vv M) (hF : M.b.Fine k) (hk : k ≤ 1000000) (d : Int) (i : Nat) (t : Int) (hi : i < M.lives.length) (hl : M.lives.length ≤ 16) (s : List UInt8) :
    Calls Tryd.prog 118 #[.pointer (some ⟨P, 0, none⟩), .agg #[.int .u8 d, .int .i64 (i : Int), .int .i64 t], .string (bs s)] w fun e w' => e = .returned (ansV (M.begin (i : Int) t 2).2) ∧ MastTo w w' P p m lv nvs vv (M.begin (i : Int) t 2).1 := by
  obtain ⟨hbx, hmx, hpx, hex⟩ := boxes h d i t
  have HT0 := Lib.hid (MastTo.below h hbx)
  have HM0 := Lib.hid hmx; have HE0 := Lib.hid hex
  have HB := Lib.hid (begin_any hmx hF hk d i t hi hl 2)
  have x0 := hpx.cell 0 (by simp [pickV])
  have x1 := hpx.cell 1 (by simp [pickV])
  have x2 := hpx.cell 2 (by simp [pickV])
  simp only [pickV, List.getElem_cons_zero, List.getElem_cons_succ] at x0 x1 x2
  generalize (M.begin (i : Int) t 2) = r at *
  obtain ⟨M2, a1, a2, a3⟩ := r
  clear h hF hmx hpx hex hbx
  go_enter Tryd.func118, Tryd.ntmps118
  go_wp2_with fail
  generalize hsb : w.heap.size = sb at *
  generalize (w.alloc (.cells #[.int .u8 d, .int .i64 (i : Int), .int .i64 t] 46)).alloc (.cells #[.int .i64 0, .bool false] 42) = wi at *
  refine HB.out.mono ?_
  rintro e w2 ⟨rfl, g1⟩
  have HT1 := Lib.hid (HT0.out.then g1)
  have HE1 := Lib.hid (HE0.out.upd g1.upd (HM0.out.notOf HE0.out.blk (by decide) (by decide) (by decide) (by decide)))
  have e0 := HE1.out.free 0; have e1 := HE1.out.free 1
  have c0 : w2.cell? ⟨sb + 1, 0, none⟩ = some (.int .i64 0) := HE1.out.cell 0 (by simp)
  have c1 : w2.cell? ⟨sb + 1, 1, none⟩ = some (.bool false) := HE1.out.cell 1 (by simp)
  clear g1 x0 x1 x2
  unfold ansV
  go_wp2_with fail
  have HE5 := Lib.hid ((HE1.out.set 0 (.int .i64 a1)).set 1 (.bool a2))
  (try simp only [Exit.inBlock, Exit.then])
  refine bodyPost_ret (event_out rfl _ _ (sb + 1) _ _ rfl HE5.out) rfl ?_
  exact ⟨rfl, HT1.out.event HE1.out (by omega) (Nat.succ_pos _) _ _⟩
end
end Go.Proofs.YtgmhglcdifhimaaDoor
