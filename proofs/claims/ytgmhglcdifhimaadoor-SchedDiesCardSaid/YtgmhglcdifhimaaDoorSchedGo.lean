/- maslin/sched: in, begin, start, copy, walked. -/
import Derived.Test.YtgmhglcdifhimaaDoorSchedOps
import Derived.Test.YtgmhglcdifhimaaDoorTaskRefS
namespace Go.Proofs.YtgmhglcdifhimaaDoor
open Go.RowKit Go.Maps Go.Sort
open Tsk

def listTo (b : Board) (s : Int) (j : Nat) : List Nat := (List.range j).filter fun t => b.state t == s
theorem listTo_yes (b : Board) (s : Int) (j : Nat) (h : b.state j = s) : listTo b s (j + 1) = listTo b s j ++ [j] := by
  unfold listTo
  rw [List.range_succ, List.filter_append]
  simp [h]
theorem listTo_no (b : Board) (s : Int) (j : Nat) (h : ¬ b.state j = s) : listTo b s (j + 1) = listTo b s j := by
  unfold listTo
  rw [List.range_succ, List.filter_append]
  simp [h]
theorem listTo_len (b : Board) (s : Int) (j : Nat) : (listTo b s j).length ≤ j := by
  unfold listTo
  exact Nat.le_trans (List.length_filter_le _ _) (by simp)
theorem listTo_all (M : Sch.Master) (s : Int) : listTo M.b s M.b.l.length = M.list s := rfl
section
variable {w w' w1 w2 : World} {P p m k sb : Nat} {lv vv : Value} {nvs : List Value} {M M' : Sch.Master}
set_option maxRecDepth 100000 in
set_option maxHeartbeats 4000000 in
theorem in_any (h : MastIn w P p m lv nvs vv M) (hF : M.b.Fine k) (hk : k ≤ 1000000) (s : Int) :
    Calls Tryd.prog 126 #[.pointer (some ⟨P, 0, none⟩), .int .u8 s] w (IntsPost w (numsI (M.list s))) := by
  obtain ⟨i0, hi0, hz0, hz1, hz2⟩ := info_parts int_info
  have HM := Lib.hid h; have HF := Lib.hid hF
  have hlen := hF.len
  have HC0 := Lib.hid (fun (V : World) (hb : Below w.heap.size w V) => (h.below hb).cells.1)
  have c2 := h.cells.2.2
  have HSH := Lib.hid (listTo_all M s)
  clear h hF
  go_enter Tryd.func126, Tryd.ntmps126
  go_wp2_with fail
  go_loopw [4, 13] (fun v i wr => ∃ j : Nat, j ≤ M.b.l.length ∧ i = .int .i64 j ∧ Below w.heap.size w wr ∧ wr.ownsRow w.heap.size 3 1 v (listTo M.b s j).length ((numsI (listTo M.b s j)).map encZ)) (fun _ i _ => M.b.l.length - (intOf i).toNat)
  case atStart => exact ⟨0, Nat.zero_le _, rfl, Below.refl _ _, World.ownsRow_nil _ _ _ _⟩
  case round =>
    obtain ⟨j, hj, rfl, hb, hrow⟩ := hrel
    have HBL := Lib.hid hb; have HROW := Lib.hid hrow
    have c0 := HC0.out wr hb
    obtain ⟨qo, co, rfl⟩ := slice_len hrow
    clear hb hrow
    by_cases hlt : j < M.b.l.length
    · have HS := Lib.hid (stateP_in (HM.out.below HBL.out).board HF.out hk j hlt)
      have HYES := Lib.hid (listTo_yes M.b s j)
      have HNO := Lib.hid (listTo_no M.b s j)
      have hrl := listTo_len M.b s j
      generalize listTo M.b s j = out at *
      generalize M.b.state j = st at *
      go_wp2_with fail
      refine HS.out.mono ?_
      rintro e w1 ⟨rfl, hb1⟩
      have HB1 := Lib.hid (HBL.out.trans (hb1.mono HBL.out.size))
      have HR1 := Lib.hid (row_below HROW.out hb1)
      have hs1 : w.heap.size ≤ w1.heap.size := HB1.out.size
      clear hb1 HS
      by_cases hs : st = s
      · have HY := Lib.hid (HYES.out hs)
        subst hs
        clear HYES HNO
        go_wp2_with (at_builtin; refine wpList_append_lies _ rfl _ _ _ rfl w.heap.size 3 i0 _ 1 8 Tryd.underlying31 hi0 hz0 hz1 hz2 rfl (by omega) (.slice qo out.length co) out.length ((numsI out).map encZ) rfl (HR1.out.alloc _) ⟨w1.heap.size, 0, none⟩ 1 1 [.int .i64 (j : Int)] rfl rfl (World.news_of_block (cs := #[.int .i64 (j : Int)]) (t := 3) (fr := (0, 0)) (heap_alloc_new w1 _)) (fun u hu => by simp at hu; subst hu; rfl) (by omega) (by unfold maxLen; omega) (by omega) (by simp; omega) (w1.heap.size + 1) (by simp) ?_; intro gg cap2 w2 hown2 hgrow hat hlt2; have HOWN2 := Lib.hid hown2; have HGROW := Lib.hid hgrow; clear hown2 hgrow hat hlt2)
        go_roundw
        case rel =>
          refine ⟨j + 1, by omega, by go_num, ((HB1.out.alloc hs1 _).grown HGROW.out (by simp; omega) (fun i e => row_base HROW.out e)), ?_⟩
          rw [HY.out, show (out ++ [j]).length = out.length + 1 by simp]
          have e : (numsI (out ++ [j])).map encZ = (numsI out).map encZ ++ [.int .i64 (j : Int)] := by unfold numsI; simp [encZ]
          rw [e]
          exact HOWN2.out
        case measure => simp [intOf]; omega
      · have hb1 : (st == s) = false := by simpa using hs
        have HN := Lib.hid (HNO.out hs)
        clear HYES HNO hs
        go_wp2_with fail
        go_roundw
        case rel => exact ⟨j + 1, by omega, by go_num, HB1.out, by rw [HN.out]; exact HR1.out⟩
        case measure => simp [intOf]; omega
    · obtain rfl : j = M.b.l.length := by omega
      have hrow := HROW.out
      rw [← numsI_len] at hrow
      obtain ⟨ia, ic, ie, iat, _⟩ := ints_of_row hrow
      have HNEW := Lib.hid (fun g hg => row_base HROW.out (g := g) hg)
      injection ie with ie1 ie0 ie2
      subst ie1; subst ie2
      have HIA := Lib.hid (show IntsAt wr qo (numsI (M.list s)) from iat)
      have HLEN := Lib.hid (show (listTo M.b s M.b.l.length).length = (numsI (M.list s)).length from (numsI_len _).symm)
      clear iat ie0 hrow
      go_wp2_with fail
      go_ret
      exact ⟨qo, co, by rw [← HLEN.out]; rfl, HIA.out, HBL.out, fun p hp => HNEW.out p.block (by subst hp; rfl)⟩
end
end Go.Proofs.YtgmhglcdifhimaaDoor
