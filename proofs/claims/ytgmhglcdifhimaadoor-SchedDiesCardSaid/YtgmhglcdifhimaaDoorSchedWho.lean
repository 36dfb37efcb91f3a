/- maslin/sched: who, Alive, walked. -/
import Derived.Test.YtgmhglcdifhimaaDoorSchedNew
namespace Go.Proofs.YtgmhglcdifhimaaDoor
open Go.RowKit Go.Maps Go.Sort
open Tsk

def whoTo (l : List Bool) (f : Int → Bool) (j : Nat) : List Nat := (List.range j).filter fun i => l.getD i false && f (i : Int)
theorem whoTo_yes (l : List Bool) (f : Int → Bool) (j : Nat) (h : (l.getD j false && f (j : Int)) = true) : whoTo l f (j + 1) = whoTo l f j ++ [j] := by
  unfold whoTo
  rw [List.range_succ, List.filter_append]
  simp only [List.filter, h]
theorem whoTo_no (l : List Bool) (f : Int → Bool) (j : Nat) (h : (l.getD j false && f (j : Int)) = false) : whoTo l f (j + 1) = whoTo l f j := by
  unfold whoTo
  rw [List.range_succ, List.filter_append]
  simp only [List.filter, h, List.append_nil]
theorem whoTo_len (l : List Bool) (f : Int → Bool) (j : Nat) : (whoTo l f j).length ≤ j := by
  unfold whoTo
  exact Nat.le_trans (List.length_filter_le _ _) (by simp)
def whoL (l : List Bool) (f : Int → Bool) : List Nat := whoTo l f l.length
section
variable {w w' w1 w2 : World} {P p m k sb : Nat} {lv vv : Value} {nvs : List Value} {M M' : Sch.Master}
set_option maxRecDepth 100000 in
theorem who_nil (v : Value) (w : World) : Calls Tryd.prog 42 #[.pointer none, v] w fun e w' => e = .returned (.slice none 0 0) ∧ w = w' := by
  go_enter Tryd.func42, Tryd.ntmps42
  go_wp2_with fail
  go_ret
  exact ⟨rfl, rfl⟩
set_option maxRecDepth 100000 in
set_option maxHeartbeats 4000000 in
theorem who_any (h : MastIn w P p m lv nvs vv M) (hl : M.lives.length ≤ 16) {K : World → Prop} {v : Value} {f : Int → Bool} (hf : FnTells K v (fun x => ∃ i : Nat, i < M.lives.length ∧ x = (i : Int)) f) (hK : ∀ V, Below w.heap.size w V → K V) :
    Calls Tryd.prog 42 #[.pointer (some ⟨P, 0, none⟩), v] w (IntsPost w (numsI (whoL M.lives f))) := by
  obtain ⟨i0, hi0, hz0, hz1, hz2⟩ := info_parts int_info
  obtain ⟨F, recv, caps, rfl, hent, hcall⟩ := hf
  have HC := Lib.hid hcall; have HK := Lib.hid hK; have HM := Lib.hid h
  have HSH := Lib.hid (show whoTo M.lives f M.lives.length = whoL M.lives f from rfl)
  obtain ⟨qv, cv, evv⟩ := slice_len h.row
  have k1 := h.cells.2.1
  rw [evv] at k1
  have HEV := Lib.hid evv
  clear hcall hK h evv
  go_enter Tryd.func42, Tryd.ntmps42
  go_wp2_with fail
  go_loopw [4, 15] (fun v i wr => ∃ j : Nat, j ≤ M.lives.length ∧ i = .int .i64 j ∧ Below w.heap.size w wr ∧ wr.ownsRow w.heap.size 3 1 v (whoTo M.lives f j).length ((numsI (whoTo M.lives f j)).map encZ)) (fun _ i _ => M.lives.length - (intOf i).toNat)
  case atStart => exact ⟨0, Nat.zero_le _, rfl, Below.refl _ _, World.ownsRow_nil _ _ _ _⟩
  case round =>
    obtain ⟨j, hj, rfl, hb, hrow⟩ := hrel
    have HBL := Lib.hid hb; have HROW := Lib.hid hrow
    obtain ⟨qo, co, rfl⟩ := slice_len hrow
    clear hrow
    by_cases hlt : j < M.lives.length
    · obtain ⟨g, cap, ev, hix, hc, _, _⟩ := (HM.out.below hb).slice (i := j) hlt
      rw [HEV.out] at hix
      have HCL := Lib.hid (HC.out wr (j : Int) (HK.out wr hb) ⟨j, hlt, rfl⟩)
      have HYES := Lib.hid (whoTo_yes M.lives f j)
      have HNO := Lib.hid (whoTo_no M.lives f j)
      have hrl := whoTo_len M.lives f j
      have hs1 : w.heap.size ≤ wr.heap.size := hb.size
      clear hb ev
      generalize whoTo M.lives f j = out at *
      generalize hlj : M.lives.getD j false = lj at *
      cases lj with
      | false =>
        have HN := Lib.hid (HNO.out rfl)
        clear HYES HNO
        go_wp2_with fail
        go_roundw
        case rel => exact ⟨j + 1, by omega, by go_num, HBL.out, by rw [HN.out]; exact HROW.out⟩
        case measure => simp [intOf]; omega
      | true =>
        go_wp2_with fail
        refine HCL.out.mono ?_
        rintro e w1 ⟨rfl, rfl⟩
        generalize f (j : Int) = fj at *
        cases fj with
        | false =>
          have HN := Lib.hid (HNO.out rfl)
          clear HYES HNO
          go_wp2_with fail
          go_roundw
          case rel => exact ⟨j + 1, by omega, by go_num, HBL.out, by rw [HN.out]; exact HROW.out⟩
          case measure => simp [intOf]; omega
        | true =>
          have HY := Lib.hid (HYES.out rfl)
          clear HYES HNO
          go_wp2_with (at_builtin; refine wpList_append_lies _ rfl _ _ _ rfl w.heap.size 3 i0 _ 1 8 Tryd.underlying31 hi0 hz0 hz1 hz2 rfl (by omega) (.slice qo out.length co) out.length ((numsI out).map encZ) rfl (HROW.out.alloc _) ⟨wr.heap.size, 0, none⟩ 1 1 [.int .i64 (j : Int)] rfl rfl (World.news_of_block (cs := #[.int .i64 (j : Int)]) (t := 3) (fr := (0, 0)) (heap_alloc_new wr _)) (fun u hu => by simp at hu; subst hu; rfl) (by omega) (by unfold maxLen; omega) (by omega) (by simp; omega) (wr.heap.size + 1) (by simp) ?_; intro gg cap2 w2 hown2 hgrow hat hlt2; have HOWN2 := Lib.hid hown2; have HGROW := Lib.hid hgrow; clear hown2 hgrow hat hlt2)
          go_roundw
          case rel =>
            refine ⟨j + 1, by omega, by go_num, ((HBL.out.alloc hs1 _).grown HGROW.out (by simp; omega) (fun i e => row_base HROW.out e)), ?_⟩
            rw [HY.out, show (out ++ [j]).length = out.length + 1 by simp]
            have e : (numsI (out ++ [j])).map encZ = (numsI out).map encZ ++ [.int .i64 (j : Int)] := by unfold numsI; simp [encZ]
            rw [e]
            exact HOWN2.out
          case measure => simp [intOf]; omega
    · obtain rfl : j = M.lives.length := by omega
      have hrow := HROW.out
      rw [← numsI_len] at hrow
      obtain ⟨ia, ic, ie, iat, _⟩ := ints_of_row hrow
      have HNEW := Lib.hid (fun g hg => row_base HROW.out (g := g) hg)
      injection ie with ie1 ie0 ie2
      subst ie1; subst ie2
      have HIA := Lib.hid (show IntsAt wr qo (numsI (whoL M.lives f)) from iat)
      have HLEN := Lib.hid (show (whoTo M.lives f M.lives.length).length = (numsI (whoL M.lives f)).length from (numsI_len _).symm)
      clear iat ie0 hrow hb
      go_wp2_with fail
      go_ret
      exact ⟨qo, co, by rw [← HLEN.out]; rfl, HIA.out, HBL.out, fun p hp => HNEW.out p.block (by subst hp; rfl)⟩
set_option maxRecDepth 100000 in
theorem aliveFn : FnTells (fun _ => True) (.func (.func 44) #[] #[]) (fun x => ∃ i : Nat, i < M.lives.length ∧ x = (i : Int)) (fun _ => true) :=
  ⟨_, _, _, rfl, enters_of Tryd.func44 (by kernel_rfl) rfl, fun W x _ _ => by
    go_enter Tryd.func44, Tryd.ntmps44
    go_wp2_with fail
    go_ret
    exact ⟨rfl, rfl⟩⟩
set_option maxRecDepth 100000 in
theorem malive_any (h : MastIn w P p m lv nvs vv M) (hl : M.lives.length ≤ 16) :
    Calls Tryd.prog 23 #[.pointer (some ⟨P, 0, none⟩)] w (IntsPost w (numsI (whoL M.lives fun _ => true))) := by
  have HW := Lib.hid (who_any h hl (aliveFn (M := M)) (fun _ _ => trivial))
  clear h
  go_enter Tryd.func23, Tryd.ntmps23
  go_wp2_with fail
  refine HW.out.mono ?_
  rintro e w1 ⟨q, cap, rfl, hi, hb, hn⟩
  have HI := Lib.hid hi; have HB := Lib.hid hb; have HN := Lib.hid hn
  clear hi hb hn HW
  go_wp2_with fail
  go_ret
  exact ⟨q, cap, rfl, HI.out, HB.out, HN.out⟩
end
end Go.Proofs.YtgmhglcdifhimaaDoor
