/- maslin/sched: New, walked. maslin/sched: who, Alive, walked. -/
import Derived.Test.YtgmhglcdifhimaaDoorSchedDo
namespace Go.Proofs.YtgmhglcdifhimaaDoor
open Go.RowKit Go.Maps Go.Sort
open Tsk

def SMade (w : World) (L : List (List Int)) (r : Int) (W : Nat) (e : Ending) (w' : World) : Prop :=
  ∃ P p m lv nvs vv, e = .returned (.tuple #[.pointer (some ⟨P, 0, none⟩), .int .i64 0]) ∧ MastIn w' P p m lv nvs vv ⟨Board.new (natsL L) r.toNat, List.replicate W true⟩ ∧ Below w.heap.size w w' ∧ ∀ k, mastBlocks P p m lv vv k → w.heap.size ≤ k
theorem bool_info : (Tryd.prog.info? 4).map (fun i => (i.zero, i.size, i.bytes)) = some (some (.bool false), 1, 1) := by kernel_rfl
theorem livesRow_snoc (j : Nat) : livesRow (List.replicate (j + 1) true) = livesRow (List.replicate j true) ++ [.bool true] := by
  unfold livesRow
  rw [List.replicate_succ', List.map_append]
  rfl
theorem ownsRow_zero {w : World} {base e s n : Nat} {v : Value} {xs : List Value} (h : w.ownsRow base e s v n xs) : w.ownsRow 0 e s v n xs := by
  refine ⟨h.1, ?_⟩
  rcases h.2 with h2 | ⟨g, cap, cur, e1, _, rest⟩
  · exact .inl h2
  · exact .inr ⟨g, cap, cur, e1, Nat.zero_le _, rest⟩
section
variable {w w' w1 w2 : World} {P p m k sb : Nat} {lv vv : Value} {nvs : List Value} {M M' : Sch.Master}
set_option maxRecDepth 100000 in
theorem snew_bad (a : Option Addr) (cap : Nat) (L : List (List Int)) (r W : Int) (w : World) (hL : NeedsAt w a L) (hlen : L.length ≤ maxLen) (h : ¬ (MayB L r ∧ 1 ≤ W ∧ W ≤ 16)) :
    Calls Tryd.prog 9 #[.slice a L.length cap, .int .i64 W, .int .i64 r] w fun e w' => e = .returned (.tuple #[.pointer none, .int .i64 2]) ∧ Below w.heap.size w w' := by
  by_cases hm : MayB L r
  · have HN := Lib.hid (new_yes a cap L r w hL hm)
    clear hL
    by_cases h1 : W < 1
    · have h1' : decide (W < 1) = true := by simpa using h1
      clear h
      go_enter Tryd.func9, Tryd.ntmps9
      go_wp2_with fail
      refine HN.out.mono ?_
      rintro e w1 ⟨p, m, lv, nvs, rfl, -, hb, -⟩
      have HB := Lib.hid hb
      clear hb
      go_wp2_with fail
      go_ret2
      exact ⟨rfl, HB.out⟩
    · have h1' : decide (W < 1) = false := by simpa using h1
      have h2' : decide (16 < W) = true := by
        have : ¬ W ≤ 16 := fun h3 => h ⟨hm, by omega, h3⟩
        simp; omega
      clear h
      go_enter Tryd.func9, Tryd.ntmps9
      go_wp2_with fail
      refine HN.out.mono ?_
      rintro e w1 ⟨p, m, lv, nvs, rfl, -, hb, -⟩
      have HB := Lib.hid hb
      clear hb
      go_wp2_with fail
      go_ret2
      exact ⟨rfl, HB.out⟩
  · have HN := Lib.hid (new_no a cap L r w hL hlen hm)
    clear hL h
    go_enter Tryd.func9, Tryd.ntmps9
    go_wp2_with fail
    refine HN.out.mono ?_
    rintro e w1 ⟨rfl, hb⟩
    have HB := Lib.hid hb
    clear hb
    go_wp2_with fail
    go_ret2
    exact ⟨rfl, HB.out⟩
set_option maxRecDepth 100000 in
set_option maxHeartbeats 4000000 in
theorem snew_yes (a : Option Addr) (cap : Nat) (L : List (List Int)) (r : Int) (W : Nat) (w : World) (hL : NeedsAt w a L) (h : MayB L r) (h1 : 1 ≤ W) (h16 : W ≤ 16) (hD : Doors w) :
    Calls Tryd.prog 9 #[.slice a L.length cap, .int .i64 (W : Int), .int .i64 r] w (SMade w L r W) := by
  obtain ⟨i0, hi0, hz0, hz1, hz2⟩ := info_parts bool_info
  have HN := Lib.hid (new_yes a cap L r w hL h)
  have hLl : L.length ≤ 4096 := h.1
  have hW1 : decide ((W : Int) < 1) = false := by simp; omega
  have hW2 : decide ((16 : Int) < (W : Int)) = false := by simp; omega
  have HD := Lib.hid hD
  clear hL h hD
  go_enter Tryd.func9, Tryd.ntmps9
  go_wp2_with fail
  refine HN.out.mono ?_
  rintro e w1 ⟨p, m, lv, nvs, rfl, hB, hb, hnew⟩
  have HB := Lib.hid hB; have HBE := Lib.hid hb; have HNW := Lib.hid hnew
  clear hB hb hnew HN
  go_wp2_with fail
  have hp0 := RowAt.made w1 #[.pointer (some ⟨p, 0, none⟩), .slice none 0 0, .int .i64 (L.length : Int)] 79
  have hb0 : Below w1.heap.size w1 (w1.alloc (.cells #[.pointer (some ⟨p, 0, none⟩), .slice none 0 0, .int .i64 (L.length : Int)] 79)) := (Below.refl _ _).alloc (Nat.le_refl _) _
  generalize w1.alloc (.cells #[.pointer (some ⟨p, 0, none⟩), .slice none 0 0, .int .i64 (L.length : Int)] 79) = ws at *
  generalize hPb : w1.heap.size = Pb at *
  go_loopw [34] (fun i wr => ∃ (j : Nat) (v : Value), j ≤ W ∧ i = .int .i64 j ∧ RowAt wr Pb 79 [.pointer (some ⟨p, 0, none⟩), v, .int .i64 (L.length : Int)] ∧ wr.ownsRow (Pb + 1) 4 1 v j (livesRow (List.replicate j true)) ∧ Below Pb w1 wr) (fun i _ => W - (intOf i).toNat)
  case atStart => exact ⟨0, _, Nat.zero_le _, rfl, hp0, World.ownsRow_nil _ _ _ _, hb0⟩
  case round =>
    obtain ⟨j, v, hj, rfl, hp, hrow, hb⟩ := hrel
    have HP := Lib.hid hp; have HROW := Lib.hid hrow; have HBL := Lib.hid hb
    have c1 : wr.cell? ⟨Pb, 1, none⟩ = some v := hp.cell 1 (by simp)
    have hlt0 := hp.lt
    obtain ⟨qo, co, rfl⟩ := slice_len hrow
    clear hp hrow hb hp0 hb0
    by_cases hlt : j < W
    · go_wp2_with (at_builtin; refine wpList_append_lies _ rfl _ _ _ rfl (Pb + 1) 4 i0 _ 1 1 Tryd.underlying67 hi0 hz0 hz1 hz2 rfl (by omega) (.slice qo j co) j (livesRow (List.replicate j true)) rfl (HROW.out.alloc _) ⟨wr.heap.size, 0, none⟩ 1 1 [.bool true] rfl rfl (World.news_of_block (cs := #[.bool true]) (t := 4) (fr := (0, 0)) (heap_alloc_new wr _)) (fun u hu => by simp at hu; subst hu; rfl) (by omega) (by unfold maxLen; omega) (by omega) (by simp; omega) (wr.heap.size + 1) (by simp) ?_; intro gg cap2 w2 hown2 hgrow hat hlt2; have HOWN2 := Lib.hid hown2; have HGROW := Lib.hid hgrow; have hbA : Below wr.heap.size wr (wr.alloc (.cells #[.bool true] 4)) := (Below.refl _ _).alloc (Nat.le_refl _) _; have hu : Upd (fun k => Pb + 1 ≤ k) (wr.alloc (.cells #[.bool true] 4)) w2 := Upd.of_grownBy hgrow (fun k e => row_base HROW.out e); have hp2 := (HP.out.below hbA).upd hu (by omega); have HP2 := Lib.hid hp2; have c2 : w2.cell? ⟨Pb, 1, none⟩ = some (.slice qo j co) := hp2.cell 1 (by simp); have cf2 := hp2.free 1; clear hown2 hgrow hat hlt2 hbA hu hp2)
      go_roundw
      case rel =>
        have hne : ∀ g, (Value.slice (some ⟨gg, 0, none⟩) (j + 1) cap2).ownBlock = some g → ¬ g = Pb := fun g e => by have := row_base HOWN2.out e; omega
        have hbw : Below Pb w1 w2 := (HBL.out.alloc (by omega) _).grown HGROW.out (by simp; omega) (fun i e => by have := row_base HROW.out e; omega)
        refine ⟨j + 1, _, by omega, by go_num, HP2.out.set 1 _, ?_, hbw.setCell (Nat.le_refl _) _⟩
        rw [livesRow_snoc]
        exact ownsRow_upd HOWN2.out ((Upd.refl (fun k => k = Pb) w2).setCell (p := ⟨Pb, 1, none⟩) (.inl rfl) _) hne
      case measure => simp [intOf]; omega
    · obtain rfl : j = W := by omega
      go_wp2_with fail
      go_ret2
      have hbw : Below w.heap.size w wr := HBE.out.trans (HBL.out.mono (by rw [← hPb]; exact HBE.out.size))
      have h0 : 0 < w.heap.size := block_lt_of_cell HD.out.1
      have hle : w.heap.size ≤ Pb := by rw [← hPb]; exact HBE.out.size
      have hfar : ∀ k, mastBlocks Pb p m lv (.slice qo j co) k → w.heap.size ≤ k := by
        rintro k (rfl | hk | hk)
        · exact hle
        · have := row_base HROW.out hk
          omega
        · exact HNW.out k hk
      have hlen : (Board.new (natsL L) r.toNat).l.length = L.length := by unfold Board.new natsL; simp
      refine ⟨Pb, p, m, lv, nvs, .slice qo j co, rfl, ⟨?_, HB.out.below (by rw [hPb]; exact HBL.out), ?_, HD.out.upd (Upd.of_below (F := fun _ => False) hbw) h0 (fun f => f), fun k hk => Nat.lt_of_lt_of_le h0 (hfar k hk)⟩, hbw, hfar⟩
      · show RowAt wr Pb 79 [.pointer (some ⟨p, 0, none⟩), .slice qo j co, .int .i64 ((Board.new (natsL L) r.toNat).l.length : Int)]
        rw [hlen]
        exact HP.out
      · show wr.ownsRow 0 4 1 _ (List.replicate j true).length _
        rw [List.length_replicate]
        exact ownsRow_zero HROW.out
end
end Go.Proofs.YtgmhglcdifhimaaDoor

namespace Go.Proofs.YtgmhglcdifhimaaDoor
open Go.RowKit Go.Maps Go.Sort
open Tsk

def whoTo (l : List Bool) (f : Int → Bool) (j : Nat) : List Nat := (List.range j).filter fun i => l.getD i false && f (i : Int)
theorem whoTo_yes (l : List Bool) (f : Int → Bool) (j : Nat) (h : (l.getD j false && f (j : Int)) = true) : whoTo l f (j + 1) = whoTo l f j ++ [j] := by
  unfold whoTo
  rw [List.range_succ, List.filter_append]
  simp only [List.filter, h]
theorem whoTo_no (l : List Bool) (f : Int → Bool) (j : Nat) (h : (l.getD j false && f (j : Int)) = false) : whoTo l f (j + 1) = whoTo l f j := by
  unfold whoTo
  rw [List.range_succ, List.filter_append]
  simp only [List.filter, h, List.append_nil]
theorem whoTo_len (l : List Bool) (f : Int → Bool) (j : Nat) : (whoTo l f j).length ≤ j := by
  unfold whoTo
  exact Nat.le_trans (List.length_filter_le _ _) (by simp)
def whoL (l : List Bool) (f : Int → Bool) : List Nat := whoTo l f l.length
section
variable {w w' w1 w2 : World} {P p m k sb : Nat} {lv vv : Value} {nvs : List Value} {M M' : Sch.Master}
set_option maxRecDepth 100000 in
theorem who_nil (v : Value) (w : World) : Calls Tryd.prog 42 #[.pointer none, v] w fun e w' => e = .returned (.slice none 0 0) ∧ w = w' := by
  go_enter Tryd.func42, Tryd.ntmps42
  go_wp2_with fail
  go_ret
  exact ⟨rfl, rfl⟩
set_option maxRecDepth 100000 in
set_option maxHeartbeats 4000000 in
theorem who_any (h : MastIn w P p m lv nvs vv M) (hl : M.lives.length ≤ 16) {K : World → Prop} {v : Value} {f : Int → Bool} (hf : FnTells K v (fun x => ∃ i : Nat, i < M.lives.length ∧ x = (i : Int)) f) (hK : ∀ V, Below w.heap.size w V → K V) :
    Calls Tryd.prog 42 #[.pointer (some ⟨P, 0, none⟩), v] w (IntsPost w (numsI (whoL M.lives f))) := by
  obtain ⟨i0, hi0, hz0, hz1, hz2⟩ := info_parts int_info
  obtain ⟨F, recv, caps, rfl, hent, hcall⟩ := hf
  have HC := Lib.hid hcall; have HK := Lib.hid hK; have HM := Lib.hid h
  have HSH := Lib.hid (show whoTo M.lives f M.lives.length = whoL M.lives f from rfl)
  obtain ⟨qv, cv, evv⟩ := slice_len h.row
  have k1 := h.cells.2.1
  rw [evv] at k1
  have HEV := Lib.hid evv
  clear hcall hK h evv
  go_enter Tryd.func42, Tryd.ntmps42
  go_wp2_with fail
  go_loopw [4, 15] (fun v i wr => ∃ j : Nat, j ≤ M.lives.length ∧ i = .int .i64 j ∧ Below w.heap.size w wr ∧ wr.ownsRow w.heap.size 3 1 v (whoTo M.lives f j).length ((numsI (whoTo M.lives f j)).map encZ)) (fun _ i _ => M.lives.length - (intOf i).toNat)
  case atStart => exact ⟨0, Nat.zero_le _, rfl, Below.refl _ _, World.ownsRow_nil _ _ _ _⟩
  case round =>
    obtain ⟨j, hj, rfl, hb, hrow⟩ := hrel
    have HBL := Lib.hid hb; have HROW := Lib.hid hrow
    obtain ⟨qo, co, rfl⟩ := slice_len hrow
    clear hrow
    by_cases hlt : j < M.lives.length
    · obtain ⟨g, cap, ev, hix, hc, _, _⟩ := (HM.out.below hb).slice (i := j) hlt
      rw [HEV.out] at hix
      have HCL := Lib.hid (HC.out wr (j : Int) (HK.out wr hb) ⟨j, hlt, rfl⟩)
      have HYES := Lib.hid (whoTo_yes M.lives f j)
      have HNO := Lib.hid (whoTo_no M.lives f j)
      have hrl := whoTo_len M.lives f j
      have hs1 : w.heap.size ≤ wr.heap.size := hb.size
      clear hb ev
      generalize whoTo M.lives f j = out at *
      generalize hlj : M.lives.getD j false = lj at *
      cases lj with
      | false =>
        have HN := Lib.hid (HNO.out rfl)
        clear HYES HNO
        go_wp2_with fail
        go_roundw
        case rel => exact ⟨j + 1, by omega, by go_num, HBL.out, by rw [HN.out]; exact HROW.out⟩
        case measure => simp [intOf]; omega
      | true =>
        go_wp2_with fail
        refine HCL.out.mono ?_
        rintro e w1 ⟨rfl, rfl⟩
        generalize f (j : Int) = fj at *
        cases fj with
        | false =>
          have HN := Lib.hid (HNO.out rfl)
          clear HYES HNO
          go_wp2_with fail
          go_roundw
          case rel => exact ⟨j + 1, by omega, by go_num, HBL.out, by rw [HN.out]; exact HROW.out⟩
          case measure => simp [intOf]; omega
        | true =>
          have HY := Lib.hid (HYES.out rfl)
          clear HYES HNO
          go_wp2_with (at_builtin; refine wpList_append_lies _ rfl _ _ _ rfl w.heap.size 3 i0 _ 1 8 Tryd.underlying31 hi0 hz0 hz1 hz2 rfl (by omega) (.slice qo out.length co) out.length ((numsI out).map encZ) rfl (HROW.out.alloc _) ⟨wr.heap.size, 0, none⟩ 1 1 [.int .i64 (j : Int)] rfl rfl (World.news_of_block (cs := #[.int .i64 (j : Int)]) (t := 3) (fr := (0, 0)) (heap_alloc_new wr _)) (fun u hu => by simp at hu; subst hu; rfl) (by omega) (by unfold maxLen; omega) (by omega) (by simp; omega) (wr.heap.size + 1) (by simp) ?_; intro gg cap2 w2 hown2 hgrow hat hlt2; have HOWN2 := Lib.hid hown2; have HGROW := Lib.hid hgrow; clear hown2 hgrow hat hlt2)
          go_roundw
          case rel =>
            refine ⟨j + 1, by omega, by go_num, ((HBL.out.alloc hs1 _).grown HGROW.out (by simp; omega) (fun i e => row_base HROW.out e)), ?_⟩
            rw [HY.out, show (out ++ [j]).length = out.length + 1 by simp]
            have e : (numsI (out ++ [j])).map encZ = (numsI out).map encZ ++ [.int .i64 (j : Int)] := by unfold numsI; simp [encZ]
            rw [e]
            exact HOWN2.out
          case measure => simp [intOf]; omega
    · obtain rfl : j = M.lives.length := by omega
      have hrow := HROW.out
      rw [← numsI_len] at hrow
      obtain ⟨ia, ic, ie, iat, _⟩ := ints_of_row hrow
      have HNEW := Lib.hid (fun g hg => row_base HROW.out (g := g) hg)
      injection ie with ie1 ie0 ie2
      subst ie1; subst ie2
      have HIA := Lib.hid (show IntsAt wr qo (numsI (whoL M.lives f)) from iat)
      have HLEN := Lib.hid (show (whoTo M.lives f M.lives.length).length = (numsI (whoL M.lives f)).length from (numsI_len _).symm)
      clear iat ie0 hrow hb
      go_wp2_with fail
      go_ret
      exact ⟨qo, co, by rw [← HLEN.out]; rfl, HIA.out, HBL.out, fun p hp => HNEW.out p.block (by subst hp; rfl)⟩
set_option maxRecDepth 100000 in
theorem aliveFn : FnTells (fun _ => True) (.func (.func 44) #[] #[]) (fun x => ∃ i : Nat, i < M.lives.length ∧ x = (i : Int)) (fun _ => true) :=
  ⟨_, _, _, rfl, enters_of Tryd.func44 (by kernel_rfl) rfl, fun W x _ _ => by
    go_enter Tryd.func44, Tryd.ntmps44
    go_wp2_with fail
    go_ret
    exact ⟨rfl, rfl⟩⟩
set_option maxRecDepth 100000 in
theorem malive_any (h : MastIn w P p m lv nvs vv M) (hl : M.lives.length ≤ 16) :
    Calls Tryd.prog 23 #[.pointer (some ⟨P, 0, none⟩)] w (IntsPost w (numsI (whoL M.lives fun _ => true))) := by
  have HW := Lib.hid (who_any h hl (aliveFn (M := M)) (fun _ _ => trivial))
  clear h
  go_enter Tryd.func23, Tryd.ntmps23
  go_wp2_with fail
  refine HW.out.mono ?_
  rintro e w1 ⟨q, cap, rfl, hi, hb, hn⟩
  have HI := Lib.hid hi; have HB := Lib.hid hb; have HN := Lib.hid hn
  clear hi hb hn HW
  go_wp2_with fail
  go_ret
  exact ⟨q, cap, rfl, HI.out, HB.out, HN.out⟩
end
end Go.Proofs.YtgmhglcdifhimaaDoor
