/- ManA -/
import Derived.Test.YtoaihngckcbhiaaGreatDoorPkOct
import Derived.Test.YtoaihngckcbhiaaGreatDoorPkBase
import Derived.Shelf.SlGeneric
import Derived.Shelf.Slices.CompactS
import Derived.Shelf.Slices.Clone
import Derived.Shelf.Slices.Equal
import Derived.Ground.NamesProg
import Derived.Ground.Names2Prog
import Derived.Test.YtoaihngckcbhiaaGreatDoorPkFilNames2
import Derived.Lib.OwnBridge
import Derived.Shelf.Slices.Empties2
import Derived.Shelf.Strconv.Itoa3
import Derived.Test.YtoaihngckcbhiaaGreatDoorPkFilAlive
import Derived.Laws.ResultCell
namespace Go.Proofs.YtoaihngckcbhiaaGreatDoor.Man
open Go.RowKit Wal
def packT (v : Nat) (job : List UInt8) (l : List (List UInt8)) : List UInt8 × Int :=
  if 64 < job.length then ([], 5) else match rowE l with
    | none => ([], 5)
    | some r => if 65535 < (Crc.sealT (Crc.le 8 v ++ (Crc.le 2 job.length ++ job) ++ r)).length then ([], 5) else (Crc.sealT (Crc.le 8 v ++ (Crc.le 2 job.length ++ job) ++ r), 0)
def unpackT (d : List UInt8) : Option (Nat × List UInt8 × List (List UInt8)) :=
  if (Crc.openT d).2 ≠ 0 ∨ (Crc.openT d).1.length < 8 then none else match readT ((Crc.openT d).1.drop 8) with
    | none => none
    | some (job, n) => if 64 < job.length then none else (readRow (((Crc.openT d).1.drop 8).drop n)).map fun l => (Crc.val ((Crc.openT d).1.take 8), job, l)
theorem rowE_small {l : List (List UInt8)} {r : List UInt8} (h : rowE l = some r) {B : Nat} (hb : rowLen l ≤ B) : r.length ≤ B := by
  unfold rowE at h
  split at h
  · cases ht : textsE l with
    | none => rw [ht] at h; cases h
    | some s =>
      rw [ht] at h
      have := textsE_length ht
      simp at h
      rw [← h]
      simp [Crc.le_length]
      omega
  · cases h
set_option maxRecDepth 100000 in
set_option maxHeartbeats 6000000 in
theorem pack_any (v : Nat) (job : List UInt8) (l : List (List UInt8)) (a : Option Addr) (cap : Nat) (w : World) (hv : v < 18446744073709551616) (hl : TextsAt w a l) (hlen : l.length ≤ maxLen) (hsum : rowLen l ≤ 1000000000) :
    Calls Tryz.prog 50 #[.int .u64 (v : Int), .string (bs job), .slice a l.length cap] w fun e w' => e = .returned (.tuple #[.string (bs (packT v job l).1), .int .i64 (packT v job l).2]) ∧ Below w.heap.size w w' := by
  have HL := Lib.hid hl
  have HSUM := Lib.hid hsum
  clear hl hsum
  by_cases hj : 65535 < job.length
  · have hP : Hid (packT v job l = ([], 5)) := Lib.hid (by unfold packT; rw [if_pos (by omega)])
    rw [hP.out]
    go_enter Tryz.func50, Tryz.ntmps50
    go_wp2_with fail
    refine (put_any v 8 _ hv (by decide) (by decide)).mono ?_
    rintro e w1 ⟨rfl, hb1⟩
    have HB1 := Lib.hid hb1
    clear hb1
    go_wp2_with fail
    refine (otext_no job _ hj).mono ?_
    rintro e w2 ⟨rfl, rfl⟩
    go_wp2_with fail
    go_ret2
    exact ⟨rfl, HB1.out⟩
  · by_cases hj2 : 64 < job.length
    · have hP : Hid (packT v job l = ([], 5)) := Lib.hid (by unfold packT; rw [if_pos hj2])
      rw [hP.out]
      go_enter Tryz.func50, Tryz.ntmps50
      go_wp2_with fail
      refine (put_any v 8 _ hv (by decide) (by decide)).mono ?_
      rintro e w1 ⟨rfl, hb1⟩
      have HB1 := Lib.hid hb1
      clear hb1
      go_wp2_with fail
      refine (otext_ok job _ (by omega)).mono ?_
      rintro e w2 ⟨rfl, hb2⟩
      have HB2 := Lib.hid (HB1.out.trans (hb2.mono HB1.out.size))
      clear hb2
      go_wp2_with fail
      go_ret2
      exact ⟨rfl, HB2.out⟩
    · obtain ⟨A, hAe, hA⟩ : ∃ A, Crc.le 8 v = A ∧ A.length = 8 := ⟨_, rfl, Crc.le_length 8 v⟩
      obtain ⟨J, hJe, hJ⟩ : ∃ J, Crc.le 2 job.length ++ job = J ∧ J.length ≤ 66 := ⟨_, rfl, by simp [Crc.le_length]; omega⟩
      have hAJ : (A ++ J).length ≤ 74 := by rw [List.length_append]; omega
      have hput := fun W => put_any v 8 W hv (by decide) (by decide)
      have htext := fun W => otext_ok job W (by omega)
      rw [hAe] at hput
      rw [hJe] at htext
      have HPUT := Lib.hid hput
      have HTEXT := Lib.hid htext
      clear hput htext
      cases hr : rowE l with
      | none =>
        have hP : Hid (packT v job l = ([], 5)) := Lib.hid (by unfold packT; rw [if_neg hj2, hr])
        have hrow := fun W h => orow_any l a cap W h hlen HSUM.out
        rw [show rowV l = ([], 5) by unfold rowV; rw [hr]] at hrow
        have HROW := Lib.hid hrow
        clear hrow hr
        go_enter Tryz.func50, Tryz.ntmps50
        go_wp2_with fail
        refine (HPUT.out _).mono ?_
        rintro e w1 ⟨rfl, hb1⟩
        have HB1 := Lib.hid hb1
        clear hb1
        go_wp2_with fail
        refine (HTEXT.out _).mono ?_
        rintro e w2 ⟨rfl, hb2⟩
        have HB2 := Lib.hid (HB1.out.trans (hb2.mono HB1.out.size))
        clear hb2
        go_wp2_with fail
        refine (HROW.out _ (HL.out.below HB2.out)).mono ?_
        rintro e w3 ⟨rfl, hb3⟩
        have HB3 := Lib.hid (HB2.out.trans (hb3.mono HB2.out.size))
        clear hb3
        go_wp2_with fail
        go_ret2
        rw [hP.out]
        exact ⟨rfl, HB3.out⟩
      | some r =>
        have hrl : r.length ≤ 1000000000 := rowE_small hr HSUM.out
        obtain ⟨S, hSe, hSl⟩ : ∃ S, Crc.sealT (A ++ J ++ r) = S ∧ S.length ≤ 2000000000 := ⟨_, rfl, by rw [Crc.seal_length, List.length_append]; omega⟩
        have hP : Hid (packT v job l = if 65535 < S.length then ([], 5) else (S, 0)) := Lib.hid (by unfold packT; rw [if_neg hj2, hr, hAe, hJe]; show (if 65535 < (Crc.sealT (A ++ J ++ r)).length then _ else _) = _; rw [hSe])
        have hrow := fun W h => orow_any l a cap W h hlen HSUM.out
        have hseal := fun W => seal_any (A ++ J ++ r) W (by rw [List.length_append]; omega)
        rw [show rowV l = (r, 0) by unfold rowV; rw [hr]] at hrow
        rw [hSe, List.append_assoc] at hseal
        have HROW := Lib.hid hrow
        have HSEAL := Lib.hid hseal
        clear hrow hseal hr hAe hJe hSe
        go_enter Tryz.func50, Tryz.ntmps50
        go_wp2_with fail
        refine (HPUT.out _).mono ?_
        rintro e w1 ⟨rfl, hb1⟩
        have HB1 := Lib.hid hb1
        clear hb1
        go_wp2_with fail
        refine (HTEXT.out _).mono ?_
        rintro e w2 ⟨rfl, hb2⟩
        have HB2 := Lib.hid (HB1.out.trans (hb2.mono HB1.out.size))
        clear hb2
        go_wp2_with fail
        refine (HROW.out _ (HL.out.below HB2.out)).mono ?_
        rintro e w3 ⟨rfl, hb3⟩
        have HB3 := Lib.hid (HB2.out.trans (hb3.mono HB2.out.size))
        clear hb3
        go_wp2_with fail
        refine (HSEAL.out _).mono ?_
        rintro e w4 ⟨rfl, hb4⟩
        have HB4 := Lib.hid (HB3.out.trans (hb4.mono HB3.out.size))
        clear hb4
        by_cases hS : 65535 < S.length
        · go_wp2_with fail
          go_ret2
          rw [hP.out, if_pos hS]
          exact ⟨rfl, HB4.out⟩
        · go_wp2_with fail
          go_ret2
          rw [hP.out, if_neg hS]
          exact ⟨rfl, HB4.out⟩
theorem cut_any (s : List UInt8) (n : Nat) (b : Nat) (w : World) (hn : n ≤ s.length) (hb : w.heap[b]? = some (.cells #[.string (bs s)] 9)) :
    Calls Tryz.prog 102 #[.int .i64 (n : Int), .pointer (some ⟨b, 0, none⟩)] w fun e w' => e = .returned (.string (bs (s.take n))) ∧ w' = w.setCell ⟨b, 0, none⟩ (.string (bs (s.drop n))) := by
  have c0 : w.cell? ⟨b, 0, none⟩ = some (.string (bs s)) := by rw [cell_of_row w b _ _ _ _ hb]; rfl
  have f0 := frozen_of_row w b 0 _ _ hb
  have hcut : ∀ W, (Instr.slice 9 (.string (bs s)) (some (.int .i64 (n : Int))) none none).run Tryz.prog W = .ok (.string (bs (s.drop n))) W := fun W => run_cut_from Tryz.prog W 9 Tryz.underlying9 s n hn
  have hcut2 : ∀ W, (Instr.slice 9 (.string (bs s)) none (some (.int .i64 (n : Int))) none).run Tryz.prog W = .ok (.string (bs (s.take n))) W := fun W => by
    have g2 : (n : Int) ≤ (s.length : Int) := by omega
    simp [Instr.slice, run_underlying Tryz.underlying9, Instr.sliceBounds, run_sliceBound, go_sem, g2]
  clear hb
  go_enter Tryz.func102, Tryz.ntmps102
  go_wp2_with fail
  go_ret
  exact ⟨rfl, rfl⟩
def UnpackPost (w : World) (d : List UInt8) (e : Ending) (w' : World) : Prop :=
  Below w.heap.size w w' ∧ match unpackT d with
    | none => ∃ (v : Nat) (t : List UInt8), e = .returned (.tuple #[.int .u64 (v : Int), .string (bs t), .slice none 0 0, .bool false])
    | some (v, job, l) => ∃ sl, e = .returned (.tuple #[.int .u64 (v : Int), .string (bs job), sl, .bool true]) ∧ w'.ownsRow 0 9 1 sl l.length (strCells l) ∧ ∀ g, sl.ownBlock = some g → w.heap.size ≤ g
theorem openT_le (l : List UInt8) : (Crc.openT l).1.length ≤ l.length := by
  unfold Crc.openT
  split
  · simp
  · split
    · simp
    · simp
set_option maxRecDepth 100000 in
set_option maxHeartbeats 8000000 in
theorem unpack_any (d : List UInt8) (w : World) (hd : d.length ≤ 1000000000) :
    Calls Tryz.prog 45 #[.string (bs d)] w fun e w' => UnpackPost w d e w' := by
  have hopen := fun W => open_any d W (by omega)
  obtain ⟨s, hse⟩ : ∃ s, (Crc.openT d).1 = s := ⟨_, rfl⟩
  obtain ⟨o, hoe⟩ : ∃ o, (Crc.openT d).2 = o := ⟨_, rfl⟩
  have hsl : s.length ≤ 1000000000 := by rw [← hse]; exact Nat.le_trans (openT_le d) hd
  have hunp : unpackT d = if o ≠ 0 ∨ s.length < 8 then none else match readT (s.drop 8) with | none => none | some (job, n) => if 64 < job.length then none else (readRow ((s.drop 8).drop n)).map fun l => (Crc.val (s.take 8), job, l) := by
    unfold unpackT; rw [hse, hoe]
  rw [hse, hoe] at hopen
  have HOPEN := Lib.hid hopen
  have HUNP := Lib.hid hunp
  clear hopen hunp hse hoe
  by_cases ho : o = 0
  · subst ho
    by_cases hs : s.length < 8
    · have hU : Hid (unpackT d = none) := Lib.hid (by rw [HUNP.out, if_pos (.inr hs)])
      go_enter Tryz.func45, Tryz.ntmps45
      go_wp2_with fail
      refine (HOPEN.out _).mono ?_
      rintro e w1 ⟨rfl, hb1⟩
      have HB1 := Lib.hid hb1
      clear hb1
      go_wp2_with fail
      refine bodyPost_ret (v := .tuple #[.int .u64 0, .string { data := #[] }, .slice none 0 0, .bool false]) (by simp [results, Tryz.results45, go_sem]) rfl ?_
      refine ⟨HB1.out.alloc HB1.out.size _, ?_⟩
      rw [hU.out]
      exact ⟨0, [], rfl⟩
    · obtain ⟨s8, hs8e, hs8⟩ : ∃ x, s.drop 8 = x ∧ x.length ≤ 1000000000 := ⟨_, rfl, by rw [List.length_drop]; omega⟩
      have htl : (s.take 8).length = 8 := by rw [List.length_take]; omega
      obtain ⟨t8, ht8e, ht8⟩ : ∃ x, s.take 8 = x ∧ x.length = 8 := ⟨_, rfl, htl⟩
      have hcutc := fun b W h => cut_any s 8 b W (by omega) h
      rw [hs8e, ht8e] at hcutc
      have HCUT := Lib.hid hcutc
      have HUNP2 := Lib.hid HUNP.out
      clear htl hcutc
      have hlow : ¬ (s.length : Int) < 8 := by omega
      have hpre : unpackT d = match readT s8 with | none => none | some (job, n) => if 64 < job.length then none else (readRow (s8.drop n)).map fun l => (Crc.val t8, job, l) := by rw [HUNP.out, if_neg (by omega), hs8e, ht8e]
      cases hR : readT s8 with
      | none =>
        have hU : Hid (unpackT d = none) := Lib.hid (by rw [hpre, hR])
        have hread := fun W => oread_any s8 W (by omega)
        rw [show readV s8 = ([], 0, 6) by unfold readV; rw [hR]] at hread
        have HREAD := Lib.hid hread
        clear hread hpre hR hs8e ht8e
        go_enter Tryz.func45, Tryz.ntmps45
        go_wp2_with fail
        refine (HOPEN.out _).mono ?_
        rintro e w1 ⟨rfl, hb1⟩
        have HB1 := Lib.hid hb1
        clear hb1
        go_wp2_with fail
        refine (HCUT.out w1.heap.size _ (heap_alloc_new w1 _)).mono ?_
        rintro e w2 ⟨rfl, hw2⟩
        have hr2 : w2.heap[w1.heap.size]? = some (.cells #[.string (bs s8)] 9) := by rw [hw2]; exact heap_setCell_same _ _ 0 _ _ _ (heap_alloc_new w1 _)
        have HB2 := Lib.hid (show Below w.heap.size w w2 by rw [hw2]; exact (HB1.out.alloc HB1.out.size _).setCell (p := ⟨w1.heap.size, 0, none⟩) HB1.out.size _)
        have hq2 : w1.heap.size < w2.heap.size := (Array.getElem?_eq_some_iff.1 hr2).1
        have c2 : w2.cell? ⟨w1.heap.size, 0, none⟩ = some (.string (bs s8)) := by rw [cell_of_row w2 _ _ _ _ _ hr2]; rfl
        have HR2 := Lib.hid hr2
        clear hw2 hr2
        go_wp2_with fail
        refine (get_any t8 _ (by omega) (by omega)).mono ?_
        rintro e w3 ⟨rfl, rfl⟩
        go_wp2_with fail
        refine (HREAD.out _).mono ?_
        rintro e w3 ⟨rfl, hb3⟩
        have HB3 := Lib.hid (HB2.out.trans (hb3.mono HB2.out.size))
        have HR3 := Lib.hid ((hb3.block _ hq2).trans HR2.out)
        have c3 : w3.cell? ⟨w1.heap.size, 0, none⟩ = some (.string (bs s8)) := (hb3.cell hq2).trans c2
        have hq3 : w1.heap.size < w3.heap.size := Nat.lt_of_lt_of_le hq2 hb3.size
        clear hb3 c2
        go_wp2_with fail
        refine bodyPost_ret (v := .tuple #[.int .u64 0, .string { data := #[] }, .slice none 0 0, .bool false]) (by simp [results, Tryz.results45, go_sem]) rfl ?_
        refine ⟨HB3.out, ?_⟩
        rw [hU.out]
        exact ⟨0, [], rfl⟩
      | some r =>
        obtain ⟨job, n⟩ := r
        obtain ⟨_, hn1, hn2⟩ := readT_some hR
        have hread := fun W => oread_any s8 W (by omega)
        rw [show readV s8 = (job, n, 0) by unfold readV; rw [hR]] at hread
        have HREAD := Lib.hid hread
        by_cases hj : 64 < job.length
        · have hU : Hid (unpackT d = none) := Lib.hid (by rw [hpre, hR]; exact if_pos hj)
          clear hread hpre hR hs8e ht8e
          go_enter Tryz.func45, Tryz.ntmps45
          go_wp2_with fail
          refine (HOPEN.out _).mono ?_
          rintro e w1 ⟨rfl, hb1⟩
          have HB1 := Lib.hid hb1
          clear hb1
          go_wp2_with fail
          refine (HCUT.out w1.heap.size _ (heap_alloc_new w1 _)).mono ?_
          rintro e w2 ⟨rfl, hw2⟩
          have hr2 : w2.heap[w1.heap.size]? = some (.cells #[.string (bs s8)] 9) := by rw [hw2]; exact heap_setCell_same _ _ 0 _ _ _ (heap_alloc_new w1 _)
          have HB2 := Lib.hid (show Below w.heap.size w w2 by rw [hw2]; exact (HB1.out.alloc HB1.out.size _).setCell (p := ⟨w1.heap.size, 0, none⟩) HB1.out.size _)
          have hq2 : w1.heap.size < w2.heap.size := (Array.getElem?_eq_some_iff.1 hr2).1
          have c2 : w2.cell? ⟨w1.heap.size, 0, none⟩ = some (.string (bs s8)) := by rw [cell_of_row w2 _ _ _ _ _ hr2]; rfl
          have HR2 := Lib.hid hr2
          clear hw2 hr2
          go_wp2_with fail
          refine (get_any t8 _ (by omega) (by omega)).mono ?_
          rintro e w3 ⟨rfl, rfl⟩
          go_wp2_with fail
          refine (HREAD.out _).mono ?_
          rintro e w3 ⟨rfl, hb3⟩
          have HB3 := Lib.hid (HB2.out.trans (hb3.mono HB2.out.size))
          have HR3 := Lib.hid ((hb3.block _ hq2).trans HR2.out)
          have c3 : w3.cell? ⟨w1.heap.size, 0, none⟩ = some (.string (bs s8)) := (hb3.cell hq2).trans c2
          have hq3 : w1.heap.size < w3.heap.size := Nat.lt_of_lt_of_le hq2 hb3.size
          clear hb3 c2
          go_wp2_with fail
          refine bodyPost_ret (v := .tuple #[.int .u64 0, .string { data := #[] }, .slice none 0 0, .bool false]) (by simp [results, Tryz.results45, go_sem]) rfl ?_
          refine ⟨HB3.out, ?_⟩
          rw [hU.out]
          exact ⟨0, [], rfl⟩
        · obtain ⟨R, hRe⟩ : ∃ R, readRow (s8.drop n) = R := ⟨_, rfl⟩
          have HU := Lib.hid (show unpackT d = R.map fun l => (Crc.val t8, job, l) by rw [hpre, hR]; show (if 64 < job.length then none else _) = _; rw [if_neg hj, hRe])
          have hrow := fun W => readRow_any (s8.drop n) W (by rw [List.length_drop]; omega)
          unfold RowPost at hrow
          rw [hRe] at hrow
          have HROW := Lib.hid hrow
          clear hread hpre hR hs8e ht8e hrow hRe
          go_enter Tryz.func45, Tryz.ntmps45
          go_wp2_with fail
          refine (HOPEN.out _).mono ?_
          rintro e w1 ⟨rfl, hb1⟩
          have HB1 := Lib.hid hb1
          clear hb1
          go_wp2_with fail
          refine (HCUT.out w1.heap.size _ (heap_alloc_new w1 _)).mono ?_
          rintro e w2 ⟨rfl, hw2⟩
          have hr2 : w2.heap[w1.heap.size]? = some (.cells #[.string (bs s8)] 9) := by rw [hw2]; exact heap_setCell_same _ _ 0 _ _ _ (heap_alloc_new w1 _)
          have HB2 := Lib.hid (show Below w.heap.size w w2 by rw [hw2]; exact (HB1.out.alloc HB1.out.size _).setCell (p := ⟨w1.heap.size, 0, none⟩) HB1.out.size _)
          have hq2 : w1.heap.size < w2.heap.size := (Array.getElem?_eq_some_iff.1 hr2).1
          have c2 : w2.cell? ⟨w1.heap.size, 0, none⟩ = some (.string (bs s8)) := by rw [cell_of_row w2 _ _ _ _ _ hr2]; rfl
          have HR2 := Lib.hid hr2
          clear hw2 hr2
          go_wp2_with fail
          refine (get_any t8 _ (by omega) (by omega)).mono ?_
          rintro e w3 ⟨rfl, rfl⟩
          go_wp2_with fail
          refine (HREAD.out _).mono ?_
          rintro e w3 ⟨rfl, hb3⟩
          have HB3 := Lib.hid (HB2.out.trans (hb3.mono HB2.out.size))
          have HR3 := Lib.hid ((hb3.block _ hq2).trans HR2.out)
          have c3 : w3.cell? ⟨w1.heap.size, 0, none⟩ = some (.string (bs s8)) := (hb3.cell hq2).trans c2
          have hq3 : w1.heap.size < w3.heap.size := Nat.lt_of_lt_of_le hq2 hb3.size
          clear hb3 c2
          go_wp2_with fail
          refine (cut_any s8 n w1.heap.size _ hn1 HR3.out).mono ?_
          rintro e w4 ⟨rfl, hw4⟩
          have hr4 : w4.heap[w1.heap.size]? = some (.cells #[.string (bs (s8.drop n))] 9) := by rw [hw4]; exact heap_setCell_same _ _ 0 _ _ _ HR3.out
          have HB4 := Lib.hid (show Below w.heap.size w w4 by rw [hw4]; exact HB3.out.setCell (p := ⟨w1.heap.size, 0, none⟩) HB1.out.size _)
          have c4 : w4.cell? ⟨w1.heap.size, 0, none⟩ = some (.string (bs (s8.drop n))) := by rw [cell_of_row w4 _ _ _ _ _ hr4]; rfl
          clear hw4 hr4 c3
          go_wp2_with fail
          refine (HROW.out _).mono ?_
          intro e w5 h5
          cases R with
          | none =>
            obtain ⟨rfl, hb5⟩ := h5
            have HB5 := Lib.hid (HB4.out.trans (hb5.mono HB4.out.size))
            clear hb5
            go_wp2_with fail
            refine bodyPost_ret (v := .tuple #[.int .u64 (Crc.val t8 : Nat), .string (bs job), .slice none 0 0, .bool false]) (by simp [results, Tryz.results45, go_sem]) rfl ?_
            refine ⟨HB5.out, ?_⟩
            rw [HU.out]
            exact ⟨_, _, rfl⟩
          | some l =>
            obtain ⟨v, rfl, ho5, hb5, hg5⟩ := h5
            have HB5 := Lib.hid (HB4.out.trans (hb5.mono HB4.out.size))
            have HO5 := Lib.hid ho5
            have HG5 := Lib.hid (show ∀ g, v.ownBlock = some g → w.heap.size ≤ g from fun g h => Nat.le_trans HB4.out.size (hg5 g h))
            clear hb5 ho5 hg5
            go_wp2_with fail
            refine bodyPost_ret (v := .tuple #[.int .u64 (Crc.val t8 : Nat), .string (bs job), v, .bool true]) (by simp [results, Tryz.results45, go_sem]) rfl ?_
            refine ⟨HB5.out, ?_⟩
            rw [HU.out]
            exact ⟨_, rfl, HO5.out, HG5.out⟩
  · have hU : Hid (unpackT d = none) := Lib.hid (by rw [HUNP.out, if_pos (.inl ho)])
    have ho2 : ¬ o = (0 : Int) := ho
    go_enter Tryz.func45, Tryz.ntmps45
    go_wp2_with fail
    refine (HOPEN.out _).mono ?_
    rintro e w1 ⟨rfl, hb1⟩
    have HB1 := Lib.hid hb1
    clear hb1
    go_wp2_with fail
    refine bodyPost_ret (v := .tuple #[.int .u64 0, .string { data := #[] }, .slice none 0 0, .bool false]) (by simp [results, Tryz.results45, go_sem]) rfl ?_
    refine ⟨HB1.out.alloc HB1.out.size _, ?_⟩
    rw [hU.out]
    exact ⟨0, [], rfl⟩
end Go.Proofs.YtoaihngckcbhiaaGreatDoor.Man
namespace Go.Proofs.YtoaihngckcbhiaaGreatDoor
open Go.RowKit Go.Shelf
def mclone_ren : Go.Shelf.Ren := ⟨fun | 16 => 114 | n => n, fun | 24 => 30 | 9 => 9 | 4 => 4 | n => n, fun | n => n⟩
theorem mclone : Go.Proofs.Lays2.n16 Tryz.prog mclone_ren := {
  mixed := by kernel_rfl
  f16 := Tryz.func114.trans (congrArg some (by kernel_rfl))
  t4 := Tryz.underlying4
  a4 := Tryz.isAgg4
  z4 := Tryz.sizeOf4
  v4 := Tryz.zeroValue4
  t9 := Tryz.underlying9
  a9 := Tryz.isAgg9
  z9 := Tryz.sizeOf9
  v9 := Tryz.zeroValue9
  t24 := Tryz.underlying30
  a24 := Tryz.isAgg30
  z24 := Tryz.sizeOf30
  v24 := Tryz.zeroValue30
  i9 := by kernel_rfl }
def mcompact_ren : Go.Shelf.Ren := ⟨fun | 194 => 116 | n => n, fun | 31 => 30 | 9 => 9 | 3 => 3 | 4 => 4 | 0 => 0 | n => n, fun | n => n⟩
theorem mcompact : Go.Proofs.Lays.n194 Tryz.prog mcompact_ren := {
  mixed := by kernel_rfl
  f194 := Tryz.func116.trans (congrArg some (by kernel_rfl))
  t0 := Tryz.underlying0
  a0 := Tryz.isAgg0
  z0 := Tryz.sizeOf0
  v0 := Tryz.zeroValue0
  t3 := Tryz.underlying3
  a3 := Tryz.isAgg3
  z3 := Tryz.sizeOf3
  v3 := Tryz.zeroValue3
  t4 := Tryz.underlying4
  a4 := Tryz.isAgg4
  z4 := Tryz.sizeOf4
  v4 := Tryz.zeroValue4
  t9 := Tryz.underlying9
  a9 := Tryz.isAgg9
  z9 := Tryz.sizeOf9
  v9 := Tryz.zeroValue9
  t31 := Tryz.underlying30
  a31 := Tryz.isAgg30
  z31 := Tryz.sizeOf30
  v31 := Tryz.zeroValue30 }
def mequal_ren : Go.Shelf.Ren := ⟨fun | 193 => 81 | n => n, fun | 31 => 30 | 9 => 9 | 4 => 4 | 3 => 3 | 0 => 0 | n => n, fun | n => n⟩
theorem mequal : Go.Proofs.Lays.n193 Tryz.prog mequal_ren := {
  mixed := by kernel_rfl
  f193 := Tryz.func81.trans (congrArg some (by kernel_rfl))
  t0 := Tryz.underlying0
  a0 := Tryz.isAgg0
  z0 := Tryz.sizeOf0
  v0 := Tryz.zeroValue0
  t3 := Tryz.underlying3
  a3 := Tryz.isAgg3
  z3 := Tryz.sizeOf3
  v3 := Tryz.zeroValue3
  t4 := Tryz.underlying4
  a4 := Tryz.isAgg4
  z4 := Tryz.sizeOf4
  v4 := Tryz.zeroValue4
  t9 := Tryz.underlying9
  a9 := Tryz.isAgg9
  z9 := Tryz.sizeOf9
  v9 := Tryz.zeroValue9
  t31 := Tryz.underlying30
  a31 := Tryz.isAgg30
  z31 := Tryz.sizeOf30
  v31 := Tryz.zeroValue30 }
end Go.Proofs.YtoaihngckcbhiaaGreatDoor
namespace Go.Proofs.YtoaihngckcbhiaaGreatDoor.Man
open Go.RowKit Go.Maps Go.Sort Go.Shelf Go.Lib
def riseT (l : List (List UInt8)) : List (List UInt8) := Lib.compact (l.mergeSort fun x y => decide (x ≤ y))
theorem strCells_enc (l : List (List UInt8)) : strCells l = l.map encStr := by unfold strCells; rfl
theorem strCells_bytes (l : List (List UInt8)) : (l.map bs).map Value.string = strCells l := by unfold strCells; rw [List.map_map]; rfl
abbrev RowAt (w : World) (base : Nat) (v : Value) (l : List (List UInt8)) : Prop := w.ownsRow base 9 1 v l.length (strCells l)
theorem RowAt.cells {w : World} {base : Nat} {l : List (List UInt8)} {g n cap : Nat} (h : RowAt w base (.slice (some ⟨g, 0, none⟩) n cap) l) :
    n = l.length ∧ ∀ j, j < (l.map bs).length → w.cell? ⟨g, 0 + j, none⟩ = some (.string ((l.map bs).getD j ByteArray.empty)) := by
  rcases h.2 with ⟨e0, _⟩ | ⟨g', cap', cur, e0, hb, hg, hn, hm, hs, ht⟩
  · cases e0
  · injection e0 with e1 e2 e3
    injection e1 with e1
    injection e1 with e1
    subst e1; subst e2; subst e3
    refine ⟨rfl, fun j hj => ?_⟩
    rw [List.length_map] at hj
    have e1 : (cur.toList.take (l.length * 1))[j]? = (strCells l)[j]? := by rw [ht]
    rw [List.getElem?_take, if_pos (by omega), Array.getElem?_toList, strCells_get l j hj] at e1
    simp only [World.cell?, hg, Nat.zero_add]
    simp only [Option.isSome_none, Bool.false_eq_true, if_false]
    rw [e1, List.getD_eq_getElem?_getD, List.getElem?_map, List.getElem?_eq_getElem hj]
    rfl
theorem RowAt.parts {w : World} {base : Nat} {v : Value} {l : List (List UInt8)} (h : RowAt w base v l) : (v = .slice none 0 0 ∧ l = []) ∨ ∃ g cap, v = .slice (some ⟨g, 0, none⟩) l.length cap ∧ base ≤ g ∧ l.length ≤ cap ∧ cap ≤ maxLen ∧ g < w.heap.size := by
  rcases h.2 with ⟨e0, h0⟩ | ⟨g, cap, cur, rfl, hb, hg, hn, hm, hs, ht⟩
  · exact .inl ⟨e0, List.length_eq_zero_iff.1 h0⟩
  · exact .inr ⟨g, cap, rfl, hb, hn, hm, (Array.getElem?_eq_some_iff.1 hg).1⟩
theorem clone_any {w : World} {base : Nat} {v : Value} {l : List (List UInt8)} (h : RowAt w base v l) (hl : l.length ≤ 1000000) :
    Calls Tryz.prog 114 #[v] w fun e w' => ∃ v', e = .returned v' ∧ RowAt w' w.heap.size v' l ∧ (v' = .slice none 0 0 → l = []) ∧ Below w.heap.size w w' := by
  rcases h.parts with ⟨rfl, rfl⟩ | ⟨g, cap, rfl, _⟩
  · refine (Any.slices_Clone_string_nil mclone 0 0 w).mono ?_
    rintro e w' ⟨rfl, rfl⟩
    exact ⟨_, rfl, by unfold RowAt; rw [strCells_enc]; exact World.ownsRow_nil _ _ _ _, fun _ => rfl, Below.refl _ _⟩
  · cases l with
    | nil =>
      refine (Any.slices_Clone_string_zero mclone ⟨g, 0, none⟩ cap w).mono ?_
      rintro e w' ⟨v', rfl, ho, hne, hb⟩
      exact ⟨v', rfl, by unfold RowAt; rw [strCells_enc]; exact ho, fun e => absurd e hne, hb⟩
    | cons x l =>
      refine (Any.slices_Clone_string mclone g 0 (x :: l).length cap ((x :: l).map bs) w (by simp) (by omega) h.cells.2).mono ?_
      rintro e w' ⟨v', rfl, ho, hne, hb⟩
      rw [List.take_of_length_le (by simp), strCells_bytes] at ho
      exact ⟨v', rfl, ho, fun e => absurd e hne, hb⟩
theorem below_grow {B : Nat} {w0 w : World} (h : Below B w0 w) (hB : B ≤ w.heap.size) (os : Array Obj) : Below B w0 (grow w os) :=
  ⟨h.os, h.tape, h.output, by simp [grow]; exact Nat.le_trans h.size (by omega), fun k hk => by
    rw [← h.block k hk]
    have := h.size
    simp [grow]
    exact Array.getElem?_append_left (by omega)⟩
theorem compact_length_le (l : List (List UInt8)) : (Lib.compact l).length ≤ l.length := by
  unfold Lib.compact Lib.compactUpTo
  rw [List.length_map]
  exact Nat.le_trans (List.length_filter_le _ _) (by simp)
theorem riseT_le (l : List (List UInt8)) : (riseT l).length ≤ l.length := by
  unfold riseT
  exact Nat.le_trans (compact_length_le _) (by simp)
set_option maxRecDepth 100000 in
set_option maxHeartbeats 1000000 in
theorem rising_any {w : World} {base : Nat} {v : Value} {l : List (List UInt8)} (h : RowAt w base v l) (hl : l.length ≤ 1000000) :
    Calls Tryz.prog 54 #[v] w fun e w' => ∃ v', e = .returned v' ∧ RowAt w' w.heap.size v' (riseT l) ∧ Below w.heap.size w w' := by
  have HC := Lib.hid (clone_any h hl)
  have hone : v.oneCell' = true := by obtain ⟨q, cap, rfl⟩ := slice_len h; rfl
  clear h
  go_enter Tryz.func54, Tryz.ntmps54
  go_wp2_with fail
  refine HC.out.mono ?_
  rintro e w1 ⟨v1, rfl, ho1, hn1, hb1⟩
  rcases ho1.parts with ⟨rfl, rfl⟩ | ⟨g, cap, rfl, hg, hlc, hcm, hgs⟩
  · have HB1 := Lib.hid hb1
    clear ho1 hn1 hb1
    go_wp2_with fail
    refine (AnyM.slices_Sort_string_none fsort none 0 _).mono ?_
    rintro e w2 ⟨rfl, rfl⟩
    go_wp2_with fail
    refine (Any.slices_Compact_string_empty mcompact none 0 _).mono ?_
    rintro e w3 ⟨rfl, rfl⟩
    go_wp2_with fail
    go_ret
    exact ⟨_, rfl, by unfold RowAt; rw [show riseT [] = [] by simp [riseT, Lib.compact, Lib.compactUpTo], strCells_enc]; exact World.ownsRow_nil _ _ _ _, HB1.out⟩
  · have ho1' := ho1
    unfold RowAt at ho1'
    rw [strCells_enc] at ho1'
    obtain ⟨g2, cap2, e2, _, _, _, _, _, hH⟩ := holds_of_ownsRow ho1' (by simp)
    cases e2
    have HO1 := Lib.hid ho1'
    have HB1 := Lib.hid hb1
    have HH := Lib.hid hH
    clear ho1 ho1' hn1 hb1 hH
    go_wp2_with fail
    refine (AnyM.slices_Sort_string fsort g 0 cap l _ HH.out hgs (by omega)).mono ?_
    rintro e w2 ⟨rfl, n, os, rfl⟩
    have hsl : (l.mergeSort fun x y => decide (x ≤ y)).length = l.length := by simp
    have ho2 := ownsRow_putRow (q := n) HO1.out hsl (Nat.le_refl _)
    have hb2 := below_putRow (q := n) (enc := encStr) (d := (l.mergeSort fun x y => decide (x ≤ y)).toArray) HB1.out hg
    have ho3 := ownsRow_upd ho2 (Upd.of_below (F := fun _ => False) (below_grow (Below.refl _ _) (Nat.le_refl _) os)) (fun _ _ f => f)
    have hb3 := below_grow hb2 hb2.size os
    clear ho2 hb2
    rw [List.take_of_length_le (by rw [hsl]; omega)] at ho3
    obtain ⟨S, hSe⟩ : ∃ S, (l.mergeSort fun x y => decide (x ≤ y)) = S := ⟨_, rfl⟩
    have hR : Hid (riseT l = Lib.compact S) := Lib.hid (by unfold riseT; rw [hSe])
    rw [hSe] at ho3 hb3 hsl ⊢
    generalize Go.Sort.grow (Go.Sort.putRow encStr (Sort.ahead w1 n) g 0 S.toArray) os = w3 at *
    obtain ⟨g3, cap3, e3, _, _, _, _, _, hH3⟩ := holds_of_ownsRow ho3 (by simp)
    cases e3
    have hcomp := Any.slices_Compact_string mcompact g 0 cap S w3 hH3 (by omega) (by omega)
    rw [← hsl] at ho3
    rw [show (mcompact_ren.f 194) = 116 from rfl, hsl] at hcomp
    have HCOMP := Lib.hid hcomp
    have HO3 := Lib.hid ho3; have HB3 := Lib.hid hb3; have HH3 := Lib.hid hH3
    clear ho3 hb3 hH3 hcomp
    go_wp2_with fail
    refine HCOMP.out.mono ?_
    rintro e w4 ⟨rfl, q, rfl⟩
    rw [← hsl]
    have hcl := compact_length_le S
    have ho4 := ownsRow_putRow (q := q) (k := (Lib.compact S).length) HO3.out (ys := Lib.compact S ++ List.replicate (S.length - (Lib.compact S).length) []) (by simp; omega) hcl
    have hb4 := below_putRow (q := q) (enc := encStr) (d := (Lib.compact S ++ List.replicate (S.length - (Lib.compact S).length) []).toArray) HB3.out hg
    rw [List.take_left'  rfl] at ho4
    generalize Go.Sort.putRow encStr (Sort.ahead w3 q) g 0 (Lib.compact S ++ List.replicate (S.length - (Lib.compact S).length) []).toArray = w4 at *
    have HO4 := Lib.hid ho4; have HB4 := Lib.hid hb4
    clear ho4 hb4
    go_wp2_with fail
    go_ret
    refine ⟨_, rfl, ?_, HB4.out⟩
    unfold RowAt
    rw [hR.out, strCells_enc]
    exact HO4.out
theorem bs_inj {l k : List (List UInt8)} (h : l.map bs = k.map bs) : l = k := by
  have e : ∀ a b, bs a = bs b → a = b := fun a b e => by
    have := congrArg (fun x : ByteArray => x.data.toList) e
    simpa [bs] using this
  exact (List.map_inj_right (fun {a b} h => e a b h)).1 h
theorem equal_any {w : World} {base base2 : Nat} {v u : Value} {l k : List (List UInt8)} (h : RowAt w base v l) (h2 : RowAt w base2 u k) (hl : l.length ≤ 1000000) (hk : k.length ≤ 1000000) :
    Calls Tryz.prog 81 #[v, u] w fun e w' => e = .returned (.bool (decide (l = k))) ∧ Below w.heap.size w w' := by
  obtain ⟨q1, c1, rfl⟩ := slice_len h
  obtain ⟨q2, c2, rfl⟩ := slice_len h2
  by_cases hlk : l.length = k.length
  · rcases h.parts with ⟨e1, e2⟩ | ⟨g, cap, e1, _⟩
    · subst e2
      cases e1
      obtain rfl : k = [] := List.length_eq_zero_iff.1 hlk.symm
      refine (Any.slices_Equal_string_empty mequal none q2 0 0 c2 w (by omega)).mono ?_
      rintro e w' ⟨rfl, rfl⟩
      exact ⟨rfl, Below.refl _ _⟩
    · cases e1
      rcases h2.parts with ⟨e1, e2⟩ | ⟨g2, cap2, e1, _⟩
      · subst e2
        cases e1
        obtain rfl : l = [] := List.length_eq_zero_iff.1 hlk
        refine (Any.slices_Equal_string_empty mequal _ none _ 0 0 w (by omega)).mono ?_
        rintro e w' ⟨rfl, rfl⟩
        exact ⟨rfl, Below.refl _ _⟩
      · cases e1
        refine (Any.slices_Equal_string mequal g 0 l.length c1 g2 0 k.length c2 (l.map bs) (k.map bs) w (by simp) (by simp) (by omega) (by omega) h.cells.2 h2.cells.2).mono ?_
        rintro e w' ⟨rfl, q, rfl⟩
        refine ⟨?_, below_drawn w q⟩
        rw [List.take_of_length_le (by simp), List.take_of_length_le (by simp)]
        have : (l.map bs = k.map bs) ↔ l = k := ⟨bs_inj, fun e => by rw [e]⟩
        simp [this]
  · refine (Any.slices_Equal_string_lens mequal q1 q2 _ c1 _ c2 w hlk).mono ?_
    rintro e w' ⟨rfl, rfl⟩
    refine ⟨?_, Below.refl _ _⟩
    have : ¬ l = k := fun e => hlk (by rw [e])
    simp [this]
end Go.Proofs.YtoaihngckcbhiaaGreatDoor.Man
namespace Go.Proofs.YtoaihngckcbhiaaGreatDoor
open Go.RowKit Go.Shelf
def mitoa_ren : Go.Shelf.Ren := ⟨fun | 171 => 105 | 243 => 143 | 246 => 156 | 283 => 179 | 284 => 180 | 285 => 181 | 286 => 182 | 129 => 172 | 317 => 191 | 318 => 192 | 319 => 193 | 320 => 194 | 337 => 197 | 338 => 198 | n => n, fun | 3 => 3 | 9 => 9 | 2 => 2 | 4 => 4 | 171 => 240 | 0 => 0 | 53 => 29 | 37 => 176 | 5 => 5 | 173 => 242 | 212 => 250 | 51 => 167 | 20 => 20 | 213 => 251 | 46 => 198 | 232 => 256 | 233 => 120 | n => n, fun | 17 => 0 | 18 => 1 | 19 => 2 | n => n⟩
theorem mitoa : Go.Proofs.Lays.n171 Tryz.prog mitoa_ren := {
  mixed := by kernel_rfl
  f129 := Tryz.func172.trans (congrArg some (by kernel_rfl))
  f171 := Tryz.func105.trans (congrArg some (by kernel_rfl))
  f243 := Tryz.func143.trans (congrArg some (by kernel_rfl))
  f246 := Tryz.func156.trans (congrArg some (by kernel_rfl))
  f283 := Tryz.func179.trans (congrArg some (by kernel_rfl))
  f284 := Tryz.func180.trans (congrArg some (by kernel_rfl))
  f285 := Tryz.func181.trans (congrArg some (by kernel_rfl))
  f286 := Tryz.func182.trans (congrArg some (by kernel_rfl))
  f317 := Tryz.func191.trans (congrArg some (by kernel_rfl))
  f318 := Tryz.func192.trans (congrArg some (by kernel_rfl))
  f319 := Tryz.func193.trans (congrArg some (by kernel_rfl))
  f320 := Tryz.func194.trans (congrArg some (by kernel_rfl))
  f337 := Tryz.func197.trans (congrArg some (by kernel_rfl))
  f338 := Tryz.func198.trans (congrArg some (by kernel_rfl))
  t0 := Tryz.underlying0
  a0 := Tryz.isAgg0
  z0 := Tryz.sizeOf0
  v0 := Tryz.zeroValue0
  t2 := Tryz.underlying2
  a2 := Tryz.isAgg2
  z2 := Tryz.sizeOf2
  v2 := Tryz.zeroValue2
  t3 := Tryz.underlying3
  a3 := Tryz.isAgg3
  z3 := Tryz.sizeOf3
  v3 := Tryz.zeroValue3
  t4 := Tryz.underlying4
  a4 := Tryz.isAgg4
  z4 := Tryz.sizeOf4
  v4 := Tryz.zeroValue4
  t5 := Tryz.underlying5
  a5 := Tryz.isAgg5
  z5 := Tryz.sizeOf5
  v5 := Tryz.zeroValue5
  t9 := Tryz.underlying9
  a9 := Tryz.isAgg9
  z9 := Tryz.sizeOf9
  v9 := Tryz.zeroValue9
  t20 := Tryz.underlying20
  a20 := Tryz.isAgg20
  z20 := Tryz.sizeOf20
  v20 := Tryz.zeroValue20
  t37 := Tryz.underlying176
  a37 := Tryz.isAgg176
  z37 := Tryz.sizeOf176
  v37 := Tryz.zeroValue176
  t46 := Tryz.underlying198
  a46 := Tryz.isAgg198
  z46 := Tryz.sizeOf198
  v46 := Tryz.zeroValue198
  t51 := Tryz.underlying167
  a51 := Tryz.isAgg167
  z51 := Tryz.sizeOf167
  v51 := Tryz.zeroValue167
  t53 := Tryz.underlying29
  a53 := Tryz.isAgg29
  z53 := Tryz.sizeOf29
  v53 := Tryz.zeroValue29
  t171 := Tryz.underlying240
  a171 := Tryz.isAgg240
  z171 := Tryz.sizeOf240
  v171 := Tryz.zeroValue240
  t173 := Tryz.underlying242
  a173 := Tryz.isAgg242
  z173 := Tryz.sizeOf242
  v173 := Tryz.zeroValue242
  t212 := Tryz.underlying250
  a212 := Tryz.isAgg250
  z212 := Tryz.sizeOf250
  v212 := Tryz.zeroValue250
  t213 := Tryz.underlying251
  a213 := Tryz.isAgg251
  z213 := Tryz.sizeOf251
  t232 := Tryz.underlying256
  a232 := Tryz.isAgg256
  z232 := Tryz.sizeOf256
  v232 := Tryz.zeroValue256
  t233 := Tryz.underlying120
  a233 := Tryz.isAgg120
  z233 := Tryz.sizeOf120
  v233 := Tryz.zeroValue120
  g17 := by kernel_rfl
  g18 := by kernel_rfl
  g19 := by kernel_rfl }
def outT (k : Nat) : List UInt8 := [111, 117, 116, 45] ++ Lib.decDigits k
theorem itoa_any (k : Nat) (hk : k < 100) (w : World) : Calls Tryz.prog 105 #[.int .i64 (k : Int)] w fun e w' => e = .returned (.string (bs (Lib.decDigits k))) ∧ w' = w :=
  Any.strconv_Itoa_small mitoa k hk w
set_option maxRecDepth 100000 in
theorem out_any (k : Nat) (hk : k < 100) (w : World) : Calls Tryz.prog 46 #[.int .i64 (k : Int)] w fun e w' => e = .returned (.string (bs (outT k))) ∧ w' = w := by
  have hl : (Lib.decDigits k).length ≤ 20 := by
    have : ∀ j : Fin 100, (Lib.decDigits j.1).length ≤ 20 := by decide +kernel
    exact this ⟨k, hk⟩
  unfold outT
  go_enter Tryz.func46, Tryz.ntmps46
  go_wp2_with fail
  refine (itoa_any k hk _).mono ?_
  rintro e w1 ⟨rfl, rfl⟩
  go_wp2_with fail
  go_ret
  exact ⟨rfl, rfl⟩
end Go.Proofs.YtoaihngckcbhiaaGreatDoor
namespace Go.Proofs.YtoaihngckcbhiaaGreatDoor.Man
open Go.RowKit Wal Fil
structure GetsAt (w : World) (y : Nat) (A : M) : Prop where
  gets : ∀ W, Below w.heap.size w W → ∀ k : T, k.length ≤ 1000 → Calls Tryz.prog 44 #[.pointer (some ⟨y, 0, none⟩), .string (bs k)] W fun e w' => e = .returned (.tuple #[.string (bs ((Fil.get A k).getD [])), .bool (Fil.get A k).isSome]) ∧ Below W.heap.size W w'
  small : ∀ k : T, ((Fil.get A k).getD []).length ≤ 1000000
theorem results_cell_tmp2 {fn : Func} {p u x : Tmp} {ty : TypeId} (h : fn.results = #[.cell p ty, .tmp u, .tmp x]) (tmps : Array Value) (P : Program) (w : World) :
    (results fn tmps).run P w =
      ((asAddr (tmps.getD p undef)).run P w).andThen fun a w₁ => ((loadVar ty a).run P w₁).andThen fun v w₂ => .ok (.tuple #[v, tmps.getD u undef, tmps.getD x undef]) w₂ := by
  simp only [results, h]
  simp [Sem.run_bind, Result.andThen]
set_option maxRecDepth 100000 in
theorem under_out {fn : Func} {q u x : Tmp} (h : fn.results = #[.cell q 52, .tmp u, .tmp x]) (tmps : Array Value) (w : World) (g : Nat) (v : Int) (j : T) (sl : Value) (hq : tmps.getD q undef = .pointer (some ⟨g, 0, none⟩)) (c0 : w.cell? ⟨g, 0, none⟩ = some (.int .u64 v)) (c1 : w.cell? ⟨g, 1, none⟩ = some (.string (bs j))) (c2 : w.cell? ⟨g, 2, none⟩ = some sl) :
    (results fn tmps).run Tryz.prog w = .ok (.tuple #[.agg #[.int .u64 v, .string (bs j), sl], tmps.getD u undef, tmps.getD x undef]) w := by
  rw [results_cell_tmp2 h, hq]
  go_simp
set_option maxRecDepth 100000 in
theorem manifest_out {fn : Func} {q u x : Tmp} (h : fn.results = #[.cell q 32, .tmp u, .tmp x]) (tmps : Array Value) (w : World) (g : Nat) (v : Int) (j : T) (sl : Value) (hq : tmps.getD q undef = .pointer (some ⟨g, 0, none⟩)) (c0 : w.cell? ⟨g, 0, none⟩ = some (.int .u64 v)) (c1 : w.cell? ⟨g, 1, none⟩ = some (.string (bs j))) (c2 : w.cell? ⟨g, 2, none⟩ = some sl) :
    (results fn tmps).run Tryz.prog w = .ok (.tuple #[.agg #[.int .u64 v, .string (bs j), sl], tmps.getD u undef, tmps.getD x undef]) w := by
  rw [results_cell_tmp2 h, hq]
  go_simp
def underT : T := [117, 110, 100, 101, 114]
def nowT (A : M) : Option (Nat × T × List T) × Int := match Fil.get A underT with
  | none => (none, 0)
  | some d => match unpackT d with
    | none => (none, 50)
    | some (v, job, l) => if 1000 < l.length ∨ l ≠ riseT l then (none, 50) else (some (v, job, l), 0)
def NowPost (w : World) (r : Option (Nat × T × List T) × Int) (e : Ending) (w' : World) : Prop :=
  Below w.heap.size w w' ∧ match r with
    | (none, c) => e = .returned (.tuple #[.agg #[.int .u64 0, .string (bs []), .slice none 0 0], .bool false, .int .i64 c])
    | (some (v, job, l), _) => ∃ sl, e = .returned (.tuple #[.agg #[.int .u64 (v : Int), .string (bs job), sl], .bool true, .int .i64 0]) ∧ RowAt w' 0 sl l ∧ ∀ g, sl.ownBlock = some g → w.heap.size ≤ g
theorem set3 {W : World} {g : Nat} {a b c : Value} {t : TypeId} (h : W.heap[g]? = some (.cells #[a, b, c] t)) (x y z : Value) :
    (((W.setCell ⟨g, 0, none⟩ x).setCell ⟨g, 1, none⟩ y).setCell ⟨g, 2, none⟩ z).heap[g]? = some (.cells #[x, y, z] t) := by
  have h1 := heap_setCell_same W g 0 _ _ x h
  have h2 := heap_setCell_same _ g 1 _ _ y h1
  exact heap_setCell_same _ g 2 _ _ z h2
theorem set3_below {B : Nat} {w0 W : World} {g : Nat} (h : Below B w0 W) (hg : B ≤ g) (x y z : Value) :
    Below B w0 (((W.setCell ⟨g, 0, none⟩ x).setCell ⟨g, 1, none⟩ y).setCell ⟨g, 2, none⟩ z) :=
  ((h.setCell (p := ⟨g, 0, none⟩) hg x).setCell (p := ⟨g, 1, none⟩) hg y).setCell (p := ⟨g, 2, none⟩) hg z
theorem row3 {W : World} {g : Nat} {a b c : Value} {t : TypeId} (h : W.heap[g]? = some (.cells #[a, b, c] t)) :
    W.cell? ⟨g, 0, none⟩ = some a ∧ W.cell? ⟨g, 1, none⟩ = some b ∧ W.cell? ⟨g, 2, none⟩ = some c ∧ W.frozen? ⟨g, 0, none⟩ = false ∧ W.frozen? ⟨g, 1, none⟩ = false ∧ W.frozen? ⟨g, 2, none⟩ = false :=
  ⟨by rw [cell_of_row W g _ _ _ _ h]; rfl, by rw [cell_of_row W g _ _ _ _ h]; rfl, by rw [cell_of_row W g _ _ _ _ h]; rfl, frozen_of_row W g 0 _ _ h, frozen_of_row W g 1 _ _ h, frozen_of_row W g 2 _ _ h⟩
theorem set3_row {W : World} {g base n : Nat} {a b c v x y z : Value} {xs : List Value} {t e : TypeId} {sz : Nat} (h : W.ownsRow base e sz v n xs) (hr : W.heap[g]? = some (.cells #[a, b, c] t)) (hte : t ≠ e) :
    (((W.setCell ⟨g, 0, none⟩ x).setCell ⟨g, 1, none⟩ y).setCell ⟨g, 2, none⟩ z).ownsRow base e sz v n xs :=
  ownsRow_upd h ((((Upd.refl (fun k => k = g) W).setCell (p := ⟨g, 0, none⟩) (.inl rfl) x).setCell (p := ⟨g, 1, none⟩) (.inl rfl) y).setCell (p := ⟨g, 2, none⟩) (.inl rfl) z) (fun k hk e => by
    have := ownsRow_blk h hk
    rw [e] at this
    obtain ⟨cs, fz, h1⟩ := this
    rw [hr] at h1
    injection h1 with h1
    injection h1 with _ h2
    exact hte h2)
def z3 : Array Value := #[.int .u64 0, .string { data := #[] }, .slice none 0 0]
theorem new3 {w w1 : World} {o : Array Value} {t : TypeId} (hb : Below (w.alloc (.cells o t)).heap.size (w.alloc (.cells o t)) w1) : w1.heap[w.heap.size]? = some (.cells o t) ∧ Below w.heap.size w w1 ∧ w.heap.size < w1.heap.size := by
  have h1 : w.heap.size < (w.alloc (.cells o t)).heap.size := by rw [World.size_alloc]; omega
  exact ⟨(hb.block _ h1).trans (heap_alloc_new w _), ((Below.refl _ _).alloc (Nat.le_refl _) _).trans (hb.mono (by omega)), Nat.lt_of_lt_of_le h1 hb.size⟩
set_option maxRecDepth 100000 in
set_option maxHeartbeats 4000000 in
theorem now_any {w : World} {y : Nat} {A : M} (h : GetsAt w y A) :
    Calls Tryz.prog 35 #[.pointer (some ⟨y, 0, none⟩)] w fun e w' => NowPost w (nowT A) e w' := by
  have hget := fun W hW => h.gets W hW underT (by decide)
  have hsm := h.small underT
  cases hg : Fil.get A underT with
  | none =>
    have hN : Hid (nowT A = (none, 0)) := Lib.hid (by unfold nowT; rw [hg])
    rw [hg] at hget
    simp only [Option.getD_none, Option.isSome_none] at hget
    have HGET := Lib.hid hget
    clear h hget hsm hg
    go_enter Tryz.func35, Tryz.ntmps35
    go_wp2_with fail
    refine (HGET.out _ ((Below.refl _ _).alloc (Nat.le_refl _) _)).mono ?_
    rintro e w1 ⟨rfl, hb1⟩
    obtain ⟨hr1, hb1', hlt1⟩ := new3 hb1
    obtain ⟨c0, c1, c2, f0, f1, f2⟩ := row3 hr1
    have HB1 := Lib.hid hb1'
    have HR1 := Lib.hid hr1
    clear hb1 hr1 hb1'
    go_wp2_with fail
    obtain ⟨d0, d1, d2, _⟩ := row3 (set3 HR1.out (.int .u64 0) (.string { data := #[] }) (.slice none 0 0))
    refine bodyPost_ret (v := .tuple #[.agg #[.int .u64 0, .string (bs []), .slice none 0 0], .bool false, .int .i64 0]) (under_out Tryz.results35 _ _ w.heap.size 0 [] (.slice none 0 0) (by rfl) d0 d1 d2) rfl ?_
    refine ⟨set3_below HB1.out (Nat.le_refl _) _ _ _, ?_⟩
    rw [hN.out]
  | some d =>
    rw [hg] at hget hsm
    simp only [Option.getD_some, Option.isSome_some] at hget hsm
    have hunp := fun W => unpack_any d W (by omega)
    unfold UnpackPost at hunp
    cases hu : unpackT d with
    | none =>
      have hN : Hid (nowT A = (none, 50)) := Lib.hid (by unfold nowT; rw [hg]; show (match unpackT d with | none => _ | some (v, job, l) => _) = _; rw [hu])
      rw [hu] at hunp
      have HGET := Lib.hid hget
      have HUNP := Lib.hid hunp
      clear h hget hsm hg hunp hu
      go_enter Tryz.func35, Tryz.ntmps35
      go_wp2_with fail
      refine (HGET.out _ ((Below.refl _ _).alloc (Nat.le_refl _) _)).mono ?_
      rintro e w1 ⟨rfl, hb1⟩
      obtain ⟨hr1, hb1', hlt1⟩ := new3 hb1
      have HB1 := Lib.hid hb1'
      have HR1 := Lib.hid hr1
      clear hb1 hr1 hb1'
      go_wp2_with fail
      refine (HUNP.out _).mono ?_
      intro e w2 h2
      obtain ⟨hb2, v2, t2, rfl⟩ := h2
      have HB2 := Lib.hid (HB1.out.trans (hb2.mono HB1.out.size))
      have HR2 := Lib.hid ((hb2.block _ hlt1).trans HR1.out)
      have hlt2 : w.heap.size < w2.heap.size := Nat.lt_of_lt_of_le hlt1 hb2.size
      clear hb2 hlt1
      obtain ⟨c0, c1, c2, f0, f1, f2⟩ := row3 HR2.out
      go_wp2_with fail
      obtain ⟨d0, d1, d2, _⟩ := row3 (set3 HR2.out (.int .u64 0) (.string { data := #[] }) (.slice none 0 0))
      refine bodyPost_ret (v := .tuple #[.agg #[.int .u64 0, .string (bs []), .slice none 0 0], .bool false, .int .i64 50]) (under_out Tryz.results35 _ _ w.heap.size 0 [] (.slice none 0 0) (by rfl) d0 d1 d2) rfl ?_
      refine ⟨set3_below HB2.out (Nat.le_refl _) _ _ _, ?_⟩
      rw [hN.out]
    | some r =>
      obtain ⟨v, job, l⟩ := r
      have hNN : nowT A = if 1000 < l.length ∨ l ≠ riseT l then (none, 50) else (some (v, job, l), 0) := by unfold nowT; rw [hg]; show (match unpackT d with | none => _ | some (v, job, l) => _) = _; rw [hu]
      rw [hu] at hunp
      have HGET := Lib.hid hget
      have HUNP := Lib.hid hunp
      clear h hget hsm hg hunp hu
      by_cases hl : 1000 < l.length
      · have hN : Hid (nowT A = (none, 50)) := Lib.hid (by rw [hNN, if_pos (.inl hl)])
        clear hNN
        go_enter Tryz.func35, Tryz.ntmps35
        go_wp2_with fail
        refine (HGET.out _ ((Below.refl _ _).alloc (Nat.le_refl _) _)).mono ?_
        rintro e w1 ⟨rfl, hb1⟩
        obtain ⟨hr1, hb1', hlt1⟩ := new3 hb1
        have HB1 := Lib.hid hb1'
        have HR1 := Lib.hid hr1
        clear hb1 hr1 hb1'
        go_wp2_with fail
        refine (HUNP.out _).mono ?_
        intro e w2 h2
        obtain ⟨hb2, sl, rfl, ho2, hg2⟩ := h2
        obtain ⟨q2, cap2, rfl⟩ := slice_len ho2
        have HB2 := Lib.hid (HB1.out.trans (hb2.mono HB1.out.size))
        have HR2 := Lib.hid ((hb2.block _ hlt1).trans HR1.out)
        have hlt2 : w.heap.size < w2.heap.size := Nat.lt_of_lt_of_le hlt1 hb2.size
        clear hb2 hlt1
        obtain ⟨c0, c1, c2, f0, f1, f2⟩ := row3 HR2.out
        clear ho2 hg2
        go_wp2_with fail
        obtain ⟨d0, d1, d2, _⟩ := row3 (set3 HR2.out (.int .u64 0) (.string { data := #[] }) (.slice none 0 0))
        refine bodyPost_ret (v := .tuple #[.agg #[.int .u64 0, .string (bs []), .slice none 0 0], .bool false, .int .i64 50]) (under_out Tryz.results35 _ _ w.heap.size 0 [] (.slice none 0 0) (by rfl) d0 d1 d2) rfl ?_
        refine ⟨set3_below HB2.out (Nat.le_refl _) _ _ _, ?_⟩
        rw [hN.out]
      · have HO2N := hNN
        have HNN := Lib.hid hNN
        clear hNN HO2N
        go_enter Tryz.func35, Tryz.ntmps35
        go_wp2_with fail
        refine (HGET.out _ ((Below.refl _ _).alloc (Nat.le_refl _) _)).mono ?_
        rintro e w1 ⟨rfl, hb1⟩
        obtain ⟨hr1, hb1', hlt1⟩ := new3 hb1
        have HB1 := Lib.hid hb1'
        have HR1 := Lib.hid hr1
        clear hb1 hr1 hb1'
        go_wp2_with fail
        refine (HUNP.out _).mono ?_
        intro e w2 h2
        obtain ⟨hb2, sl, rfl, ho2, hg2⟩ := h2
        obtain ⟨q2, cap2, rfl⟩ := slice_len ho2
        have HB2 := Lib.hid (HB1.out.trans (hb2.mono HB1.out.size))
        have HR2 := Lib.hid ((hb2.block _ hlt1).trans HR1.out)
        have hlt2 : w.heap.size < w2.heap.size := Nat.lt_of_lt_of_le hlt1 hb2.size
        clear hb2 hlt1
        have HG2 := Lib.hid (show ∀ g, (Value.slice q2 l.length cap2).ownBlock = some g → w.heap.size ≤ g from fun g h => Nat.le_trans HB1.out.size (hg2 g h))
        have HO2 := Lib.hid ho2
        have HRS := Lib.hid (rising_any (w := w2) (base := 0) (v := .slice q2 l.length cap2) (l := l) ho2 (by omega))
        clear ho2 hg2
        go_wp2_with fail
        refine HRS.out.mono ?_
        rintro e w3 ⟨v3, rfl, ho3, hb3⟩
        obtain ⟨q3, cap3, rfl⟩ := slice_len ho3
        have HB3 := Lib.hid (HB2.out.trans (hb3.mono HB2.out.size))
        have HR3 := Lib.hid ((hb3.block _ hlt2).trans HR2.out)
        have hlt3 : w.heap.size < w3.heap.size := Nat.lt_of_lt_of_le hlt2 hb3.size
        have HO3 := Lib.hid (row_below HO2.out hb3)
        have HE := Lib.hid (equal_any (w := w3) (base := 0) (base2 := w2.heap.size) HO3.out ho3 (by omega) (Nat.le_trans (riseT_le l) (by omega)))
        clear hb3 ho3 hlt2
        go_wp2_with fail
        refine HE.out.mono ?_
        rintro e w4 ⟨rfl, hb4⟩
        have HB4 := Lib.hid (HB3.out.trans (hb4.mono HB3.out.size))
        have HR4 := Lib.hid ((hb4.block _ hlt3).trans HR3.out)
        have HO4 := Lib.hid (row_below HO3.out hb4)
        clear hb4 hlt3
        obtain ⟨c0, c1, c2, f0, f1, f2⟩ := row3 HR4.out
        by_cases heq : l = riseT l
        · have hN : Hid (nowT A = (some (v, job, l), 0)) := Lib.hid (by rw [HNN.out, if_neg (by rintro (h | h); exact hl h; exact h heq)])
          rw [decide_eq_true heq]
          clear heq
          go_wp2_with fail
          obtain ⟨d0, d1, d2, _⟩ := row3 (set3 HR4.out (.int .u64 (v : Int)) (.string (bs job)) (.slice q2 l.length cap2))
          refine bodyPost_ret (v := .tuple #[.agg #[.int .u64 (v : Int), .string (bs job), .slice q2 l.length cap2], .bool true, .int .i64 0]) (under_out Tryz.results35 _ _ w.heap.size v job (.slice q2 l.length cap2) (by rfl) d0 d1 d2) rfl ?_
          refine ⟨set3_below HB4.out (Nat.le_refl _) _ _ _, ?_⟩
          rw [hN.out]
          exact ⟨_, rfl, set3_row HO4.out HR4.out (by decide), HG2.out⟩
        · have hN : Hid (nowT A = (none, 50)) := Lib.hid (by rw [HNN.out, if_pos (.inr heq)])
          rw [decide_eq_false heq]
          clear heq
          go_wp2_with fail
          obtain ⟨d0, d1, d2, _⟩ := row3 (set3 HR4.out (.int .u64 0) (.string { data := #[] }) (.slice none 0 0))
          refine bodyPost_ret (v := .tuple #[.agg #[.int .u64 0, .string (bs []), .slice none 0 0], .bool false, .int .i64 50]) (under_out Tryz.results35 _ _ w.heap.size 0 [] (.slice none 0 0) (by rfl) d0 d1 d2) rfl ?_
          refine ⟨set3_below HB4.out (Nat.le_refl _) _ _ _, ?_⟩
          rw [hN.out]
end Go.Proofs.YtoaihngckcbhiaaGreatDoor.Man
