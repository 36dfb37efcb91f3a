/- RefOct -/
import Derived.Test.YtoaihngckcbhiaaGreatDoorPkOct
import Derived.Test.YtoaihngckcbhiaaGreatDoorPkWalT
import Derived.Test.YtoaihngckcbhiaaGreatDoorPkWalOpen2
import Derived.Test.YtoaihngckcbhiaaGreatDoorPkSameT
namespace Go.Proofs.YtoaihngckcbhiaaGreatDoor
open Go.RowKit Go.Maps
open Wal
theorem val_drop {s : List UInt8} {j : Nat} (h : j < s.length) : Crc.val (s.drop j) = s[j].toNat + 256 * Crc.val (s.drop (j + 1)) := by
  rw [List.drop_eq_getElem_cons h]; rfl
theorem val_drop_lt (s : List UInt8) (j : Nat) (h : s.length ≤ 8) (hj : j + 1 ≤ s.length) : 256 * Crc.val (s.drop (j + 1)) + 256 ≤ 18446744073709551616 := by
  have h1 := Crc.val_lt (s.drop (j + 1))
  have h2 : 256 ^ (s.drop (j + 1)).length ≤ 256 ^ 7 := Nat.pow_le_pow_right (by decide) (by rw [List.length_drop]; omega)
  have h3 : (256 : Nat) ^ 7 = 72057594037927936 := by decide
  omega
set_option maxRecDepth 100000 in
set_option maxHeartbeats 400000 in
theorem value_any (s : List UInt8) (w : World) (h8 : s.length ≤ 8) :
    Calls Tryz.prog 125 #[.string (bs s)] w fun e w' => e = .returned (.int .u64 (Crc.val s : Nat)) ∧ w = w' := by
  go_enter Tryz.func125, Tryz.ntmps125
  go_wp2_with fail
  go_loop [3, 4] (fun v i => ∃ j : Nat, j ≤ s.length ∧ i = .int .i64 ((j : Int) - 1) ∧ v = .int .u64 (Crc.val (s.drop j) : Nat)) (fun _ i => (intOf i + 1).toNat)
  case atStart => exact ⟨s.length, by omega, rfl, by rw [List.drop_length]; rfl⟩
  case round =>
    obtain ⟨j, hj, rfl, rfl⟩ := hrel
    cases j with
    | zero =>
      rw [List.drop_zero]
      go_wp2_with fail
      go_ret
      exact ⟨rfl, rfl⟩
    | succ j =>
      have e : ((j + 1 : Nat) : Int) - 1 = (j : Int) := by omega
      have hlt : j < s.length := by omega
      have hv := val_drop hlt
      have hb := val_drop_lt s j h8 (by omega)
      have hc := s[j].toNat_lt
      simp only [e]
      clear e
      have HV := Lib.hid hv
      generalize Crc.val (s.drop (j + 1)) = V at *
      have w1 : IntKind.u64.wrap ((V : Int) * 256) = (V : Int) * 256 := IntWalk.u64_in _ (by omega)
      have w2 : IntKind.u64.wrap ((s[j].toNat : Int)) = (s[j].toNat : Int) := IntWalk.u64_in _ (by omega)
      have w3 : IntKind.u64.wrap ((V : Int) * 256 + (s[j].toNat : Int)) = (V : Int) * 256 + (s[j].toNat : Int) := IntWalk.u64_in _ (by omega)
      clear hv hb
      go_wp2_with fail
      go_round
      case rel => exact ⟨j, by omega, rfl, by rw [HV.out]; congr 1; omega⟩
      case measure => simp [intOf]
set_option maxRecDepth 100000 in
theorem rtext_ok (s : List UInt8) (w : World) (h : s.length ≤ 65535) :
    Calls Tryz.prog 129 #[.string (bs s)] w fun e w' => e = .returned (.tuple #[.string (bs (Crc.le 2 s.length ++ s)), .int .i64 0]) ∧ Below w.heap.size w w' := by
  go_enter Tryz.func129, Tryz.ntmps129
  go_wp2_with fail
  refine (num_any s.length 2 _ (by omega) (by decide)).mono ?_
  rintro e w1 ⟨rfl, hb⟩
  go_wp2_with fail
  go_ret2
  exact ⟨rfl, hb⟩
set_option maxRecDepth 100000 in
theorem rtext_no (s : List UInt8) (w : World) (h : 65535 < s.length) :
    Calls Tryz.prog 129 #[.string (bs s)] w fun e w' => e = .returned (.tuple #[.string (bs []), .int .i64 5]) ∧ w = w' := by
  go_enter Tryz.func129, Tryz.ntmps129
  go_wp2_with fail
  go_ret2
  exact ⟨rfl, rfl⟩
set_option maxRecDepth 100000 in
theorem rreadT_any (s : List UInt8) (w : World) (hl : s.length ≤ 1099511627776) :
    Calls Tryz.prog 123 #[.string (bs s)] w fun e w' => e = .returned (.tuple #[.string (bs (readV s).1), .int .i64 ((readV s).2.1 : Nat), .int .i64 (readV s).2.2]) ∧ w = w' := by
  by_cases h2 : s.length < 2
  · have hR : Hid (readV s = ([], 0, 6)) := Lib.hid (by unfold readV readT; rw [if_pos h2])
    rw [hR.out]
    go_enter Tryz.func123, Tryz.ntmps123
    go_wp2_with fail
    go_ret3
    exact ⟨rfl, rfl⟩
  · have hc2 : ∀ W, (Instr.slice 9 (.string (bs s)) none (some (.int .i64 2)) none).run Tryz.prog W = .ok (.string (bs (s.take 2))) W := fun W => run_cut_to Tryz.prog W 9 Tryz.underlying9 s 2 (by omega)
    have hlt2 : (s.take 2).length = 2 := by rw [List.length_take]; omega
    have hv2 := Crc.val_lt (s.take 2)
    rw [hlt2] at hv2
    have hval := fun (W : World) => value_any (s.take 2) W (by omega)
    have hR : readV s = if 2 + Crc.val (s.take 2) ≤ s.length then ((s.take (2 + Crc.val (s.take 2))).drop 2, 2 + Crc.val (s.take 2), 0) else ([], 0, 6) := by
      unfold readV readT; rw [if_neg h2]
      by_cases hq : 2 + Crc.val (s.take 2) ≤ s.length
      · rw [if_pos hq, if_pos hq]
      · rw [if_neg hq, if_neg hq]
    generalize Crc.val (s.take 2) = v at *
    have hv3 : v < 65536 := hv2
    have HVAL := Lib.hid hval
    have HR := Lib.hid hR
    have e2 : IntKind.i64.wrap (v : Int) = (v : Int) := IntWalk.i64_in _ (by omega)
    clear hlt2 hv2 hval hR
    by_cases h3 : 2 + v ≤ s.length
    · have hcu : ∀ W, (Instr.slice 9 (.string (bs s)) (some (.int .i64 2)) (some (.int .i64 (2 + (v : Int)))) none).run Tryz.prog W = .ok (.string (bs ((s.take (2 + v)).drop 2))) W := fun W => by
        have := run_cut Tryz.prog W 9 Tryz.underlying9 s 2 (2 + v) (by omega) h3
        rw [Int.natCast_add] at this
        exact this
      have HR2 := Lib.hid (HR.out.trans (if_pos h3))
      go_enter Tryz.func123, Tryz.ntmps123
      go_wp2_with fail
      refine (HVAL.out _).mono ?_
      rintro e w1 ⟨rfl, rfl⟩
      go_wp2_with fail
      go_ret3
      rw [HR2.out]
      exact ⟨rfl, rfl⟩
    · have HR2 := Lib.hid (HR.out.trans (if_neg h3))
      go_enter Tryz.func123, Tryz.ntmps123
      go_wp2_with fail
      refine (HVAL.out _).mono ?_
      rintro e w1 ⟨rfl, rfl⟩
      go_wp2_with fail
      go_ret3
      rw [HR2.out]
      exact ⟨rfl, rfl⟩
def RowAcc (l : List (List UInt8)) (k : Nat) (v : Value) : Prop := ∃ S, v = .string (bs (Crc.le 2 l.length ++ S)) ∧ textsE (l.take k) = some S
theorem RowAcc.next {l : List (List UInt8)} {k : Nat} {S x : List UInt8} (h : textsE (l.take (k + 1)) = (textE x).map (S ++ ·)) (hx : x.length ≤ 65535) {v : Value} (hv : v = .string (bs (Crc.le 2 l.length ++ (S ++ (Crc.le 2 x.length ++ x))))) : RowAcc l (k + 1) v :=
  ⟨S ++ (Crc.le 2 x.length ++ x), hv, by rw [h]; unfold textE; rw [if_pos hx]; rfl⟩
set_option maxRecDepth 100000 in
set_option maxHeartbeats 2000000 in
theorem rrow_any (l : List (List UInt8)) (a : Option Addr) (cap : Nat) (w : World) (hl : TextsAt w a l) (hlen : l.length ≤ maxLen) (hsum : rowLen l ≤ 1000000000) :
    Calls Tryz.prog 130 #[.slice a l.length cap] w fun e w' => e = .returned (.tuple #[.string (bs (rowV l).1), .int .i64 (rowV l).2]) ∧ Below w.heap.size w w' := by
  unfold maxLen at hlen
  by_cases hbig : 65535 < l.length
  · have hR : Hid (rowV l = ([], 5)) := Lib.hid (by unfold rowV rowE; rw [if_neg (by omega)])
    rw [hR.out]
    clear hl
    go_enter Tryz.func130, Tryz.ntmps130
    go_wp2_with fail
    go_ret2
    exact ⟨rfl, Below.refl _ _⟩
  · have HL := Lib.hid hl
    have HSUM := Lib.hid hsum
    clear hl hsum
    go_enter Tryz.func130, Tryz.ntmps130
    go_wp2_with fail
    refine (num_any l.length 2 _ (by omega) (by decide)).mono ?_
    rintro e w1 ⟨rfl, hb⟩
    have HB1 := Lib.hid hb
    clear hb
    go_wp2_with fail
    go_loopw [4, 5] (fun v i wr => ∃ (k : Nat), k ≤ l.length ∧ i = .int .i64 k ∧ RowAcc l k v ∧ Below w.heap.size w wr) (fun _ i _ => l.length - (intOf i).toNat)
    case atStart => exact ⟨0, by omega, rfl, ⟨[], by rw [List.append_nil], rfl⟩, HB1.out⟩
    case round =>
      clear HB1
      obtain ⟨k, hk, rfl, ⟨S, rfl, hS⟩, hb⟩ := hrel
      have HS := Lib.hid hS
      have HB := Lib.hid hb
      clear hS hb
      by_cases hlt : k < l.length
      · obtain ⟨q, hidx, hq⟩ := (HL.out.below HB.out).index cap k hlt
        have hlk : rowLen (l.take (k + 1)) = rowLen (l.take k) + (2 + l[k].length) := rowLen_snoc l k hlt
        have hl1 := rowLen_take l (k + 1)
        have hl2 := textsE_length HS.out
        have hl3 := HSUM.out
        have HSN := Lib.hid (textsE_snoc hlt HS.out)
        by_cases hbig2 : 65535 < l[k].length
        · have hR : Hid (rowV l = ([], 5)) := Lib.hid (by unfold rowV rowE; rw [if_pos (by omega), textsE_none hlt hbig2]; rfl)
          clear hlk hl1 hl2 hl3
          generalize l[k] = x at *
          go_wp2_with fail
          refine (rtext_no x _ hbig2).mono ?_
          rintro e w3 ⟨rfl, rfl⟩
          go_wp2_with fail
          go_ret2
          rw [hR.out]
          exact ⟨rfl, HB.out⟩
        · have hxl : l[k].length ≤ 65535 := by omega
          have hle : S.length + l[k].length ≤ 1000000000 := by omega
          clear hlk hl1 hl2 hl3 hbig2
          generalize l[k] = x at *
          go_wp2_with fail
          refine (rtext_ok x _ hxl).mono ?_
          rintro e w3 ⟨rfl, hb3⟩
          have HB3 := Lib.hid (HB.out.trans (hb3.mono HB.out.size))
          clear hb3 hq
          go_wp2_with fail
          go_roundw
          case rel => exact ⟨k + 1, by omega, by go_num, RowAcc.next HSN.out hxl rfl, HB3.out⟩
          case measure => simp [intOf]; omega
      · obtain rfl : k = l.length := by omega
        have hR : Hid (rowV l = (Crc.le 2 l.length ++ S, 0)) := Lib.hid (by
          have h := HS.out
          rw [List.take_length] at h
          unfold rowV rowE
          rw [if_pos (by omega), h]; rfl)
        go_wp2_with fail
        go_ret2
        rw [hR.out]
        exact ⟨rfl, HB.out⟩
set_option maxRecDepth 100000 in
set_option maxHeartbeats 4000000 in
theorem rreadRow_any (s : List UInt8) (w : World) (hs : s.length ≤ 1000000000) :
    Calls Tryz.prog 124 #[.string (bs s)] w fun e w' => RowPost w s e w' := by
  by_cases h2 : s.length < 2
  · have hR : Hid (readRow s = none) := Lib.hid (by unfold readRow; rw [if_pos h2])
    go_enter Tryz.func124, Tryz.ntmps124
    go_wp2_with fail
    go_ret2
    exact rowPost_none hR.out rfl (Below.refl _ _)
  · have hc2 : ∀ W, (Instr.slice 9 (.string (bs s)) none (some (.int .i64 2)) none).run Tryz.prog W = .ok (.string (bs (s.take 2))) W := fun W => run_cut_to Tryz.prog W 9 Tryz.underlying9 s 2 (by omega)
    have hc3 : ∀ W, (Instr.slice 9 (.string (bs s)) (some (.int .i64 2)) none none).run Tryz.prog W = .ok (.string (bs (s.drop 2))) W := fun W => run_cut_from Tryz.prog W 9 Tryz.underlying9 s 2 (by omega)
    have hlt2 : (s.take 2).length = 2 := by rw [List.length_take]; omega
    have hv2 := Crc.val_lt (s.take 2)
    rw [hlt2] at hv2
    have hval := fun (W : World) => value_any (s.take 2) W (by omega)
    have hrr : readRow s = (readTs (Crc.val (s.take 2)) (s.drop 2)).bind fun q => if q.2 = [] then some q.1 else none := by unfold readRow; rw [if_neg h2]
    generalize Crc.val (s.take 2) = n at *
    have hn3 : n < 65536 := hv2
    have HVAL := Lib.hid hval
    have HRR := Lib.hid hrr
    have e2 : IntKind.i64.wrap (n : Int) = (n : Int) := IntWalk.i64_in _ (by omega)
    clear hlt2 hv2 hval hrr
    go_enter Tryz.func124, Tryz.ntmps124
    go_wp2_with fail
    refine (HVAL.out _).mono ?_
    rintro e w1 ⟨rfl, rfl⟩
    go_wp2_with fail
    go_loopw [0, 5, 6] (fun sv lv i wr => ∃ (j : Nat) (S : List UInt8) (l : List (List UInt8)), j ≤ n ∧ i = .int .i64 j ∧ sv = .string (bs S) ∧ wr.ownsRow 0 9 1 lv l.length (strCells l) ∧ l.length = j ∧ S.length ≤ s.length ∧ Below w.heap.size w wr ∧ (∀ g, lv.ownBlock = some g → w.heap.size ≤ g) ∧ readTs n (s.drop 2) = (readTs (n - j) S).map fun q => (l ++ q.1, q.2)) (fun _ _ i _ => n - (intOf i).toNat)
    case atStart => exact ⟨0, s.drop 2, [], by omega, rfl, rfl, by rw [strCells_nil]; exact World.ownsRow_nil _ _ _ _, rfl, by rw [List.length_drop]; omega, Below.refl _ _, fun g e => by simp [Value.ownBlock] at e, by simp⟩
    case round =>
      obtain ⟨j, S, l, hj, rfl, rfl, hown, hll, hSl, hb, hnew, hrs⟩ := hrel
      have HO := Lib.hid hown; have HB := Lib.hid hb; have HN := Lib.hid hnew; have HRS := Lib.hid hrs; have HLL := Lib.hid hll
      obtain ⟨qv, cv, rfl⟩ := slice_len hown
      clear hown hb hnew hrs hll hc2 hc3
      by_cases hlt : j < n
      · cases hr : readT S with
        | none =>
          have hR : Hid (readRow s = none) := Lib.hid (by rw [HRR.out, rd_none hlt HRS.out hr]; rfl)
          have hRV : Hid (readV S = ([], 0, 6)) := Lib.hid (by unfold readV; rw [hr])
          clear hr
          go_wp2_with fail
          refine (rreadT_any S _ (by omega)).mono ?_
          rw [hRV.out]
          rintro e w2 ⟨rfl, rfl⟩
          go_wp2_with fail
          go_ret2
          exact rowPost_none hR.out rfl HB.out
        | some r =>
          obtain ⟨t, m⟩ := r
          have hRV : Hid (readV S = (t, m, 0)) := Lib.hid (by unfold readV; rw [hr])
          have HRS2 := Lib.hid (rd_step hlt HRS.out hr)
          obtain ⟨_, hmS, _⟩ := readT_some hr
          have hcut : ∀ W, (Instr.slice 9 (.string (bs S)) (some (.int .i64 (m : Int))) none none).run Tryz.prog W = .ok (.string (bs (S.drop m))) W := fun W => run_cut_from Tryz.prog W 9 Tryz.underlying9 S m hmS
          obtain ⟨i0, hi0, hz0, hz1, hz2⟩ := info_parts str_info3
          have hlb : l.length ≤ 65536 := by have := HLL.out; omega
          clear hr
          go_wp2_with fail
          refine (rreadT_any S _ (by omega)).mono ?_
          rw [hRV.out]
          rintro e w2 ⟨rfl, rfl⟩
          go_wp2_with (
            at_builtin
            refine wpList_append_own_at _ rfl _ _ _ rfl 0 9 i0 _ 1 16 Tryz.underlying30 hi0 hz0 hz1 hz2 rfl (by omega) (.slice qv l.length cv) l.length (strCells l) rfl (HO.out.alloc _) ⟨wr.heap.size, 0, none⟩ 1 1 [.string (bs t)] rfl rfl (World.news_of_block (cs := #[.string (bs t)]) (t := 9) (fr := (0, 0)) (heap_alloc_new wr _)) (fun u hu => by rw [List.mem_singleton] at hu; subst hu; rfl) (by unfold maxLen; omega) (by omega) (Nat.zero_le _) ?_
            intro v' w6 hown hgrow _ hat
            have HO6 := Lib.hid (show w6.ownsRow 0 9 1 v' (l ++ [t]).length (strCells (l ++ [t])) by rw [strCells_snoc, List.length_append]; exact hown)
            have HB6 := Lib.hid ((HB.out.alloc HB.out.size (.cells #[.string (bs t)] 9)).grown hgrow (Nat.le_trans HB.out.size (by rw [World.size_alloc]; omega)) HN.out)
            have HN6 := Lib.hid (show ∀ g, v'.ownBlock = some g → w.heap.size ≤ g from fun g hg => by
              rcases hat with hat | hat
              · rw [hat] at hg; exact HN.out g hg
              · rw [hat] at hg
                have := Option.some.inj hg
                rw [World.size_alloc] at this
                have := HB.out.size
                omega)
            clear hown hgrow hat)
          go_roundw
          case rel => exact ⟨j + 1, S.drop m, l ++ [t], by omega, by go_num, rfl, HO6.out, by rw [List.length_append, HLL.out]; rfl, by rw [List.length_drop]; omega, HB6.out, HN6.out, HRS2.out⟩
          case measure => simp [intOf]; omega
      · obtain rfl : j = n := by omega
        by_cases hS : S = []
        · subst hS
          have hR : Hid (readRow s = some l) := Lib.hid (by rw [HRR.out, HRS.out, Nat.sub_self]; simp [readTs])
          go_wp2_with fail
          go_ret2
          exact rowPost_some hR.out rfl HO.out HB.out HN.out
        · have hR : Hid (readRow s = none) := Lib.hid (by rw [HRR.out, HRS.out, Nat.sub_self]; simp [readTs, hS])
          have hne : S.isEmpty = false := by
            cases S with
            | nil => exact absurd rfl hS
            | cons => rfl
          clear hS
          go_wp2_with fail
          go_ret2
          exact rowPost_none hR.out rfl HB.out
end Go.Proofs.YtoaihngckcbhiaaGreatDoor
