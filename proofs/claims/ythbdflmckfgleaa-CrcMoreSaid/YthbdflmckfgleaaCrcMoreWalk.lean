/- The law CrcMore, walked. -/
import Derived.Test.YthbdflmckfgleaaCrcLaws
import Derived.Test.YthbdflmckfgleaaReads
namespace Go.Proofs.Ythbdflmckfgleaa
open Go.RowKit

/-- Texts, one behind the other. -/
def cat (ls : List (List UInt8)) : List UInt8 := ls.flatten
theorem flat_snoc (ls : List (List UInt8)) (k : Nat) (h : k < ls.length) : cat (ls.take (k + 1)) = cat (ls.take k) ++ ls[k] := by
  unfold cat
  rw [List.take_succ_eq_append_getElem h, List.flatten_append]
  simp
theorem flat_len {B : Nat} {ls : List (List UInt8)} (hl : ∀ l ∈ ls, l.length ≤ B) (k : Nat) : (cat (ls.take k)).length ≤ k * B := by
  induction k with
  | zero => simp [cat]
  | succ k ih =>
    rw [Nat.add_mul, Nat.one_mul]
    by_cases h : k < ls.length
    · rw [flat_snoc ls k h, List.length_append]
      have := hl ls[k] (List.getElem_mem h)
      omega
    · rw [List.take_of_length_le (by omega)] at ih
      rw [List.take_of_length_le (by omega)]
      omega
theorem flat_le (ls : List (List UInt8)) (k : Nat) (h : k < ls.length) : (cat (ls.take k)).length + ls[k].length ≤ (cat ls).length := by
  have h1 : cat ls = cat (ls.take (k + 1)) ++ cat (ls.drop (k + 1)) := by
    unfold cat
    rw [← List.flatten_append, List.take_append_drop]
  rw [h1, List.length_append, flat_snoc ls k h, List.length_append]
  omega
theorem okT_true {l : List UInt8} (h : (Crc.openT l).2 = 0) : Crc.okT l = true := by simp [Crc.okT, h]
theorem okT_false {l : List UInt8} (h : ¬ (Crc.openT l).2 = 0) : Crc.okT l = false := by simp [Crc.okT, h]
theorem openT_len (l : List UInt8) : (Crc.openT l).1.length ≤ l.length := by
  unfold Crc.openT
  split
  · simp
  · split
    · simp
    · simp

set_option maxRecDepth 100000 in
set_option maxHeartbeats 1000000 in
theorem crcMore_core (a : Option Addr) (cap : Nat) (ls : List (List UInt8)) (t : List UInt8) (w : World) (ha : StrsAt w a ls) (hn : ls.length * 16 ≤ reachBytes) (hl : ∀ l ∈ ls, l.length ≤ reachBytes) (ht : t.length ≤ reachBytes) :
    Calls Try.prog 4 #[.slice a ls.length cap, .string (bs t)] w fun e w' => e = .returned (.bool true) ∧ Below w.heap.size w w' := by
  unfold reachBytes at *
  have HL := Lib.hid hl
  have HA := Lib.hid ha
  clear hl ha
  go_enter Try.func4, Try.ntmps4
  go_wp2_with fail
  go_loop [5, 6] (fun n i => ∃ k : Nat, k ≤ ls.length ∧ k ≤ 100 ∧ i = .int .i64 k ∧ n = .int .i64 ((cat (ls.take k)).length : Nat)) (fun _ i => 100 - (intOf i).toNat)
  case atStart => exact ⟨0, by omega, by omega, rfl, rfl⟩
  case round =>
    obtain ⟨k, hk, hk2, rfl, rfl⟩ := hrel
    have hfl := flat_len HL.out k
    by_cases hround : k < ls.length ∧ k < 100
    · obtain ⟨hlt, hlt2⟩ := hround
      obtain ⟨p, hidx, hcell, hp⟩ := HA.out.index Try.prog 31 9 Try.underlying31 (by kernel_rfl) cap k hlt
      have HS := Lib.hid (flat_snoc ls k hlt)
      have hlk := HL.out ls[k] (List.getElem_mem hlt)
      generalize (cat (ls.take k)) = pre at *
      go_wp2_with fail
      go_round
      case rel => exact ⟨k + 1, by omega, by omega, by go_num, by rw [HS.out, List.length_append]; go_num⟩
      case measure => simp [intOf]; omega
    · by_cases h60 : 60 < ls.length
      · by_cases hlt : k < ls.length
        all_goals
          have hnot : ¬ k < ls.length ∨ ¬ k < 100 := by omega
          go_wp2_with fail
          refine (alive3_any _).mono ?_
          rintro e w1 ⟨rfl, hb1⟩
          go_wp2_with fail
          go_ret
          exact ⟨rfl, hb1⟩
      · obtain rfl : k = ls.length := by omega
        rw [List.take_length] at *
        have hd60 : decide ((60 : Int) < (ls.length : Int)) = false := by rw [decide_eq_false_iff_not]; omega
        by_cases hbig : 16384 < (cat ls).length + t.length
        · go_wp2_with fail
          refine (alive3_any _).mono ?_
          rintro e w1 ⟨rfl, hb1⟩
          go_wp2_with fail
          go_ret
          exact ⟨rfl, hb1⟩
        · go_wp2_with fail
          refine (sum_any [] _ (by decide)).mono ?_
          rintro e w1 ⟨rfl, hb1⟩
          go_wp2_with fail
          go_loopw [7, 8, 9] (fun c s i wr => ∃ k : Nat, k ≤ ls.length ∧ i = .int .i64 k ∧ c = .int .u32 (Crc.sum (cat (ls.take k)) : Nat) ∧ s = .string (bs (cat (ls.take k))) ∧ Below w.heap.size w wr) (fun _ _ i _ => ls.length - (intOf i).toNat)
          case atStart => exact ⟨0, by omega, rfl, rfl, rfl, hb1⟩
          case round =>
            obtain ⟨k, hk, rfl, rfl, rfl, hb⟩ := hrel
            by_cases hlt : k < ls.length
            · obtain ⟨p, hidx, hcell, hp⟩ := (HA.out.below hb).index Try.prog 31 9 Try.underlying31 (by kernel_rfl) cap k hlt
              have HS := Lib.hid (flat_snoc ls k hlt)
              have hle := flat_le ls k hlt
              generalize (cat (ls.take k)) = pre at *
              have hsl := Crc.sum_lt pre
              have HSL := Lib.hid hsl
              clear hsl
              go_wp2_with fail
              refine (more_any (Crc.sum pre) ls[k] _ HSL.out (by unfold maxLen; omega)).mono ?_
              rw [← Crc.sum_append]
              rintro e w2 ⟨rfl, hb2⟩
              have hcell2 : w2.cell? p = some (.string (bs ls[k])) := by rw [hb2.cell hp]; exact hcell
              go_wp2_with fail
              · refine (sum_any (pre ++ ls[k]) _ (by unfold maxLen; rw [List.length_append]; omega)).mono ?_
                rintro e w3 ⟨rfl, hb3⟩
                go_wp2_with fail
                go_roundw
                case rel => exact ⟨k + 1, by omega, by go_num, by rw [HS.out], by rw [HS.out], below_next (below_next hb hb2) hb3⟩
                case measure => simp [intOf]; omega
            · obtain rfl : k = ls.length := by omega
              rw [List.take_length] at *
              have hsl : (Crc.sealT (cat ls)).length = (cat ls).length + 4 := Crc.seal_length _
              have HSL := Lib.hid hsl
              clear hsl
              go_wp2_with fail
              refine (seal_any (cat ls) _ (by omega)).mono ?_
              rintro e w2 ⟨rfl, hb2⟩
              go_wp2_with fail
              refine (open_any (Crc.sealT (cat ls)) _ (by rw [HSL.out]; omega)).mono ?_
              rw [Crc.openT_seal]
              rintro e w3 ⟨rfl, hb3⟩
              go_wp2_with fail
              refine (open_any t _ (by omega)).mono ?_
              rintro e w4 ⟨rfl, hb4⟩
              by_cases hok : (Crc.openT t).2 = 0
              · have HO := Lib.hid hok
                have hb0 : ((Crc.openT t).2 != 0) = false := by simp [hok]
                have hb0' : ((Crc.openT t).2 == 0) = true := by simp [hok]
                clear hok
                have hle := openT_len t
                go_wp2_with fail
                refine (seal_any (Crc.openT t).1 _ (by omega)).mono ?_
                rw [Crc.openT_ok HO.out]
                rintro e w5 ⟨rfl, hb5⟩
                go_wp2_with fail
                refine (ok_any t _ (by omega)).mono ?_
                rw [okT_true HO.out]
                rintro e w6 ⟨rfl, hb6⟩
                go_wp2_with fail
                refine (alive3_any _).mono ?_
                rintro e w7 ⟨rfl, hb7⟩
                go_wp2_with fail
                go_ret
                exact ⟨rfl, below_next (below_next (below_next (below_next (below_next (below_next hb hb2) hb3) hb4) hb5) hb6) hb7⟩
              · have HO := Lib.hid hok
                have hb0 : ((Crc.openT t).2 != 0) = true := by simp [hok]
                have hb0' : ((Crc.openT t).2 == 0) = false := by simp [hok]
                clear hok
                go_wp2_with fail
                refine (ok_any t _ (by omega)).mono ?_
                rw [okT_false HO.out]
                rintro e w6 ⟨rfl, hb6⟩
                go_wp2_with fail
                refine (alive3_any _).mono ?_
                rintro e w7 ⟨rfl, hb7⟩
                go_wp2_with fail
                go_ret
                exact ⟨rfl, below_next (below_next (below_next (below_next (below_next hb hb2) hb3) hb4) hb6) hb7⟩

set_option maxRecDepth 100000 in
theorem crcMore_any {H : Type} {enc : TypeId × Value → H} {base : Nat} (w : World) (v : Value) (d : DataW H) (p : List MemPlace) (o : Value.okWide Try.prog w .any base 31 v)
    (h : DataW.Trod enc Try.prog w 0 (fun _ => true) true 31 v d p) (z : ∀ n ∈ DataW.weights Try.prog 31 d, (decide (n ≤ reachBytes)) = true) (t : List UInt8) (ht : t.length ≤ reachBytes) :
    Calls Try.prog 4 #[v, .string (bs t)] w fun e w' => e = .returned (.bool true) ∧ Below w.heap.size w w' := by
  obtain ⟨a, cap, ls, rfl, ha, hn, hl⟩ := strs_of_trod Try.underlying31 Try.underlying9 (by kernel_rfl) (by kernel_rfl) o h z
  exact crcMore_core a cap ls t _ ha hn hl ht
end Go.Proofs.Ythbdflmckfgleaa
