/- The walks of octet.bytes and octet.Put. -/
import Derived.Test.YthbdflmckfgleaaCrcWalks
namespace Go.Proofs.Ythbdflmckfgleaa
open Go.RowKit

theorem le_snoc (k v : Nat) : Crc.le (k + 1) v = Crc.le k v ++ [UInt8.ofNat (v / 256 ^ k)] := by
  induction k generalizing v with
  | zero => simp [Crc.le]
  | succ k ih =>
    rw [Crc.le, ih (v / 256)]
    simp only [Crc.le, List.cons_append]
    rw [Nat.div_div_eq_div_mul, Nat.pow_succ, Nat.mul_comm 256]

/-- The eight cells, filled up to k. -/
def le8 (k v : Nat) : List UInt8 := Crc.le k v ++ List.replicate (8 - k) 0
theorem le8_length (k v : Nat) (h : k ≤ 8) : (le8 k v).length = 8 := by simp [le8, Crc.le_length]; omega
theorem le8_set (k v : Nat) (h : k < 8) : (le8 k v).set k (UInt8.ofNat (v / 256 ^ k)) = le8 (k + 1) v := by
  unfold le8
  rw [le_snoc, show 8 - k = (8 - (k + 1)) + 1 by omega, List.replicate_succ]
  rw [List.set_append_right _ _ (by rw [Crc.le_length]; exact Nat.le_refl _), Crc.le_length, Nat.sub_self]
  simp
theorem le8_take (v n : Nat) (h : n ≤ 8) : (le8 8 v).take n = Crc.le n v := by
  unfold le8
  have : ∀ m v, n ≤ m → (Crc.le m v).take n = Crc.le n v := by
    induction n with
    | zero => intros; simp [Crc.le]
    | succ n ih =>
      intro m v hm
      cases m with
      | zero => omega
      | succ m => simp only [Crc.le, List.take_succ_cons]; rw [ih (by omega) m _ (by omega)]
  simp [this 8 v h]

theorem zero8 : (#[Value.int .u8 0, Value.int .u8 0, Value.int .u8 0, Value.int .u8 0, Value.int .u8 0, Value.int .u8 0, Value.int .u8 0, Value.int .u8 0] : Array Value) = u8row (le8 0 0) := by
  unfold u8row
  rfl
theorem le8_zero (v : Nat) : le8 0 v = le8 0 0 := rfl

set_option maxRecDepth 100000 in
set_option maxHeartbeats 400000 in
theorem bytes_any (v n : Nat) (w : World) (hn : n ≤ 8) :
    Calls Try.prog 96 #[.int .u64 v, .int .i64 n] w fun e w' => e = .returned (.string (bs (Crc.le n v))) ∧ Below w.heap.size w w' := by
  go_enter Try.func96, Try.ntmps96
  go_wp2_with fail
  rw [zero8]
  go_loopw [7] (fun i wr => ∃ k : Nat, k ≤ 8 ∧ i = .int .i64 k ∧ wr = w.alloc (Obj.cells (u8row (le8 k v)) 151)) (fun i _ => 8 - (intOf i).toNat)
  case atStart => exact ⟨0, by omega, rfl, rfl⟩
  case round =>
    obtain ⟨k, hk, rfl, rfl⟩ := hrel
    by_cases hlt : k < 8
    · have hs : (u8row (le8 k v)).setIfInBounds k (.int .u8 ((v : Int) / 2 ^ (8 * k) % 256)) = u8row (le8 (k + 1) v) := by
        rw [← le8_set k v hlt, ← u8row_set, u8_ofNat, show (256 : Nat) = 2 ^ 8 from rfl, ← Nat.pow_mul]
        norm_cast
      have hg := u8row_get (le8 k v) k (by rw [le8_length _ _ hk]; exact hlt)
      go_wp2_with fail
      go_roundw
      case rel => exact ⟨k + 1, by omega, by go_num, rfl⟩
      case measure => simp [intOf]; omega
    · obtain rfl : k = 8 := by omega
      have hsl := fun (x : World) => run_slice_arr Try.prog x 151 5 8 n w.heap.size Try.underlying151 (by kernel_rfl) hn
      have hcv := run_bytes_bs Try.prog (w.alloc (Obj.cells (u8row (le8 8 v)) 151)) 35 5 9 Try.underlying35 Try.underlying5 Try.underlying9 w.heap.size 0 n 8 (Crc.le n v) (Crc.le_length _ _) (fun i hi => by
        rw [Nat.zero_add, cell_new_row, u8row_get _ _ (by rw [le8_length _ _ hk]; rw [Crc.le_length] at hi; omega)]
        simp only [← le8_take v n hn, List.getElem_take])
      go_wp2_with fail
      go_ret
      exact ⟨rfl, (Below.refl _ _).alloc (Nat.le_refl _) _⟩

/-- 'Put', of a number that there is room for. -/
theorem put_any (v n : Nat) (w : World) (hv : v < 256 ^ n) (h1 : 1 ≤ n) (hn : n ≤ 8) :
    Calls Try.prog 59 #[.int .u64 v, .int .i64 n] w fun e w' => e = .returned (.tuple #[.string (bs (Crc.le n v)), .int .i64 0]) ∧ Below w.heap.size w w' := by
  have hv2 : v < 18446744073709551616 := Nat.lt_of_lt_of_le hv (by rw [show (18446744073709551616 : Nat) = 256 ^ 8 from rfl]; exact Nat.pow_le_pow_right (by decide) hn)
  by_cases h8 : n < 8
  · have hq : ((v : Int) / 2 ^ (8 * n) != 0) = false := by
      have e : v / 2 ^ (8 * n) = 0 := by rw [Nat.pow_mul]; exact Nat.div_eq_of_lt hv
      have e2 : (v : Int) / 2 ^ (8 * n) = ((v / 2 ^ (8 * n) : Nat) : Int) := by norm_cast
      rw [e2, e]; rfl
    go_enter Try.func59, Try.ntmps59
    go_wp2_with fail
    refine (bytes_any v n _ hn).mono ?_
    rintro e w1 ⟨rfl, hb⟩
    go_wp2_with fail
    go_ret2
    exact ⟨rfl, hb⟩
  · obtain rfl : n = 8 := by omega
    go_enter Try.func59, Try.ntmps59
    go_wp2_with fail
    refine (bytes_any v 8 _ hn).mono ?_
    rintro e w1 ⟨rfl, hb⟩
    go_wp2_with fail
    go_ret2
    exact ⟨rfl, hb⟩

set_option maxRecDepth 100000 in
set_option maxHeartbeats 400000 in
theorem sum_any (l : List UInt8) (w : World) (hs : l.length ≤ maxLen) :
    Calls Try.prog 16 #[.string (bs l)] w fun e w' => e = .returned (.int .u32 (Crc.sum l : Nat)) ∧ Below w.heap.size w w' := by
  go_enter Try.func16, Try.ntmps16
  go_wp2_with fail
  refine (more_any 0 l _ (by decide) hs).mono ?_
  rintro e w1 ⟨rfl, hb⟩
  go_wp2_with fail
  go_ret
  exact ⟨rfl, hb⟩

set_option maxRecDepth 100000 in
set_option maxHeartbeats 400000 in
theorem seal_any (l : List UInt8) (w : World) (hs : l.length ≤ 1099511627776) :
    Calls Try.prog 18 #[.string (bs l)] w fun e w' => e = .returned (.string (bs (Crc.sealT l))) ∧ Below w.heap.size w w' := by
  have hlt := Crc.sum_lt l
  go_enter Try.func18, Try.ntmps18
  go_wp2_with fail
  refine (sum_any l _ (by unfold maxLen; omega)).mono ?_
  rintro e w1 ⟨rfl, hb⟩
  have H := Lib.hid hlt
  go_wp2_with fail
  refine (put_any (Crc.sum l) 4 _ H.out (by decide) (by decide)).mono ?_
  rintro e w2 ⟨rfl, hb2⟩
  go_wp2_with fail
  go_ret
  exact ⟨rfl, hb.trans (hb2.mono hb.size)⟩

set_option maxRecDepth 100000 in
set_option maxHeartbeats 400000 in
theorem open_any (l : List UInt8) (w : World) (hs : l.length ≤ 1099511627776) :
    Calls Try.prog 14 #[.string (bs l)] w fun e w' => e = .returned (.tuple #[.string (bs (Crc.openT l).1), .int .i64 (Crc.openT l).2]) ∧ Below w.heap.size w w' := by
  by_cases h4 : l.length < 4
  · have H : Hid (Crc.openT l = ([], 6)) := Lib.hid (if_pos h4)
    go_enter Try.func14, Try.ntmps14
    go_wp2_with fail
    go_ret2
    rw [H.out]
    exact ⟨rfl, Below.refl _ _⟩
  · by_cases hse : Crc.sealT (l.take (l.length - 4)) = l
    · have H : Hid (Crc.openT l = (l.take (l.length - 4), 0)) := Lib.hid (by unfold Crc.openT; rw [if_neg h4, if_pos hse])
      have hb : (Crc.sealT (l.take (l.length - 4)) == l) = true := by simp [hse]
      clear hse
      go_enter Try.func14, Try.ntmps14
      go_wp2_with fail
      refine (seal_any (l.take (l.length - 4)) _ (by rw [List.length_take]; omega)).mono ?_
      rintro e w1 ⟨rfl, hb1⟩
      go_wp2_with fail
      go_ret2
      rw [H.out]
      exact ⟨rfl, hb1⟩
    · have H : Hid (Crc.openT l = ([], 7)) := Lib.hid (by unfold Crc.openT; rw [if_neg h4, if_neg hse])
      have hb : (Crc.sealT (l.take (l.length - 4)) == l) = false := by simp [hse]
      clear hse
      go_enter Try.func14, Try.ntmps14
      go_wp2_with fail
      refine (seal_any (l.take (l.length - 4)) _ (by rw [List.length_take]; omega)).mono ?_
      rintro e w1 ⟨rfl, hb1⟩
      go_wp2_with fail
      go_ret2
      rw [H.out]
      exact ⟨rfl, hb1⟩

set_option maxRecDepth 100000 in
set_option maxHeartbeats 400000 in
theorem ok_any (l : List UInt8) (w : World) (hs : l.length ≤ 1099511627776) :
    Calls Try.prog 20 #[.string (bs l)] w fun e w' => e = .returned (.bool (Crc.okT l)) ∧ Below w.heap.size w w' := by
  go_enter Try.func20, Try.ntmps20
  go_wp2_with fail
  refine (open_any l _ hs).mono ?_
  rintro e w1 ⟨rfl, hb⟩
  go_wp2_with fail
  go_ret
  exact ⟨rfl, hb⟩

set_option maxRecDepth 100000 in
set_option maxHeartbeats 400000 in
theorem num_any (v n : Nat) (w : World) (hv : v < 18446744073709551616) (hn : n ≤ 8) :
    Calls Try.prog 60 #[.int .u64 v, .int .i64 n] w fun e w' => e = .returned (.string (bs (Crc.le n v))) ∧ Below w.heap.size w w' := by
  go_enter Try.func60, Try.ntmps60
  go_wp2_with fail
  go_loopw [0, 5, 6] (fun q s i wr => ∃ k : Nat, k ≤ n ∧ i = .int .i64 k ∧ q = .int .u64 (v / 256 ^ k : Nat) ∧ s = .string (bs (Crc.le k v)) ∧ Below w.heap.size w wr) (fun _ _ i _ => n - (intOf i).toNat)
  case atStart => exact ⟨0, by omega, rfl, by simp, rfl, Below.refl _ _⟩
  case round =>
    obtain ⟨k, hk, rfl, rfl, rfl, hb⟩ := hrel
    by_cases hlt : k < n
    · have hq : v / 256 ^ k < 18446744073709551616 := Nat.lt_of_le_of_lt (Nat.div_le_self _ _) hv
      have HS := Lib.hid (le_snoc k v)
      have HD : Hid (v / 256 ^ (k + 1) = v / 256 ^ k / 256) := Lib.hid (by rw [Nat.pow_succ, Nat.div_div_eq_div_mul])
      generalize v / 256 ^ k = q at *
      have hcv := run_byte_bs Try.prog wr 35 5 9 5 Try.underlying35 Try.underlying5 Try.underlying9 ((q : Int) % 256) (UInt8.ofNat q) (by rw [u8_ofNat]; norm_cast)
      go_wp2_with fail
      go_roundw
      case rel => exact ⟨k + 1, by omega, by go_num, by rw [HD.out]; rfl, by rw [HS.out], (hb.alloc hb.size _)⟩
      case measure => simp [intOf]; omega
    · obtain rfl : k = n := by omega
      go_wp2_with fail
      go_ret
      exact ⟨rfl, hb⟩

set_option maxRecDepth 100000 in
set_option maxHeartbeats 400000 in
theorem rsum_any (l : List UInt8) (w : World) (hs : l.length ≤ maxLen) :
    Calls Try.prog 17 #[.string (bs l)] w fun e w' => e = .returned (.int .u32 (Crc.sum l : Nat)) ∧ w = w' := by
  unfold maxLen at hs
  go_enter Try.func17, Try.ntmps17
  go_wp2_with fail
  go_loop [3, 4] (fun c i => ∃ k : Nat, k ≤ l.length ∧ i = .int .i64 k ∧ c = .int .u32 (Crc.reg 4294967295 (l.take k) : Nat)) (fun _ i => l.length - (intOf i).toNat)
  case atStart => exact ⟨0, by omega, rfl, rfl⟩
  case round =>
    obtain ⟨k, hk, rfl, rfl⟩ := hrel
    have hreg := Crc.reg_lt (c := 4294967295) (by decide) (l.take k)
    by_cases hlt : k < l.length
    · have HS : Hid (Crc.reg 4294967295 (l.take (k + 1)) = Crc.steps 8 (Crc.reg 4294967295 (l.take k) ^^^ l[k].toNat)) := Lib.hid (by rw [take_snoc l k hlt, Crc.reg_snoc])
      generalize Crc.reg 4294967295 (l.take k) = r at *
      have hx : bits .xor .u32 (r : Int) ((l[k].toNat : Int) % 4294967296) = ((r ^^^ l[k].toNat : Nat) : Int) := by
        rw [← bit_xor r l[k].toNat hreg (Crc.byte_lt _), Int.emod_eq_of_lt (by omega) (by have := l[k].toNat_lt; omega)]
      have hxl : r ^^^ l[k].toNat < 2 ^ 32 := Nat.xor_lt_two_pow hreg (Crc.byte_lt _)
      go_wp2_with fail
      generalize r ^^^ l[k].toNat = q at *
      clear hx
      go_loop [3, 5, 6] (fun c j _ => ∃ i : Nat, i ≤ 8 ∧ j = .int .i64 i ∧ c = .int .u32 (Crc.steps i q : Nat)) (fun _ j _ => 8 - (intOf j).toNat)
      case atStart => exact ⟨0, by omega, rfl, rfl⟩
      case round =>
        obtain ⟨i, hi, rfl, rfl⟩ := hrel
        by_cases hlt8 : i < 8
        · have hb : Crc.steps i q < 2 ^ 32 := Crc.steps_lt hxl i
          have H2 := Lib.hid (bit_xor (Crc.steps i q / 2) 3988292384 (by omega) (by decide))
          have h3 := Crc.steps_succ' i q
          unfold Crc.step at h3
          have H3 := Lib.hid h3; clear h3
          generalize Crc.steps i q = c at *
          by_cases ht : c % 2 = 1
          · have hc : ((c : Int) % 2 == 1) = true := by rw [beq_iff_eq]; omega
            have HT := Lib.hid ht; clear ht
            go_wp2_with fail
            go_round
            case rel => exact ⟨i + 1, by omega, by go_num, by rw [H3.out, if_pos HT.out]; exact congrArg _ H2.out⟩
            case measure => simp [intOf]; omega
          · have hc : ((c : Int) % 2 == 1) = false := by rw [beq_eq_false_iff_ne]; omega
            have HT := Lib.hid ht; clear ht
            go_wp2_with fail
            go_round
            case rel => exact ⟨i + 1, by omega, by go_num, by rw [H3.out, if_neg HT.out]; rfl⟩
            case measure => simp [intOf]; omega
        · obtain rfl : i = 8 := by omega
          go_wp2_with fail
          go_round
          case rel => exact ⟨k + 1, by omega, by go_num, by rw [HS.out]⟩
          case measure => simp [intOf]; omega
    · obtain rfl : k = l.length := by omega
      go_wp2_with fail
      go_ret
      rw [List.take_length] at hreg
      exact ⟨ret_int (not_u32 _ hreg), rfl⟩

set_option maxRecDepth 100000 in
set_option maxHeartbeats 400000 in
theorem rseal_any (l : List UInt8) (w : World) (hs : l.length ≤ 1099511627776) :
    Calls Try.prog 19 #[.string (bs l)] w fun e w' => e = .returned (.string (bs (Crc.sealT l))) ∧ Below w.heap.size w w' := by
  have hlt := Crc.sum_lt l
  go_enter Try.func19, Try.ntmps19
  go_wp2_with fail
  refine (rsum_any l _ (by unfold maxLen; omega)).mono ?_
  rintro e w1 ⟨rfl, rfl⟩
  have H := Lib.hid hlt
  go_wp2_with fail
  refine (num_any (Crc.sum l) 4 _ (Nat.lt_trans H.out (by decide)) (by decide)).mono ?_
  rintro e w2 ⟨rfl, hb2⟩
  go_wp2_with fail
  go_ret
  exact ⟨rfl, hb2⟩

set_option maxRecDepth 100000 in
set_option maxHeartbeats 400000 in
theorem ropen_any (l : List UInt8) (w : World) (hs : l.length ≤ 1099511627776) :
    Calls Try.prog 15 #[.string (bs l)] w fun e w' => e = .returned (.tuple #[.string (bs (Crc.openT l).1), .int .i64 (Crc.openT l).2]) ∧ Below w.heap.size w w' := by
  by_cases h4 : l.length < 4
  · have H : Hid (Crc.openT l = ([], 6)) := Lib.hid (if_pos h4)
    go_enter Try.func15, Try.ntmps15
    go_wp2_with fail
    go_ret2
    rw [H.out]
    exact ⟨rfl, Below.refl _ _⟩
  · by_cases hse : Crc.sealT (l.take (l.length - 4)) = l
    · have H : Hid (Crc.openT l = (l.take (l.length - 4), 0)) := Lib.hid (by unfold Crc.openT; rw [if_neg h4, if_pos hse])
      have hb : (Crc.sealT (l.take (l.length - 4)) == l) = true := by simp [hse]
      clear hse
      go_enter Try.func15, Try.ntmps15
      go_wp2_with fail
      refine (rseal_any (l.take (l.length - 4)) _ (by rw [List.length_take]; omega)).mono ?_
      rintro e w1 ⟨rfl, hb1⟩
      go_wp2_with fail
      go_ret2
      rw [H.out]
      exact ⟨rfl, hb1⟩
    · have H : Hid (Crc.openT l = ([], 7)) := Lib.hid (by unfold Crc.openT; rw [if_neg h4, if_neg hse])
      have hb : (Crc.sealT (l.take (l.length - 4)) == l) = false := by simp [hse]
      clear hse
      go_enter Try.func15, Try.ntmps15
      go_wp2_with fail
      refine (rseal_any (l.take (l.length - 4)) _ (by rw [List.length_take]; omega)).mono ?_
      rintro e w1 ⟨rfl, hb1⟩
      go_wp2_with fail
      go_ret2
      rw [H.out]
      exact ⟨rfl, hb1⟩
end Go.Proofs.Ythbdflmckfgleaa
