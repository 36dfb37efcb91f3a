/- The walks of octet.bytes, octet.Put, crc.More, Sum, Seal, Open, Ok: what they compute. -/
import Derived.Test.YthbdflmckfgleaaCrcTable
namespace Go.Proofs.Ythbdflmckfgleaa
open Go.RowKit

theorem not_u32 (c : Nat) (h : c < 2 ^ 32) : bits .xor .u32 IntKind.u32.max (c : Int) = ((Crc.not32 c : Nat) : Int) := by
  have e : IntKind.u32.max = ((4294967295 : Nat) : Int) := by decide
  rw [e, bit_xor _ _ (by decide) h]
  congr 1
  unfold Crc.not32
  apply Nat.eq_of_testBit_eq
  intro i
  have h1 := Nat.testBit_two_pow_sub_succ (x := c) (n := 32) h i
  rw [show 4294967295 - c = 2 ^ 32 - (c + 1) by omega, h1, Nat.testBit_xor, show (4294967295 : Nat) = 2 ^ 32 - 1 by decide, Nat.testBit_two_pow_sub_one]
  by_cases hi : i < 32
  · simp [hi]
  · simp [hi]
    exact Nat.testBit_lt_two_pow (Nat.lt_of_lt_of_le h (Nat.pow_le_pow_right (by decide) (by omega)))
theorem zero_size : Try.zeroCells91.size = (tabTo 256).size := by rw [tabTo_zero, tabTo_size, tabTo_size]

set_option maxRecDepth 100000 in
set_option maxHeartbeats 400000 in
theorem more_any (c : Nat) (l : List UInt8) (w : World) (hc : c < 2 ^ 32) (hs : l.length ≤ maxLen) :
    Calls Try.prog 21 #[.int .u32 c, .string (bs l)] w fun e w' => e = .returned (.int .u32 (Crc.more c l : Nat)) ∧ Below w.heap.size w w' := by
  unfold maxLen at hs
  go_enter Try.func21, Try.ntmps21
  go_wp2_with fail
  refine (table_any _).mono ?_
  rintro e w1 ⟨rfl, hb⟩
  go_wp2_with (first | (refine wpList_store_row rfl 91 _ _ rfl w1.heap.size (tabTo 256) rfl rfl 91 _ (heap_alloc_new w1 _) (tab_size 256) zero_size (tab_one 256) ?_; rw [World.setRow_alloc_new]))
  go_loop [0, 12] (fun r i => ∃ k : Nat, k ≤ l.length ∧ i = .int .i64 k ∧ r = .int .u32 (Crc.reg (Crc.not32 c) (l.take k) : Nat)) (fun _ i => l.length - (intOf i).toNat)
  case atStart => exact ⟨0, by omega, rfl, by rw [not_u32 c hc]; rfl⟩
  case round =>
    obtain ⟨k, hk, rfl, rfl⟩ := hrel
    have hreg := Crc.reg_lt (Crc.not32_lt c) (l.take k)
    by_cases hlt : k < l.length
    · have hstep : Crc.reg (Crc.not32 c) (l.take (k + 1)) = (Crc.reg (Crc.not32 c) (l.take k) / 256) ^^^ Crc.tab ((Crc.reg (Crc.not32 c) (l.take k) % 256) ^^^ l[k].toNat) := by
        rw [Crc.byte_by_table, take_snoc l k hlt, Crc.reg_snoc]
      have HS := Lib.hid hstep
      clear hstep
      generalize Crc.reg (Crc.not32 c) (l.take k) = r at *
      have hbyte := l[k].toNat_lt
      have hx : bits .xor .u8 ((r : Int) % 256) (l[k].toNat : Int) = ((r % 256 ^^^ l[k].toNat : Nat) : Int) := by
        rw [show (r : Int) % 256 = ((r % 256 : Nat) : Int) by omega]
        exact u8_xor_nat _ _ (Nat.mod_lt _ (by decide)) (by omega)
      have hi : r % 256 ^^^ l[k].toNat < 256 := Nat.xor_lt_two_pow (n := 8) (Nat.mod_lt _ (by decide)) (by simpa using hbyte)
      have hcell := tabTo_get 256 _ hi
      rw [if_pos hi] at hcell
      have ht : Crc.tab (r % 256 ^^^ l[k].toNat) < 2 ^ 32 := Crc.steps_lt (by omega) 8
      have H2 := Lib.hid (bit_xor (r / 256) (Crc.tab (r % 256 ^^^ l[k].toNat)) (by omega) ht)
      go_wp2_with fail
      go_round
      case rel => exact ⟨k + 1, by omega, by go_num, by rw [HS.out, ← H2.out]; rfl⟩
      case measure => simp [intOf]; omega
    · obtain rfl : k = l.length := by omega
      go_wp2_with fail
      go_ret
      refine ⟨ret_int ?_, (hb.alloc hb.size _).mono (Nat.le_refl _)⟩
      rw [List.take_length] at hreg
      exact not_u32 _ hreg
end Go.Proofs.Ythbdflmckfgleaa
