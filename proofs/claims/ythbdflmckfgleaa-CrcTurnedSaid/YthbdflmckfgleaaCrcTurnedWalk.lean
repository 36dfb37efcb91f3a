/- The law CrcTurned, walked. -/
import Derived.Test.YthbdflmckfgleaaCrcLaws
import Derived.Test.YthbdflmckfgleaaReads
import Derived.OpenShut
namespace Go.Proofs.Ythbdflmckfgleaa
open Go.RowKit

set_option maxRecDepth 100000 in
set_option maxHeartbeats 1000000 in
theorem crcTurned_core (l : List UInt8) (n t : Nat) (w : World) (hl : l.length ≤ 4096) (hn : n < 65536) (ht : t < 4294967296) (h0 : t ≠ 0) :
    Calls Try.prog 5 #[.string (bs l), .int .u16 n, .int .u32 t] w fun e w' => e = .returned (.bool true) ∧ Below w.heap.size w w' := by
  have hd1 : decide ((4096 : Int) < (l.length : Int)) = false := by rw [decide_eq_false_iff_not]; omega
  have hd2 : ((t : Int) == 0) = false := by rw [beq_eq_false_iff_ne]; omega
  have HT := Lib.hid (Crc.turned_open l)
  have H0 := Lib.hid h0
  clear h0
  go_enter Try.func5, Try.ntmps5
  go_wp2_with fail
  refine (seal_any l _ (by omega)).mono ?_
  rintro e w1 ⟨rfl, hb1⟩
  have hq := Crc.seal_length l
  generalize hqe : Crc.sealT l = q at *
  have HQ := Lib.hid hqe
  have hq2 : ((q.length : Int) != (l.length : Int) + 4) = false := by rw [bne_eq_false_iff_eq]; omega
  have HL := Lib.hid hq
  have hq4 : 4 ≤ q.length := by omega
  have hq5 : q.length ≤ 5000 := by omega
  clear hqe hq
  have hcv := run_bytes_of_string (P := Try.prog) w1 9 35 5 (bs q) Try.underlying9 Try.underlying35 Try.underlying5
  have hnew := bytes_new w1 q 5
  simp only [bs_size] at hcv
  generalize grownCap w1 q.length 0 5 = cap at *
  have hmod : ∃ f : Nat, (n : Int) % (8 * (q.length : Int) - 31) = (f : Int) ∧ f + 31 < 8 * q.length := by
    refine ⟨n % (8 * q.length - 31), ?_, ?_⟩
    · rw [show (8 * (q.length : Int) - 31) = ((8 * q.length - 31 : Nat) : Int) by omega]; rfl
    · have := Nat.mod_lt n (show 0 < 8 * q.length - 31 by omega)
      omega
  obtain ⟨f, hfe, hfl⟩ := hmod
  go_wp2_with fail
  rw [hfe]
  clear hfe hcv hq2
  go_loopw [9] (fun i wr => ∃ (k : Nat) (r : List UInt8), k ≤ 32 ∧ i = .int .i64 k ∧ r.length = q.length ∧ BytesAt wr w1.heap.size r ∧ Crc.val r = Crc.val q ^^^ (2 ^ f * (t % 2 ^ k)) ∧ Below w.heap.size w wr) (fun i _ => 32 - (intOf i).toNat)
  case atStart => exact ⟨0, q, by omega, rfl, rfl, hnew, by rw [Nat.pow_zero, Nat.mod_one, Nat.mul_zero, Nat.xor_zero], (hb1.alloc hb1.size _).drew⟩
  case round =>
    obtain ⟨k, r, hk, rfl, hlen, hat, hval, hb⟩ := hrel
    have HAT := Lib.hid hat; have HV := Lib.hid hval; have HLEN := Lib.hid hlen
    have hrl : r.length ≤ 5000 := by omega
    have hfr : f + 31 < 8 * r.length := by omega
    clear hat hval hlen
    by_cases hlt : k < 32
    · by_cases hbit : t / 2 ^ k % 2 = 1
      · have hj : (f + k) / 8 < r.length := by omega
        have hcell := HAT.out.cell _ hj
        have hfz := HAT.out.free _ hj
        have hbt : (((t : Int) / 2 ^ k).tmod 2 == 1) = true := by
          rw [show ((t : Int) / 2 ^ k) = ((t / 2 ^ k : Nat) : Int) by norm_cast, Int.tmod_eq_emod_of_nonneg (Int.natCast_nonneg _), beq_iff_eq]; omega
        have HB := Lib.hid hbit
        have hx : ∃ b : UInt8, b.toNat = r[(f + k) / 8].toNat ^^^ 2 ^ ((f + k) % 8) ∧ bits .xor .u8 (r[(f + k) / 8].toNat : Int) (2 ^ ((f + k) % 8) % 256) = (b.toNat : Int) := by
          have hp : 2 ^ ((f + k) % 8) < 2 ^ 8 := Nat.pow_lt_pow_right (by decide) (Nat.mod_lt _ (by decide))
          have hb8 := r[(f + k) / 8].toNat_lt
          have hxl : r[(f + k) / 8].toNat ^^^ 2 ^ ((f + k) % 8) < 2 ^ 8 := Nat.xor_lt_two_pow (by simpa using hb8) hp
          have e1 : (UInt8.ofNat (r[(f + k) / 8].toNat ^^^ 2 ^ ((f + k) % 8))).toNat = r[(f + k) / 8].toNat ^^^ 2 ^ ((f + k) % 8) := by
            rw [u8_ofNat]; exact Nat.mod_eq_of_lt hxl
          refine ⟨_, e1, ?_⟩
          rw [e1, ← u8_xor_nat _ _ (by simpa using hb8) (by simpa using hp)]
          congr 1
          rw [show ((2 : Int) ^ ((f + k) % 8) % 256) = ((2 ^ ((f + k) % 8) % 256 : Nat) : Int) by norm_cast, Nat.mod_eq_of_lt (by simpa using hp)]
        obtain ⟨b, hb1', hb2'⟩ := hx
        have HX := Lib.hid hb1'; have HX2 := Lib.hid hb2'
        clear hbit hb1' hb2'
        go_wp2_with fail
        go_roundw
        case rel =>
          rw [HX2.out]
          refine ⟨k + 1, r.set ((f + k) / 8) b, by omega, by go_num, by rw [List.length_set]; exact HLEN.out, HAT.out.set _ _, ?_, hb.setCell (by exact hb1.size) _⟩
          rw [Crc.val_turn r _ ((f + k) % 8) hj b HX.out, HV.out, Nat.xor_assoc, Crc.turn_bit t f k HB.out, show 8 * ((f + k) / 8) + (f + k) % 8 = f + k by omega]
        case measure => simp [intOf]; omega
      · have hbt : (((t : Int) / 2 ^ k).tmod 2 == 1) = false := by
          rw [show ((t : Int) / 2 ^ k) = ((t / 2 ^ k : Nat) : Int) by norm_cast, Int.tmod_eq_emod_of_nonneg (Int.natCast_nonneg _), beq_eq_false_iff_ne]; omega
        have HB := Lib.hid hbit
        clear hbit
        go_wp2_with fail
        go_roundw
        case rel => exact ⟨k + 1, r, by omega, by go_num, HLEN.out, HAT.out, by rw [HV.out, Crc.turn_no t f k HB.out], hb⟩
        case measure => simp [intOf]; omega
    · obtain rfl : k = 32 := by omega
      have HO := Lib.hid (HT.out r HLEN.out f t ht H0.out (by omega) HV.out)
      have hcv := run_bytes_bs Try.prog wr 35 5 9 Try.underlying35 Try.underlying5 Try.underlying9 w1.heap.size 0 q.length cap r HLEN.out (fun i hi => by rw [Nat.zero_add]; exact HAT.out.cell i hi)
      go_wp2_with fail
      refine (open_any r _ (by omega)).mono ?_
      rw [HO.out]
      rintro e w2 ⟨rfl, hb2⟩
      have hcv2 := run_bytes_bs Try.prog w2 35 5 9 Try.underlying35 Try.underlying5 Try.underlying9 w1.heap.size 0 q.length cap r HLEN.out (fun i hi => by rw [Nat.zero_add]; exact (HAT.out.below hb2).cell i hi)
      go_wp2_with fail
      refine (ok_any r _ (by omega)).mono ?_
      rw [show Crc.okT r = false by unfold Crc.okT; rw [HO.out]; rfl]
      rintro e w3 ⟨rfl, hb3⟩
      go_wp2_with fail
      refine (alive3_any _).mono ?_
      rintro e w4 ⟨rfl, hb4⟩
      go_wp2_with fail
      go_ret
      exact ⟨rfl, below_next (below_next (below_next hb hb2) hb3) hb4⟩

set_option maxRecDepth 100000 in
set_option maxHeartbeats 1000000 in
theorem crcTurned_any (w : World) (l : List UInt8) (hl : l.length ≤ reachBytes) (n : Int) (hn : (Lit.int .u16 n).wf = true) (t : Int) (ht : (Lit.int .u32 t).wf = true) :
    Calls Try.prog 5 #[.string (bs l), .int .u16 n, .int .u32 t] w fun e w' => e = .returned (.bool true) ∧ Below w.heap.size w w' := by
  unfold reachBytes at hl
  have bn := bounds_u16 hn
  have bt := bounds_u32 ht
  obtain ⟨n, rfl⟩ := Int.eq_ofNat_of_zero_le bn.1
  obtain ⟨t, rfl⟩ := Int.eq_ofNat_of_zero_le bt.1
  by_cases h : l.length ≤ 4096 ∧ t ≠ 0
  · exact crcTurned_core l n t w h.1 (by omega) (by omega) h.2
  · clear hn ht
    by_cases hlen : 4096 < l.length
    · clear h
      go_enter Try.func5, Try.ntmps5
      go_wp2_with fail
      refine (alive3_any _).mono ?_
      rintro e w1 ⟨rfl, hb1⟩
      go_wp2_with fail
      go_ret
      exact ⟨rfl, hb1⟩
    · have hd1 : decide ((4096 : Int) < (l.length : Int)) = false := by rw [decide_eq_false_iff_not]; omega
      have hd2 : ((t : Int) == 0) = true := by rw [beq_iff_eq]; omega
      clear h
      go_enter Try.func5, Try.ntmps5
      go_wp2_with fail
      refine (alive3_any _).mono ?_
      rintro e w1 ⟨rfl, hb1⟩
      go_wp2_with fail
      go_ret
      exact ⟨rfl, hb1⟩
end Go.Proofs.Ythbdflmckfgleaa
