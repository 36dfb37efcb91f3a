/- The walk of crc.table: it hands back the table. -/
import Derived.Test.YthbdflmckfgleaaBase
import Derived.Test.YthbdflmckfgleaaCrcPlain
namespace Go.Proofs.Ythbdflmckfgleaa
open Go.RowKit

/-- The table, filled up to k. -/
@[irreducible] def tabTo (k : Nat) : Array Value := ((List.range 256).map fun i => Value.int .u32 (if i < k then (Crc.tab i : Nat) else 0)).toArray

theorem tabTo_get (k i : Nat) (h : i < 256) : (tabTo k)[i]? = some (.int .u32 (if i < k then (Crc.tab i : Nat) else 0)) := by
  unfold tabTo
  rw [List.getElem?_toArray, List.getElem?_map, List.getElem?_range h]
  simp

theorem tabTo_size (k : Nat) : (tabTo k).size = 256 := by unfold tabTo; simp

theorem tabTo_set (k : Nat) (h : k < 256) : (tabTo k).setIfInBounds k (.int .u32 (Crc.tab k : Nat)) = tabTo (k + 1) := by
  apply Array.ext_getElem?
  intro i
  rw [Array.getElem?_setIfInBounds]
  by_cases hi : i < 256
  · rw [tabTo_get _ _ hi, tabTo_get _ _ hi]
    by_cases e : k = i
    · subst e; simp [tabTo_size, hi]
    · rw [if_neg e]
      by_cases h2 : i < k
      · simp [h2, show i < k + 1 by omega]
      · simp [h2, show ¬ i < k + 1 by omega]
  · rw [if_neg (by omega), Array.getElem?_eq_none (by rw [tabTo_size]; omega), Array.getElem?_eq_none (by rw [tabTo_size]; omega)]

theorem tabTo_zero : Try.zeroCells91 = tabTo 0 := by
  unfold tabTo
  kernel_rfl

theorem tab_info : (Try.prog.info? 91).map (fun i => (i.zero, i.size)) = some (some (.agg Try.zeroCells91), 256) := by kernel_rfl
theorem tab_size (k : Nat) : (Try.prog.info? 91).map (·.size) = some (tabTo k).size := by rw [tabTo_size]; exact (zero_of_info tab_info).2
theorem tab_one (k : Nat) : (tabTo k).all (·.oneCell') = true := by
  rw [Array.all_eq_true]
  intro i hi
  have := tabTo_get k i (by rw [tabTo_size] at hi; exact hi)
  rw [Array.getElem?_eq_getElem hi] at this
  rw [Option.some.inj this]
  rfl

theorem bit_and_one (c : Nat) (h : c < 2 ^ 32) : bits .and .u32 (c : Int) 1 = ((c % 2 : Nat) : Int) := by
  rw [show (1 : Int) = ((1 : Nat) : Int) from rfl, u32_and_nat c 1 h (by decide), Nat.and_one_is_mod]

theorem bit_xor (a b : Nat) (ha : a < 2 ^ 32) (hb : b < 2 ^ 32) : bits .xor .u32 (a : Int) (b : Int) = ((a ^^^ b : Nat) : Int) := u32_xor_nat a b ha hb

set_option maxRecDepth 100000 in
set_option maxHeartbeats 400000 in
theorem table_any (w : World) :
    Calls Try.prog 61 #[] w fun e w' => e = .returned (.agg (tabTo 256)) ∧ Below w.heap.size w w' := by
  go_enter Try.func61, Try.ntmps61
  go_wp2_with fail
  rw [tabTo_zero]
  go_loopw [3] (fun i wr => ∃ k : Nat, k ≤ 256 ∧ i = .int .i64 k ∧ wr = w.alloc (Obj.cells (tabTo k) 91)) (fun i _ => 256 - (intOf i).toNat)
  case atStart => exact ⟨0, by omega, rfl, rfl⟩
  case round =>
    obtain ⟨k, hk, rfl, rfl⟩ := hrel
    by_cases hlt : k < 256
    · have hcell := tabTo_get k k hlt
      go_wp2_with fail
      go_loop [2, 8] (fun c j => ∃ i : Nat, i ≤ 8 ∧ j = .int .i64 i ∧ c = .int .u32 (Crc.steps i k : Nat)) (fun _ j => 8 - (intOf j).toNat)
      case atStart => exact ⟨0, by omega, rfl, rfl⟩
      case round =>
        obtain ⟨i, hi, rfl, rfl⟩ := hrel
        by_cases hlt8 : i < 8
        · have hb : Crc.steps i k < 2 ^ 32 := Crc.steps_lt (by omega) i
          have h1 := bit_and_one _ hb
          have h2 := bit_xor (Crc.steps i k / 2) 3988292384 (by omega) (by decide)
          have h3 := Crc.steps_succ' i k
          unfold Crc.step at h3
          have H1 := Lib.hid h1; have H2 := Lib.hid h2; have H3 := Lib.hid h3; clear h1 h2 h3 hcell
          go_wp2_with fail
          · have ht : (bits BinOp.and IntKind.u32 (↑(Crc.steps i k)) 1 == 1) = true := by assumption
            rw [H1.out] at ht
            go_round
            case rel => exact ⟨i + 1, by omega, by go_num, by rw [H3.out, if_pos (by simp at ht; omega)]; exact congrArg _ H2.out⟩
            case measure => simp [intOf]; omega
          · have ht : (bits BinOp.and IntKind.u32 (↑(Crc.steps i k)) 1 == 1) = false := by assumption
            rw [H1.out] at ht
            go_round
            case rel => exact ⟨i + 1, by omega, by go_num, by rw [H3.out, if_neg (by simp at ht; omega)]; rfl⟩
            case measure => simp [intOf]; omega
        · obtain rfl : i = 8 := by omega
          have hset := tabTo_set k hlt
          unfold Crc.tab at hset
          go_wp2_with fail
          go_roundw
          case rel => exact ⟨k + 1, by omega, by go_num, rfl⟩
          case measure => simp [intOf]; omega
    · obtain rfl : k = 256 := by omega
      go_wp2_with (first | (refine wpList_load_row rfl 91 _ rfl w.heap.size rfl 91 (tabTo 256) (0, 0) _ (heap_alloc_new w _) Try.underlying91 rfl (tab_size 256) ?_) | (refine wpList_store_row rfl 91 _ _ rfl w.heap.size (tabTo 256) rfl rfl 91 (tabTo 256) (heap_alloc_new w _) (tab_size 256) rfl (tab_one 256) ?_; rw [World.setRow_alloc_new]))
      exact bodyPost_ret (v := .agg (tabTo 256)) (results_cell_row rfl _ _ w.heap.size 91 _ (0, 0) _ rfl (heap_alloc_new w _) Try.underlying91 rfl (tab_size 256)) rfl ⟨rfl, (Below.refl _ _).alloc (Nat.le_refl _) _⟩
end Go.Proofs.Ythbdflmckfgleaa
