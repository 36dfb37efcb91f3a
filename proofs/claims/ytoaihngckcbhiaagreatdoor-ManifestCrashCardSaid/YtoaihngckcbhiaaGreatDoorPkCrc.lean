/- Crc -/
import Derived.Test.YtoaihngckcbhiaaGreatDoorPkBase
namespace Go.Proofs.YtoaihngckcbhiaaGreatDoor.Crc
def step (c : Nat) : Nat := if c % 2 = 1 then (c / 2) ^^^ 3988292384 else c / 2
def steps : Nat → Nat → Nat
  | 0, c => c
  | n + 1, c => steps n (step c)
theorem steps_succ' (n c : Nat) : steps (n + 1) c = step (steps n c) := by
  induction n generalizing c with
  | zero => rfl
  | succ n ih => rw [steps, ih (step c)]; rfl
theorem step_lt {c : Nat} (h : c < 2 ^ 32) : step c < 2 ^ 32 := by
  unfold step
  have h2 : c / 2 < 2 ^ 32 := by omega
  split
  · exact Nat.xor_lt_two_pow h2 (by decide)
  · exact h2
theorem steps_lt {c : Nat} (h : c < 2 ^ 32) (n : Nat) : steps n c < 2 ^ 32 := by
  induction n generalizing c with
  | zero => exact h
  | succ n ih => exact ih (step_lt h)
theorem xor_div2 (a b : Nat) : (a ^^^ b) / 2 = (a / 2) ^^^ (b / 2) := by
  have h := Nat.xor_div_two_pow (a := a) (b := b) (n := 1)
  simpa using h
theorem xor_mod2 (a b : Nat) : (a ^^^ b) % 2 = ((a % 2) ^^^ (b % 2)) := by
  have h := Nat.xor_mod_two_pow (a := a) (b := b) (n := 1)
  simpa using h
theorem step_xor (a b : Nat) : step (a ^^^ b) = step a ^^^ step b := by
  unfold step
  rw [xor_mod2, xor_div2]
  rcases Nat.mod_two_eq_zero_or_one a with ha | ha <;> rcases Nat.mod_two_eq_zero_or_one b with hb | hb <;> simp only [ha, hb]
  · simp
  · simp [Nat.xor_assoc]
  · simp [Nat.xor_assoc, Nat.xor_comm 3988292384]
  · have e : (a / 2 ^^^ 3988292384) ^^^ (b / 2 ^^^ 3988292384) = (a / 2 ^^^ b / 2) ^^^ (3988292384 ^^^ 3988292384) := by
      rw [Nat.xor_assoc, Nat.xor_assoc, ← Nat.xor_assoc 3988292384, Nat.xor_comm 3988292384 (b / 2), Nat.xor_assoc (b / 2)]
    simp [e]
theorem steps_xor (n a b : Nat) : steps n (a ^^^ b) = steps n a ^^^ steps n b := by
  induction n generalizing a b with
  | zero => rfl
  | succ n ih => simp only [steps]; rw [step_xor, ih]
theorem step_even (h : Nat) : step (2 * h) = h := by
  unfold step
  rw [if_neg (by omega)]
  omega
theorem steps_shift (n h : Nat) : steps n (2 ^ n * h) = h := by
  induction n generalizing h with
  | zero => simp [steps]
  | succ n ih =>
    simp only [steps]
    rw [Nat.pow_succ, Nat.mul_comm (2 ^ n) 2, Nat.mul_assoc, step_even, ih]
theorem join_xor (h l : Nat) (hl : l < 256) : 256 * h + l = (256 * h) ^^^ l := by
  have e := Nat.two_pow_add_eq_or_of_lt (i := 8) (b := l) (by simpa using hl) h
  have e2 : 2 ^ 8 * h ^^^ l = 2 ^ 8 * h ||| l := by
    apply Nat.eq_of_testBit_eq
    intro i
    simp only [Nat.testBit_xor, Nat.testBit_or, Nat.testBit_two_pow_mul]
    by_cases hi : i < 8
    · simp [show ¬ 8 ≤ i by omega]
    · have : l.testBit i = false := Nat.testBit_lt_two_pow (Nat.lt_of_lt_of_le hl (by
        have := Nat.pow_le_pow_right (n := 2) (by decide) (show 8 ≤ i by omega); simpa using this))
      simp [this]
  have e3 : (2 : Nat) ^ 8 = 256 := by decide
  rw [e3] at e e2
  rw [e, e2]
def tab (i : Nat) : Nat := steps 8 i
theorem byte_by_table (c b : Nat) : (c / 256) ^^^ tab ((c % 256) ^^^ b) = steps 8 (c ^^^ b) := by
  have hc : c = (256 * (c / 256)) ^^^ (c % 256) := by
    rw [← join_xor _ _ (Nat.mod_lt _ (by decide))]; omega
  have h1 : steps 8 (c ^^^ b) = steps 8 (256 * (c / 256)) ^^^ steps 8 ((c % 256) ^^^ b) := by
    rw [← steps_xor, ← Nat.xor_assoc, ← hc]
  rw [h1]
  have h2 := steps_shift 8 (c / 256)
  have e3 : (2 : Nat) ^ 8 = 256 := by decide
  rw [e3] at h2
  rw [h2]
  rfl
def reg (c : Nat) (l : List UInt8) : Nat := l.foldl (fun c b => steps 8 (c ^^^ b.toNat)) c
theorem reg_append (c : Nat) (l k : List UInt8) : reg c (l ++ k) = reg (reg c l) k := by simp [reg]
theorem reg_snoc (c : Nat) (l : List UInt8) (b : UInt8) : reg c (l ++ [b]) = steps 8 (reg c l ^^^ b.toNat) := by simp [reg]
theorem byte_lt (b : UInt8) : b.toNat < 2 ^ 32 := Nat.lt_trans b.toNat_lt (by decide)
theorem reg_lt {c : Nat} (h : c < 2 ^ 32) (l : List UInt8) : reg c l < 2 ^ 32 := by
  induction l generalizing c with
  | nil => exact h
  | cons b l ih => exact ih (steps_lt (Nat.xor_lt_two_pow h (byte_lt b)) 8)
def not32 (c : Nat) : Nat := 4294967295 - c
theorem not32_lt (c : Nat) : not32 c < 2 ^ 32 := by unfold not32; omega
theorem not32_not32 {c : Nat} (h : c < 2 ^ 32) : not32 (not32 c) = c := by unfold not32; omega
def more (c : Nat) (l : List UInt8) : Nat := not32 (reg (not32 c) l)
def sum (l : List UInt8) : Nat := more 0 l
theorem sum_lt (l : List UInt8) : sum l < 2 ^ 32 := not32_lt _
theorem more_append {c : Nat} (l k : List UInt8) : more c (l ++ k) = more (more c l) k := by
  unfold more
  rw [reg_append, not32_not32 (reg_lt (not32_lt c) l)]
theorem sum_append (l k : List UInt8) : sum (l ++ k) = more (sum l) k := more_append l k
def val : List UInt8 → Nat
  | [] => 0
  | b :: l => b.toNat + 256 * val l
theorem val_append (l k : List UInt8) : val (l ++ k) = val l + 256 ^ l.length * val k := by
  induction l with
  | nil => simp [val]
  | cons b l ih => simp only [List.cons_append, val, ih, List.length_cons, Nat.pow_succ]; rw [Nat.mul_add, ← Nat.mul_assoc, Nat.mul_comm 256 (256 ^ l.length)]; omega
theorem val_lt (l : List UInt8) : val l < 256 ^ l.length := by
  induction l with
  | nil => simp [val]
  | cons b l ih =>
    have := b.toNat_lt
    simp only [val, List.length_cons, Nat.pow_succ]
    omega
def le : Nat → Nat → List UInt8
  | 0, _ => []
  | n + 1, v => UInt8.ofNat v :: le n (v / 256)
@[simp] theorem le_length (n v : Nat) : (le n v).length = n := by
  induction n generalizing v with
  | zero => rfl
  | succ n ih => simp [le, ih]
theorem val_le (n v : Nat) : val (le n v) = v % 256 ^ n := by
  induction n generalizing v with
  | zero => simp [le, val]; omega
  | succ n ih =>
    simp only [le, val, ih]
    rw [Nat.pow_succ, Nat.mul_comm (256 ^ n) 256, Nat.mod_mul]
    rfl
theorem val_inj : ∀ {l k : List UInt8}, l.length = k.length → val l = val k → l = k
  | [], [], _, _ => rfl
  | a :: l, b :: k, hl, hv => by
    have ha := a.toNat_lt
    have hb := b.toNat_lt
    simp only [val] at hv
    have e1 : a.toNat = b.toNat := by omega
    have e2 : val l = val k := by omega
    rw [UInt8.toNat_inj.1 e1, val_inj (by simpa using hl) e2]
theorem le_val (l : List UInt8) : le l.length (val l) = l :=
  val_inj (le_length _ _) (by rw [val_le]; exact Nat.mod_eq_of_lt (val_lt l))
def sealT (l : List UInt8) : List UInt8 := l ++ le 4 (sum l)
theorem seal_length (l : List UInt8) : (sealT l).length = l.length + 4 := by simp [sealT, le_length]
def Sealed (l : List UInt8) : Prop := 4 ≤ l.length ∧ sealT (l.take (l.length - 4)) = l
instance (l : List UInt8) : Decidable (Sealed l) := inferInstanceAs (Decidable (_ ∧ _))
theorem seal_take (l : List UInt8) : (sealT l).take ((sealT l).length - 4) = l := by
  rw [seal_length, Nat.add_sub_cancel, sealT, List.take_left]
def openT (l : List UInt8) : List UInt8 × Int := if l.length < 4 then ([], 6) else if sealT (l.take (l.length - 4)) = l then (l.take (l.length - 4), 0) else ([], 7)
theorem openT_seal (l : List UInt8) : openT (sealT l) = (l, 0) := by
  unfold openT
  rw [seal_take, if_pos rfl, if_neg (by rw [seal_length]; omega)]
end Go.Proofs.YtoaihngckcbhiaaGreatDoor.Crc
namespace Go.Proofs.YtoaihngckcbhiaaGreatDoor
open Go.RowKit
@[irreducible] def tabTo (k : Nat) : Array Value := ((List.range 256).map fun i => Value.int .u32 (if i < k then (Crc.tab i : Nat) else 0)).toArray
theorem tabTo_get (k i : Nat) (h : i < 256) : (tabTo k)[i]? = some (.int .u32 (if i < k then (Crc.tab i : Nat) else 0)) := by
  unfold tabTo
  rw [List.getElem?_toArray, List.getElem?_map, List.getElem?_range h]
  simp
theorem tabTo_size (k : Nat) : (tabTo k).size = 256 := by unfold tabTo; simp
theorem tabTo_set (k : Nat) (h : k < 256) : (tabTo k).setIfInBounds k (.int .u32 (Crc.tab k : Nat)) = tabTo (k + 1) := by
  apply Array.ext_getElem?
  intro i
  rw [Array.getElem?_setIfInBounds]
  by_cases hi : i < 256
  · rw [tabTo_get _ _ hi, tabTo_get _ _ hi]
    by_cases e : k = i
    · subst e; simp [tabTo_size, hi]
    · rw [if_neg e]
      by_cases h2 : i < k
      · simp [h2, show i < k + 1 by omega]
      · simp [h2, show ¬ i < k + 1 by omega]
  · rw [if_neg (by omega), Array.getElem?_eq_none (by rw [tabTo_size]; omega), Array.getElem?_eq_none (by rw [tabTo_size]; omega)]
theorem tabTo_zero : Tryz.zeroCells222 = tabTo 0 := by
  unfold tabTo
  kernel_rfl
theorem tab_info : (Tryz.prog.info? 222).map (fun i => (i.zero, i.size)) = some (some (.agg Tryz.zeroCells222), 256) := by kernel_rfl
theorem tab_size (k : Nat) : (Tryz.prog.info? 222).map (·.size) = some (tabTo k).size := by rw [tabTo_size]; exact (zero_of_info tab_info).2
theorem tab_one (k : Nat) : (tabTo k).all (·.oneCell') = true := by
  rw [Array.all_eq_true]
  intro i hi
  have := tabTo_get k i (by rw [tabTo_size] at hi; exact hi)
  rw [Array.getElem?_eq_getElem hi] at this
  rw [Option.some.inj this]
  rfl
theorem bit_and_one (c : Nat) (h : c < 2 ^ 32) : bits .and .u32 (c : Int) 1 = ((c % 2 : Nat) : Int) := by
  rw [show (1 : Int) = ((1 : Nat) : Int) from rfl, u32_and_nat c 1 h (by decide), Nat.and_one_is_mod]
theorem bit_xor (a b : Nat) (ha : a < 2 ^ 32) (hb : b < 2 ^ 32) : bits .xor .u32 (a : Int) (b : Int) = ((a ^^^ b : Nat) : Int) := u32_xor_nat a b ha hb
set_option maxRecDepth 100000 in
set_option maxHeartbeats 400000 in
theorem table_any (w : World) :
    Calls Tryz.prog 161 #[] w fun e w' => e = .returned (.agg (tabTo 256)) ∧ Below w.heap.size w w' := by
  go_enter Tryz.func161, Tryz.ntmps161
  go_wp2_with fail
  rw [tabTo_zero]
  go_loopw [3] (fun i wr => ∃ k : Nat, k ≤ 256 ∧ i = .int .i64 k ∧ wr = w.alloc (Obj.cells (tabTo k) 222)) (fun i _ => 256 - (intOf i).toNat)
  case atStart => exact ⟨0, by omega, rfl, rfl⟩
  case round =>
    obtain ⟨k, hk, rfl, rfl⟩ := hrel
    by_cases hlt : k < 256
    · have hcell := tabTo_get k k hlt
      go_wp2_with fail
      go_loop [2, 8] (fun c j => ∃ i : Nat, i ≤ 8 ∧ j = .int .i64 i ∧ c = .int .u32 (Crc.steps i k : Nat)) (fun _ j => 8 - (intOf j).toNat)
      case atStart => exact ⟨0, by omega, rfl, rfl⟩
      case round =>
        obtain ⟨i, hi, rfl, rfl⟩ := hrel
        by_cases hlt8 : i < 8
        · have hb : Crc.steps i k < 2 ^ 32 := Crc.steps_lt (by omega) i
          have h1 := bit_and_one _ hb
          have h2 := bit_xor (Crc.steps i k / 2) 3988292384 (by omega) (by decide)
          have h3 := Crc.steps_succ' i k
          unfold Crc.step at h3
          have H1 := Lib.hid h1; have H2 := Lib.hid h2; have H3 := Lib.hid h3; clear h1 h2 h3 hcell
          go_wp2_with fail
          · have ht : (bits BinOp.and IntKind.u32 (↑(Crc.steps i k)) 1 == 1) = true := by assumption
            rw [H1.out] at ht
            go_round
            case rel => exact ⟨i + 1, by omega, by go_num, by rw [H3.out, if_pos (by simp at ht; omega)]; exact congrArg _ H2.out⟩
            case measure => simp [intOf]; omega
          · have ht : (bits BinOp.and IntKind.u32 (↑(Crc.steps i k)) 1 == 1) = false := by assumption
            rw [H1.out] at ht
            go_round
            case rel => exact ⟨i + 1, by omega, by go_num, by rw [H3.out, if_neg (by simp at ht; omega)]; rfl⟩
            case measure => simp [intOf]; omega
        · obtain rfl : i = 8 := by omega
          have hset := tabTo_set k hlt
          unfold Crc.tab at hset
          go_wp2_with fail
          go_roundw
          case rel => exact ⟨k + 1, by omega, by go_num, rfl⟩
          case measure => simp [intOf]; omega
    · obtain rfl : k = 256 := by omega
      go_wp2_with (first | (refine wpList_load_row rfl 222 _ rfl w.heap.size rfl 222 (tabTo 256) (0, 0) _ (heap_alloc_new w _) Tryz.underlying222 rfl (tab_size 256) ?_) | (refine wpList_store_row rfl 222 _ _ rfl w.heap.size (tabTo 256) rfl rfl 222 (tabTo 256) (heap_alloc_new w _) (tab_size 256) rfl (tab_one 256) ?_; rw [World.setRow_alloc_new]))
      exact bodyPost_ret (v := .agg (tabTo 256)) (results_cell_row rfl _ _ w.heap.size 222 _ (0, 0) _ rfl (heap_alloc_new w _) Tryz.underlying222 rfl (tab_size 256)) rfl ⟨rfl, (Below.refl _ _).alloc (Nat.le_refl _) _⟩
end Go.Proofs.YtoaihngckcbhiaaGreatDoor
namespace Go.Proofs.YtoaihngckcbhiaaGreatDoor
open Go.RowKit
theorem not_u32 (c : Nat) (h : c < 2 ^ 32) : bits .xor .u32 IntKind.u32.max (c : Int) = ((Crc.not32 c : Nat) : Int) := by
  have e : IntKind.u32.max = ((4294967295 : Nat) : Int) := by decide
  rw [e, bit_xor _ _ (by decide) h]
  congr 1
  unfold Crc.not32
  apply Nat.eq_of_testBit_eq
  intro i
  have h1 := Nat.testBit_two_pow_sub_succ (x := c) (n := 32) h i
  rw [show 4294967295 - c = 2 ^ 32 - (c + 1) by omega, h1, Nat.testBit_xor, show (4294967295 : Nat) = 2 ^ 32 - 1 by decide, Nat.testBit_two_pow_sub_one]
  by_cases hi : i < 32
  · simp [hi]
  · simp [hi]
    exact Nat.testBit_lt_two_pow (Nat.lt_of_lt_of_le h (Nat.pow_le_pow_right (by decide) (by omega)))
theorem zero_size : Tryz.zeroCells222.size = (tabTo 256).size := by rw [tabTo_zero, tabTo_size, tabTo_size]
set_option maxRecDepth 100000 in
set_option maxHeartbeats 400000 in
theorem more_any (c : Nat) (l : List UInt8) (w : World) (hc : c < 2 ^ 32) (hs : l.length ≤ maxLen) :
    Calls Tryz.prog 148 #[.int .u32 c, .string (bs l)] w fun e w' => e = .returned (.int .u32 (Crc.more c l : Nat)) ∧ Below w.heap.size w w' := by
  unfold maxLen at hs
  go_enter Tryz.func148, Tryz.ntmps148
  go_wp2_with fail
  refine (table_any _).mono ?_
  rintro e w1 ⟨rfl, hb⟩
  go_wp2_with (first | (refine wpList_store_row rfl 222 _ _ rfl w1.heap.size (tabTo 256) rfl rfl 222 _ (heap_alloc_new w1 _) (tab_size 256) zero_size (tab_one 256) ?_; rw [World.setRow_alloc_new]))
  go_loop [0, 12] (fun r i => ∃ k : Nat, k ≤ l.length ∧ i = .int .i64 k ∧ r = .int .u32 (Crc.reg (Crc.not32 c) (l.take k) : Nat)) (fun _ i => l.length - (intOf i).toNat)
  case atStart => exact ⟨0, by omega, rfl, by rw [not_u32 c hc]; rfl⟩
  case round =>
    obtain ⟨k, hk, rfl, rfl⟩ := hrel
    have hreg := Crc.reg_lt (Crc.not32_lt c) (l.take k)
    by_cases hlt : k < l.length
    · have hstep : Crc.reg (Crc.not32 c) (l.take (k + 1)) = (Crc.reg (Crc.not32 c) (l.take k) / 256) ^^^ Crc.tab ((Crc.reg (Crc.not32 c) (l.take k) % 256) ^^^ l[k].toNat) := by
        rw [Crc.byte_by_table, take_snoc l k hlt, Crc.reg_snoc]
      have HS := Lib.hid hstep
      clear hstep
      generalize Crc.reg (Crc.not32 c) (l.take k) = r at *
      have hbyte := l[k].toNat_lt
      have hx : bits .xor .u8 ((r : Int) % 256) (l[k].toNat : Int) = ((r % 256 ^^^ l[k].toNat : Nat) : Int) := by
        rw [show (r : Int) % 256 = ((r % 256 : Nat) : Int) by omega]
        exact u8_xor_nat _ _ (Nat.mod_lt _ (by decide)) (by omega)
      have hi : r % 256 ^^^ l[k].toNat < 256 := Nat.xor_lt_two_pow (n := 8) (Nat.mod_lt _ (by decide)) (by simpa using hbyte)
      have hcell := tabTo_get 256 _ hi
      rw [if_pos hi] at hcell
      have ht : Crc.tab (r % 256 ^^^ l[k].toNat) < 2 ^ 32 := Crc.steps_lt (by omega) 8
      have H2 := Lib.hid (bit_xor (r / 256) (Crc.tab (r % 256 ^^^ l[k].toNat)) (by omega) ht)
      go_wp2_with fail
      go_round
      case rel => exact ⟨k + 1, by omega, by go_num, by rw [HS.out, ← H2.out]; rfl⟩
      case measure => simp [intOf]; omega
    · obtain rfl : k = l.length := by omega
      go_wp2_with fail
      go_ret
      refine ⟨ret_int ?_, (hb.alloc hb.size _).mono (Nat.le_refl _)⟩
      rw [List.take_length] at hreg
      exact not_u32 _ hreg
end Go.Proofs.YtoaihngckcbhiaaGreatDoor
namespace Go.Proofs.YtoaihngckcbhiaaGreatDoor
open Go.RowKit
theorem le_snoc (k v : Nat) : Crc.le (k + 1) v = Crc.le k v ++ [UInt8.ofNat (v / 256 ^ k)] := by
  induction k generalizing v with
  | zero => simp [Crc.le]
  | succ k ih =>
    rw [Crc.le, ih (v / 256)]
    simp only [Crc.le, List.cons_append]
    rw [Nat.div_div_eq_div_mul, Nat.pow_succ, Nat.mul_comm 256]
def le8 (k v : Nat) : List UInt8 := Crc.le k v ++ List.replicate (8 - k) 0
theorem le8_length (k v : Nat) (h : k ≤ 8) : (le8 k v).length = 8 := by simp [le8, Crc.le_length]; omega
theorem le8_set (k v : Nat) (h : k < 8) : (le8 k v).set k (UInt8.ofNat (v / 256 ^ k)) = le8 (k + 1) v := by
  unfold le8
  rw [le_snoc, show 8 - k = (8 - (k + 1)) + 1 by omega, List.replicate_succ]
  rw [List.set_append_right _ _ (by rw [Crc.le_length]; exact Nat.le_refl _), Crc.le_length, Nat.sub_self]
  simp
theorem le8_take (v n : Nat) (h : n ≤ 8) : (le8 8 v).take n = Crc.le n v := by
  unfold le8
  have : ∀ m v, n ≤ m → (Crc.le m v).take n = Crc.le n v := by
    induction n with
    | zero => intros; simp [Crc.le]
    | succ n ih =>
      intro m v hm
      cases m with
      | zero => omega
      | succ m => simp only [Crc.le, List.take_succ_cons]; rw [ih (by omega) m _ (by omega)]
  simp [this 8 v h]
theorem zero8 : (#[Value.int .u8 0, Value.int .u8 0, Value.int .u8 0, Value.int .u8 0, Value.int .u8 0, Value.int .u8 0, Value.int .u8 0, Value.int .u8 0] : Array Value) = u8row (le8 0 0) := by
  unfold u8row
  rfl
set_option maxRecDepth 100000 in
set_option maxHeartbeats 400000 in
theorem bytes_any (v n : Nat) (w : World) (hn : n ≤ 8) :
    Calls Tryz.prog 146 #[.int .u64 v, .int .i64 n] w fun e w' => e = .returned (.string (bs (Crc.le n v))) ∧ Below w.heap.size w w' := by
  go_enter Tryz.func146, Tryz.ntmps146
  go_wp2_with fail
  rw [zero8]
  go_loopw [7] (fun i wr => ∃ k : Nat, k ≤ 8 ∧ i = .int .i64 k ∧ wr = w.alloc (Obj.cells (u8row (le8 k v)) 221)) (fun i _ => 8 - (intOf i).toNat)
  case atStart => exact ⟨0, by omega, rfl, rfl⟩
  case round =>
    obtain ⟨k, hk, rfl, rfl⟩ := hrel
    by_cases hlt : k < 8
    · have hs : (u8row (le8 k v)).setIfInBounds k (.int .u8 ((v : Int) / 2 ^ (8 * k) % 256)) = u8row (le8 (k + 1) v) := by
        rw [← le8_set k v hlt, ← u8row_set, u8_ofNat, show (256 : Nat) = 2 ^ 8 from rfl, ← Nat.pow_mul]
        norm_cast
      have hg := u8row_get (le8 k v) k (by rw [le8_length _ _ hk]; exact hlt)
      go_wp2_with fail
      go_roundw
      case rel => exact ⟨k + 1, by omega, by go_num, rfl⟩
      case measure => simp [intOf]; omega
    · obtain rfl : k = 8 := by omega
      have hsl := fun (x : World) => run_slice_arr Tryz.prog x 221 5 8 n w.heap.size Tryz.underlying221 (by kernel_rfl) hn
      have hcv := run_bytes_bs Tryz.prog (w.alloc (Obj.cells (u8row (le8 8 v)) 221)) 176 5 9 Tryz.underlying176 Tryz.underlying5 Tryz.underlying9 w.heap.size 0 n 8 (Crc.le n v) (Crc.le_length _ _) (fun i hi => by
        rw [Nat.zero_add, cell_new_row, u8row_get _ _ (by rw [le8_length _ _ hk]; rw [Crc.le_length] at hi; omega)]
        simp only [← le8_take v n hn, List.getElem_take])
      go_wp2_with fail
      go_ret
      exact ⟨rfl, (Below.refl _ _).alloc (Nat.le_refl _) _⟩
theorem put_any (v n : Nat) (w : World) (hv : v < 256 ^ n) (h1 : 1 ≤ n) (hn : n ≤ 8) :
    Calls Tryz.prog 109 #[.int .u64 v, .int .i64 n] w fun e w' => e = .returned (.tuple #[.string (bs (Crc.le n v)), .int .i64 0]) ∧ Below w.heap.size w w' := by
  have hv2 : v < 18446744073709551616 := Nat.lt_of_lt_of_le hv (by rw [show (18446744073709551616 : Nat) = 256 ^ 8 from rfl]; exact Nat.pow_le_pow_right (by decide) hn)
  by_cases h8 : n < 8
  · have hq : ((v : Int) / 2 ^ (8 * n) != 0) = false := by
      have e : v / 2 ^ (8 * n) = 0 := by rw [Nat.pow_mul]; exact Nat.div_eq_of_lt hv
      have e2 : (v : Int) / 2 ^ (8 * n) = ((v / 2 ^ (8 * n) : Nat) : Int) := by norm_cast
      rw [e2, e]; rfl
    go_enter Tryz.func109, Tryz.ntmps109
    go_wp2_with fail
    refine (bytes_any v n _ hn).mono ?_
    rintro e w1 ⟨rfl, hb⟩
    go_wp2_with fail
    go_ret2
    exact ⟨rfl, hb⟩
  · obtain rfl : n = 8 := by omega
    go_enter Tryz.func109, Tryz.ntmps109
    go_wp2_with fail
    refine (bytes_any v 8 _ hn).mono ?_
    rintro e w1 ⟨rfl, hb⟩
    go_wp2_with fail
    go_ret2
    exact ⟨rfl, hb⟩
set_option maxRecDepth 100000 in
set_option maxHeartbeats 400000 in
theorem sum_any (l : List UInt8) (w : World) (hs : l.length ≤ maxLen) :
    Calls Tryz.prog 112 #[.string (bs l)] w fun e w' => e = .returned (.int .u32 (Crc.sum l : Nat)) ∧ Below w.heap.size w w' := by
  go_enter Tryz.func112, Tryz.ntmps112
  go_wp2_with fail
  refine (more_any 0 l _ (by decide) hs).mono ?_
  rintro e w1 ⟨rfl, hb⟩
  go_wp2_with fail
  go_ret
  exact ⟨rfl, hb⟩
set_option maxRecDepth 100000 in
set_option maxHeartbeats 400000 in
theorem seal_any (l : List UInt8) (w : World) (hs : l.length ≤ 1099511627776) :
    Calls Tryz.prog 52 #[.string (bs l)] w fun e w' => e = .returned (.string (bs (Crc.sealT l))) ∧ Below w.heap.size w w' := by
  have hlt := Crc.sum_lt l
  go_enter Tryz.func52, Tryz.ntmps52
  go_wp2_with fail
  refine (sum_any l _ (by unfold maxLen; omega)).mono ?_
  rintro e w1 ⟨rfl, hb⟩
  have H := Lib.hid hlt
  go_wp2_with fail
  refine (put_any (Crc.sum l) 4 _ H.out (by decide) (by decide)).mono ?_
  rintro e w2 ⟨rfl, hb2⟩
  go_wp2_with fail
  go_ret
  exact ⟨rfl, hb.trans (hb2.mono hb.size)⟩
set_option maxRecDepth 100000 in
set_option maxHeartbeats 400000 in
theorem open_any (l : List UInt8) (w : World) (hs : l.length ≤ 1099511627776) :
    Calls Tryz.prog 47 #[.string (bs l)] w fun e w' => e = .returned (.tuple #[.string (bs (Crc.openT l).1), .int .i64 (Crc.openT l).2]) ∧ Below w.heap.size w w' := by
  by_cases h4 : l.length < 4
  · have H : Hid (Crc.openT l = ([], 6)) := Lib.hid (if_pos h4)
    go_enter Tryz.func47, Tryz.ntmps47
    go_wp2_with fail
    go_ret2
    rw [H.out]
    exact ⟨rfl, Below.refl _ _⟩
  · by_cases hse : Crc.sealT (l.take (l.length - 4)) = l
    · have H : Hid (Crc.openT l = (l.take (l.length - 4), 0)) := Lib.hid (by unfold Crc.openT; rw [if_neg h4, if_pos hse])
      have hb : (Crc.sealT (l.take (l.length - 4)) == l) = true := by simp [hse]
      clear hse
      go_enter Tryz.func47, Tryz.ntmps47
      go_wp2_with fail
      refine (seal_any (l.take (l.length - 4)) _ (by rw [List.length_take]; omega)).mono ?_
      rintro e w1 ⟨rfl, hb1⟩
      go_wp2_with fail
      go_ret2
      rw [H.out]
      exact ⟨rfl, hb1⟩
    · have H : Hid (Crc.openT l = ([], 7)) := Lib.hid (by unfold Crc.openT; rw [if_neg h4, if_neg hse])
      have hb : (Crc.sealT (l.take (l.length - 4)) == l) = false := by simp [hse]
      clear hse
      go_enter Tryz.func47, Tryz.ntmps47
      go_wp2_with fail
      refine (seal_any (l.take (l.length - 4)) _ (by rw [List.length_take]; omega)).mono ?_
      rintro e w1 ⟨rfl, hb1⟩
      go_wp2_with fail
      go_ret2
      rw [H.out]
      exact ⟨rfl, hb1⟩
set_option maxRecDepth 100000 in
set_option maxHeartbeats 400000 in
theorem num_any (v n : Nat) (w : World) (hv : v < 18446744073709551616) (hn : n ≤ 8) :
    Calls Tryz.prog 131 #[.int .u64 v, .int .i64 n] w fun e w' => e = .returned (.string (bs (Crc.le n v))) ∧ Below w.heap.size w w' := by
  go_enter Tryz.func131, Tryz.ntmps131
  go_wp2_with fail
  go_loopw [0, 5, 6] (fun q s i wr => ∃ k : Nat, k ≤ n ∧ i = .int .i64 k ∧ q = .int .u64 (v / 256 ^ k : Nat) ∧ s = .string (bs (Crc.le k v)) ∧ Below w.heap.size w wr) (fun _ _ i _ => n - (intOf i).toNat)
  case atStart => exact ⟨0, by omega, rfl, by simp, rfl, Below.refl _ _⟩
  case round =>
    obtain ⟨k, hk, rfl, rfl, rfl, hb⟩ := hrel
    by_cases hlt : k < n
    · have hq : v / 256 ^ k < 18446744073709551616 := Nat.lt_of_le_of_lt (Nat.div_le_self _ _) hv
      have HS := Lib.hid (le_snoc k v)
      have HD : Hid (v / 256 ^ (k + 1) = v / 256 ^ k / 256) := Lib.hid (by rw [Nat.pow_succ, Nat.div_div_eq_div_mul])
      generalize v / 256 ^ k = q at *
      have hcv := run_byte_bs Tryz.prog wr 176 5 9 5 Tryz.underlying176 Tryz.underlying5 Tryz.underlying9 ((q : Int) % 256) (UInt8.ofNat q) (by rw [u8_ofNat]; norm_cast)
      go_wp2_with fail
      go_roundw
      case rel => exact ⟨k + 1, by omega, by go_num, by rw [HD.out]; rfl, by rw [HS.out], (hb.alloc hb.size _)⟩
      case measure => simp [intOf]; omega
    · obtain rfl : k = n := by omega
      go_wp2_with fail
      go_ret
      exact ⟨rfl, hb⟩
set_option maxRecDepth 100000 in
set_option maxHeartbeats 400000 in
theorem rsum_any (l : List UInt8) (w : World) (hs : l.length ≤ maxLen) :
    Calls Tryz.prog 132 #[.string (bs l)] w fun e w' => e = .returned (.int .u32 (Crc.sum l : Nat)) ∧ w = w' := by
  unfold maxLen at hs
  go_enter Tryz.func132, Tryz.ntmps132
  go_wp2_with fail
  go_loop [3, 4] (fun c i => ∃ k : Nat, k ≤ l.length ∧ i = .int .i64 k ∧ c = .int .u32 (Crc.reg 4294967295 (l.take k) : Nat)) (fun _ i => l.length - (intOf i).toNat)
  case atStart => exact ⟨0, by omega, rfl, rfl⟩
  case round =>
    obtain ⟨k, hk, rfl, rfl⟩ := hrel
    have hreg := Crc.reg_lt (c := 4294967295) (by decide) (l.take k)
    by_cases hlt : k < l.length
    · have HS : Hid (Crc.reg 4294967295 (l.take (k + 1)) = Crc.steps 8 (Crc.reg 4294967295 (l.take k) ^^^ l[k].toNat)) := Lib.hid (by rw [take_snoc l k hlt, Crc.reg_snoc])
      generalize Crc.reg 4294967295 (l.take k) = r at *
      have hx : bits .xor .u32 (r : Int) ((l[k].toNat : Int) % 4294967296) = ((r ^^^ l[k].toNat : Nat) : Int) := by
        rw [← bit_xor r l[k].toNat hreg (Crc.byte_lt _), Int.emod_eq_of_lt (by omega) (by have := l[k].toNat_lt; omega)]
      have hxl : r ^^^ l[k].toNat < 2 ^ 32 := Nat.xor_lt_two_pow hreg (Crc.byte_lt _)
      go_wp2_with fail
      generalize r ^^^ l[k].toNat = q at *
      clear hx
      go_loop [3, 5, 6] (fun c j _ => ∃ i : Nat, i ≤ 8 ∧ j = .int .i64 i ∧ c = .int .u32 (Crc.steps i q : Nat)) (fun _ j _ => 8 - (intOf j).toNat)
      case atStart => exact ⟨0, by omega, rfl, rfl⟩
      case round =>
        obtain ⟨i, hi, rfl, rfl⟩ := hrel
        by_cases hlt8 : i < 8
        · have hb : Crc.steps i q < 2 ^ 32 := Crc.steps_lt hxl i
          have H2 := Lib.hid (bit_xor (Crc.steps i q / 2) 3988292384 (by omega) (by decide))
          have h3 := Crc.steps_succ' i q
          unfold Crc.step at h3
          have H3 := Lib.hid h3; clear h3
          generalize Crc.steps i q = c at *
          by_cases ht : c % 2 = 1
          · have hc : ((c : Int) % 2 == 1) = true := by rw [beq_iff_eq]; omega
            have HT := Lib.hid ht; clear ht
            go_wp2_with fail
            go_round
            case rel => exact ⟨i + 1, by omega, by go_num, by rw [H3.out, if_pos HT.out]; exact congrArg _ H2.out⟩
            case measure => simp [intOf]; omega
          · have hc : ((c : Int) % 2 == 1) = false := by rw [beq_eq_false_iff_ne]; omega
            have HT := Lib.hid ht; clear ht
            go_wp2_with fail
            go_round
            case rel => exact ⟨i + 1, by omega, by go_num, by rw [H3.out, if_neg HT.out]; rfl⟩
            case measure => simp [intOf]; omega
        · obtain rfl : i = 8 := by omega
          go_wp2_with fail
          go_round
          case rel => exact ⟨k + 1, by omega, by go_num, by rw [HS.out]⟩
          case measure => simp [intOf]; omega
    · obtain rfl : k = l.length := by omega
      go_wp2_with fail
      go_ret
      rw [List.take_length] at hreg
      exact ⟨ret_int (not_u32 _ hreg), rfl⟩
set_option maxRecDepth 100000 in
set_option maxHeartbeats 400000 in
theorem rseal_any (l : List UInt8) (w : World) (hs : l.length ≤ 1099511627776) :
    Calls Tryz.prog 86 #[.string (bs l)] w fun e w' => e = .returned (.string (bs (Crc.sealT l))) ∧ Below w.heap.size w w' := by
  have hlt := Crc.sum_lt l
  go_enter Tryz.func86, Tryz.ntmps86
  go_wp2_with fail
  refine (rsum_any l _ (by unfold maxLen; omega)).mono ?_
  rintro e w1 ⟨rfl, rfl⟩
  have H := Lib.hid hlt
  go_wp2_with fail
  refine (num_any (Crc.sum l) 4 _ (Nat.lt_trans H.out (by decide)) (by decide)).mono ?_
  rintro e w2 ⟨rfl, hb2⟩
  go_wp2_with fail
  go_ret
  exact ⟨rfl, hb2⟩
set_option maxRecDepth 100000 in
set_option maxHeartbeats 400000 in
theorem ropen_any (l : List UInt8) (w : World) (hs : l.length ≤ 1099511627776) :
    Calls Tryz.prog 79 #[.string (bs l)] w fun e w' => e = .returned (.tuple #[.string (bs (Crc.openT l).1), .int .i64 (Crc.openT l).2]) ∧ Below w.heap.size w w' := by
  by_cases h4 : l.length < 4
  · have H : Hid (Crc.openT l = ([], 6)) := Lib.hid (if_pos h4)
    go_enter Tryz.func79, Tryz.ntmps79
    go_wp2_with fail
    go_ret2
    rw [H.out]
    exact ⟨rfl, Below.refl _ _⟩
  · by_cases hse : Crc.sealT (l.take (l.length - 4)) = l
    · have H : Hid (Crc.openT l = (l.take (l.length - 4), 0)) := Lib.hid (by unfold Crc.openT; rw [if_neg h4, if_pos hse])
      have hb : (Crc.sealT (l.take (l.length - 4)) == l) = true := by simp [hse]
      clear hse
      go_enter Tryz.func79, Tryz.ntmps79
      go_wp2_with fail
      refine (rseal_any (l.take (l.length - 4)) _ (by rw [List.length_take]; omega)).mono ?_
      rintro e w1 ⟨rfl, hb1⟩
      go_wp2_with fail
      go_ret2
      rw [H.out]
      exact ⟨rfl, hb1⟩
    · have H : Hid (Crc.openT l = ([], 7)) := Lib.hid (by unfold Crc.openT; rw [if_neg h4, if_neg hse])
      have hb : (Crc.sealT (l.take (l.length - 4)) == l) = false := by simp [hse]
      clear hse
      go_enter Tryz.func79, Tryz.ntmps79
      go_wp2_with fail
      refine (rseal_any (l.take (l.length - 4)) _ (by rw [List.length_take]; omega)).mono ?_
      rintro e w1 ⟨rfl, hb1⟩
      go_wp2_with fail
      go_ret2
      rw [H.out]
      exact ⟨rfl, hb1⟩
end Go.Proofs.YtoaihngckcbhiaaGreatDoor
