/- The plain mathematics of CRC-32: the table's way is the way bit by bit; a register is linear; what is sealed leaves one register; bits that lie within 32 in a row, turned, leave another. No program here. -/
namespace Go.Proofs.Ythbdflmckfgleaa.Crc

/-- One bit. -/
def step (c : Nat) : Nat := if c % 2 = 1 then (c / 2) ^^^ 3988292384 else c / 2
/-- So many bits. -/
def steps : Nat → Nat → Nat
  | 0, c => c
  | n + 1, c => steps n (step c)

theorem steps_succ' (n c : Nat) : steps (n + 1) c = step (steps n c) := by
  induction n generalizing c with
  | zero => rfl
  | succ n ih => rw [steps, ih (step c)]; rfl

theorem steps_add (m n c : Nat) : steps (m + n) c = steps n (steps m c) := by
  induction m generalizing c with
  | zero => simp [steps]
  | succ m ih => rw [Nat.add_right_comm, steps, ih]; rfl

theorem step_lt {c : Nat} (h : c < 2 ^ 32) : step c < 2 ^ 32 := by
  unfold step
  have h2 : c / 2 < 2 ^ 32 := by omega
  split
  · exact Nat.xor_lt_two_pow h2 (by decide)
  · exact h2

theorem steps_lt {c : Nat} (h : c < 2 ^ 32) (n : Nat) : steps n c < 2 ^ 32 := by
  induction n generalizing c with
  | zero => exact h
  | succ n ih => exact ih (step_lt h)

theorem xor_div2 (a b : Nat) : (a ^^^ b) / 2 = (a / 2) ^^^ (b / 2) := by
  have h := Nat.xor_div_two_pow (a := a) (b := b) (n := 1)
  simpa using h

theorem xor_mod2 (a b : Nat) : (a ^^^ b) % 2 = ((a % 2) ^^^ (b % 2)) := by
  have h := Nat.xor_mod_two_pow (a := a) (b := b) (n := 1)
  simpa using h

theorem step_xor (a b : Nat) : step (a ^^^ b) = step a ^^^ step b := by
  unfold step
  rw [xor_mod2, xor_div2]
  rcases Nat.mod_two_eq_zero_or_one a with ha | ha <;> rcases Nat.mod_two_eq_zero_or_one b with hb | hb <;> simp only [ha, hb]
  · simp
  · simp [Nat.xor_assoc]
  · simp [Nat.xor_assoc, Nat.xor_comm 3988292384]
  · have e : (a / 2 ^^^ 3988292384) ^^^ (b / 2 ^^^ 3988292384) = (a / 2 ^^^ b / 2) ^^^ (3988292384 ^^^ 3988292384) := by
      rw [Nat.xor_assoc, Nat.xor_assoc, ← Nat.xor_assoc 3988292384, Nat.xor_comm 3988292384 (b / 2), Nat.xor_assoc (b / 2)]
    simp [e]

theorem steps_xor (n a b : Nat) : steps n (a ^^^ b) = steps n a ^^^ steps n b := by
  induction n generalizing a b with
  | zero => rfl
  | succ n ih => simp only [steps]; rw [step_xor, ih]

theorem step_even (h : Nat) : step (2 * h) = h := by
  unfold step
  rw [if_neg (by omega)]
  omega

theorem steps_shift (n h : Nat) : steps n (2 ^ n * h) = h := by
  induction n generalizing h with
  | zero => simp [steps]
  | succ n ih =>
    simp only [steps]
    rw [Nat.pow_succ, Nat.mul_comm (2 ^ n) 2, Nat.mul_assoc, step_even, ih]

theorem join_xor (h l : Nat) (hl : l < 256) : 256 * h + l = (256 * h) ^^^ l := by
  have e := Nat.two_pow_add_eq_or_of_lt (i := 8) (b := l) (by simpa using hl) h
  have e2 : 2 ^ 8 * h ^^^ l = 2 ^ 8 * h ||| l := by
    apply Nat.eq_of_testBit_eq
    intro i
    simp only [Nat.testBit_xor, Nat.testBit_or, Nat.testBit_two_pow_mul]
    by_cases hi : i < 8
    · simp [show ¬ 8 ≤ i by omega]
    · have : l.testBit i = false := Nat.testBit_lt_two_pow (Nat.lt_of_lt_of_le hl (by
        have := Nat.pow_le_pow_right (n := 2) (by decide) (show 8 ≤ i by omega); simpa using this))
      simp [this]
  have e3 : (2 : Nat) ^ 8 = 256 := by decide
  rw [e3] at e e2
  rw [e, e2]

/-- A byte, by the table: what 'More' does. -/
def tab (i : Nat) : Nat := steps 8 i

theorem byte_by_table (c b : Nat) : (c / 256) ^^^ tab ((c % 256) ^^^ b) = steps 8 (c ^^^ b) := by
  have hc : c = (256 * (c / 256)) ^^^ (c % 256) := by
    rw [← join_xor _ _ (Nat.mod_lt _ (by decide))]; omega
  have h1 : steps 8 (c ^^^ b) = steps 8 (256 * (c / 256)) ^^^ steps 8 ((c % 256) ^^^ b) := by
    rw [← steps_xor, ← Nat.xor_assoc, ← hc]
  rw [h1]
  have h2 := steps_shift 8 (c / 256)
  have e3 : (2 : Nat) ^ 8 = 256 := by decide
  rw [e3] at h2
  rw [h2]
  rfl

/-- The register behind bytes. -/
def reg (c : Nat) (l : List UInt8) : Nat := l.foldl (fun c b => steps 8 (c ^^^ b.toNat)) c

theorem reg_append (c : Nat) (l k : List UInt8) : reg c (l ++ k) = reg (reg c l) k := by simp [reg]
theorem reg_snoc (c : Nat) (l : List UInt8) (b : UInt8) : reg c (l ++ [b]) = steps 8 (reg c l ^^^ b.toNat) := by simp [reg]

theorem byte_lt (b : UInt8) : b.toNat < 2 ^ 32 := Nat.lt_trans b.toNat_lt (by decide)

theorem reg_lt {c : Nat} (h : c < 2 ^ 32) (l : List UInt8) : reg c l < 2 ^ 32 := by
  induction l generalizing c with
  | nil => exact h
  | cons b l ih => exact ih (steps_lt (Nat.xor_lt_two_pow h (byte_lt b)) 8)

def not32 (c : Nat) : Nat := 4294967295 - c
theorem not32_lt (c : Nat) : not32 c < 2 ^ 32 := by unfold not32; omega
theorem not32_not32 {c : Nat} (h : c < 2 ^ 32) : not32 (not32 c) = c := by unfold not32; omega

/-- 'More': a check that goes on. -/
def more (c : Nat) (l : List UInt8) : Nat := not32 (reg (not32 c) l)
/-- 'Sum'. -/
def sum (l : List UInt8) : Nat := more 0 l
theorem more_lt (c : Nat) (l : List UInt8) : more c l < 2 ^ 32 := not32_lt _
theorem sum_lt (l : List UInt8) : sum l < 2 ^ 32 := not32_lt _
theorem more_append {c : Nat} (l k : List UInt8) : more c (l ++ k) = more (more c l) k := by
  unfold more
  rw [reg_append, not32_not32 (reg_lt (not32_lt c) l)]
theorem sum_append (l k : List UInt8) : sum (l ++ k) = more (sum l) k := more_append l k

/-! ### Bytes as one number, the lowest first -/
def val : List UInt8 → Nat
  | [] => 0
  | b :: l => b.toNat + 256 * val l

theorem val_cons_xor (b : UInt8) (l : List UInt8) : val (b :: l) = b.toNat ^^^ (256 * val l) := by
  have := join_xor (val l) b.toNat b.toNat_lt
  rw [Nat.xor_comm, ← this, val]; omega

theorem reg_val (c : Nat) (l : List UInt8) : reg c l = steps (8 * l.length) (c ^^^ val l) := by
  induction l generalizing c with
  | nil => simp [reg, val, steps]
  | cons b l ih =>
    have e : reg c (b :: l) = reg (steps 8 (c ^^^ b.toNat)) l := rfl
    rw [e, ih, val_cons_xor, ← Nat.xor_assoc, List.length_cons, show 8 * (l.length + 1) = 8 + 8 * l.length by omega, steps_add, steps_xor 8 (c ^^^ b.toNat)]
    have h2 := steps_shift 8 (val l)
    have e3 : (2 : Nat) ^ 8 = 256 := by decide
    rw [e3] at h2
    rw [h2]

theorem step_eq_zero {c : Nat} (h : c < 2 ^ 32) (h0 : step c = 0) : c = 0 := by
  unfold step at h0
  split at h0
  · have e : c / 2 = 3988292384 := by
      have := congrArg (· ^^^ 3988292384) h0
      simpa [Nat.xor_assoc] using this
    omega
  · omega

theorem steps_eq_zero {c : Nat} (n : Nat) (h : c < 2 ^ 32) (h0 : steps n c = 0) : c = 0 := by
  induction n generalizing c with
  | zero => exact h0
  | succ n ih => exact step_eq_zero h (ih (step_lt h) h0)

theorem xor_eq_zero {a b : Nat} (h : a ^^^ b = 0) : a = b := by
  have := congrArg (· ^^^ b) h
  simpa [Nat.xor_assoc] using this

theorem steps_inj {a b : Nat} (n : Nat) (ha : a < 2 ^ 32) (hb : b < 2 ^ 32) (h : steps n a = steps n b) : a = b := by
  refine xor_eq_zero (steps_eq_zero n (Nat.xor_lt_two_pow ha hb) ?_)
  rw [steps_xor, h, Nat.xor_self]

theorem val_append (l k : List UInt8) : val (l ++ k) = val l + 256 ^ l.length * val k := by
  induction l with
  | nil => simp [val]
  | cons b l ih => simp only [List.cons_append, val, ih, List.length_cons, Nat.pow_succ]; rw [Nat.mul_add, ← Nat.mul_assoc, Nat.mul_comm 256 (256 ^ l.length)]; omega

theorem val_lt (l : List UInt8) : val l < 256 ^ l.length := by
  induction l with
  | nil => simp [val]
  | cons b l ih =>
    have := b.toNat_lt
    simp only [val, List.length_cons, Nat.pow_succ]
    omega

/-- So many bytes of a number, the lowest first. -/
def le : Nat → Nat → List UInt8
  | 0, _ => []
  | n + 1, v => UInt8.ofNat v :: le n (v / 256)

@[simp] theorem le_length (n v : Nat) : (le n v).length = n := by
  induction n generalizing v with
  | zero => rfl
  | succ n ih => simp [le, ih]

theorem val_le (n v : Nat) : val (le n v) = v % 256 ^ n := by
  induction n generalizing v with
  | zero => simp [le, val]; omega
  | succ n ih =>
    simp only [le, val, ih]
    rw [Nat.pow_succ, Nat.mul_comm (256 ^ n) 256, Nat.mod_mul]
    rfl

theorem val_inj : ∀ {l k : List UInt8}, l.length = k.length → val l = val k → l = k
  | [], [], _, _ => rfl
  | a :: l, b :: k, hl, hv => by
    have ha := a.toNat_lt
    have hb := b.toNat_lt
    simp only [val] at hv
    have e1 : a.toNat = b.toNat := by omega
    have e2 : val l = val k := by omega
    rw [UInt8.toNat_inj.1 e1, val_inj (by simpa using hl) e2]

theorem le_val (l : List UInt8) : le l.length (val l) = l :=
  val_inj (le_length _ _) (by rw [val_le]; exact Nat.mod_eq_of_lt (val_lt l))

/-- 'Seal'. -/
def sealT (l : List UInt8) : List UInt8 := l ++ le 4 (sum l)
theorem seal_length (l : List UInt8) : (sealT l).length = l.length + 4 := by simp [sealT, le_length]

/-- Is it sealed? -/
def Sealed (l : List UInt8) : Prop := 4 ≤ l.length ∧ sealT (l.take (l.length - 4)) = l
instance (l : List UInt8) : Decidable (Sealed l) := inferInstanceAs (Decidable (_ ∧ _))

theorem seal_take (l : List UInt8) : (sealT l).take ((sealT l).length - 4) = l := by
  rw [seal_length, Nat.add_sub_cancel, sealT, List.take_left]
theorem sealed_seal (l : List UInt8) : Sealed (sealT l) := ⟨by rw [seal_length]; omega, by rw [seal_take]⟩

/-- The register behind what is sealed: one and the same. -/
theorem sealed_iff {l : List UInt8} (h : 4 ≤ l.length) : Sealed l ↔ reg 4294967295 l = steps 32 4294967295 := by
  obtain ⟨t, c, rfl, hc⟩ : ∃ t c, l = t ++ c ∧ c.length = 4 := ⟨l.take (l.length - 4), l.drop (l.length - 4), (List.take_append_drop _ _).symm, by simp; omega⟩
  have hr := reg_lt (c := 4294967295) (by decide) t
  have hv : val c < 2 ^ 32 := by have := val_lt c; rw [hc] at this; exact Nat.lt_of_lt_of_eq this (by decide)
  have e1 : (t ++ c).take ((t ++ c).length - 4) = t := by
    rw [List.length_append, hc, Nat.add_sub_cancel, List.take_left]
  have e2 : reg 4294967295 (t ++ c) = steps 32 (reg 4294967295 t ^^^ val c) := by rw [reg_append, reg_val (reg _ t) c, hc]
  have e3 : Sealed (t ++ c) ↔ val c = not32 (reg 4294967295 t) := by
    unfold Sealed
    rw [e1, sealT]
    constructor
    · rintro ⟨_, h2⟩
      have h3 := List.append_cancel_left h2
      rw [← h3, val_le]
      exact Nat.mod_eq_of_lt (Nat.lt_of_lt_of_eq (sum_lt t) (by decide))
    · intro h2
      refine ⟨h, ?_⟩
      have : le 4 (sum t) = c := by
        have h3 := le_val c
        rw [hc, h2] at h3
        exact h3
      rw [this]
  rw [e2, e3]
  have hx : ∀ a b : Nat, a < 2 ^ 32 → b < 2 ^ 32 → (b = not32 a ↔ a ^^^ b = 4294967295) := by
    intro a b ha hb
    have key : a ^^^ 4294967295 = not32 a := by
      unfold not32
      apply Nat.eq_of_testBit_eq
      intro i
      have h1 := Nat.testBit_two_pow_sub_succ (x := a) (n := 32) ha i
      rw [show 4294967295 - a = 2 ^ 32 - (a + 1) by omega, h1, Nat.testBit_xor, show (4294967295 : Nat) = 2 ^ 32 - 1 by decide, Nat.testBit_two_pow_sub_one]
      by_cases hi : i < 32
      · simp [hi]
      · simp [hi]
        exact Nat.testBit_lt_two_pow (Nat.lt_of_lt_of_le ha (Nat.pow_le_pow_right (by decide) (by omega)))
    constructor
    · intro e
      rw [e, ← key, ← Nat.xor_assoc, Nat.xor_self, Nat.zero_xor]
    · intro e
      rw [← key, ← e, ← Nat.xor_assoc, Nat.xor_self, Nat.zero_xor]
  rw [hx _ _ hr hv]
  constructor
  · intro e; rw [e]
  · intro e; exact steps_inj 32 (Nat.xor_lt_two_pow hr hv) (by decide) e

/-- THE THEOREM: bits of a sealed text turned that lie within 32 in a row: it is sealed no more. -/
theorem turned {l k : List UInt8} (hlen : k.length = l.length) (hl : Sealed l) {from_ turns : Nat} (ht : turns < 2 ^ 32) (h0 : turns ≠ 0) (hf : from_ ≤ 8 * l.length)
    (hv : val k = val l ^^^ (2 ^ from_ * turns)) : ¬ Sealed k := by
  have h4 := hl.1
  rw [sealed_iff (by omega)] at hl ⊢
  rw [reg_val, hlen, hv, ← Nat.xor_assoc, steps_xor, ← reg_val, hl]
  intro e
  have e2 : steps (8 * l.length) (2 ^ from_ * turns) = 0 := by
    have := congrArg (steps 32 4294967295 ^^^ ·) e
    simpa [← Nat.xor_assoc] using this
  rw [show 8 * l.length = from_ + (8 * l.length - from_) by omega, steps_add, steps_shift] at e2
  exact h0 (steps_eq_zero _ ht e2)

theorem mul256_xor (a b : Nat) : 256 * a ^^^ 256 * b = 256 * (a ^^^ b) := by
  rw [show (256 : Nat) = 2 ^ 8 by decide]
  apply Nat.eq_of_testBit_eq
  intro i
  simp only [Nat.testBit_xor, Nat.testBit_two_pow_mul]
  cases decide (8 ≤ i) <;> simp

/-- One bit of one byte, turned. -/
theorem val_turn (l : List UInt8) (j k : Nat) (hj : j < l.length) (b : UInt8) (hb : b.toNat = (l[j]).toNat ^^^ 2 ^ k) :
    val (l.set j b) = val l ^^^ 2 ^ (8 * j + k) := by
  induction l generalizing j with
  | nil => simp at hj
  | cons a l ih =>
    cases j with
    | zero =>
      simp only [List.set_cons_zero, val_cons_xor]
      simp only [List.getElem_cons_zero] at hb
      rw [hb, Nat.mul_zero, Nat.zero_add, Nat.xor_assoc, Nat.xor_assoc, Nat.xor_comm (2 ^ k)]
    | succ j =>
      simp only [List.set_cons_succ, val_cons_xor]
      simp only [List.getElem_cons_succ] at hb
      rw [ih j (by simpa using hj) hb, Nat.xor_assoc]
      rw [← mul256_xor, ← show (2 : Nat) ^ 8 = 256 by decide, ← Nat.pow_add, show 8 + (8 * j + k) = 8 * (j + 1) + k by omega]

/-- 'Open': the text, and the error. -/
def openT (l : List UInt8) : List UInt8 × Int := if l.length < 4 then ([], 6) else if sealT (l.take (l.length - 4)) = l then (l.take (l.length - 4), 0) else ([], 7)
def okT (l : List UInt8) : Bool := (openT l).2 == 0
theorem openT_seal (l : List UInt8) : openT (sealT l) = (l, 0) := by
  unfold openT
  rw [seal_take, if_pos rfl, if_neg (by rw [seal_length]; omega)]
theorem openT_ok {l : List UInt8} (h : (openT l).2 = 0) : sealT (openT l).1 = l := by
  unfold openT at h ⊢
  split
  · rename_i h4; rw [if_pos h4] at h; simp at h
  · rename_i h4
    rw [if_neg h4] at h
    split
    · rename_i h5; exact h5
    · rename_i h5; rw [if_neg h5] at h; simp at h
theorem openT_not {l : List UInt8} (h4 : 4 ≤ l.length) (h : ¬ Sealed l) : openT l = ([], 7) := by
  unfold openT
  rw [if_neg (by omega), if_neg (fun e => h ⟨h4, e⟩)]

theorem turn_bit (t f k : Nat) (h : t / 2 ^ k % 2 = 1) : 2 ^ f * (t % 2 ^ (k + 1)) = (2 ^ f * (t % 2 ^ k)) ^^^ 2 ^ (f + k) := by
  apply Nat.eq_of_testBit_eq
  intro i
  have ht : t.testBit k = true := by rw [Nat.testBit_eq_decide_div_mod_eq]; simpa using h
  simp only [Nat.testBit_xor, Nat.testBit_two_pow_mul, Nat.testBit_mod_two_pow, Nat.testBit_two_pow]
  by_cases hf : f ≤ i
  · by_cases he : i = f + k
    · subst he; simp [ht]
    · by_cases hl : i - f < k
      · simp [hf, hl, show i - f < k + 1 by omega, show ¬ f + k = i by omega]
      · simp [hf, hl, show ¬ i - f < k + 1 by omega, show ¬ f + k = i by omega]
  · simp [hf, show ¬ f + k = i by omega]
theorem turn_no (t f k : Nat) (h : ¬ t / 2 ^ k % 2 = 1) : 2 ^ f * (t % 2 ^ (k + 1)) = 2 ^ f * (t % 2 ^ k) := by
  congr 1
  rw [Nat.pow_succ, Nat.mod_mul]
  have : t / 2 ^ k % 2 = 0 := by omega
  rw [this]; omega
/-- Whoever turns such bits of what is sealed is found out. -/
theorem turned_open (l k : List UInt8) (hlen : k.length = (sealT l).length) (f t : Nat) (ht : t < 2 ^ 32) (h0 : t ≠ 0) (hf : f ≤ 8 * (sealT l).length)
    (hv : val k = val (sealT l) ^^^ (2 ^ f * (t % 2 ^ 32))) : openT k = ([], 7) := by
  refine openT_not (by rw [hlen, seal_length]; omega) (turned hlen (sealed_seal l) (from_ := f) (turns := t) ht h0 hf ?_)
  rw [hv, Nat.mod_eq_of_lt ht]

end Go.Proofs.Ythbdflmckfgleaa.Crc
