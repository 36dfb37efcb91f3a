/- DiskPlain -/
namespace Go.Proofs.YtoaihngckcbhiaaGreatDoor
def sec0 : List UInt8 := List.replicate 64 0
structure Dsk where
  n : Nat
  base : Nat → List UInt8
  loose : List (Nat × List UInt8)
  left : Int
  down : Bool
namespace Dsk
def new (n : Nat) : Dsk := ⟨n, fun _ => sec0, [], -1, false⟩
def lay (f : Nat → List UInt8) : List (Nat × List UInt8) → Nat → List UInt8
  | [] => f
  | p :: l => lay (fun k => if k = p.1 then p.2 else f k) l
def now (D : Dsk) : Nat → List UInt8 := lay D.base D.loose
def inside (D : Dsk) (at_ n : Int) : Bool := decide (0 ≤ at_) && decide (0 ≤ n) && decide (at_ ≤ D.n) && decide (n ≤ D.n - at_)
def text (f : Nat → List UInt8) (k : Nat) : Nat → List UInt8
  | 0 => []
  | n + 1 => f k ++ text f (k + 1) n
def up (D : Dsk) : Int := if D.down then 40 else 0
def read (D : Dsk) (at_ n : Int) : List UInt8 × Int :=
  if D.down then ([], 40) else if D.inside at_ n then (text D.now at_.toNat n.toNat, 0) else ([], 2)
def writes (D : Dsk) (at_ : Nat) (s : List UInt8) : Nat → Dsk × Int
  | 0 => (D, 0)
  | n + 1 => if D.left = 0 then ({ D with down := true }, 40)
    else writes { D with loose := D.loose ++ [(at_, s.take 64)], left := max (D.left - 1) (-1) } (at_ + 1) (s.drop 64) n
def write (D : Dsk) (at_ : Int) (s : List UInt8) : Dsk × Int :=
  if D.down then (D, 40) else if s.length % 64 = 0 ∧ D.inside at_ (s.length / 64 : Nat) = true then writes D at_.toNat s (s.length / 64) else (D, 2)
def flush (D : Dsk) : Dsk × Int := if D.down then (D, 40) else ({ D with base := lay D.base D.loose, loose := [] }, 0)
def fuse (D : Dsk) (n : Int) : Dsk := { D with left := max n (-1) }
def keptFrom (keep : List UInt8) : Nat → List (Nat × List UInt8) → List (Nat × List UInt8)
  | _, [] => []
  | i, p :: l => (if keep ≠ [] ∧ (keep.getD (i % keep.length) 0).toNat % 2 = 1 then [p] else []) ++ keptFrom keep (i + 1) l
def kept (D : Dsk) (keep : List UInt8) : List (Nat × List UInt8) := keptFrom keep 0 D.loose
def crash (D : Dsk) (keep : List UInt8) : Dsk := { D with base := lay D.base (D.kept keep), loose := [], left := -1, down := false }
structure Fine (D : Dsk) : Prop where
  n1 : 1 ≤ D.n
  n2 : D.n ≤ 16384
  base : ∀ k, k < D.n → (D.base k).length = 64
  loose : ∀ p ∈ D.loose, p.1 < D.n ∧ p.2.length = 64
  left : -1 ≤ D.left ∧ D.left ≤ 9223372036854775807
theorem lay_append (f : Nat → List UInt8) (a b : List (Nat × List UInt8)) : lay f (a ++ b) = lay (lay f a) b := by
  induction a generalizing f with
  | nil => rfl
  | cons p a ih => exact ih _
theorem lay_snoc (f : Nat → List UInt8) (a : List (Nat × List UInt8)) (p : Nat × List UInt8) : lay f (a ++ [p]) = fun k => if k = p.1 then p.2 else lay f a k := by
  rw [lay_append]; rfl
theorem lay_length {N : Nat} {f : Nat → List UInt8} (hf : ∀ k, k < N → (f k).length = 64) {l : List (Nat × List UInt8)} (hl : ∀ p ∈ l, p.1 < N ∧ p.2.length = 64) : ∀ k, k < N → (lay f l k).length = 64 := by
  induction l generalizing f with
  | nil => exact hf
  | cons p l ih =>
    refine ih (fun k hk => ?_) (fun q hq => hl q (List.mem_cons_of_mem _ hq))
    split
    · exact (hl p List.mem_cons_self).2
    · exact hf k hk
theorem text_length {N : Nat} {f : Nat → List UInt8} (hf : ∀ k, k < N → (f k).length = 64) (k n : Nat) (h : k + n ≤ N) : (text f k n).length = 64 * n := by
  induction n generalizing k with
  | zero => rfl
  | succ n ih => simp only [text, List.length_append]; rw [hf k (by omega), ih (k + 1) (by omega)]; omega
theorem text_snoc (f : Nat → List UInt8) (k n : Nat) : text f k (n + 1) = text f k n ++ f (k + n) := by
  induction n generalizing k with
  | zero => simp [text]
  | succ n ih => rw [text, ih (k + 1), text, List.append_assoc, Nat.add_right_comm]; rfl
theorem keptFrom_sub {keep : List UInt8} (i : Nat) (l : List (Nat × List UInt8)) : ∀ p ∈ keptFrom keep i l, p ∈ l := by
  induction l generalizing i with
  | nil => intro p hp; simp [keptFrom] at hp
  | cons q l ih =>
    intro p hp
    simp only [keptFrom, List.mem_append] at hp
    rcases hp with hp | hp
    · split at hp
      · simp at hp; subst hp; exact List.mem_cons_self
      · simp at hp
    · exact List.mem_cons_of_mem _ (ih _ p hp)
theorem Fine.new {n : Nat} (h1 : 1 ≤ n) (h2 : n ≤ 16384) : Fine (Dsk.new n) := ⟨h1, h2, fun _ _ => by simp [Dsk.new, sec0], fun p hp => by simp [Dsk.new] at hp, by simp [Dsk.new]⟩
theorem Fine.now {D : Dsk} (h : Fine D) : ∀ k, k < D.n → (D.now k).length = 64 := lay_length h.base h.loose
theorem Fine.flush {D : Dsk} (h : Fine D) : Fine D.flush.1 := by
  unfold Dsk.flush
  split
  · exact h
  · exact ⟨h.n1, h.n2, lay_length h.base h.loose, fun p hp => by simp at hp, h.left⟩
theorem Fine.fuse {D : Dsk} (h : Fine D) {n : Int} (hn : n ≤ 9223372036854775807) : Fine (D.fuse n) := ⟨h.n1, h.n2, h.base, h.loose, by simp only [Dsk.fuse]; omega⟩
theorem Fine.crash {D : Dsk} (h : Fine D) (keep : List UInt8) : Fine (D.crash keep) :=
  ⟨h.n1, h.n2, lay_length h.base (fun p hp => h.loose p (keptFrom_sub 0 _ p hp)), fun p hp => by simp [Dsk.crash] at hp, by simp [Dsk.crash]⟩
theorem Fine.writes {D : Dsk} (h : Fine D) {at_ : Nat} {s : List UInt8} {n : Nat} (hn : at_ + n ≤ D.n) (hs : 64 * n ≤ s.length) : Fine (Dsk.writes D at_ s n).1 := by
  induction n generalizing D at_ s with
  | zero => exact h
  | succ n ih =>
    simp only [Dsk.writes]
    split
    · exact ⟨h.n1, h.n2, h.base, h.loose, h.left⟩
    · have hleft := h.left
      have hD : Fine { D with loose := D.loose ++ [(at_, s.take 64)], left := max (D.left - 1) (-1) } := by
        refine ⟨h.n1, h.n2, h.base, fun p hp => ?_, by show -1 ≤ max (D.left - 1) (-1) ∧ max (D.left - 1) (-1) ≤ 9223372036854775807; omega⟩
        rcases List.mem_append.1 hp with hp | hp
        · exact h.loose p hp
        · simp at hp; subst hp
          exact ⟨by show at_ < D.n; omega, by show (s.take 64).length = 64; rw [List.length_take]; omega⟩
      exact ih hD (by show at_ + 1 + n ≤ D.n; omega) (by rw [List.length_drop]; omega)
def upd (f : Nat → List UInt8) (i : Nat) (x : List UInt8) : Nat → List UInt8 := fun k => if k = i then x else f k
theorem text_congr {f g : Nat → List UInt8} (k n : Nat) (h : ∀ i, k ≤ i → i < k + n → f i = g i) : text f k n = text g k n := by
  induction n generalizing k with
  | zero => rfl
  | succ n ih =>
    simp only [text]
    rw [h k (Nat.le_refl _) (by omega), ih (k + 1) (fun i h1 h2 => h i (by omega) (by omega))]
theorem text_add (f : Nat → List UInt8) (k m n : Nat) : text f k (m + n) = text f k m ++ text f (k + m) n := by
  induction m generalizing k with
  | zero => simp [text]
  | succ m ih => rw [Nat.add_right_comm, text, ih (k + 1), text, List.append_assoc, show k + 1 + m = k + (m + 1) by omega]
theorem len_in {f : Nat → List UInt8} {k n : Nat} (hf : ∀ i, k ≤ i → i < k + n → (f i).length = 64) : (text f k n).length = 64 * n := by
  induction n generalizing k with
  | zero => rfl
  | succ n ih => simp only [text, List.length_append]; rw [hf k (Nat.le_refl _) (by omega), ih (fun i h1 h2 => hf i (by omega) (by omega))]; omega
theorem text_part {f : Nat → List UInt8} {k n i : Nat} (hf : ∀ j, k ≤ j → j < k + n → (f j).length = 64) (hi : i < n) :
    (text f k n).take (64 * i) = text f k i ∧ ((text f k n).drop (64 * i)).take 64 = f (k + i) ∧ (text f k n).drop (64 * i + 64) = text f (k + (i + 1)) (n - (i + 1)) := by
  have e : text f k n = text f k i ++ (f (k + i) ++ text f (k + (i + 1)) (n - (i + 1))) := by
    have h1 := text_add f k (i + 1) (n - (i + 1))
    rw [show i + 1 + (n - (i + 1)) = n by omega] at h1
    rw [h1, text_snoc, List.append_assoc]
  have l1 : (text f k i).length = 64 * i := len_in (fun j h1 h2 => hf j h1 (by omega))
  have l2 : (f (k + i)).length = 64 := hf _ (by omega) (by omega)
  refine ⟨?_, ?_, ?_⟩
  · rw [e, List.take_left' l1]
  · rw [e, List.drop_left' l1, List.take_left' l2]
  · rw [e, ← List.append_assoc, List.drop_left' (by rw [List.length_append, l1, l2])]
theorem text_upd {f : Nat → List UInt8} {k n i : Nat} {x : List UInt8} (hf : ∀ j, k ≤ j → j < k + n → (f j).length = 64) (hi : i < n) (hx : x.length = 64) :
    text (upd f (k + i) x) k n = (text f k n).take (64 * i) ++ x ++ (text f k n).drop (64 * i + x.length) := by
  obtain ⟨h1, _, h3⟩ := text_part hf hi
  rw [hx, h1, h3]
  have hu : ∀ j, k ≤ j → j < k + n → (upd f (k + i) x j).length = 64 := fun j a b => by
    unfold upd; split
    · exact hx
    · exact hf j a b
  have h4 := text_add (upd f (k + i) x) k (i + 1) (n - (i + 1))
  rw [show i + 1 + (n - (i + 1)) = n by omega] at h4
  rw [h4, text_snoc]
  have e1 : upd f (k + i) x (k + i) = x := by simp [upd]
  have e2 : text (upd f (k + i) x) k i = text f k i := text_congr _ _ (fun j a b => by unfold upd; rw [if_neg (by omega)])
  have e3 : text (upd f (k + i) x) (k + (i + 1)) (n - (i + 1)) = text f (k + (i + 1)) (n - (i + 1)) := text_congr _ _ (fun j a b => by unfold upd; rw [if_neg (by omega)])
  rw [e1, e2, e3]
theorem text_zero (k n : Nat) : text (fun _ => sec0) k n = List.replicate (64 * n) 0 := by
  induction n generalizing k with
  | zero => rfl
  | succ n ih =>
    rw [text, ih, sec0, show 64 * (n + 1) = 64 + 64 * n by omega, List.replicate_append_replicate]
def upTo (f : Nat → List UInt8) (k : Nat) : Nat → List UInt8 := fun j => if j < k then f j else sec0
theorem upTo_len {f : Nat → List UInt8} {N : Nat} (hf : ∀ i, i < N → (f i).length = 64) (k : Nat) : ∀ i, i < N → (upTo f k i).length = 64 := fun i hi => by
  unfold upTo; split
  · exact hf i hi
  · simp [sec0]
theorem upTo_start (f : Nat → List UInt8) (a n : Nat) : text (upTo f a) a n = List.replicate (64 * n) 0 := by
  rw [← text_zero a n]
  exact text_congr a n (fun i h1 h2 => by unfold upTo; rw [if_neg (by omega)])
theorem upTo_step (f : Nat → List UInt8) (a k n : Nat) : text (upTo f (a + (k + 1))) a n = text (upd (upTo f (a + k)) (a + k) (f (a + k))) a n := by
  refine text_congr a n (fun i h1 h2 => ?_)
  unfold upd upTo
  by_cases e1 : i = a + k
  · rw [if_pos e1, e1, if_pos (by omega)]
  · rw [if_neg e1]
    by_cases e2 : i < a + k
    · rw [if_pos (by omega), if_pos e2]
    · rw [if_neg (by omega), if_neg e2]
theorem upTo_full (f : Nat → List UInt8) (a n : Nat) : text (upTo f (a + n)) a n = text f a n :=
  text_congr a n (fun i h1 h2 => by unfold upTo; rw [if_pos (by omega)])
theorem lay_take_succ (f : Nat → List UInt8) (l : List (Nat × List UInt8)) (k : Nat) (h : k < l.length) : lay f (l.take (k + 1)) = upd (lay f (l.take k)) l[k].1 l[k].2 := by
  rw [List.take_succ_eq_append_getElem h, lay_snoc]
  rfl
end Dsk
end Go.Proofs.YtoaihngckcbhiaaGreatDoor
