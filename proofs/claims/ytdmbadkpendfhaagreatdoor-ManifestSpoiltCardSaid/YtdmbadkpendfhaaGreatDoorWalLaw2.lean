/- What was written of a log is what is read of it: plain mathematics. No program here. A log over a disk, as a machine: what is done one behind the other; what an append, and a reset, make. Plain mathematics. -/
import Derived.Test.YtdmbadkpendfhaaGreatDoorWalPlain
import Derived.Test.YtdmbadkpendfhaaGreatDoorWalRep
import Derived.Test.YtdmbadkpendfhaaGreatDoorDiskLaw
namespace Go.Proofs.YtdmbadkpendfhaaGreatDoor.Wal
open Crc (le val sealT)

theorem val_le_small (n v : Nat) (h : v < 256 ^ n) : val (le n v) = v := by rw [Crc.val_le, Nat.mod_eq_of_lt h]
theorem readT_of {t a : List UInt8} (R : List UInt8) (h : textE t = some a) : readT (a ++ R) = some (t, a.length) := by
  unfold textE at h
  split at h
  · rename_i hl
    simp only [Option.some.injEq] at h
    subst h
    have h1 : (le 2 t.length).length = 2 := Crc.le_length _ _
    have h2 : ((le 2 t.length ++ t) ++ R).take 2 = le 2 t.length := by rw [List.append_assoc, List.take_left' h1]
    unfold readT
    rw [if_neg (by simp [h1]), h2, val_le_small 2 _ (by show t.length < 65536; omega), if_pos (by simp [h1])]
    have h3 : ((le 2 t.length ++ t) ++ R).take (2 + t.length) = le 2 t.length ++ t := List.take_left' (by simp [h1])
    rw [h3, List.drop_left' h1]
    simp [h1]
  · cases h
theorem readTs_of : ∀ (l : List (List UInt8)) (a R : List UInt8), textsE l = some a → readTs l.length (a ++ R) = some (l, R)
  | [], a, R, h => by
    simp only [textsE, Option.some.injEq] at h
    subst h; rfl
  | t :: l, a, R, h => by
    simp only [textsE] at h
    cases h1 : textE t with
    | none => rw [h1] at h; cases h
    | some x =>
      rw [h1] at h
      simp only [Option.bind_some] at h
      cases h2 : textsE l with
      | none => rw [h2] at h; cases h
      | some y =>
        rw [h2] at h
        simp only [Option.map_some, Option.some.injEq] at h
        subst h
        simp only [List.length_cons, readTs]
        rw [List.append_assoc, readT_of _ h1]
        simp only [Option.bind_some]
        rw [List.drop_left' rfl, readTs_of l y R h2]
        rfl
theorem readRow_of {l : List (List UInt8)} {a : List UInt8} (h : rowE l = some a) : readRow a = some l := by
  unfold rowE at h
  split at h
  · rename_i hl
    cases h1 : textsE l with
    | none => rw [h1] at h; cases h
    | some y =>
      rw [h1] at h
      simp only [Option.map_some, Option.some.injEq] at h
      subst h
      have h2 : (le 2 l.length).length = 2 := Crc.le_length _ _
      unfold readRow
      rw [if_neg (by simp [h2]), List.take_left' h2, val_le_small 2 _ (by show l.length < 65536; omega), List.drop_left' h2]
      have := readTs_of l y [] h1
      rw [List.append_nil] at this
      rw [this]
      rfl
  · cases h
theorem groupE_some {l : List (List UInt8)} {s : List UInt8} (h : groupE l = some s) : ∃ a, rowE l = some a ∧ s = pad (le 4 a.length ++ a) := by
  unfold groupE at h
  cases h1 : rowE l with
  | none => rw [h1] at h; cases h
  | some a =>
    rw [h1] at h
    simp only [Option.map_some, Option.some.injEq] at h
    exact ⟨a, rfl, h.symm⟩
theorem groupE_length {l : List (List UInt8)} {s : List UInt8} (h : groupE l = some s) : s.length % 64 = 0 ∧ 64 ≤ s.length := by
  obtain ⟨a, _, rfl⟩ := groupE_some h
  have := pad_length (le 4 a.length ++ a)
  simp only [List.length_append, Crc.le_length] at this
  constructor
  · exact pad_mod _
  · rw [this]; omega
/-- The group that a group's sectors begin with. -/
theorem nextG_of {l : List (List UInt8)} {s : List UInt8} (h : groupE l = some s) (hb : s.length < 4294967296) (R : List UInt8) : nextG (s ++ R) = some (l, s.length) := by
  obtain ⟨h64, h0⟩ := groupE_length h
  obtain ⟨a, ha, rfl⟩ := groupE_some h
  have hl4 : (le 4 a.length).length = 4 := Crc.le_length _ _
  have hpl := pad_length (le 4 a.length ++ a)
  rw [List.length_append, hl4] at hpl
  obtain ⟨z, hz⟩ : ∃ z, pad (le 4 a.length ++ a) = le 4 a.length ++ a ++ z := ⟨_, rfl⟩
  have e4 : (pad (le 4 a.length ++ a) ++ R).take 4 = le 4 a.length := by rw [hz, List.append_assoc, List.append_assoc, List.take_left' hl4]
  have hv : val (le 4 a.length) = a.length := val_le_small 4 _ (by show a.length < 4294967296; omega)
  have e5 : (pad (le 4 a.length ++ a) ++ R).take (4 + a.length) = le 4 a.length ++ a := by rw [hz, List.append_assoc, List.take_left' (by rw [List.length_append, hl4])]
  unfold nextG
  rw [e4, hv, e5, if_neg (by rw [List.length_append]; omega), if_pos (by rw [List.length_append]; omega), List.drop_left' hl4, readRow_of ha]
  simp only [Option.bind_some]
  rw [List.take_left' rfl, if_pos rfl]
/-- What groups have of sectors. -/
def groupsE : List (List (List UInt8)) → Option (List UInt8)
  | [] => some []
  | l :: L => (groupE l).bind fun a => (groupsE L).map (a ++ ·)
theorem groupsE_snoc {L : List (List (List UInt8))} {S : List UInt8} (h : groupsE L = some S) {l : List (List UInt8)} {s : List UInt8} (hl : groupE l = some s) : groupsE (L ++ [l]) = some (S ++ s) := by
  induction L generalizing S with
  | nil =>
    simp only [groupsE, Option.some.injEq] at h
    subst h
    simp [groupsE, hl]
  | cons t L ih =>
    simp only [groupsE] at h
    cases h1 : groupE t with
    | none => rw [h1] at h; cases h
    | some a =>
      rw [h1] at h
      simp only [Option.bind_some] at h
      cases h2 : groupsE L with
      | none => rw [h2] at h; cases h
      | some b =>
        rw [h2] at h
        simp only [Option.map_some, Option.some.injEq] at h
        subst h
        simp only [List.cons_append, groupsE, h1, ih h2, Option.bind_some, Option.map_some, List.append_assoc]
theorem nextG_sound {S : List UInt8} {l : List (List UInt8)} {k : Nat} (h : nextG S = some (l, k)) : groupE l = some (S.take k) := by
  unfold nextG at h
  split at h
  · cases h
  · split at h
    · rename_i h0 hv
      cases h1 : readRow ((S.take (4 + val (S.take 4))).drop 4) with
      | none => rw [h1] at h; cases h
      | some q =>
        rw [h1] at h
        simp only [Option.bind_some] at h
        split at h
        · rename_i h3
          simp only [Option.some.injEq, Prod.mk.injEq] at h
          obtain ⟨rfl, rfl⟩ := h
          have hr := readRow_some h1
          have hl : ((S.take (4 + val (S.take 4))).drop 4).length = val (S.take 4) := by rw [List.length_drop, List.length_take]; omega
          unfold groupE
          rw [hr]
          simp only [Option.map_some]
          rw [hl]
          have e : le 4 (val (S.take 4)) = S.take 4 := by
            have := Crc.le_val (S.take 4)
            rwa [List.length_take, Nat.min_eq_left (by omega)] at this
          rw [e]
          have h5 : S.take 4 ++ (S.take (4 + val (S.take 4))).drop 4 = S.take (4 + val (S.take 4)) := by
            generalize val (S.take 4) = v at *
            have h6 : S.take 4 = (S.take (4 + v)).take 4 := by rw [List.take_take, Nat.min_eq_left (by omega)]
            rw [h6, List.take_append_drop]
          rw [h5, ← h3]
        · cases h
    · cases h
theorem readGs_sound : ∀ (f : Nat) (S : List UInt8) (L : List (List (List UInt8))), readGs f S = some L → groupsE L = some S
  | 0, S, L, h => by
    simp only [readGs] at h
    split at h
    · rename_i e
      simp only [Option.some.injEq] at h
      subst h; subst e; rfl
    · cases h
  | f + 1, S, L, h => by
    simp only [readGs] at h
    split at h
    · rename_i e
      simp only [Option.some.injEq] at h
      subst h; subst e; rfl
    · cases h1 : nextG S with
      | none => rw [h1] at h; cases h
      | some p =>
        rw [h1] at h
        simp only [Option.bind_some] at h
        cases h2 : readGs f (S.drop p.2) with
        | none => rw [h2] at h; cases h
        | some q =>
          rw [h2] at h
          simp only [Option.map_some, Option.some.injEq] at h
          subst h
          have g1 := nextG_sound (l := p.1) (k := p.2) h1
          have g2 := readGs_sound f _ _ h2
          simp only [groupsE, g1, g2, Option.bind_some, Option.map_some, List.take_append_drop]
theorem readGs_of : ∀ (L : List (List (List UInt8))) (S : List UInt8) (f : Nat), groupsE L = some S → S.length ≤ 64 * f → S.length < 4294967296 → readGs f S = some L
  | [], S, f, h, _, _ => by
    simp only [groupsE, Option.some.injEq] at h
    subst h; exact readGs_nil f
  | l :: L, S, f, h, hf, hb => by
    simp only [groupsE] at h
    cases h1 : groupE l with
    | none => rw [h1] at h; cases h
    | some a =>
      rw [h1] at h
      simp only [Option.bind_some] at h
      cases h2 : groupsE L with
      | none => rw [h2] at h; cases h
      | some b =>
        rw [h2] at h
        simp only [Option.map_some, Option.some.injEq] at h
        subst h
        obtain ⟨g1, g2⟩ := groupE_length h1
        rw [List.length_append] at hf hb
        obtain ⟨f, rfl⟩ : ∃ f', f = f' + 1 := ⟨f - 1, by omega⟩
        have hne : ¬ (a ++ b = []) := fun e => by
          have := congrArg List.length e
          rw [List.length_append, List.length_nil] at this
          omega
        simp only [readGs, if_neg hne, nextG_of h1 (by omega) b, Option.bind_some]
        rw [List.drop_left' rfl, readGs_of L b f h2 (by omega) (by omega)]
        rfl

/-! ### A mark -/
theorem mark_form (gen used : Nat) : ∃ z, mark gen used = [76, 79, 71, 49] ++ (le 8 gen ++ (le 4 used ++ z)) := by
  unfold mark pad Crc.sealT
  generalize List.replicate _ (0 : UInt8) = z
  generalize le 4 (Crc.sum _) = y
  exact ⟨y ++ z, by simp only [List.append_assoc]⟩
theorem mark_gen (gen used : Nat) : ((mark gen used).take 12).drop 4 = le 8 gen := by
  obtain ⟨z, e⟩ := mark_form gen used
  have h8 : (le 8 gen).length = 8 := Crc.le_length _ _
  rw [e]
  have e1 : ([76, 79, 71, 49] ++ (le 8 gen ++ (le 4 used ++ z))).take 12 = [76, 79, 71, 49] ++ le 8 gen := by
    rw [← List.append_assoc]
    exact List.take_left' (by rw [List.length_append, h8]; rfl)
  rw [e1]
  exact List.drop_left' rfl
theorem mark_used (gen used : Nat) : ((mark gen used).take 16).drop 12 = le 4 used := by
  obtain ⟨z, e⟩ := mark_form gen used
  have h8 : (le 8 gen).length = 8 := Crc.le_length _ _
  have h4 : (le 4 used).length = 4 := Crc.le_length _ _
  rw [e]
  have e1 : ([76, 79, 71, 49] ++ (le 8 gen ++ (le 4 used ++ z))).take 16 = ([76, 79, 71, 49] ++ le 8 gen) ++ le 4 used := by
    rw [← List.append_assoc, ← List.append_assoc]
    exact List.take_left' (by rw [List.length_append, List.length_append, h8, h4]; rfl)
  rw [e1]
  exact List.drop_left' (by rw [List.length_append, h8]; rfl)
theorem mark_ne (gen used : Nat) : mark gen used ≠ pad [0] := fun h => by
  obtain ⟨z, e⟩ := mark_form gen used
  rw [e] at h
  have := congrArg (fun l : List UInt8 => l.head?) h
  revert this
  simp [pad]
/-- What a mark, and groups behind it, are read as. -/
theorem openS_mark {gen used n : Nat} {L : List (List (List UInt8))} {S R : List UInt8} (hg : gen < 18446744073709551616) (hu : used ≤ n - 1) (hb : used < 60000000) (hL : groupsE L = some S) (hS : S.length = 64 * used) :
    openS (mark gen used ++ (S ++ R)) n = some (gen, used, L) := by
  have hml := mark_length gen used
  have v1 : val (le 8 gen) = gen := val_le_small 8 _ hg
  have v2 : val (le 4 used) = used := val_le_small 4 _ (by show used < 4294967296; omega)
  unfold openS
  rw [List.take_left' hml, List.drop_left' hml, if_neg (mark_ne _ _), mark_gen, mark_used, v1, v2, if_pos ⟨rfl, hu⟩, List.take_left' hS, readGs_of L S used hL (by omega) (by omega)]
  rfl
/-- What sectors are read as hangs on the first ones alone. -/
theorem openS_some {s : List UInt8} {n gen used : Nat} {L : List (List (List UInt8))} (h : openS s n = some (gen, used, L)) (hs : 64 * n ≤ s.length) (hn : 1 ≤ n) :
    used ≤ n - 1 ∧ gen < 18446744073709551616 ∧ groupsE L = some ((s.drop 64).take (64 * used)) ∧ ((s.take 64 = pad [0] ∧ gen = 0 ∧ used = 0) ∨ s.take 64 = mark gen used) := by
  unfold openS at h
  split at h
  · rename_i h0
    simp only [Option.some.injEq, Prod.mk.injEq] at h
    obtain ⟨rfl, rfl, rfl⟩ := h
    exact ⟨by omega, by decide, rfl, .inl ⟨h0, rfl, rfl⟩⟩
  · split at h
    · rename_i hm
      obtain ⟨h1, h2⟩ := hm
      cases h3 : readGs (val (((s.take 64).take 16).drop 12)) ((s.drop 64).take (64 * val (((s.take 64).take 16).drop 12))) with
      | none => rw [h3] at h; cases h
      | some q =>
        rw [h3] at h
        simp only [Option.map_some, Option.some.injEq, Prod.mk.injEq] at h
        obtain ⟨rfl, rfl, rfl⟩ := h
        have hv := Crc.val_lt (((s.take 64).take 12).drop 4)
        have hl : (((s.take 64).take 12).drop 4).length = 8 := by simp only [List.length_drop, List.length_take]; omega
        rw [hl] at hv
        exact ⟨h2, hv, readGs_sound _ _ _ h3, .inr h1⟩
    · cases h
/-- One more group. -/
theorem openS_grown {s : List UInt8} {n gen used : Nat} {L : List (List (List UInt8))} (h : openS s n = some (gen, used, L)) (hs : 64 * n ≤ s.length) (hn : 1 ≤ n) (hn2 : n ≤ 16384) {l : List (List UInt8)} {a R : List UInt8} (hl : groupE l = some a) (hk : used + a.length / 64 ≤ n - 1) :
    openS (mark gen (used + a.length / 64) ++ ((s.drop 64).take (64 * used) ++ (a ++ R))) n = some (gen, used + a.length / 64, L ++ [l]) := by
  obtain ⟨h1, h2, h3, _⟩ := openS_some h hs hn
  obtain ⟨g1, g2⟩ := groupE_length hl
  have := openS_mark (gen := gen) (used := used + a.length / 64) (n := n) (L := L ++ [l]) (S := (s.drop 64).take (64 * used) ++ a) (R := R) h2 hk (by omega) (groupsE_snoc h3 hl) (by rw [List.length_append, List.length_take, List.length_drop]; omega)
  rwa [List.append_assoc] at this
/-- Sectors whose first ones are the same. -/
theorem openS_same {s t : List UInt8} {n gen used : Nat} {L : List (List (List UInt8))} (h : openS s n = some (gen, used, L)) (hs : 64 * n ≤ s.length) (hn : 1 ≤ n) (e : s.take (64 + 64 * used) = t.take (64 + 64 * used)) : openS t n = some (gen, used, L) := by
  obtain ⟨h1, h2, h3, _⟩ := openS_some h hs hn
  have e1 : t.take 64 = s.take 64 := by
    have := congrArg (List.take 64) e
    rw [List.take_take, List.take_take, Nat.min_eq_left (by omega)] at this
    exact this.symm
  have e2 : (t.drop 64).take (64 * used) = (s.drop 64).take (64 * used) := by
    have := congrArg (List.drop 64) e
    rw [List.drop_take, List.drop_take, Nat.add_sub_cancel_left] at this
    exact this.symm
  rw [← h]
  unfold openS at h ⊢
  rw [e1]
  split
  · rfl
  · rename_i h0
    rw [if_neg h0] at h
    split
    · rename_i hm
      rw [if_pos hm] at h
      cases h4 : readGs (val (((s.take 64).take 16).drop 12)) ((s.drop 64).take (64 * val (((s.take 64).take 16).drop 12))) with
      | none => rw [h4] at h; cases h
      | some q =>
        rw [h4] at h
        simp only [Option.map_some, Option.some.injEq, Prod.mk.injEq] at h
        obtain ⟨_, hu, _⟩ := h
        rw [hu] at h4 ⊢
        rw [e2, h4]
    · rfl
end Go.Proofs.YtdmbadkpendfhaaGreatDoor.Wal

namespace Go.Proofs.YtdmbadkpendfhaaGreatDoor
open Wal

/-- What is done one behind the other, up to the first error. -/
def doS : List (Dsk → Dsk × Int) → Dsk → Dsk × Int
  | [], D => (D, 0)
  | f :: l, D => if (f D).2 = 0 then doS l (f D).1 else f D
theorem doS_cons (f : Dsk → Dsk × Int) (l : List (Dsk → Dsk × Int)) (D : Dsk) : doS (f :: l) D = if (f D).2 = 0 then doS l (f D).1 else f D := rfl
/-- What an append does to the disk. -/
def WLog.acts (L : WLog) (s : List UInt8) : List (Dsk → Dsk × Int) :=
  [fun D => D.write ((L.from_ + 1 + L.used : Nat) : Int) s, Dsk.flush, fun D => D.write (L.from_ : Int) (Wal.mark L.gen (L.used + s.length / 64)), Dsk.flush]
/-- What a reset does to it. -/
def WLog.racts (L : WLog) : List (Dsk → Dsk × Int) :=
  [fun D => D.write (L.from_ : Int) (Wal.mark ((L.gen + 1) % 18446744073709551616) 0), Dsk.flush]
def WLog.fell (L : WLog) (k : Int) : WLog := { L with fault := k }
def WLog.grown (L : WLog) (l : List (List UInt8)) (k : Nat) : WLog := { L with used := L.used + k, groups := L.groups ++ [l] }
def WLog.emptied (L : WLog) : WLog := { L with gen := (L.gen + 1) % 18446744073709551616, used := 0, groups := [] }
def wappend (D : Dsk) (L : WLog) (l : List (List UInt8)) : Dsk × WLog × Int :=
  if L.fault ≠ 0 then (D, L, L.fault) else match groupE l with
  | none => (D, L, 5)
  | some s => if L.n - 1 - L.used < s.length / 64 then (D, L, 4) else
    if (doS (L.acts s) D).2 = 0 then ((doS (L.acts s) D).1, L.grown l (s.length / 64), 0) else ((doS (L.acts s) D).1, L.fell (doS (L.acts s) D).2, (doS (L.acts s) D).2)
def wreset (D : Dsk) (L : WLog) : Dsk × WLog × Int :=
  if L.fault ≠ 0 then (D, L, L.fault) else
    if (doS L.racts D).2 = 0 then ((doS L.racts D).1, L.emptied, 0) else ((doS L.racts D).1, L.fell (doS L.racts D).2, (doS L.racts D).2)

theorem doS_loose (c : Nat) : ∀ (l : List (Dsk → Dsk × Int)) (D : Dsk), (∀ f ∈ l, ∀ D, (f D).1.loose.length ≤ D.loose.length + c) → (doS l D).1.loose.length ≤ D.loose.length + c * l.length
  | [], D, _ => by simp [doS]
  | f :: l, D, h => by
    rw [doS_cons]
    have h1 := h f List.mem_cons_self D
    rw [List.length_cons, Nat.mul_add]
    split
    · have := doS_loose c l (f D).1 (fun g hg => h g (List.mem_cons_of_mem _ hg))
      omega
    · have : c ≤ c * l.length + c * 1 := by omega
      omega
theorem doS_n : ∀ (l : List (Dsk → Dsk × Int)) (D : Dsk), (∀ f ∈ l, ∀ D, (f D).1.n = D.n) → (doS l D).1.n = D.n
  | [], D, _ => rfl
  | f :: l, D, h => by
    rw [doS_cons]
    split
    · rw [doS_n l (f D).1 (fun g hg => h g (List.mem_cons_of_mem _ hg))]
      exact h f List.mem_cons_self D
    · exact h f List.mem_cons_self D

/-! ### What is written, and what a crash leaves of it -/
/-- The loose writes of sectors. -/
def puts (a : Nat) (s : List UInt8) : Nat → List (Nat × List UInt8)
  | 0 => []
  | n + 1 => (a, s.take 64) :: puts (a + 1) (s.drop 64) n
theorem writes_spec (D : Dsk) (hd : D.down = false) (a : Nat) (s : List UInt8) (n : Nat) :
    (Dsk.writes D a s n).1.base = D.base ∧ (Dsk.writes D a s n).1.n = D.n ∧
    (((Dsk.writes D a s n).2 = 0 ∧ (Dsk.writes D a s n).1.down = false ∧ (Dsk.writes D a s n).1.loose = D.loose ++ puts a s n) ∨
     ((Dsk.writes D a s n).2 = 40 ∧ (Dsk.writes D a s n).1.down = true ∧ ∃ P, (Dsk.writes D a s n).1.loose = D.loose ++ P ∧ ∀ p ∈ P, a ≤ p.1 ∧ p.1 < a + n)) := by
  induction n generalizing D a s with
  | zero => exact ⟨rfl, rfl, .inl ⟨rfl, hd, by simp [Dsk.writes, puts]⟩⟩
  | succ n ih =>
    simp only [Dsk.writes]
    split
    · exact ⟨rfl, rfl, .inr ⟨rfl, rfl, [], by simp, by simp⟩⟩
    · obtain ⟨h1, h2, h3⟩ := ih { D with loose := D.loose ++ [(a, s.take 64)], left := max (D.left - 1) (-1) } hd (a + 1) (s.drop 64)
      refine ⟨h1, h2, ?_⟩
      rcases h3 with ⟨g1, g2, g3⟩ | ⟨g1, g2, P, g3, g4⟩
      · exact .inl ⟨g1, g2, by rw [g3]; simp [puts]⟩
      · refine .inr ⟨g1, g2, (a, s.take 64) :: P, by rw [g3]; simp, fun p hp => ?_⟩
        rcases List.mem_cons.1 hp with rfl | hp
        · exact ⟨Nat.le_refl _, by show a < a + (n + 1); omega⟩
        · have := g4 p hp; omega
theorem lay_far (f : Nat → List UInt8) (l : List (Nat × List UInt8)) (k : Nat) (h : ∀ p ∈ l, p.1 ≠ k) : Dsk.lay f l k = f k := by
  induction l generalizing f with
  | nil => rfl
  | cons p l ih =>
    show Dsk.lay _ l k = _
    rw [ih _ (fun q hq => h q (List.mem_cons_of_mem _ hq))]
    rw [if_neg (fun e => h p List.mem_cons_self e.symm)]
theorem puts_mem {a : Nat} {s : List UInt8} {n : Nat} : ∀ p ∈ puts a s n, a ≤ p.1 ∧ p.1 < a + n := by
  induction n generalizing a s with
  | zero => intro p hp; simp [puts] at hp
  | succ n ih =>
    intro p hp
    simp only [puts] at hp
    rcases List.mem_cons.1 hp with rfl | hp
    · exact ⟨Nat.le_refl _, by show a < a + (n + 1); omega⟩
    · have := ih p hp; omega
theorem text_puts (f : Nat → List UInt8) (a : Nat) (s : List UInt8) (n : Nat) (hs : s.length = 64 * n) : Dsk.text (Dsk.lay f (puts a s n)) a n = s := by
  induction n generalizing f a s with
  | zero => exact (List.eq_nil_of_length_eq_zero (by omega)).symm
  | succ n ih =>
    show Dsk.lay _ (puts (a + 1) (s.drop 64) n) a ++ Dsk.text (Dsk.lay _ (puts (a + 1) (s.drop 64) n)) (a + 1) n = s
    rw [lay_far _ _ _ (fun p hp => by have := puts_mem p hp; omega), ih _ _ _ (by rw [List.length_drop]; omega), if_pos rfl, List.take_append_drop]
/-- The first sectors are as they were. -/
theorem text_first {f g : Nat → List UInt8} {n k : Nat} (hk : k ≤ n) (hf : ∀ i, i < n → (f i).length = 64) (hg : ∀ i, i < n → (g i).length = 64) (h : ∀ i, i < k → f i = g i) : (Dsk.text f 0 n).take (64 * k) = (Dsk.text g 0 n).take (64 * k) := by
  obtain ⟨m, rfl⟩ : ∃ m, n = k + m := ⟨n - k, by omega⟩
  rw [Dsk.text_add, Dsk.text_add, Dsk.text_congr 0 k (fun i _ h2 => h i (by omega))]
  rw [List.take_left' (Dsk.len_in (fun i _ h2 => hg i (by omega))), List.take_left' (Dsk.len_in (fun i _ h2 => hg i (by omega)))]

/-- A log, and the disk that it lies on. -/
structure Sound (D : Dsk) (L : WLog) : Prop where
  fine : D.Fine
  n : D.n = L.n
  at0 : L.from_ = 0
  min : 2 ≤ L.n
  calm : L.fault = 0 → D.loose = [] ∧ D.down = false ∧ openS (Dsk.text D.base 0 L.n) L.n = some (L.gen, L.used, L.groups)
  fell : L.fault ≠ 0 → L.fault = 40 ∧ D.down = true ∧ ∀ keep, openS (Dsk.text (D.crash keep).base 0 L.n) L.n = some (L.gen, L.used, L.groups)
theorem Sound.openS_crash {D : Dsk} {L : WLog} (h : Sound D L) (keep : List UInt8) : openS (Dsk.text (D.crash keep).base 0 L.n) L.n = some (L.gen, L.used, L.groups) := by
  by_cases hf : L.fault = 0
  · obtain ⟨h1, _, h3⟩ := h.calm hf
    rw [← h3]
    simp [Dsk.crash, Dsk.kept, h1, Dsk.keptFrom, Dsk.lay]
  · exact (h.fell hf).2.2 keep
theorem Sound.crash {D : Dsk} {L : WLog} (h : Sound D L) (keep : List UInt8) : Sound (D.crash keep) { L with fault := 0 } :=
  ⟨h.fine.crash keep, h.n, h.at0, h.min, fun _ => ⟨rfl, rfl, h.openS_crash keep⟩, fun hf => absurd rfl hf⟩
theorem Sound.fuse {D : Dsk} {L : WLog} (h : Sound D L) {n : Int} (hn : n ≤ 9223372036854775807) : Sound (D.fuse n) L :=
  ⟨h.fine.fuse hn, h.n, h.at0, h.min, h.calm, h.fell⟩
/-- Writes that a crash may leave, behind the log's sectors. -/
theorem openS_loose {D : Dsk} (hD : D.Fine) {n gen used : Nat} {G : List (List (List UInt8))} (hn : D.n = n) (h1 : 1 ≤ n) (h : openS (Dsk.text D.base 0 n) n = some (gen, used, G)) {P : List (Nat × List UInt8)} (hP : ∀ p ∈ P, p.1 < n ∧ p.2.length = 64 ∧ 1 + used ≤ p.1) :
    openS (Dsk.text (Dsk.lay D.base P) 0 n) n = some (gen, used, G) := by
  subst hn
  have hu := (openS_some h (by rw [Dsk.text_length hD.base 0 D.n (by omega)]; exact Nat.le_refl _) h1).1
  refine openS_same h (by rw [Dsk.text_length hD.base 0 D.n (by omega)]; exact Nat.le_refl _) h1 ?_
  rw [show 64 + 64 * used = 64 * (1 + used) by omega]
  refine text_first (by omega) hD.base (Dsk.lay_length hD.base (fun p hp => ⟨(hP p hp).1, (hP p hp).2.1⟩)) (fun i hi => ?_)
  rw [lay_far _ _ _ (fun p hp => by have := hP p hp; omega)]
theorem mark_writes (D : Dsk) (hd : D.down = false) (hl : D.loose = []) (gen used : Nat) (hn : 1 ≤ D.n) :
    D.write ((0 : Nat) : Int) (Wal.mark gen used) = if D.left = 0 then ({ D with down := true }, 40) else ({ D with loose := [(0, Wal.mark gen used)], left := max (D.left - 1) (-1) }, 0) := by
  have hm := Wal.mark_length gen used
  unfold Dsk.write
  rw [if_neg (by simp [hd]), hm, if_pos ⟨by decide, by simp [Dsk.inside]; omega⟩]
  show Dsk.writes D 0 _ 1 = _
  simp only [Dsk.writes]
  split
  · rfl
  · rw [hl, List.take_of_length_le (by rw [hm]; exact Nat.le_refl _)]
    rfl
theorem Sound.append {D : Dsk} {L : WLog} (h : Sound D L) (l : List (List UInt8)) : Sound (wappend D L l).1 (wappend D L l).2.1 := by
  unfold wappend
  by_cases hf : L.fault = 0
  · rw [if_neg (by simp [hf])]
    cases hg : groupE l with
    | none => exact h
    | some s =>
      dsimp only
      by_cases hfull : L.n - 1 - L.used < s.length / 64
      · rw [if_pos hfull]; exact h
      rw [if_neg hfull]
      obtain ⟨hl, hd, ho⟩ := h.calm hf
      have hmin := h.min
      have hn := h.n
      have hF := h.fine
      obtain ⟨h64, h640⟩ := groupE_length hg
      have htl : (Dsk.text D.base 0 L.n).length = 64 * L.n := Dsk.text_length hF.base 0 L.n (by omega)
      obtain ⟨hu, hgen, _, _⟩ := openS_some ho (by omega) (by omega)
      obtain ⟨k, hk⟩ : ∃ k, k = s.length / 64 := ⟨_, rfl⟩
      have hsl : s.length = 64 * k := by omega
      have hW : D.write ((L.from_ + 1 + L.used : Nat) : Int) s = Dsk.writes D (1 + L.used) s k := by
        unfold Dsk.write
        rw [if_neg (by simp [hd]), if_pos ⟨h64, by simp [Dsk.inside, h.at0]; omega⟩, ← hk, h.at0]
        rw [show (((0 + 1 + L.used : Nat) : Int)).toNat = 1 + L.used by omega]
      obtain ⟨w1, w2, w3⟩ := writes_spec D hd (1 + L.used) s k
      have hF1 := hF.writes (at_ := 1 + L.used) (s := s) (n := k) (by omega) (by omega)
      have hacts : doS (L.acts s) D = if (Dsk.writes D (1 + L.used) s k).2 = 0 then doS [Dsk.flush, fun D => D.write (L.from_ : Int) (Wal.mark L.gen (L.used + s.length / 64)), Dsk.flush] (Dsk.writes D (1 + L.used) s k).1 else Dsk.writes D (1 + L.used) s k := by
        unfold WLog.acts
        rw [doS_cons, hW]
      generalize Dsk.writes D (1 + L.used) s k = r at *
      obtain ⟨D1, e1⟩ := r
      simp only at *
      rcases w3 with ⟨rfl, g2, g3⟩ | ⟨rfl, g2, P, g3, g4⟩
      · rw [if_pos rfl] at hacts
        rw [hl, List.nil_append] at g3
        have hfl : D1.flush = ({ D1 with base := Dsk.lay D1.base D1.loose, loose := [] }, 0) := by unfold Dsk.flush; rw [if_neg (by simp [g2])]
        have hF2 := hF1.flush
        have hfd : D1.flush.1.down = false := by rw [hfl]; exact g2
        have hfl1 : D1.flush.1.loose = [] := by rw [hfl]
        have hfn : D1.flush.1.n = L.n := by rw [hfl]; exact w2.trans hn
        have hfb : D1.flush.1.base = Dsk.lay D.base (puts (1 + L.used) s k) := by rw [hfl]; show Dsk.lay D1.base D1.loose = _; rw [w1, g3]
        have hf2 : D1.flush.2 = 0 := by rw [hfl]
        rw [doS_cons, hf2, if_pos rfl, doS_cons, h.at0] at hacts
        have hmw := mark_writes D1.flush.1 hfd hfl1 L.gen (L.used + s.length / 64) (by omega)
        rw [hmw] at hacts
        have hloose : ∀ p ∈ puts (1 + L.used) s k, p.1 < L.n ∧ p.2.length = 64 ∧ 1 + L.used ≤ p.1 := fun p hp => by
          have a1 := hF1.loose p (by rw [g3]; exact hp)
          have a2 := puts_mem p hp
          exact ⟨by omega, a1.2, by omega⟩
        have hold := openS_loose hF hn (by omega) ho hloose
        rw [← hfb] at hold
        clear hmw hfl hW
        generalize D1.flush.1 = D2 at *
        by_cases hz : D2.left = 0
        · rw [if_pos hz] at hacts
          simp only at hacts
          rw [if_neg (by decide)] at hacts
          rw [hacts]
          simp only
          rw [if_neg (by decide)]
          refine ⟨⟨hF2.n1, hF2.n2, hF2.base, hF2.loose, hF2.left⟩, hfn, h.at0, h.min, fun e => by simp [WLog.fell] at e, fun _ => ⟨rfl, rfl, fun keep => ?_⟩⟩
          refine Eq.trans ?_ hold
          simp [Dsk.crash, Dsk.kept, hfl1, Dsk.keptFrom, Dsk.lay, WLog.fell]
        · rw [if_neg hz] at hacts
          simp only [if_pos] at hacts
          have hm := Wal.mark_length L.gen (L.used + s.length / 64)
          have hF3 : Dsk.Fine { D2 with loose := [(0, Wal.mark L.gen (L.used + s.length / 64))], left := max (D2.left - 1) (-1) } := by
            refine ⟨hF2.n1, hF2.n2, hF2.base, fun p hp => ?_, by have := hF2.left; show -1 ≤ max (D2.left - 1) (-1) ∧ max (D2.left - 1) (-1) ≤ 9223372036854775807; omega⟩
            rw [List.mem_singleton] at hp
            subst hp
            exact ⟨by show 0 < D2.n; omega, hm⟩
          have hF4 := hF3.flush
          have e4 : Dsk.flush { D2 with loose := [(0, Wal.mark L.gen (L.used + s.length / 64))], left := max (D2.left - 1) (-1) } = ({ D2 with base := fun j => if j = 0 then Wal.mark L.gen (L.used + s.length / 64) else D2.base j, loose := [], left := max (D2.left - 1) (-1) }, 0) := by
            unfold Dsk.flush; rw [if_neg (by simp [hfd])]; rfl
          rw [doS_cons, e4, if_pos rfl] at hacts
          rw [e4] at hF4
          simp only [doS] at hacts
          rw [hacts]
          simp only [if_pos]
          refine ⟨hF4, hfn, h.at0, h.min, fun _ => ⟨rfl, hfd, ?_⟩, fun e => absurd hf e⟩
          have hgr := openS_grown ho (by omega) (by omega) (by have := hF.n2; omega) hg (R := Dsk.text D2.base (1 + (L.used + k)) (L.n - 1 - (L.used + k))) (by omega)
          refine Eq.trans ?_ hgr
          congr 1
          show Dsk.text _ 0 L.n = _
          obtain ⟨m, hm2⟩ : ∃ m, L.n = m + 1 := ⟨L.n - 1, by omega⟩
          rw [hm2]
          show _ ++ Dsk.text _ (0 + 1) m = _
          simp only [if_pos]
          congr 1
          rw [Dsk.text_congr (g := D2.base) (0 + 1) m (fun i a1 a2 => by rw [if_neg (by omega)])]
          obtain ⟨q, rfl⟩ : ∃ q, m = L.used + (k + q) := ⟨m - (L.used + k), by omega⟩
          rw [Dsk.text_add, Dsk.text_add, hfb]
          have t1 : Dsk.text (Dsk.lay D.base (puts (1 + L.used) s k)) (0 + 1) L.used = ((Dsk.text D.base 0 (L.used + (k + q) + 1)).drop 64).take (64 * L.used) := by
            rw [Dsk.text_congr (g := D.base) (0 + 1) L.used (fun i a1 a2 => lay_far _ _ _ (fun p hp => by have := puts_mem p hp; omega))]
            show _ = ((D.base 0 ++ Dsk.text D.base (0 + 1) _).drop 64).take _
            rw [List.drop_left' (hF.base 0 (by omega)), Dsk.text_add, List.take_left' (Dsk.len_in (fun i a1 a2 => hF.base i (by omega)))]
          rw [t1, show 0 + 1 + L.used = 1 + L.used by omega, text_puts _ _ _ _ hsl, show 1 + L.used + k = 1 + (L.used + k) by omega, show L.used + (k + q) + 1 - 1 - (L.used + k) = q by omega]
      · rw [if_neg (by decide)] at hacts
        rw [hacts]
        simp only
        rw [if_neg (by decide)]
        refine ⟨hF1, w2.trans hn, h.at0, h.min, fun e => by simp [WLog.fell] at e, fun _ => ⟨rfl, g2, fun keep => ?_⟩⟩
        have := openS_loose hF hn (by omega) ho (P := Dsk.kept D1 keep) (fun p hp => by
          have hp1 := Dsk.keptFrom_sub 0 _ p hp
          have a1 := hF1.loose p hp1
          rw [g3, hl, List.nil_append] at hp1
          have a2 := g4 p hp1
          exact ⟨by omega, a1.2, by omega⟩)
        refine Eq.trans ?_ this
        simp only [Dsk.crash, WLog.fell, w1]
  · rw [if_pos hf]; exact h
theorem Sound.reset {D : Dsk} {L : WLog} (h : Sound D L) : Sound (wreset D L).1 (wreset D L).2.1 := by
  unfold wreset
  by_cases hf : L.fault = 0
  · rw [if_neg (by simp [hf])]
    obtain ⟨hl, hd, ho⟩ := h.calm hf
    have hmin := h.min
    have hn := h.n
    have hF := h.fine
    have hmw := mark_writes D hd hl ((L.gen + 1) % 18446744073709551616) 0 (by omega)
    have hacts : doS L.racts D = if (D.write ((0 : Nat) : Int) (Wal.mark ((L.gen + 1) % 18446744073709551616) 0)).2 = 0 then doS [Dsk.flush] (D.write ((0 : Nat) : Int) (Wal.mark ((L.gen + 1) % 18446744073709551616) 0)).1 else D.write ((0 : Nat) : Int) (Wal.mark ((L.gen + 1) % 18446744073709551616) 0) := by
      unfold WLog.racts
      rw [h.at0, doS_cons]
    rw [hmw] at hacts
    have hg2 : (L.gen + 1) % 18446744073709551616 < 18446744073709551616 := Nat.mod_lt _ (by decide)
    unfold WLog.emptied
    generalize (L.gen + 1) % 18446744073709551616 = g2 at *
    by_cases hz : D.left = 0
    · rw [if_pos hz] at hacts
      simp only at hacts
      rw [if_neg (by decide)] at hacts
      rw [hacts]
      simp only
      rw [if_neg (by decide)]
      refine ⟨⟨hF.n1, hF.n2, hF.base, hF.loose, hF.left⟩, hn, h.at0, h.min, fun e => by simp [WLog.fell] at e, fun _ => ⟨rfl, rfl, fun keep => ?_⟩⟩
      refine Eq.trans ?_ ho
      simp [Dsk.crash, Dsk.kept, hl, Dsk.keptFrom, Dsk.lay, WLog.fell]
    · rw [if_neg hz] at hacts
      simp only [if_pos] at hacts
      have hm := Wal.mark_length g2 0
      have hF3 : Dsk.Fine { D with loose := [(0, Wal.mark g2 0)], left := max (D.left - 1) (-1) } := by
        refine ⟨hF.n1, hF.n2, hF.base, fun p hp => ?_, by have := hF.left; show -1 ≤ max (D.left - 1) (-1) ∧ max (D.left - 1) (-1) ≤ 9223372036854775807; omega⟩
        rw [List.mem_singleton] at hp
        subst hp
        exact ⟨by show 0 < D.n; omega, hm⟩
      have hF4 := hF3.flush
      have e4 : Dsk.flush { D with loose := [(0, Wal.mark g2 0)], left := max (D.left - 1) (-1) } = ({ D with base := fun j => if j = 0 then Wal.mark g2 0 else D.base j, loose := [], left := max (D.left - 1) (-1) }, 0) := by
        unfold Dsk.flush; rw [if_neg (by simp [hd])]; rfl
      rw [doS_cons, e4, if_pos rfl] at hacts
      rw [e4] at hF4
      simp only [doS] at hacts
      rw [hacts]
      simp only [if_pos]
      refine ⟨hF4, hn, h.at0, h.min, fun _ => ⟨rfl, hd, ?_⟩, fun e => absurd hf e⟩
      obtain ⟨m, hm2⟩ : ∃ m, L.n = m + 1 := ⟨L.n - 1, by omega⟩
      show openS (Dsk.text _ 0 L.n) L.n = some (g2, 0, [])
      rw [hm2]
      show openS (_ ++ Dsk.text _ (0 + 1) m) _ = _
      simp only [if_pos]
      exact openS_mark (L := []) (S := []) hg2 (by omega) (by decide) rfl rfl
  · rw [if_pos hf]; exact h
/-- A new disk has a log of nothing. -/
theorem Sound.new (n : Nat) (h2 : 2 ≤ n) (hn : n ≤ 16384) : Sound (Dsk.new n) ⟨0, n, 0, 0, [], 0⟩ := by
  refine ⟨Dsk.Fine.new (by omega) hn, rfl, rfl, h2, fun _ => ⟨rfl, rfl, ?_⟩, fun e => absurd rfl e⟩
  show openS (Dsk.text (fun _ => sec0) 0 n) n = some (0, 0, [])
  rw [Dsk.text_zero]
  unfold openS
  have e : (List.replicate (64 * n) (0 : UInt8)).take 64 = pad [0] := by
    rw [List.take_replicate, Nat.min_eq_left (by omega)]; rfl
  rw [e, if_pos rfl]
end Go.Proofs.YtdmbadkpendfhaaGreatDoor
