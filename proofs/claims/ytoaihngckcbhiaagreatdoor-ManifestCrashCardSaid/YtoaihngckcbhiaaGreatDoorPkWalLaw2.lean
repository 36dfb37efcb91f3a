/- WalLaw2 -/
import Derived.Test.YtoaihngckcbhiaaGreatDoorPkWalPlain
import Derived.Test.YtoaihngckcbhiaaGreatDoorPkWalRep
import Derived.Test.YtoaihngckcbhiaaGreatDoorPkBoth
namespace Go.Proofs.YtoaihngckcbhiaaGreatDoor.Wal
open Crc (le val sealT)
theorem val_le_small (n v : Nat) (h : v < 256 ^ n) : val (le n v) = v := by rw [Crc.val_le, Nat.mod_eq_of_lt h]
theorem readT_of {t a : List UInt8} (R : List UInt8) (h : textE t = some a) : readT (a ++ R) = some (t, a.length) := by
  unfold textE at h
  split at h
  · rename_i hl
    simp only [Option.some.injEq] at h
    subst h
    have h1 : (le 2 t.length).length = 2 := Crc.le_length _ _
    have h2 : ((le 2 t.length ++ t) ++ R).take 2 = le 2 t.length := by rw [List.append_assoc, List.take_left' h1]
    unfold readT
    rw [if_neg (by simp [h1]), h2, val_le_small 2 _ (by show t.length < 65536; omega), if_pos (by simp [h1])]
    have h3 : ((le 2 t.length ++ t) ++ R).take (2 + t.length) = le 2 t.length ++ t := List.take_left' (by simp [h1])
    rw [h3, List.drop_left' h1]
    simp [h1]
  · cases h
theorem readTs_of : ∀ (l : List (List UInt8)) (a R : List UInt8), textsE l = some a → readTs l.length (a ++ R) = some (l, R)
  | [], a, R, h => by
    simp only [textsE, Option.some.injEq] at h
    subst h; rfl
  | t :: l, a, R, h => by
    simp only [textsE] at h
    cases h1 : textE t with
    | none => rw [h1] at h; cases h
    | some x =>
      rw [h1] at h
      simp only [Option.bind_some] at h
      cases h2 : textsE l with
      | none => rw [h2] at h; cases h
      | some y =>
        rw [h2] at h
        simp only [Option.map_some, Option.some.injEq] at h
        subst h
        simp only [List.length_cons, readTs]
        rw [List.append_assoc, readT_of _ h1]
        simp only [Option.bind_some]
        rw [List.drop_left' rfl, readTs_of l y R h2]
        rfl
theorem readRow_of {l : List (List UInt8)} {a : List UInt8} (h : rowE l = some a) : readRow a = some l := by
  unfold rowE at h
  split at h
  · rename_i hl
    cases h1 : textsE l with
    | none => rw [h1] at h; cases h
    | some y =>
      rw [h1] at h
      simp only [Option.map_some, Option.some.injEq] at h
      subst h
      have h2 : (le 2 l.length).length = 2 := Crc.le_length _ _
      unfold readRow
      rw [if_neg (by simp [h2]), List.take_left' h2, val_le_small 2 _ (by show l.length < 65536; omega), List.drop_left' h2]
      have := readTs_of l y [] h1
      rw [List.append_nil] at this
      rw [this]
      rfl
  · cases h
theorem groupE_some {l : List (List UInt8)} {s : List UInt8} (h : groupE l = some s) : ∃ a, rowE l = some a ∧ s = pad (le 4 a.length ++ a) := by
  unfold groupE at h
  cases h1 : rowE l with
  | none => rw [h1] at h; cases h
  | some a =>
    rw [h1] at h
    simp only [Option.map_some, Option.some.injEq] at h
    exact ⟨a, rfl, h.symm⟩
theorem groupE_length {l : List (List UInt8)} {s : List UInt8} (h : groupE l = some s) : s.length % 64 = 0 ∧ 64 ≤ s.length := by
  obtain ⟨a, _, rfl⟩ := groupE_some h
  have := pad_length (le 4 a.length ++ a)
  simp only [List.length_append, Crc.le_length] at this
  constructor
  · exact pad_mod _
  · rw [this]; omega
theorem nextG_of {l : List (List UInt8)} {s : List UInt8} (h : groupE l = some s) (hb : s.length < 4294967296) (R : List UInt8) : nextG (s ++ R) = some (l, s.length) := by
  obtain ⟨h64, h0⟩ := groupE_length h
  obtain ⟨a, ha, rfl⟩ := groupE_some h
  have hl4 : (le 4 a.length).length = 4 := Crc.le_length _ _
  have hpl := pad_length (le 4 a.length ++ a)
  rw [List.length_append, hl4] at hpl
  obtain ⟨z, hz⟩ : ∃ z, pad (le 4 a.length ++ a) = le 4 a.length ++ a ++ z := ⟨_, rfl⟩
  have e4 : (pad (le 4 a.length ++ a) ++ R).take 4 = le 4 a.length := by rw [hz, List.append_assoc, List.append_assoc, List.take_left' hl4]
  have hv : val (le 4 a.length) = a.length := val_le_small 4 _ (by show a.length < 4294967296; omega)
  have e5 : (pad (le 4 a.length ++ a) ++ R).take (4 + a.length) = le 4 a.length ++ a := by rw [hz, List.append_assoc, List.take_left' (by rw [List.length_append, hl4])]
  unfold nextG
  rw [e4, hv, e5, if_neg (by rw [List.length_append]; omega), if_pos (by rw [List.length_append]; omega), List.drop_left' hl4, readRow_of ha]
  simp only [Option.bind_some]
  rw [List.take_left' rfl, if_pos rfl]
def groupsE : List (List (List UInt8)) → Option (List UInt8)
  | [] => some []
  | l :: L => (groupE l).bind fun a => (groupsE L).map (a ++ ·)
theorem groupsE_snoc {L : List (List (List UInt8))} {S : List UInt8} (h : groupsE L = some S) {l : List (List UInt8)} {s : List UInt8} (hl : groupE l = some s) : groupsE (L ++ [l]) = some (S ++ s) := by
  induction L generalizing S with
  | nil =>
    simp only [groupsE, Option.some.injEq] at h
    subst h
    simp [groupsE, hl]
  | cons t L ih =>
    simp only [groupsE] at h
    cases h1 : groupE t with
    | none => rw [h1] at h; cases h
    | some a =>
      rw [h1] at h
      simp only [Option.bind_some] at h
      cases h2 : groupsE L with
      | none => rw [h2] at h; cases h
      | some b =>
        rw [h2] at h
        simp only [Option.map_some, Option.some.injEq] at h
        subst h
        simp only [List.cons_append, groupsE, h1, ih h2, Option.bind_some, Option.map_some, List.append_assoc]
theorem nextG_sound {S : List UInt8} {l : List (List UInt8)} {k : Nat} (h : nextG S = some (l, k)) : groupE l = some (S.take k) := by
  unfold nextG at h
  split at h
  · cases h
  · split at h
    · rename_i h0 hv
      cases h1 : readRow ((S.take (4 + val (S.take 4))).drop 4) with
      | none => rw [h1] at h; cases h
      | some q =>
        rw [h1] at h
        simp only [Option.bind_some] at h
        split at h
        · rename_i h3
          simp only [Option.some.injEq, Prod.mk.injEq] at h
          obtain ⟨rfl, rfl⟩ := h
          have hr := readRow_some h1
          have hl : ((S.take (4 + val (S.take 4))).drop 4).length = val (S.take 4) := by rw [List.length_drop, List.length_take]; omega
          unfold groupE
          rw [hr]
          simp only [Option.map_some]
          rw [hl]
          have e : le 4 (val (S.take 4)) = S.take 4 := by
            have := Crc.le_val (S.take 4)
            rwa [List.length_take, Nat.min_eq_left (by omega)] at this
          rw [e]
          have h5 : S.take 4 ++ (S.take (4 + val (S.take 4))).drop 4 = S.take (4 + val (S.take 4)) := by
            generalize val (S.take 4) = v at *
            have h6 : S.take 4 = (S.take (4 + v)).take 4 := by rw [List.take_take, Nat.min_eq_left (by omega)]
            rw [h6, List.take_append_drop]
          rw [h5, ← h3]
        · cases h
    · cases h
theorem readGs_sound : ∀ (f : Nat) (S : List UInt8) (L : List (List (List UInt8))), readGs f S = some L → groupsE L = some S
  | 0, S, L, h => by
    simp only [readGs] at h
    split at h
    · rename_i e
      simp only [Option.some.injEq] at h
      subst h; subst e; rfl
    · cases h
  | f + 1, S, L, h => by
    simp only [readGs] at h
    split at h
    · rename_i e
      simp only [Option.some.injEq] at h
      subst h; subst e; rfl
    · cases h1 : nextG S with
      | none => rw [h1] at h; cases h
      | some p =>
        rw [h1] at h
        simp only [Option.bind_some] at h
        cases h2 : readGs f (S.drop p.2) with
        | none => rw [h2] at h; cases h
        | some q =>
          rw [h2] at h
          simp only [Option.map_some, Option.some.injEq] at h
          subst h
          have g1 := nextG_sound (l := p.1) (k := p.2) h1
          have g2 := readGs_sound f _ _ h2
          simp only [groupsE, g1, g2, Option.bind_some, Option.map_some, List.take_append_drop]
theorem readGs_of : ∀ (L : List (List (List UInt8))) (S : List UInt8) (f : Nat), groupsE L = some S → S.length ≤ 64 * f → S.length < 4294967296 → readGs f S = some L
  | [], S, f, h, _, _ => by
    simp only [groupsE, Option.some.injEq] at h
    subst h; exact readGs_nil f
  | l :: L, S, f, h, hf, hb => by
    simp only [groupsE] at h
    cases h1 : groupE l with
    | none => rw [h1] at h; cases h
    | some a =>
      rw [h1] at h
      simp only [Option.bind_some] at h
      cases h2 : groupsE L with
      | none => rw [h2] at h; cases h
      | some b =>
        rw [h2] at h
        simp only [Option.map_some, Option.some.injEq] at h
        subst h
        obtain ⟨g1, g2⟩ := groupE_length h1
        rw [List.length_append] at hf hb
        obtain ⟨f, rfl⟩ : ∃ f', f = f' + 1 := ⟨f - 1, by omega⟩
        have hne : ¬ (a ++ b = []) := fun e => by
          have := congrArg List.length e
          rw [List.length_append, List.length_nil] at this
          omega
        simp only [readGs, if_neg hne, nextG_of h1 (by omega) b, Option.bind_some]
        rw [List.drop_left' rfl, readGs_of L b f h2 (by omega) (by omega)]
        rfl
theorem mark_form (gen used : Nat) : ∃ z, mark gen used = [76, 79, 71, 49] ++ (le 8 gen ++ (le 4 used ++ z)) := by
  unfold mark pad Crc.sealT
  generalize List.replicate _ (0 : UInt8) = z
  generalize le 4 (Crc.sum _) = y
  exact ⟨y ++ z, by simp only [List.append_assoc]⟩
theorem mark_gen (gen used : Nat) : ((mark gen used).take 12).drop 4 = le 8 gen := by
  obtain ⟨z, e⟩ := mark_form gen used
  have h8 : (le 8 gen).length = 8 := Crc.le_length _ _
  rw [e]
  have e1 : ([76, 79, 71, 49] ++ (le 8 gen ++ (le 4 used ++ z))).take 12 = [76, 79, 71, 49] ++ le 8 gen := by
    rw [← List.append_assoc]
    exact List.take_left' (by rw [List.length_append, h8]; rfl)
  rw [e1]
  exact List.drop_left' rfl
theorem mark_used (gen used : Nat) : ((mark gen used).take 16).drop 12 = le 4 used := by
  obtain ⟨z, e⟩ := mark_form gen used
  have h8 : (le 8 gen).length = 8 := Crc.le_length _ _
  have h4 : (le 4 used).length = 4 := Crc.le_length _ _
  rw [e]
  have e1 : ([76, 79, 71, 49] ++ (le 8 gen ++ (le 4 used ++ z))).take 16 = ([76, 79, 71, 49] ++ le 8 gen) ++ le 4 used := by
    rw [← List.append_assoc, ← List.append_assoc]
    exact List.take_left' (by rw [List.length_append, List.length_append, h8, h4]; rfl)
  rw [e1]
  exact List.drop_left' (by rw [List.length_append, h8]; rfl)
theorem mark_ne (gen used : Nat) : mark gen used ≠ pad [0] := fun h => by
  obtain ⟨z, e⟩ := mark_form gen used
  rw [e] at h
  have := congrArg (fun l : List UInt8 => l.head?) h
  revert this
  simp [pad]
theorem openS_mark {gen used n : Nat} {L : List (List (List UInt8))} {S R : List UInt8} (hg : gen < 18446744073709551616) (hu : used ≤ n - 1) (hb : used < 60000000) (hL : groupsE L = some S) (hS : S.length = 64 * used) :
    openS (mark gen used ++ (S ++ R)) n = some (gen, used, L) := by
  have hml := mark_length gen used
  have v1 : val (le 8 gen) = gen := val_le_small 8 _ hg
  have v2 : val (le 4 used) = used := val_le_small 4 _ (by show used < 4294967296; omega)
  unfold openS
  rw [List.take_left' hml, List.drop_left' hml, if_neg (mark_ne _ _), mark_gen, mark_used, v1, v2, if_pos ⟨rfl, hu⟩, List.take_left' hS, readGs_of L S used hL (by omega) (by omega)]
  rfl
theorem openS_some {s : List UInt8} {n gen used : Nat} {L : List (List (List UInt8))} (h : openS s n = some (gen, used, L)) (hs : 64 * n ≤ s.length) (hn : 1 ≤ n) :
    used ≤ n - 1 ∧ gen < 18446744073709551616 ∧ groupsE L = some ((s.drop 64).take (64 * used)) ∧ ((s.take 64 = pad [0] ∧ gen = 0 ∧ used = 0) ∨ s.take 64 = mark gen used) := by
  unfold openS at h
  split at h
  · rename_i h0
    simp only [Option.some.injEq, Prod.mk.injEq] at h
    obtain ⟨rfl, rfl, rfl⟩ := h
    exact ⟨by omega, by decide, rfl, .inl ⟨h0, rfl, rfl⟩⟩
  · split at h
    · rename_i hm
      obtain ⟨h1, h2⟩ := hm
      cases h3 : readGs (val (((s.take 64).take 16).drop 12)) ((s.drop 64).take (64 * val (((s.take 64).take 16).drop 12))) with
      | none => rw [h3] at h; cases h
      | some q =>
        rw [h3] at h
        simp only [Option.map_some, Option.some.injEq, Prod.mk.injEq] at h
        obtain ⟨rfl, rfl, rfl⟩ := h
        have hv := Crc.val_lt (((s.take 64).take 12).drop 4)
        have hl : (((s.take 64).take 12).drop 4).length = 8 := by simp only [List.length_drop, List.length_take]; omega
        rw [hl] at hv
        exact ⟨h2, hv, readGs_sound _ _ _ h3, .inr h1⟩
    · cases h
theorem openS_grown {s : List UInt8} {n gen used : Nat} {L : List (List (List UInt8))} (h : openS s n = some (gen, used, L)) (hs : 64 * n ≤ s.length) (hn : 1 ≤ n) (hn2 : n ≤ 16384) {l : List (List UInt8)} {a R : List UInt8} (hl : groupE l = some a) (hk : used + a.length / 64 ≤ n - 1) :
    openS (mark gen (used + a.length / 64) ++ ((s.drop 64).take (64 * used) ++ (a ++ R))) n = some (gen, used + a.length / 64, L ++ [l]) := by
  obtain ⟨h1, h2, h3, _⟩ := openS_some h hs hn
  obtain ⟨g1, g2⟩ := groupE_length hl
  have := openS_mark (gen := gen) (used := used + a.length / 64) (n := n) (L := L ++ [l]) (S := (s.drop 64).take (64 * used) ++ a) (R := R) h2 hk (by omega) (groupsE_snoc h3 hl) (by rw [List.length_append, List.length_take, List.length_drop]; omega)
  rwa [List.append_assoc] at this
theorem openS_same {s t : List UInt8} {n gen used : Nat} {L : List (List (List UInt8))} (h : openS s n = some (gen, used, L)) (hs : 64 * n ≤ s.length) (hn : 1 ≤ n) (e : s.take (64 + 64 * used) = t.take (64 + 64 * used)) : openS t n = some (gen, used, L) := by
  obtain ⟨h1, h2, h3, _⟩ := openS_some h hs hn
  have e1 : t.take 64 = s.take 64 := by
    have := congrArg (List.take 64) e
    rw [List.take_take, List.take_take, Nat.min_eq_left (by omega)] at this
    exact this.symm
  have e2 : (t.drop 64).take (64 * used) = (s.drop 64).take (64 * used) := by
    have := congrArg (List.drop 64) e
    rw [List.drop_take, List.drop_take, Nat.add_sub_cancel_left] at this
    exact this.symm
  rw [← h]
  unfold openS at h ⊢
  rw [e1]
  split
  · rfl
  · rename_i h0
    rw [if_neg h0] at h
    split
    · rename_i hm
      rw [if_pos hm] at h
      cases h4 : readGs (val (((s.take 64).take 16).drop 12)) ((s.drop 64).take (64 * val (((s.take 64).take 16).drop 12))) with
      | none => rw [h4] at h; cases h
      | some q =>
        rw [h4] at h
        simp only [Option.map_some, Option.some.injEq, Prod.mk.injEq] at h
        obtain ⟨_, hu, _⟩ := h
        rw [hu] at h4 ⊢
        rw [e2, h4]
    · rfl
end Go.Proofs.YtoaihngckcbhiaaGreatDoor.Wal
namespace Go.Proofs.YtoaihngckcbhiaaGreatDoor
open Wal
def doS : List (Dsk → Dsk × Int) → Dsk → Dsk × Int
  | [], D => (D, 0)
  | f :: l, D => if (f D).2 = 0 then doS l (f D).1 else f D
theorem doS_cons (f : Dsk → Dsk × Int) (l : List (Dsk → Dsk × Int)) (D : Dsk) : doS (f :: l) D = if (f D).2 = 0 then doS l (f D).1 else f D := rfl
def WLog.acts (L : WLog) (s : List UInt8) : List (Dsk → Dsk × Int) :=
  [fun D => D.write ((L.from_ + 1 + L.used : Nat) : Int) s, Dsk.flush, fun D => D.write (L.from_ : Int) (Wal.mark L.gen (L.used + s.length / 64)), Dsk.flush]
def WLog.racts (L : WLog) : List (Dsk → Dsk × Int) :=
  [fun D => D.write (L.from_ : Int) (Wal.mark ((L.gen + 1) % 18446744073709551616) 0), Dsk.flush]
def WLog.fell (L : WLog) (k : Int) : WLog := { L with fault := k }
def WLog.grown (L : WLog) (l : List (List UInt8)) (k : Nat) : WLog := { L with used := L.used + k, groups := L.groups ++ [l] }
def WLog.emptied (L : WLog) : WLog := { L with gen := (L.gen + 1) % 18446744073709551616, used := 0, groups := [] }
def wappend (D : Dsk) (L : WLog) (l : List (List UInt8)) : Dsk × WLog × Int :=
  if L.fault ≠ 0 then (D, L, L.fault) else match groupE l with
  | none => (D, L, 5)
  | some s => if L.n - 1 - L.used < s.length / 64 then (D, L, 4) else
    if (doS (L.acts s) D).2 = 0 then ((doS (L.acts s) D).1, L.grown l (s.length / 64), 0) else ((doS (L.acts s) D).1, L.fell (doS (L.acts s) D).2, (doS (L.acts s) D).2)
def wreset (D : Dsk) (L : WLog) : Dsk × WLog × Int :=
  if L.fault ≠ 0 then (D, L, L.fault) else
    if (doS L.racts D).2 = 0 then ((doS L.racts D).1, L.emptied, 0) else ((doS L.racts D).1, L.fell (doS L.racts D).2, (doS L.racts D).2)
theorem doS_loose (c : Nat) : ∀ (l : List (Dsk → Dsk × Int)) (D : Dsk), (∀ f ∈ l, ∀ D, (f D).1.loose.length ≤ D.loose.length + c) → (doS l D).1.loose.length ≤ D.loose.length + c * l.length
  | [], D, _ => by simp [doS]
  | f :: l, D, h => by
    rw [doS_cons]
    have h1 := h f List.mem_cons_self D
    rw [List.length_cons, Nat.mul_add]
    split
    · have := doS_loose c l (f D).1 (fun g hg => h g (List.mem_cons_of_mem _ hg))
      omega
    · have : c ≤ c * l.length + c * 1 := by omega
      omega
def puts (a : Nat) (s : List UInt8) : Nat → List (Nat × List UInt8)
  | 0 => []
  | n + 1 => (a, s.take 64) :: puts (a + 1) (s.drop 64) n
theorem writes_spec (D : Dsk) (hd : D.down = false) (a : Nat) (s : List UInt8) (n : Nat) :
    (Dsk.writes D a s n).1.base = D.base ∧ (Dsk.writes D a s n).1.n = D.n ∧
    (((Dsk.writes D a s n).2 = 0 ∧ (Dsk.writes D a s n).1.down = false ∧ (Dsk.writes D a s n).1.loose = D.loose ++ puts a s n) ∨
     ((Dsk.writes D a s n).2 = 40 ∧ (Dsk.writes D a s n).1.down = true ∧ ∃ P, (Dsk.writes D a s n).1.loose = D.loose ++ P ∧ ∀ p ∈ P, a ≤ p.1 ∧ p.1 < a + n)) := by
  induction n generalizing D a s with
  | zero => exact ⟨rfl, rfl, .inl ⟨rfl, hd, by simp [Dsk.writes, puts]⟩⟩
  | succ n ih =>
    simp only [Dsk.writes]
    split
    · exact ⟨rfl, rfl, .inr ⟨rfl, rfl, [], by simp, by simp⟩⟩
    · obtain ⟨h1, h2, h3⟩ := ih { D with loose := D.loose ++ [(a, s.take 64)], left := max (D.left - 1) (-1) } hd (a + 1) (s.drop 64)
      refine ⟨h1, h2, ?_⟩
      rcases h3 with ⟨g1, g2, g3⟩ | ⟨g1, g2, P, g3, g4⟩
      · exact .inl ⟨g1, g2, by rw [g3]; simp [puts]⟩
      · refine .inr ⟨g1, g2, (a, s.take 64) :: P, by rw [g3]; simp, fun p hp => ?_⟩
        rcases List.mem_cons.1 hp with rfl | hp
        · exact ⟨Nat.le_refl _, by show a < a + (n + 1); omega⟩
        · have := g4 p hp; omega
theorem lay_far (f : Nat → List UInt8) (l : List (Nat × List UInt8)) (k : Nat) (h : ∀ p ∈ l, p.1 ≠ k) : Dsk.lay f l k = f k := by
  induction l generalizing f with
  | nil => rfl
  | cons p l ih =>
    show Dsk.lay _ l k = _
    rw [ih _ (fun q hq => h q (List.mem_cons_of_mem _ hq))]
    rw [if_neg (fun e => h p List.mem_cons_self e.symm)]
theorem puts_mem {a : Nat} {s : List UInt8} {n : Nat} : ∀ p ∈ puts a s n, a ≤ p.1 ∧ p.1 < a + n := by
  induction n generalizing a s with
  | zero => intro p hp; simp [puts] at hp
  | succ n ih =>
    intro p hp
    simp only [puts] at hp
    rcases List.mem_cons.1 hp with rfl | hp
    · exact ⟨Nat.le_refl _, by show a < a + (n + 1); omega⟩
    · have := ih p hp; omega
theorem text_puts (f : Nat → List UInt8) (a : Nat) (s : List UInt8) (n : Nat) (hs : s.length = 64 * n) : Dsk.text (Dsk.lay f (puts a s n)) a n = s := by
  induction n generalizing f a s with
  | zero => exact (List.eq_nil_of_length_eq_zero (by omega)).symm
  | succ n ih =>
    show Dsk.lay _ (puts (a + 1) (s.drop 64) n) a ++ Dsk.text (Dsk.lay _ (puts (a + 1) (s.drop 64) n)) (a + 1) n = s
    rw [lay_far _ _ _ (fun p hp => by have := puts_mem p hp; omega), ih _ _ _ (by rw [List.length_drop]; omega), if_pos rfl, List.take_append_drop]
end Go.Proofs.YtoaihngckcbhiaaGreatDoor
