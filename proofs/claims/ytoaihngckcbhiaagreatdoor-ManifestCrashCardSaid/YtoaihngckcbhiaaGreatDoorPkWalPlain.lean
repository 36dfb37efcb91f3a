/- WalPlain -/
import Derived.Test.YtoaihngckcbhiaaGreatDoorPkCrc
import Derived.Test.YtoaihngckcbhiaaGreatDoorPkDiskPlain
namespace Go.Proofs.YtoaihngckcbhiaaGreatDoor.Wal
open Crc (le val sealT)
def pad (s : List UInt8) : List UInt8 := s ++ List.replicate ((s.length + 63) / 64 * 64 - s.length) 0
theorem pad_length (s : List UInt8) : (pad s).length = (s.length + 63) / 64 * 64 := by simp [pad]; omega
theorem pad_mod (s : List UInt8) : (pad s).length % 64 = 0 := by rw [pad_length]; omega
def textE (s : List UInt8) : Option (List UInt8) := if s.length ≤ 65535 then some (le 2 s.length ++ s) else none
def textsE : List (List UInt8) → Option (List UInt8)
  | [] => some []
  | s :: l => (textE s).bind fun a => (textsE l).map (a ++ ·)
def rowE (l : List (List UInt8)) : Option (List UInt8) := if l.length ≤ 65535 then (textsE l).map (le 2 l.length ++ ·) else none
def groupE (l : List (List UInt8)) : Option (List UInt8) := (rowE l).map fun s => pad (le 4 s.length ++ s)
theorem textsE_append (a b : List (List UInt8)) : textsE (a ++ b) = (textsE a).bind fun x => (textsE b).map (x ++ ·) := by
  induction a with
  | nil => cases h : textsE b <;> simp [textsE, h]
  | cons s a ih =>
    simp only [List.cons_append, textsE, ih]
    cases textE s with
    | none => rfl
    | some x =>
      cases textsE a with
      | none => rfl
      | some y =>
        cases textsE b with
        | none => rfl
        | some z => simp
def readT (s : List UInt8) : Option (List UInt8 × Nat) :=
  if s.length < 2 then none else if 2 + val (s.take 2) ≤ s.length then some ((s.take (2 + val (s.take 2))).drop 2, 2 + val (s.take 2)) else none
def readTs : Nat → List UInt8 → Option (List (List UInt8) × List UInt8)
  | 0, s => some ([], s)
  | k + 1, s => (readT s).bind fun p => (readTs k (s.drop p.2)).map fun q => (p.1 :: q.1, q.2)
def readRow (s : List UInt8) : Option (List (List UInt8)) :=
  if s.length < 2 then none else (readTs (val (s.take 2)) (s.drop 2)).bind fun q => if q.2 = [] then some q.1 else none
theorem readT_some {s t : List UInt8} {n : Nat} (h : readT s = some (t, n)) : textE t = some (s.take n) ∧ n ≤ s.length ∧ 2 ≤ n := by
  unfold readT at h
  split at h
  · cases h
  · split at h
    · rename_i h1 h2
      simp only [Option.some.injEq, Prod.mk.injEq] at h
      obtain ⟨rfl, rfl⟩ := h
      have hv : val (s.take 2) < 256 ^ 2 := by
        have := Crc.val_lt (s.take 2)
        rwa [List.length_take, Nat.min_eq_left (by omega)] at this
      have hl : ((s.take (2 + val (s.take 2))).drop 2).length = val (s.take 2) := by rw [List.length_drop, List.length_take]; omega
      refine ⟨?_, h2, by omega⟩
      unfold textE
      rw [hl, if_pos (by omega)]
      have e : le 2 (val (s.take 2)) = s.take 2 := by
        have := Crc.le_val (s.take 2)
        rwa [List.length_take, Nat.min_eq_left (by omega)] at this
      rw [e]
      congr 1
      generalize val (s.take 2) = v at *
      have h3 : s.take 2 = (s.take (2 + v)).take 2 := by rw [List.take_take, Nat.min_eq_left (by omega)]
      rw [h3, List.take_append_drop]
    · cases h
theorem readTs_some {k : Nat} {s r : List UInt8} {l : List (List UInt8)} (h : readTs k s = some (l, r)) : l.length = k ∧ ∃ a, textsE l = some a ∧ a ++ r = s := by
  induction k generalizing s l r with
  | zero =>
    simp only [readTs, Option.some.injEq, Prod.mk.injEq] at h
    obtain ⟨rfl, rfl⟩ := h
    exact ⟨rfl, [], rfl, rfl⟩
  | succ k ih =>
    simp only [readTs] at h
    cases h1 : readT s with
    | none => rw [h1] at h; cases h
    | some p =>
      rw [h1] at h
      simp only [Option.bind_some] at h
      cases h2 : readTs k (s.drop p.2) with
      | none => rw [h2] at h; cases h
      | some q =>
        rw [h2] at h
        simp only [Option.map_some, Option.some.injEq, Prod.mk.injEq] at h
        obtain ⟨rfl, rfl⟩ := h
        obtain ⟨e1, _, _⟩ := readT_some (t := p.1) (n := p.2) h1
        obtain ⟨e2, a, e3, e4⟩ := ih (l := q.1) (r := q.2) h2
        refine ⟨by simp [e2], s.take p.2 ++ a, by simp [textsE, e1, e3], ?_⟩
        rw [List.append_assoc, e4, List.take_append_drop]
theorem readRow_some {s : List UInt8} {l : List (List UInt8)} (h : readRow s = some l) : rowE l = some s := by
  unfold readRow at h
  split at h
  · cases h
  · rename_i h0
    cases h1 : readTs (val (s.take 2)) (s.drop 2) with
    | none => rw [h1] at h; cases h
    | some q =>
      rw [h1] at h
      simp only [Option.bind_some] at h
      split at h
      · rename_i hq
        simp only [Option.some.injEq] at h
        subst h
        obtain ⟨e1, a, e2, e3⟩ := readTs_some (l := q.1) (r := q.2) h1
        have hv : val (s.take 2) < 256 ^ 2 := by
          have := Crc.val_lt (s.take 2)
          rwa [List.length_take, Nat.min_eq_left (by omega)] at this
        unfold rowE
        rw [e1, if_pos (by omega), e2]
        simp only [Option.map_some]
        have e : le 2 (val (s.take 2)) = s.take 2 := by
          have := Crc.le_val (s.take 2)
          rwa [List.length_take, Nat.min_eq_left (by omega)] at this
        rw [e, ← List.append_nil a, ← hq, e3, List.take_append_drop]
      · cases h
def nextG (s : List UInt8) : Option (List (List UInt8) × Nat) :=
  if s.length < 64 then none else if val (s.take 4) ≤ s.length - 4 then
    (readRow ((s.take (4 + val (s.take 4))).drop 4)).bind fun l =>
      if pad (s.take (4 + val (s.take 4))) = s.take (pad (s.take (4 + val (s.take 4)))).length then some (l, (pad (s.take (4 + val (s.take 4)))).length) else none
  else none
def mark (gen used : Nat) : List UInt8 := pad (sealT ([76, 79, 71, 49] ++ le 8 gen ++ le 4 used))
theorem mark_length (gen used : Nat) : (mark gen used).length = 64 := by
  unfold mark
  rw [pad_length, Crc.seal_length]
  simp [Crc.le_length]
def readGs : Nat → List UInt8 → Option (List (List (List UInt8)))
  | 0, s => if s = [] then some [] else none
  | k + 1, s => if s = [] then some [] else (nextG s).bind fun p => (readGs k (s.drop p.2)).map (p.1 :: ·)
theorem nextG_some {s : List UInt8} {l : List (List UInt8)} {k : Nat} (h : nextG s = some (l, k)) : 64 ≤ k ∧ k % 64 = 0 ∧ k ≤ s.length := by
  unfold nextG at h
  split at h
  · cases h
  · split at h
    · cases h1 : readRow ((s.take (4 + val (s.take 4))).drop 4) with
      | none => rw [h1] at h; cases h
      | some q =>
        rw [h1] at h
        simp only [Option.bind_some] at h
        split at h
        · rename_i h0 h2 h3
          simp only [Option.some.injEq, Prod.mk.injEq] at h
          obtain ⟨_, rfl⟩ := h
          have hl := congrArg List.length h3
          rw [List.length_take] at hl
          have hp := pad_length (s.take (4 + val (s.take 4)))
          rw [List.length_take] at hp
          refine ⟨by rw [hp]; omega, pad_mod _, by omega⟩
        · cases h
    · cases h
theorem readGs_step {f : Nat} {s S : List UInt8} {u : Nat} {l : List (List (List UInt8))} {t : List (List UInt8)} {k : Nat} (hS : S ≠ []) (h : readGs u s = (readGs (f + 1) S).map (l ++ ·)) (hn : nextG S = some (t, k)) :
    readGs u s = (readGs f (S.drop k)).map ((l ++ [t]) ++ ·) := by
  rw [h]
  simp only [readGs, if_neg hS, hn, Option.bind_some, Option.map_map]
  congr 1
  funext q
  simp
theorem readGs_none {f : Nat} {s S : List UInt8} {u : Nat} {l : List (List (List UInt8))} (hS : S ≠ []) (h : readGs u s = (readGs (f + 1) S).map (l ++ ·)) (hn : nextG S = none) : readGs u s = none := by
  rw [h]
  simp [readGs, hS, hn]
theorem readGs_nil (f : Nat) : readGs f [] = some [] := by cases f <;> rfl
def openS (s : List UInt8) (n : Nat) : Option (Nat × Nat × List (List (List UInt8))) :=
  if s.take 64 = pad [0] then some (0, 0, []) else
    if s.take 64 = mark (val (((s.take 64).take 12).drop 4)) (val (((s.take 64).take 16).drop 12)) ∧ val (((s.take 64).take 16).drop 12) ≤ n - 1 then
      (readGs (val (((s.take 64).take 16).drop 12)) ((s.drop 64).take (64 * val (((s.take 64).take 16).drop 12)))).map fun l => (val (((s.take 64).take 12).drop 4), val (((s.take 64).take 16).drop 12), l)
    else none
end Go.Proofs.YtoaihngckcbhiaaGreatDoor.Wal
