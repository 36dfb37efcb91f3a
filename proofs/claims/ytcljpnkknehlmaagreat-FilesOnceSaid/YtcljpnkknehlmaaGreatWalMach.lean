/- A log over a disk, as a machine: what is done one behind the other; what an append, and a reset, make. Plain mathematics. -/
import Derived.Test.YtcljpnkknehlmaaGreatWalRep
import Derived.Test.YtcljpnkknehlmaaGreatDiskLaw
import Derived.Test.YtcljpnkknehlmaaGreatWalLaw
namespace Go.Proofs.YtcljpnkknehlmaaGreat
open Wal

/-- What is done one behind the other, up to the first error. -/
def doS : List (Dsk → Dsk × Int) → Dsk → Dsk × Int
  | [], D => (D, 0)
  | f :: l, D => if (f D).2 = 0 then doS l (f D).1 else f D
theorem doS_cons (f : Dsk → Dsk × Int) (l : List (Dsk → Dsk × Int)) (D : Dsk) : doS (f :: l) D = if (f D).2 = 0 then doS l (f D).1 else f D := rfl
/-- What an append does to the disk. -/
def WLog.acts (L : WLog) (s : List UInt8) : List (Dsk → Dsk × Int) :=
  [fun D => D.write ((L.from_ + 1 + L.used : Nat) : Int) s, Dsk.flush, fun D => D.write (L.from_ : Int) (Wal.mark L.gen (L.used + s.length / 64)), Dsk.flush]
/-- What a reset does to it. -/
def WLog.racts (L : WLog) : List (Dsk → Dsk × Int) :=
  [fun D => D.write (L.from_ : Int) (Wal.mark ((L.gen + 1) % 18446744073709551616) 0), Dsk.flush]
def WLog.fell (L : WLog) (k : Int) : WLog := { L with fault := k }
def WLog.grown (L : WLog) (l : List (List UInt8)) (k : Nat) : WLog := { L with used := L.used + k, groups := L.groups ++ [l] }
def WLog.emptied (L : WLog) : WLog := { L with gen := (L.gen + 1) % 18446744073709551616, used := 0, groups := [] }
def wappend (D : Dsk) (L : WLog) (l : List (List UInt8)) : Dsk × WLog × Int :=
  if L.fault ≠ 0 then (D, L, L.fault) else match groupE l with
  | none => (D, L, 5)
  | some s => if L.n - 1 - L.used < s.length / 64 then (D, L, 4) else
    if (doS (L.acts s) D).2 = 0 then ((doS (L.acts s) D).1, L.grown l (s.length / 64), 0) else ((doS (L.acts s) D).1, L.fell (doS (L.acts s) D).2, (doS (L.acts s) D).2)
def wreset (D : Dsk) (L : WLog) : Dsk × WLog × Int :=
  if L.fault ≠ 0 then (D, L, L.fault) else
    if (doS L.racts D).2 = 0 then ((doS L.racts D).1, L.emptied, 0) else ((doS L.racts D).1, L.fell (doS L.racts D).2, (doS L.racts D).2)

theorem doS_loose (c : Nat) : ∀ (l : List (Dsk → Dsk × Int)) (D : Dsk), (∀ f ∈ l, ∀ D, (f D).1.loose.length ≤ D.loose.length + c) → (doS l D).1.loose.length ≤ D.loose.length + c * l.length
  | [], D, _ => by simp [doS]
  | f :: l, D, h => by
    rw [doS_cons]
    have h1 := h f List.mem_cons_self D
    rw [List.length_cons, Nat.mul_add]
    split
    · have := doS_loose c l (f D).1 (fun g hg => h g (List.mem_cons_of_mem _ hg))
      omega
    · have : c ≤ c * l.length + c * 1 := by omega
      omega
theorem doS_n : ∀ (l : List (Dsk → Dsk × Int)) (D : Dsk), (∀ f ∈ l, ∀ D, (f D).1.n = D.n) → (doS l D).1.n = D.n
  | [], D, _ => rfl
  | f :: l, D, h => by
    rw [doS_cons]
    split
    · rw [doS_n l (f D).1 (fun g hg => h g (List.mem_cons_of_mem _ hg))]
      exact h f List.mem_cons_self D
    · exact h f List.mem_cons_self D

/-! ### What is written, and what a crash leaves of it -/
/-- The loose writes of sectors. -/
def puts (a : Nat) (s : List UInt8) : Nat → List (Nat × List UInt8)
  | 0 => []
  | n + 1 => (a, s.take 64) :: puts (a + 1) (s.drop 64) n
theorem writes_spec (D : Dsk) (hd : D.down = false) (a : Nat) (s : List UInt8) (n : Nat) :
    (Dsk.writes D a s n).1.base = D.base ∧ (Dsk.writes D a s n).1.n = D.n ∧
    (((Dsk.writes D a s n).2 = 0 ∧ (Dsk.writes D a s n).1.down = false ∧ (Dsk.writes D a s n).1.loose = D.loose ++ puts a s n) ∨
     ((Dsk.writes D a s n).2 = 40 ∧ (Dsk.writes D a s n).1.down = true ∧ ∃ P, (Dsk.writes D a s n).1.loose = D.loose ++ P ∧ ∀ p ∈ P, a ≤ p.1 ∧ p.1 < a + n)) := by
  induction n generalizing D a s with
  | zero => exact ⟨rfl, rfl, .inl ⟨rfl, hd, by simp [Dsk.writes, puts]⟩⟩
  | succ n ih =>
    simp only [Dsk.writes]
    split
    · exact ⟨rfl, rfl, .inr ⟨rfl, rfl, [], by simp, by simp⟩⟩
    · obtain ⟨h1, h2, h3⟩ := ih { D with loose := D.loose ++ [(a, s.take 64)], left := max (D.left - 1) (-1) } hd (a + 1) (s.drop 64)
      refine ⟨h1, h2, ?_⟩
      rcases h3 with ⟨g1, g2, g3⟩ | ⟨g1, g2, P, g3, g4⟩
      · exact .inl ⟨g1, g2, by rw [g3]; simp [puts]⟩
      · refine .inr ⟨g1, g2, (a, s.take 64) :: P, by rw [g3]; simp, fun p hp => ?_⟩
        rcases List.mem_cons.1 hp with rfl | hp
        · exact ⟨Nat.le_refl _, by show a < a + (n + 1); omega⟩
        · have := g4 p hp; omega
theorem lay_far (f : Nat → List UInt8) (l : List (Nat × List UInt8)) (k : Nat) (h : ∀ p ∈ l, p.1 ≠ k) : Dsk.lay f l k = f k := by
  induction l generalizing f with
  | nil => rfl
  | cons p l ih =>
    show Dsk.lay _ l k = _
    rw [ih _ (fun q hq => h q (List.mem_cons_of_mem _ hq))]
    rw [if_neg (fun e => h p List.mem_cons_self e.symm)]
theorem puts_mem {a : Nat} {s : List UInt8} {n : Nat} : ∀ p ∈ puts a s n, a ≤ p.1 ∧ p.1 < a + n := by
  induction n generalizing a s with
  | zero => intro p hp; simp [puts] at hp
  | succ n ih =>
    intro p hp
    simp only [puts] at hp
    rcases List.mem_cons.1 hp with rfl | hp
    · exact ⟨Nat.le_refl _, by show a < a + (n + 1); omega⟩
    · have := ih p hp; omega
theorem text_puts (f : Nat → List UInt8) (a : Nat) (s : List UInt8) (n : Nat) (hs : s.length = 64 * n) : Dsk.text (Dsk.lay f (puts a s n)) a n = s := by
  induction n generalizing f a s with
  | zero => exact (List.eq_nil_of_length_eq_zero (by omega)).symm
  | succ n ih =>
    show Dsk.lay _ (puts (a + 1) (s.drop 64) n) a ++ Dsk.text (Dsk.lay _ (puts (a + 1) (s.drop 64) n)) (a + 1) n = s
    rw [lay_far _ _ _ (fun p hp => by have := puts_mem p hp; omega), ih _ _ _ (by rw [List.length_drop]; omega), if_pos rfl, List.take_append_drop]
/-- The first sectors are as they were. -/
theorem text_first {f g : Nat → List UInt8} {n k : Nat} (hk : k ≤ n) (hf : ∀ i, i < n → (f i).length = 64) (hg : ∀ i, i < n → (g i).length = 64) (h : ∀ i, i < k → f i = g i) : (Dsk.text f 0 n).take (64 * k) = (Dsk.text g 0 n).take (64 * k) := by
  obtain ⟨m, rfl⟩ : ∃ m, n = k + m := ⟨n - k, by omega⟩
  rw [Dsk.text_add, Dsk.text_add, Dsk.text_congr 0 k (fun i _ h2 => h i (by omega))]
  rw [List.take_left' (Dsk.len_in (fun i _ h2 => hg i (by omega))), List.take_left' (Dsk.len_in (fun i _ h2 => hg i (by omega)))]

/-- A log, and the disk that it lies on. -/
structure Sound (D : Dsk) (L : WLog) : Prop where
  fine : D.Fine
  n : D.n = L.n
  at0 : L.from_ = 0
  min : 2 ≤ L.n
  calm : L.fault = 0 → D.loose = [] ∧ D.down = false ∧ openS (Dsk.text D.base 0 L.n) L.n = some (L.gen, L.used, L.groups)
  fell : L.fault ≠ 0 → L.fault = 40 ∧ D.down = true ∧ ∀ keep, openS (Dsk.text (D.crash keep).base 0 L.n) L.n = some (L.gen, L.used, L.groups)
theorem Sound.openS_crash {D : Dsk} {L : WLog} (h : Sound D L) (keep : List UInt8) : openS (Dsk.text (D.crash keep).base 0 L.n) L.n = some (L.gen, L.used, L.groups) := by
  by_cases hf : L.fault = 0
  · obtain ⟨h1, _, h3⟩ := h.calm hf
    rw [← h3]
    simp [Dsk.crash, Dsk.kept, h1, Dsk.keptFrom, Dsk.lay]
  · exact (h.fell hf).2.2 keep
theorem Sound.crash {D : Dsk} {L : WLog} (h : Sound D L) (keep : List UInt8) : Sound (D.crash keep) { L with fault := 0 } :=
  ⟨h.fine.crash keep, h.n, h.at0, h.min, fun _ => ⟨rfl, rfl, h.openS_crash keep⟩, fun hf => absurd rfl hf⟩
theorem Sound.fuse {D : Dsk} {L : WLog} (h : Sound D L) {n : Int} (hn : n ≤ 9223372036854775807) : Sound (D.fuse n) L :=
  ⟨h.fine.fuse hn, h.n, h.at0, h.min, h.calm, h.fell⟩
/-- Writes that a crash may leave, behind the log's sectors. -/
theorem openS_loose {D : Dsk} (hD : D.Fine) {n gen used : Nat} {G : List (List (List UInt8))} (hn : D.n = n) (h1 : 1 ≤ n) (h : openS (Dsk.text D.base 0 n) n = some (gen, used, G)) {P : List (Nat × List UInt8)} (hP : ∀ p ∈ P, p.1 < n ∧ p.2.length = 64 ∧ 1 + used ≤ p.1) :
    openS (Dsk.text (Dsk.lay D.base P) 0 n) n = some (gen, used, G) := by
  subst hn
  have hu := (openS_some h (by rw [Dsk.text_length hD.base 0 D.n (by omega)]; exact Nat.le_refl _) h1).1
  refine openS_same h (by rw [Dsk.text_length hD.base 0 D.n (by omega)]; exact Nat.le_refl _) h1 ?_
  rw [show 64 + 64 * used = 64 * (1 + used) by omega]
  refine text_first (by omega) hD.base (Dsk.lay_length hD.base (fun p hp => ⟨(hP p hp).1, (hP p hp).2.1⟩)) (fun i hi => ?_)
  rw [lay_far _ _ _ (fun p hp => by have := hP p hp; omega)]
theorem mark_writes (D : Dsk) (hd : D.down = false) (hl : D.loose = []) (gen used : Nat) (hn : 1 ≤ D.n) :
    D.write ((0 : Nat) : Int) (Wal.mark gen used) = if D.left = 0 then ({ D with down := true }, 40) else ({ D with loose := [(0, Wal.mark gen used)], left := max (D.left - 1) (-1) }, 0) := by
  have hm := Wal.mark_length gen used
  unfold Dsk.write
  rw [if_neg (by simp [hd]), hm, if_pos ⟨by decide, by simp [Dsk.inside]; omega⟩]
  show Dsk.writes D 0 _ 1 = _
  simp only [Dsk.writes]
  split
  · rfl
  · rw [hl, List.take_of_length_le (by rw [hm]; exact Nat.le_refl _)]
    rfl
theorem Sound.append {D : Dsk} {L : WLog} (h : Sound D L) (l : List (List UInt8)) : Sound (wappend D L l).1 (wappend D L l).2.1 := by
  unfold wappend
  by_cases hf : L.fault = 0
  · rw [if_neg (by simp [hf])]
    cases hg : groupE l with
    | none => exact h
    | some s =>
      dsimp only
      by_cases hfull : L.n - 1 - L.used < s.length / 64
      · rw [if_pos hfull]; exact h
      rw [if_neg hfull]
      obtain ⟨hl, hd, ho⟩ := h.calm hf
      have hmin := h.min
      have hn := h.n
      have hF := h.fine
      obtain ⟨h64, h640⟩ := groupE_length hg
      have htl : (Dsk.text D.base 0 L.n).length = 64 * L.n := Dsk.text_length hF.base 0 L.n (by omega)
      obtain ⟨hu, hgen, _, _⟩ := openS_some ho (by omega) (by omega)
      obtain ⟨k, hk⟩ : ∃ k, k = s.length / 64 := ⟨_, rfl⟩
      have hsl : s.length = 64 * k := by omega
      have hW : D.write ((L.from_ + 1 + L.used : Nat) : Int) s = Dsk.writes D (1 + L.used) s k := by
        unfold Dsk.write
        rw [if_neg (by simp [hd]), if_pos ⟨h64, by simp [Dsk.inside, h.at0]; omega⟩, ← hk, h.at0]
        rw [show (((0 + 1 + L.used : Nat) : Int)).toNat = 1 + L.used by omega]
      obtain ⟨w1, w2, w3⟩ := writes_spec D hd (1 + L.used) s k
      have hF1 := hF.writes (at_ := 1 + L.used) (s := s) (n := k) (by omega) (by omega)
      have hacts : doS (L.acts s) D = if (Dsk.writes D (1 + L.used) s k).2 = 0 then doS [Dsk.flush, fun D => D.write (L.from_ : Int) (Wal.mark L.gen (L.used + s.length / 64)), Dsk.flush] (Dsk.writes D (1 + L.used) s k).1 else Dsk.writes D (1 + L.used) s k := by
        unfold WLog.acts
        rw [doS_cons, hW]
      generalize Dsk.writes D (1 + L.used) s k = r at *
      obtain ⟨D1, e1⟩ := r
      simp only at *
      rcases w3 with ⟨rfl, g2, g3⟩ | ⟨rfl, g2, P, g3, g4⟩
      · rw [if_pos rfl] at hacts
        rw [hl, List.nil_append] at g3
        have hfl : D1.flush = ({ D1 with base := Dsk.lay D1.base D1.loose, loose := [] }, 0) := by unfold Dsk.flush; rw [if_neg (by simp [g2])]
        have hF2 := hF1.flush
        have hfd : D1.flush.1.down = false := by rw [hfl]; exact g2
        have hfl1 : D1.flush.1.loose = [] := by rw [hfl]
        have hfn : D1.flush.1.n = L.n := by rw [hfl]; exact w2.trans hn
        have hfb : D1.flush.1.base = Dsk.lay D.base (puts (1 + L.used) s k) := by rw [hfl]; show Dsk.lay D1.base D1.loose = _; rw [w1, g3]
        have hf2 : D1.flush.2 = 0 := by rw [hfl]
        rw [doS_cons, hf2, if_pos rfl, doS_cons, h.at0] at hacts
        have hmw := mark_writes D1.flush.1 hfd hfl1 L.gen (L.used + s.length / 64) (by omega)
        rw [hmw] at hacts
        have hloose : ∀ p ∈ puts (1 + L.used) s k, p.1 < L.n ∧ p.2.length = 64 ∧ 1 + L.used ≤ p.1 := fun p hp => by
          have a1 := hF1.loose p (by rw [g3]; exact hp)
          have a2 := puts_mem p hp
          exact ⟨by omega, a1.2, by omega⟩
        have hold := openS_loose hF hn (by omega) ho hloose
        rw [← hfb] at hold
        clear hmw hfl hW
        generalize D1.flush.1 = D2 at *
        by_cases hz : D2.left = 0
        · rw [if_pos hz] at hacts
          simp only at hacts
          rw [if_neg (by decide)] at hacts
          rw [hacts]
          simp only
          rw [if_neg (by decide)]
          refine ⟨⟨hF2.n1, hF2.n2, hF2.base, hF2.loose, hF2.left⟩, hfn, h.at0, h.min, fun e => by simp [WLog.fell] at e, fun _ => ⟨rfl, rfl, fun keep => ?_⟩⟩
          refine Eq.trans ?_ hold
          simp [Dsk.crash, Dsk.kept, hfl1, Dsk.keptFrom, Dsk.lay, WLog.fell]
        · rw [if_neg hz] at hacts
          simp only [if_pos] at hacts
          have hm := Wal.mark_length L.gen (L.used + s.length / 64)
          have hF3 : Dsk.Fine { D2 with loose := [(0, Wal.mark L.gen (L.used + s.length / 64))], left := max (D2.left - 1) (-1) } := by
            refine ⟨hF2.n1, hF2.n2, hF2.base, fun p hp => ?_, by have := hF2.left; show -1 ≤ max (D2.left - 1) (-1) ∧ max (D2.left - 1) (-1) ≤ 9223372036854775807; omega⟩
            rw [List.mem_singleton] at hp
            subst hp
            exact ⟨by show 0 < D2.n; omega, hm⟩
          have hF4 := hF3.flush
          have e4 : Dsk.flush { D2 with loose := [(0, Wal.mark L.gen (L.used + s.length / 64))], left := max (D2.left - 1) (-1) } = ({ D2 with base := fun j => if j = 0 then Wal.mark L.gen (L.used + s.length / 64) else D2.base j, loose := [], left := max (D2.left - 1) (-1) }, 0) := by
            unfold Dsk.flush; rw [if_neg (by simp [hfd])]; rfl
          rw [doS_cons, e4, if_pos rfl] at hacts
          rw [e4] at hF4
          simp only [doS] at hacts
          rw [hacts]
          simp only [if_pos]
          refine ⟨hF4, hfn, h.at0, h.min, fun _ => ⟨rfl, hfd, ?_⟩, fun e => absurd hf e⟩
          have hgr := openS_grown ho (by omega) (by omega) (by have := hF.n2; omega) hg (R := Dsk.text D2.base (1 + (L.used + k)) (L.n - 1 - (L.used + k))) (by omega)
          refine Eq.trans ?_ hgr
          congr 1
          show Dsk.text _ 0 L.n = _
          obtain ⟨m, hm2⟩ : ∃ m, L.n = m + 1 := ⟨L.n - 1, by omega⟩
          rw [hm2]
          show _ ++ Dsk.text _ (0 + 1) m = _
          simp only [if_pos]
          congr 1
          rw [Dsk.text_congr (g := D2.base) (0 + 1) m (fun i a1 a2 => by rw [if_neg (by omega)])]
          obtain ⟨q, rfl⟩ : ∃ q, m = L.used + (k + q) := ⟨m - (L.used + k), by omega⟩
          rw [Dsk.text_add, Dsk.text_add, hfb]
          have t1 : Dsk.text (Dsk.lay D.base (puts (1 + L.used) s k)) (0 + 1) L.used = ((Dsk.text D.base 0 (L.used + (k + q) + 1)).drop 64).take (64 * L.used) := by
            rw [Dsk.text_congr (g := D.base) (0 + 1) L.used (fun i a1 a2 => lay_far _ _ _ (fun p hp => by have := puts_mem p hp; omega))]
            show _ = ((D.base 0 ++ Dsk.text D.base (0 + 1) _).drop 64).take _
            rw [List.drop_left' (hF.base 0 (by omega)), Dsk.text_add, List.take_left' (Dsk.len_in (fun i a1 a2 => hF.base i (by omega)))]
          rw [t1, show 0 + 1 + L.used = 1 + L.used by omega, text_puts _ _ _ _ hsl, show 1 + L.used + k = 1 + (L.used + k) by omega, show L.used + (k + q) + 1 - 1 - (L.used + k) = q by omega]
      · rw [if_neg (by decide)] at hacts
        rw [hacts]
        simp only
        rw [if_neg (by decide)]
        refine ⟨hF1, w2.trans hn, h.at0, h.min, fun e => by simp [WLog.fell] at e, fun _ => ⟨rfl, g2, fun keep => ?_⟩⟩
        have := openS_loose hF hn (by omega) ho (P := Dsk.kept D1 keep) (fun p hp => by
          have hp1 := Dsk.keptFrom_sub 0 _ p hp
          have a1 := hF1.loose p hp1
          rw [g3, hl, List.nil_append] at hp1
          have a2 := g4 p hp1
          exact ⟨by omega, a1.2, by omega⟩)
        refine Eq.trans ?_ this
        simp only [Dsk.crash, WLog.fell, w1]
  · rw [if_pos hf]; exact h
theorem Sound.reset {D : Dsk} {L : WLog} (h : Sound D L) : Sound (wreset D L).1 (wreset D L).2.1 := by
  unfold wreset
  by_cases hf : L.fault = 0
  · rw [if_neg (by simp [hf])]
    obtain ⟨hl, hd, ho⟩ := h.calm hf
    have hmin := h.min
    have hn := h.n
    have hF := h.fine
    have hmw := mark_writes D hd hl ((L.gen + 1) % 18446744073709551616) 0 (by omega)
    have hacts : doS L.racts D = if (D.write ((0 : Nat) : Int) (Wal.mark ((L.gen + 1) % 18446744073709551616) 0)).2 = 0 then doS [Dsk.flush] (D.write ((0 : Nat) : Int) (Wal.mark ((L.gen + 1) % 18446744073709551616) 0)).1 else D.write ((0 : Nat) : Int) (Wal.mark ((L.gen + 1) % 18446744073709551616) 0) := by
      unfold WLog.racts
      rw [h.at0, doS_cons]
    rw [hmw] at hacts
    have hg2 : (L.gen + 1) % 18446744073709551616 < 18446744073709551616 := Nat.mod_lt _ (by decide)
    unfold WLog.emptied
    generalize (L.gen + 1) % 18446744073709551616 = g2 at *
    by_cases hz : D.left = 0
    · rw [if_pos hz] at hacts
      simp only at hacts
      rw [if_neg (by decide)] at hacts
      rw [hacts]
      simp only
      rw [if_neg (by decide)]
      refine ⟨⟨hF.n1, hF.n2, hF.base, hF.loose, hF.left⟩, hn, h.at0, h.min, fun e => by simp [WLog.fell] at e, fun _ => ⟨rfl, rfl, fun keep => ?_⟩⟩
      refine Eq.trans ?_ ho
      simp [Dsk.crash, Dsk.kept, hl, Dsk.keptFrom, Dsk.lay, WLog.fell]
    · rw [if_neg hz] at hacts
      simp only [if_pos] at hacts
      have hm := Wal.mark_length g2 0
      have hF3 : Dsk.Fine { D with loose := [(0, Wal.mark g2 0)], left := max (D.left - 1) (-1) } := by
        refine ⟨hF.n1, hF.n2, hF.base, fun p hp => ?_, by have := hF.left; show -1 ≤ max (D.left - 1) (-1) ∧ max (D.left - 1) (-1) ≤ 9223372036854775807; omega⟩
        rw [List.mem_singleton] at hp
        subst hp
        exact ⟨by show 0 < D.n; omega, hm⟩
      have hF4 := hF3.flush
      have e4 : Dsk.flush { D with loose := [(0, Wal.mark g2 0)], left := max (D.left - 1) (-1) } = ({ D with base := fun j => if j = 0 then Wal.mark g2 0 else D.base j, loose := [], left := max (D.left - 1) (-1) }, 0) := by
        unfold Dsk.flush; rw [if_neg (by simp [hd])]; rfl
      rw [doS_cons, e4, if_pos rfl] at hacts
      rw [e4] at hF4
      simp only [doS] at hacts
      rw [hacts]
      simp only [if_pos]
      refine ⟨hF4, hn, h.at0, h.min, fun _ => ⟨rfl, hd, ?_⟩, fun e => absurd hf e⟩
      obtain ⟨m, hm2⟩ : ∃ m, L.n = m + 1 := ⟨L.n - 1, by omega⟩
      show openS (Dsk.text _ 0 L.n) L.n = some (g2, 0, [])
      rw [hm2]
      show openS (_ ++ Dsk.text _ (0 + 1) m) _ = _
      simp only [if_pos]
      exact openS_mark (L := []) (S := []) hg2 (by omega) (by decide) rfl rfl
  · rw [if_pos hf]; exact h
/-- A new disk has a log of nothing. -/
theorem Sound.new (n : Nat) (h2 : 2 ≤ n) (hn : n ≤ 16384) : Sound (Dsk.new n) ⟨0, n, 0, 0, [], 0⟩ := by
  refine ⟨Dsk.Fine.new (by omega) hn, rfl, rfl, h2, fun _ => ⟨rfl, rfl, ?_⟩, fun e => absurd rfl e⟩
  show openS (Dsk.text (fun _ => sec0) 0 n) n = some (0, 0, [])
  rw [Dsk.text_zero]
  unfold openS
  have e : (List.replicate (64 * n) (0 : UInt8)).take 64 = pad [0] := by
    rw [List.take_replicate, Nat.min_eq_left (by omega)]; rfl
  rw [e, if_pos rfl]
end Go.Proofs.YtcljpnkknehlmaaGreat
