/- Boards of tasks, in plain Lean. -/
import Derived.Test.YtgmhglcdifhimaaDoorHeap
namespace Go.Proofs.YtgmhglcdifhimaaDoor
namespace Tsk

structure Task where
  needs : List Nat
  is : Bool
  value : List UInt8
  fails : Nat
/-- A board; its attempts: the newest one first. -/
structure Board where
  l : List Task
  tries : List (Int × Nat)
  retries : Nat
  failed : Option Nat

def Board.at_ (b : Board) (w : Int) : Option Nat := (b.tries.find? (fun p => p.1 == w)).map (·.2)
def sortI (l : List Int) : List Int := l.mergeSort (fun x y => decide (x ≤ y))
def Board.workers (b : Board) (t : Nat) : List Int := sortI ((b.tries.filter (fun p => p.2 == t)).map (·.1))
def Board.isDone (b : Board) (n : Nat) : Bool := match b.l[n]? with
  | some y => y.is
  | none => false
def Board.waits (b : Board) (x : Task) : Bool := x.needs.any fun n => !b.isDone n
def Board.runs (b : Board) (t : Nat) : Bool := b.tries.any fun p => p.2 == t
/-- A task's state: it waits, is ready, runs, is done, failed. -/
def Board.stateX (b : Board) (t : Nat) (x : Task) : Int := if x.is then 3 else if b.retries < x.fails then 4 else if b.waits x then 0 else if b.runs t then 2 else 1
def Board.state (b : Board) (t : Nat) : Int := match b.l[t]? with
  | some x => b.stateX t x
  | none => 0
def Board.start (b : Board) (t w : Int) : Board × Int :=
  if t < 0 ∨ (b.l.length : Int) ≤ t ∨ w < 0 then (b, 2)
  else if b.failed.isSome then (b, 301)
  else if (b.at_ w).isSome then (b, 300)
  else if b.state t.toNat = 1 ∨ b.state t.toNat = 2 then ({ b with tries := (w, t.toNat) :: b.tries }, 0)
  else (b, 3)
def Board.drop (b : Board) (w : Int) : Board := { b with tries := b.tries.filter (fun p => !(p.1 == w)) }
def Board.commit (b : Board) (w : Int) (v : List UInt8) : Board × Bool × Int := match b.at_ w with
  | none => (b, false, 3)
  | some t => match b.l[t]? with
    | none => (b.drop w, false, 0)
    | some x => if x.is then (b.drop w, false, 0) else ({ b.drop w with l := b.l.set t { x with is := true, value := v } }, true, 0)
def Board.fail (b : Board) (w : Int) : Board × Int := match b.at_ w with
  | none => (b, 3)
  | some t => match b.l[t]? with
    | none => (b.drop w, 0)
    | some x => if x.is then (b.drop w, 0) else
      ({ b.drop w with l := b.l.set t { x with fails := x.fails + 1 }, failed := if b.retries < x.fails + 1 ∧ b.failed = none then some t else b.failed }, 0)
def Board.ready (b : Board) : List Nat := (List.range b.l.length).filter fun t => b.state t == 1
def Board.done (b : Board) : Bool := b.l.all (·.is)
def Board.new (needs : List (List Nat)) (retries : Nat) : Board := ⟨needs.map fun l => ⟨l, false, [], 0⟩, [], retries, none⟩

/-- Sorted rows that hold the same are the same. -/
theorem sorted_eq : ∀ {l m : List Int}, l.Pairwise (· ≤ ·) → m.Pairwise (· ≤ ·) → l.Perm m → l = m
  | [], m, _, _, h => (List.nil_perm.1 h).symm ▸ rfl
  | x :: l, [], _, _, h => absurd h.length_eq (by simp)
  | x :: l, y :: m, h1, h2, h => by
    have h1' := List.pairwise_cons.1 h1
    have h2' := List.pairwise_cons.1 h2
    have e : x = y := by
      have hx : x ∈ y :: m := h.mem_iff.1 List.mem_cons_self
      have hy : y ∈ x :: l := h.mem_iff.2 List.mem_cons_self
      rcases List.mem_cons.1 hx with e | hx
      · exact e
      · rcases List.mem_cons.1 hy with e | hy
        · exact e.symm
        · have := h2'.1 x hx; have := h1'.1 y hy; omega
    subst e
    rw [sorted_eq h1'.2 h2'.2 ((List.perm_cons x).1 h)]
theorem sortI_sorted (l : List Int) : (sortI l).Pairwise (· ≤ ·) := by
  have h := List.pairwise_mergeSort (le := fun (x y : Int) => decide (x ≤ y)) (fun a b c h1 h2 => by simp at *; omega) (fun a b => by simp; omega) l
  exact h.imp (by simp)
theorem sortI_perm (l : List Int) : (sortI l).Perm l := List.mergeSort_perm _ _
/-- What a filter leaves of sorted keys. -/
theorem sortI_filter (l : List Int) (f : Int → Bool) : (sortI l).filter f = sortI (l.filter f) :=
  sorted_eq ((sortI_sorted l).filter _) (sortI_sorted _) (((sortI_perm l).filter f).trans (sortI_perm _).symm)
/-- A number laid into a sorted row at its place. -/
def insI (x : Int) (l : List Int) : List Int := l.takeWhile (fun y => decide (y < x)) ++ x :: l.dropWhile (fun y => decide (y < x))
theorem insI_perm (x : Int) (l : List Int) : (insI x l).Perm (x :: l) := by
  unfold insI
  have h := List.takeWhile_append_dropWhile (p := fun y => decide (y < x)) (l := l)
  exact (List.perm_middle).trans (by rw [h])
theorem insI_sorted : ∀ (x : Int) (l : List Int), l.Pairwise (· ≤ ·) → (insI x l).Pairwise (· ≤ ·)
  | x, [], _ => by simp [insI]
  | x, y :: l, h => by
    have h' := List.pairwise_cons.1 h
    by_cases hy : y < x
    · have e : insI x (y :: l) = y :: insI x l := by simp [insI, hy]
      rw [e]
      refine List.pairwise_cons.2 ⟨fun z hz => ?_, insI_sorted x l h'.2⟩
      rcases List.mem_cons.1 ((insI_perm x l).mem_iff.1 hz) with rfl | hz
      · omega
      · exact h'.1 z hz
    · have e : insI x (y :: l) = x :: y :: l := by simp [insI, hy]
      rw [e]
      refine List.pairwise_cons.2 ⟨fun z hz => ?_, h⟩
      rcases List.mem_cons.1 hz with rfl | hz
      · omega
      · have := h'.1 z hz; omega
/-- A row into which one number after the other was laid is the sorted one. -/
theorem insI_sortI (x : Int) (l : List Int) : insI x (sortI l) = sortI (x :: l) :=
  sorted_eq (insI_sorted x _ (sortI_sorted l)) (sortI_sorted _) ((insI_perm x _).trans (((List.perm_cons x).2 (sortI_perm l)).trans (sortI_perm _).symm))
theorem sortI_perm_eq {l m : List Int} (h : l.Perm m) : sortI l = sortI m := sorted_eq (sortI_sorted l) (sortI_sorted m) ((sortI_perm l).trans (h.trans (sortI_perm m).symm))

/-- A board that was made, and on which k things were done. -/
structure Board.Fine (b : Board) (k : Nat) : Prop where
  len : b.l.length ≤ 4096
  retries : b.retries ≤ 8
  needs : ∀ (t : Nat) (x : Task), b.l[t]? = some x → ∀ n ∈ x.needs, n < t
  fails : ∀ x ∈ b.l, x.fails ≤ k
  nodup : (b.tries.map (·.1)).Nodup
  tasks : ∀ p ∈ b.tries, p.2 < b.l.length ∧ 0 ≤ p.1
  count : b.tries.length ≤ k
  failed : ∀ t, b.failed = some t → t < b.l.length
  slim : ∀ x ∈ b.l, x.needs.length ≤ 1000000
theorem Board.Fine.more {b : Board} {k m : Nat} (h : b.Fine k) (hk : k ≤ m) : b.Fine m :=
  ⟨h.len, h.retries, h.needs, fun x hx => Nat.le_trans (h.fails x hx) hk, h.nodup, h.tasks, Nat.le_trans h.count hk, h.failed, h.slim⟩
theorem Board.at_mem {b : Board} {w : Int} {t : Nat} (h : b.at_ w = some t) : (w, t) ∈ b.tries := by
  unfold Board.at_ at h
  obtain ⟨p, hp, rfl⟩ := Option.map_eq_some_iff.1 h
  have h1 := List.find?_some hp
  simp at h1
  subst h1
  exact List.mem_of_find?_eq_some hp
theorem Board.Fine.at_lt {b : Board} {k : Nat} (h : b.Fine k) {w : Int} {t : Nat} (ha : b.at_ w = some t) : t < b.l.length := (h.tasks _ (Board.at_mem ha)).1
theorem Board.Fine.drop {b : Board} {k : Nat} (h : b.Fine k) (w : Int) : (b.drop w).Fine k :=
  ⟨h.len, h.retries, h.needs, h.fails, h.nodup.sublist (List.Sublist.map _ List.filter_sublist), fun p hp => h.tasks p (List.mem_filter.1 hp).1, Nat.le_trans (List.length_filter_le _ _) h.count, h.failed, h.slim⟩
theorem Board.Fine.set {b : Board} {k : Nat} (h : b.Fine k) (t : Nat) (x y : Task) (hx : b.l[t]? = some x) (hn : y.needs = x.needs) (hf : y.fails ≤ k) : Board.Fine { b with l := b.l.set t y } k := by
  refine ⟨by simp only [List.length_set]; exact h.len, h.retries, fun i z hz n hn2 => ?_, fun z hz => ?_, h.nodup, fun p hp => by simp only [List.length_set]; exact h.tasks p hp, h.count, fun i hi => by simp only [List.length_set]; exact h.failed i hi, fun z hz => ?_⟩
  · rw [List.getElem?_set] at hz
    split at hz
    · rename_i e
      subst e
      split at hz
      · simp only [Option.some.injEq] at hz
        subst hz
        rw [hn] at hn2
        exact h.needs _ x hx n hn2
      · cases hz
    · exact h.needs i z hz n hn2
  · rcases List.mem_or_eq_of_mem_set hz with hz | rfl
    · exact h.fails z hz
    · exact hf
  · rcases List.mem_or_eq_of_mem_set hz with hz | rfl
    · exact h.slim z hz
    · rw [hn]; exact h.slim x (List.mem_of_getElem? hx)
theorem Board.Fine.start {b : Board} {k : Nat} (h : b.Fine k) (t w : Int) : (b.start t w).1.Fine (k + 1) := by
  unfold Board.start
  split
  · exact h.more (by omega)
  · rename_i h1
    split
    · exact h.more (by omega)
    · split
      · exact h.more (by omega)
      · rename_i h3
        split
        · refine ⟨h.len, h.retries, h.needs, fun x hx => by have := h.fails x hx; omega, ?_, fun p hp => ?_, by have := h.count; simp; omega, h.failed, h.slim⟩
          · rw [List.map_cons, List.nodup_cons]
            refine ⟨fun hm => h3 ?_, h.nodup⟩
            obtain ⟨p, hp, e⟩ := List.mem_map.1 hm
            unfold Board.at_
            rw [Option.isSome_map, List.find?_isSome]
            exact ⟨p, hp, by simpa using e⟩
          · rcases List.mem_cons.1 hp with rfl | hp
            · exact ⟨by show t.toNat < b.l.length; omega, by show (0 : Int) ≤ w; omega⟩
            · exact h.tasks p hp
        · exact h.more (by omega)
theorem Board.Fine.commit {b : Board} {k : Nat} (h : b.Fine k) (w : Int) (v : List UInt8) : (b.commit w v).1.Fine k := by
  unfold Board.commit
  split
  · exact h
  · rename_i t ht
    split
    · exact h.drop w
    · rename_i x hx
      split
      · exact h.drop w
      · exact (h.drop w).set t x _ hx rfl (h.fails x (List.mem_of_getElem? hx))
theorem Board.Fine.fail {b : Board} {k : Nat} (h : b.Fine k) (w : Int) : (b.fail w).1.Fine (k + 1) := by
  unfold Board.fail
  split
  · exact h.more (by omega)
  · rename_i t ht
    split
    · exact (h.drop w).more (by omega)
    · rename_i x hx
      split
      · exact (h.drop w).more (by omega)
      · have h1 := ((h.drop w).more (show k ≤ k + 1 by omega)).set t x { x with fails := x.fails + 1 } hx rfl (by have := h.fails x (List.mem_of_getElem? hx); show x.fails + 1 ≤ _; omega)
        refine ⟨h1.len, h1.retries, h1.needs, h1.fails, h1.nodup, h1.tasks, h1.count, fun i hi => ?_, h1.slim⟩
        have hi : (if b.retries < x.fails + 1 ∧ b.failed = none then some t else b.failed) = some i := hi
        show i < (b.l.set t _).length
        rw [List.length_set]
        split at hi
        · cases hi; exact h.at_lt ht
        · exact h.failed i hi
end Tsk
end Go.Proofs.YtgmhglcdifhimaaDoor
