/- The plain law behind DiskKeeps: what 'all' and 'kept' tell of a disk. -/
import Derived.Test.YthbdflmckfgleaaRefCrash
import Derived.Test.YthbdflmckfgleaaDiskLaw
namespace Go.Proofs.Ythbdflmckfgleaa

namespace Dsk
/-- The sectors of a text, from a place on. -/
def chunks : Nat → List UInt8 → Nat → List (Nat × List UInt8)
  | _, _, 0 => []
  | a, s, m + 1 => (a, s.take 64) :: chunks (a + 1) (s.drop 64) m
theorem chunks_length (a : Nat) (s : List UInt8) (m : Nat) : (chunks a s m).length = m := by
  induction m generalizing a s with
  | zero => rfl
  | succ m ih => simp [chunks, ih]
theorem chunks_get (a : Nat) (s : List UInt8) (m j : Nat) (hj : j < m) : (chunks a s m)[j]? = some (a + j, (s.drop (64 * j)).take 64) := by
  induction m generalizing a s j with
  | zero => omega
  | succ m ih =>
    cases j with
    | zero => simp [chunks]
    | succ j =>
      simp only [chunks, List.getElem?_cons_succ]
      rw [ih (a + 1) (s.drop 64) j (by omega), List.drop_drop]
      congr 2
      · omega
      · rw [show 64 + 64 * j = 64 * (j + 1) by omega]
theorem writes_shape (D : Dsk) (a : Nat) (s : List UInt8) (n : Nat) : ∃ m, m ≤ n ∧ (writes D a s n).1.loose = D.loose ++ chunks a s m ∧ (writes D a s n).1.base = D.base ∧ (writes D a s n).1.n = D.n := by
  induction n generalizing D a s with
  | zero => exact ⟨0, Nat.le_refl _, by simp [writes, chunks], rfl, rfl⟩
  | succ n ih =>
    simp only [writes]
    split
    · exact ⟨0, by omega, by simp [chunks], rfl, rfl⟩
    · obtain ⟨m, h1, h2, h3, h4⟩ := ih { D with loose := D.loose ++ [(a, s.take 64)], left := max (D.left - 1) (-1) } (a + 1) (s.drop 64)
      exact ⟨m + 1, by omega, by rw [h2]; simp [chunks], h3, h4⟩
/-- What a write lays down. -/
theorem write_shape (D : Dsk) (at_ : Int) (s : List UInt8) : ∃ m a, (D.write at_ s).1.loose = D.loose ++ chunks a s m ∧ (D.write at_ s).1.base = D.base ∧ (D.write at_ s).1.n = D.n ∧ (0 < m → at_ = (a : Int) ∧ a + m ≤ D.n ∧ 64 * m ≤ s.length) := by
  unfold write
  split
  · exact ⟨0, 0, by simp [chunks], rfl, rfl, fun h => by omega⟩
  · split
    · rename_i h
      obtain ⟨h1, h2⟩ := h
      simp [inside] at h2
      obtain ⟨m, g1, g2, g3, g4⟩ := writes_shape D at_.toNat s (s.length / 64)
      exact ⟨m, at_.toNat, g2, g3, g4, fun _ => by omega⟩
    · exact ⟨0, 0, by simp [chunks], rfl, rfl, fun h => by omega⟩
end Dsk

/-- What is told of each sector: the last one of 'all' is what is read, the last one of 'kept' what a crash would leave. -/
structure Told (base : Nat → List UInt8) (L : List (Nat × List UInt8)) (keep : List UInt8) (n : Nat) (A K : List (List (List UInt8))) : Prop where
  na : A.length = n
  nk : K.length = n
  all : ∀ k (h : k < A.length), A[k].getLast? = some (Dsk.lay base L k)
  kept : ∀ k (h : k < K.length), K[k].getLast? = some (Dsk.lay base (Dsk.keptFrom keep 0 L) k)
  la : ∀ k (h : k < A.length), A[k].length ≤ L.length + 1
  lk : ∀ k (h : k < K.length), K[k].length ≤ L.length + 1

theorem Told.start (keep : List UInt8) (n : Nat) : Told (fun _ => sec0) [] keep n (List.replicate n [sec0]) (List.replicate n [sec0]) :=
  ⟨by simp, by simp, fun k h => by simp [Dsk.lay], fun k h => by simp [Dsk.lay, Dsk.keptFrom], fun k h => by simp, fun k h => by simp⟩
theorem keptFrom_snoc (keep : List UInt8) (L : List (Nat × List UInt8)) (p : Nat × List UInt8) : Dsk.keptFrom keep 0 (L ++ [p]) = Dsk.keptFrom keep 0 L ++ (if stays keep L.length then [p] else []) := by
  have := keptFrom_take keep (L ++ [p]) L.length (by simp)
  rw [List.take_of_length_le (by simp), List.take_left, List.getElem_append_right (Nat.le_refl _)] at this
  simpa using this
theorem told_set {f : Nat → List UInt8} {A : List (List (List UInt8))} (h : ∀ k (h : k < A.length), A[k].getLast? = some (f k)) (i : Nat) (hi : i < A.length) (x : List UInt8) :
    ∀ k (h : k < (A.set i (A[i] ++ [x])).length), (A.set i (A[i] ++ [x]))[k].getLast? = some (if k = i then x else f k) := fun k hk => by
  rw [List.getElem_set]
  by_cases e : i = k
  · subst e; simp
  · rw [if_neg e, if_neg (fun e' => e e'.symm)]
    exact h k (by simpa using hk)
theorem told_len {m : Nat} {A : List (List (List UInt8))} (h : ∀ k (h : k < A.length), A[k].length ≤ m) (i : Nat) (hi : i < A.length) (x : List UInt8) :
    ∀ k (h : k < (A.set i (A[i] ++ [x])).length), (A.set i (A[i] ++ [x]))[k].length ≤ m + 1 := fun k hk => by
  rw [List.getElem_set]
  by_cases e : i = k
  · subst e
    have := h i hi
    simp; omega
  · rw [if_neg e]
    have := h k (by simpa using hk)
    omega
/-- One more write, that a crash loses. -/
theorem Told.lost {base : Nat → List UInt8} {L : List (Nat × List UInt8)} {keep : List UInt8} {n : Nat} {A K : List (List (List UInt8))} (h : Told base L keep n A K) (p : Nat × List UInt8) (ha : p.1 < A.length) (hs : stays keep L.length = false) :
    Told base (L ++ [p]) keep n (A.set p.1 (A[p.1] ++ [p.2])) K := by
  refine ⟨by simp [h.na], h.nk, fun k hk' => ?_, fun k hk' => ?_, by rw [List.length_append, List.length_singleton]; exact told_len h.la p.1 ha p.2, fun k hk' => by rw [List.length_append, List.length_singleton]; have := h.lk k hk'; omega⟩
  · rw [told_set h.all p.1 ha p.2 k hk', Dsk.lay_snoc]
  · have e : Dsk.keptFrom keep 0 (L ++ [p]) = Dsk.keptFrom keep 0 L := by rw [keptFrom_snoc, hs]; simp
    rw [e]
    exact h.kept k hk'
/-- One more write, that stays. -/
theorem Told.stay {base : Nat → List UInt8} {L : List (Nat × List UInt8)} {keep : List UInt8} {n : Nat} {A K : List (List (List UInt8))} (h : Told base L keep n A K) (p : Nat × List UInt8) (ha : p.1 < A.length) (hk : p.1 < K.length) (hs : stays keep L.length = true) :
    Told base (L ++ [p]) keep n (A.set p.1 (A[p.1] ++ [p.2])) (K.set p.1 (K[p.1] ++ [p.2])) := by
  refine ⟨by simp [h.na], by simp [h.nk], fun k hk' => ?_, fun k hk' => ?_, by rw [List.length_append, List.length_singleton]; exact told_len h.la p.1 ha p.2, by rw [List.length_append, List.length_singleton]; exact told_len h.lk p.1 hk p.2⟩
  · rw [told_set h.all p.1 ha p.2 k hk', Dsk.lay_snoc]
  · have e : Dsk.keptFrom keep 0 (L ++ [p]) = Dsk.keptFrom keep 0 L ++ [p] := by rw [keptFrom_snoc, hs]; simp
    rw [e, Dsk.lay_snoc]
    exact told_set h.kept p.1 hk p.2 k hk'
/-- All is flushed. -/
def flushed (A : List (List (List UInt8))) : List (List (List UInt8)) := A.map fun l => [l.getLastD []]
theorem Told.flush {base : Nat → List UInt8} {L : List (Nat × List UInt8)} {keep : List UInt8} {n : Nat} {A K : List (List (List UInt8))} (h : Told base L keep n A K) : Told (Dsk.lay base L) [] keep n (flushed A) (flushed A) := by
  have key : ∀ k (h : k < (flushed A).length), (flushed A)[k].getLast? = some (Dsk.lay base L k) := fun k hk => by
    have hk' : k < A.length := by simpa [flushed] using hk
    have h1 := h.all k hk'
    simp only [flushed, List.getElem_map, List.getLast?_singleton]
    rw [List.getLastD_eq_getLast?, h1]
    rfl
  exact ⟨by simp [flushed, h.na], by simp [flushed, h.na], key, key, fun k hk => by simp [flushed], fun k hk => by simp [flushed]⟩

/-- On the way of a flush. -/
def mixed (A X : List (List (List UInt8))) (i : Nat) : List (List (List UInt8)) := flushed (A.take i) ++ X.drop i
theorem mixed_zero (A X : List (List (List UInt8))) : mixed A X 0 = X := by simp [mixed, flushed]
theorem mixed_full {A X : List (List (List UInt8))} (h : X.length = A.length) : mixed A X A.length = flushed A := by
  unfold mixed
  rw [List.take_length, List.drop_of_length_le (by omega), List.append_nil]
theorem mixed_length {A X : List (List (List UInt8))} (h : X.length = A.length) {i : Nat} (hi : i ≤ A.length) : (mixed A X i).length = A.length := by simp [mixed, flushed, h]; omega
theorem flushed_snoc (A : List (List (List UInt8))) (x : List (List UInt8)) : flushed (A ++ [x]) = flushed A ++ [[x.getLastD []]] := by unfold flushed; rw [List.map_append]; rfl
theorem mixed_set {A X : List (List (List UInt8))} (h : X.length = A.length) {i : Nat} (hi : i < A.length) : (mixed A X i).set i [A[i].getLastD []] = mixed A X (i + 1) := by
  have e : (flushed (A.take i)).length = i := by simp [flushed]; omega
  unfold mixed
  rw [List.set_append_right _ _ (by omega), e, Nat.sub_self, List.drop_eq_getElem_cons (by omega), List.set_cons_zero, List.take_succ_eq_append_getElem hi, flushed_snoc, List.append_assoc]
  rfl
theorem mixed_get {A : List (List (List UInt8))} {i : Nat} (hi : i < A.length) (h : i < (mixed A A i).length) : (mixed A A i)[i] = A[i] := by
  have e : (flushed (A.take i)).length = i := by simp [flushed]; omega
  have : (mixed A A i)[i]? = A[i]? := by
    unfold mixed
    rw [List.getElem?_append_right (by omega), e, Nat.sub_self, List.getElem?_drop, Nat.add_zero]
  rw [List.getElem?_eq_getElem h, List.getElem?_eq_getElem hi] at this
  exact Option.some.inj this
end Go.Proofs.Ythbdflmckfgleaa
