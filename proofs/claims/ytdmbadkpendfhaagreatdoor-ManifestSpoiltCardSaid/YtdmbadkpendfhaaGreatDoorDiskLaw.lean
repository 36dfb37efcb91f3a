/- The plain law behind DiskWhole and DiskPlays. -/
import Derived.Test.YtdmbadkpendfhaaGreatDoorSame
namespace Go.Proofs.YtdmbadkpendfhaaGreatDoor

namespace Dsk
theorem writes_loose (D : Dsk) (a : Nat) (s : List UInt8) (n : Nat) : (writes D a s n).1.loose.length ≤ D.loose.length + n := by
  induction n generalizing D a s with
  | zero => exact Nat.le_refl _
  | succ n ih =>
    simp only [writes]
    split
    · show D.loose.length ≤ _; omega
    · have := ih { D with loose := D.loose ++ [(a, s.take 64)], left := max (D.left - 1) (-1) } (a + 1) (s.drop 64)
      have e : (D.loose ++ [(a, s.take 64)]).length = D.loose.length + 1 := by simp
      simp only [e] at this
      omega
theorem write_loose (D : Dsk) (a : Int) (s : List UInt8) : (D.write a s).1.loose.length ≤ D.loose.length + s.length / 64 := by
  unfold write
  split
  · exact Nat.le_add_right _ _
  · split
    · exact writes_loose _ _ _ _
    · exact Nat.le_add_right _ _
theorem writes_calm {D : Dsk} (hd : D.down = false) (hl : D.left = -1) (a : Nat) (s : List UInt8) (n : Nat) : (writes D a s n).1.down = false ∧ (writes D a s n).1.left = -1 := by
  induction n generalizing D a s with
  | zero => exact ⟨hd, hl⟩
  | succ n ih =>
    simp only [writes]
    rw [if_neg (by omega)]
    exact ih (D := { D with loose := D.loose ++ [(a, s.take 64)], left := max (D.left - 1) (-1) }) hd (by show max (D.left - 1) (-1) = -1; omega) _ _
theorem write_calm {D : Dsk} (hd : D.down = false) (hl : D.left = -1) (a : Int) (s : List UInt8) : (D.write a s).1.down = false ∧ (D.write a s).1.left = -1 := by
  unfold write
  split
  · exact ⟨hd, hl⟩
  · split
    · exact writes_calm hd hl _ _ _
    · exact ⟨hd, hl⟩
theorem write_n (D : Dsk) (a : Int) (s : List UInt8) : (D.write a s).1.n = D.n := by
  unfold write
  split
  · rfl
  · split
    · exact writes_n _ _ _ _
    · rfl
theorem flush_n (D : Dsk) : D.flush.1.n = D.n := by unfold flush; split <;> rfl
theorem flush_loose (D : Dsk) : D.flush.1.loose.length ≤ D.loose.length := by unfold flush; split <;> simp
theorem flush_calm {D : Dsk} (hd : D.down = false) (hl : D.left = -1) : D.flush.1.down = false ∧ D.flush.1.left = -1 := by
  unfold flush; split
  · exact ⟨hd, hl⟩
  · exact ⟨hd, hl⟩
theorem does_n (D : Dsk) (x : Stp) : (D.does x).n = D.n := by
  unfold does
  split
  · exact write_n _ _ _
  · split
    · exact flush_n _
    · split
      · rfl
      · split <;> rfl
theorem does_loose (D : Dsk) (x : Stp) (hs : x.s.length ≤ 32768) (hn : x.what = 0 → x.n ≤ 100) : (D.does x).loose.length ≤ D.loose.length + 512 := by
  unfold does
  split
  · rename_i h
    have := write_loose D x.place x.text
    have := x.text_le hs (hn h)
    omega
  · split
    · have := flush_loose D; omega
    · split
      · exact Nat.le_add_right _ _
      · split
        · show ([] : List (Nat × List UInt8)).length ≤ _; simp
        · exact Nat.le_add_right _ _
theorem does_calm {D : Dsk} (hd : D.down = false) (hl : D.left = -1) (x : Stp) (hw : x.what ≠ 3) : (D.does x).down = false ∧ (D.does x).left = -1 := by
  unfold does
  split
  · exact write_calm hd hl _ _
  · split
    · exact flush_calm hd hl
    · split
      · exact ⟨rfl, rfl⟩
      · exact ⟨hd, hl⟩
theorem keptFrom_one (i : Nat) (l : List (Nat × List UInt8)) : keptFrom [49] i l = l := by
  induction l generalizing i with
  | nil => rfl
  | cons p l ih => simp only [keptFrom, ih]; simp [Nat.mod_one]
theorem crash_one (D : Dsk) : (D.crash [49]).now = D.now := by
  show lay (lay D.base (keptFrom [49] 0 D.loose)) [] = lay D.base D.loose
  rw [keptFrom_one]; rfl
theorem flush_now {D : Dsk} (hd : D.down = false) : D.flush.1.now = D.now := by
  unfold flush
  rw [if_neg (by simp [hd])]
  rfl
theorem flush_ok {D : Dsk} (hd : D.down = false) : D.flush.2 = 0 ∧ D.flush.1.loose = [] := by
  unfold flush
  rw [if_neg (by simp [hd])]
  exact ⟨rfl, rfl⟩
theorem crash_still {D : Dsk} (h : D.loose = []) (keep : List UInt8) : (D.crash keep).now = D.now := by
  show lay (lay D.base (keptFrom keep 0 D.loose)) [] = lay D.base D.loose
  rw [h]; rfl
theorem read_all {D : Dsk} (hd : D.down = false) {n : Nat} (hn : D.n = n) : D.read 0 (n : Int) = (text D.now 0 n, 0) := by
  subst hn
  unfold read
  rw [if_neg (by simp [hd]), if_pos (by simp [inside])]
  simp
end Dsk

/-- A disk on its way. -/
structure Calm (D : Dsk) (n k : Nat) : Prop where
  n : D.n = n
  down : D.down = false
  left : D.left = -1
  loose : D.loose.length ≤ 512 * k
theorem Calm.new (n : Nat) : Calm (Dsk.new n) n 0 := ⟨rfl, rfl, rfl, by simp [Dsk.new]⟩
theorem Calm.mono {D : Dsk} {n k : Nat} (h : Calm D n k) : Calm D n (k + 1) := ⟨h.n, h.down, h.left, by have := h.loose; omega⟩
theorem Calm.does {D : Dsk} {n k : Nat} (h : Calm D n k) (x : Stp) (hs : x.s.length ≤ 32768) (hn : x.what = 0 → x.n ≤ 100) (hw : x.what ≠ 3) : Calm (D.does x) n (k + 1) :=
  ⟨by rw [Dsk.does_n]; exact h.n, (Dsk.does_calm h.down h.left x hw).1, (Dsk.does_calm h.down h.left x hw).2, by have := Dsk.does_loose D x hs hn; have := h.loose; omega⟩

theorem light_at {l : List Stp} (h : Light l) (hok : ∀ x ∈ l, x.okay) : ∀ x ∈ l, x.okay ∧ x.s.length ≤ 32768 ∧ (x.what = 0 → x.n ≤ 100) := by
  have key : ∀ (l : List Stp), (∀ x ∈ l, x.okay) → (∀ x ∈ l, x.what = 0 → x.n ≤ 100) → ∀ x ∈ l, (x.s.length : Int) ≤ costs l := by
    intro l
    induction l with
    | nil => intro _ _ x hx; simp at hx
    | cons y l ih =>
      intro h1 h2 x hx
      have e : costs (y :: l) = y.cost + costs l := by simp [costs]
      have c1 := cost_range (h1 y List.mem_cons_self) (h2 y List.mem_cons_self)
      have c2 := costs_range l (fun z hz => ⟨h1 z (List.mem_cons_of_mem _ hz), h2 z (List.mem_cons_of_mem _ hz)⟩)
      rcases List.mem_cons.1 hx with rfl | hx
      · have : (x.s.length : Int) ≤ x.cost := by
          unfold Stp.cost
          split
          · split <;> omega
          · omega
        omega
      · have := ih (fun z hz => h1 z (List.mem_cons_of_mem _ hz)) (fun z hz => h2 z (List.mem_cons_of_mem _ hz)) x hx
        omega
  intro x hx
  have := key l hok h.n x hx
  have := h.cost
  exact ⟨hok x hx, by omega, h.n x hx⟩
end Go.Proofs.YtdmbadkpendfhaaGreatDoor
