/- Disk.Copy, walked. The disk's contracts, in one word: a disk that lies wholly in memory from block B on; what lay below is as it was. -/
import Derived.Test.YtdmbadkpendfhaaGreatDoorDiskRW
import Derived.Laws.Externs
import Derived.MapKept
import Derived.Test.YtdmbadkpendfhaaGreatDoorDiskF
import Derived.Test.YtdmbadkpendfhaaGreatDoorDiskFill
namespace Go.Proofs.YtdmbadkpendfhaaGreatDoor
open Go.RowKit Go.Maps

theorem SecMap.cloned {w : World} {m N : Nat} {f : Nat → List UInt8} (h : SecMap w m N f) : ∃ es clock, w.heap[m]? = some (.map es clock) ∧ SecMap (w.alloc (.map es clock)) w.heap.size N f := by
  obtain ⟨kv, ⟨hn, D, ⟨es, clock, hb, F, hs, hD⟩, rest⟩, h2⟩ := h
  exact ⟨es, clock, hb, kv, ⟨hn, D, ⟨es, clock, (MapKept.heap_alloc w _).1, F, hs, hD⟩, rest⟩, h2⟩

theorem eql_map (w : World) (p : Option Nat) : (binOp .eql 113 (.map p) (.map none)).run Tryz.prog w = .ok (.bool p.isNone) w := by
  have h : ∀ d, (Op.equalIn (d + 1) 113 (.map p) (.map none)).run Tryz.prog w = .ok p.isNone w := fun d => by
    cases p <;> simp [Op.equalIn, run_underlying Tryz.underlying113]
  simp only [binOp]
  simp [show Op.equal 113 (.map p) (.map none) = Op.equalIn (9999 + 1) 113 (.map p) (.map none) from rfl, h 9999]

theorem eql_slice (w : World) (p : Option Addr) (n c : Nat) : (binOp .eql 114 (.slice p n c) (.slice none 0 0)).run Tryz.prog w = .ok (.bool p.isNone) w := by
  have h : ∀ d, (Op.equalIn (d + 1) 114 (.slice p n c) (.slice none 0 0)).run Tryz.prog w = .ok p.isNone w := fun d => by
    cases p <;> simp [Op.equalIn, run_underlying Tryz.underlying114]
  simp only [binOp]
  simp [show Op.equal 114 (.slice p n c) (.slice none 0 0) = Op.equalIn (9999 + 1) 114 (.slice p n c) (.slice none 0 0) from rfl, h 9999]
theorem empty_row (w : World) : (w.alloc (.cells #[] 176)).ownsRow 0 176 65 (.slice (some ⟨w.heap.size, 0, none⟩) 0 0) 0 [] :=
  ⟨rfl, .inr ⟨w.heap.size, 0, #[], rfl, Nat.zero_le _, heap_alloc_new w _, Nat.le_refl _, Nat.zero_le _, rfl, rfl⟩⟩
theorem looseCells_one (l : List (Nat × List UInt8)) : ∀ u ∈ looseCells l, u.oneCell' = true := by
  intro u hu
  unfold looseCells at hu
  obtain ⟨p, _, h⟩ := List.mem_flatMap.1 hu
  rcases List.mem_cons.1 h with rfl | h
  · rfl
  · exact u8cells_one _ u h

theorem slice_of {w : World} {base e s : Nat} {v : Value} {n : Nat} {xs : List Value} (h : w.ownsRow base e s v n xs) : ∃ q cap, v = .slice q n cap := by
  rcases h.2 with ⟨e1, e2⟩ | ⟨g, cap, _, e1, _⟩
  · exact ⟨none, 0, by rw [e1, e2]⟩
  · exact ⟨_, cap, e1⟩
end Go.Proofs.YtdmbadkpendfhaaGreatDoor

namespace Go.Proofs.YtdmbadkpendfhaaGreatDoor
open Go.RowKit Go.Maps

/-- At b lies this disk, from block B on; its blocks are fp; and what lay below B is as it was. -/
structure MyDisk (B : Nat) (w0 w : World) (b : Nat) (D : Dsk) (fp : Nat → Prop) : Prop where
  disk : DiskAt w b D fp
  new : ∀ k, fp k → B ≤ k
  below : Below B w0 w
  size : B ≤ w0.heap.size
theorem MyDisk.fine {B : Nat} {w0 w : World} {b : Nat} {D : Dsk} {fp : Nat → Prop} (h : MyDisk B w0 w b D fp) : D.Fine := h.disk.fine
theorem MyDisk.step {B : Nat} {w0 w w' : World} {b : Nat} {D : Dsk} {fp : Nat → Prop} (h : MyDisk B w0 w b D fp) (hb : Below w.heap.size w w') : MyDisk B w0 w' b D fp :=
  ⟨h.disk.below hb, h.new, h.below.trans (hb.mono (Nat.le_trans h.size h.below.size)), h.size⟩
theorem MyDisk.turn {B : Nat} {w0 w w' : World} {b : Nat} {D D' : Dsk} {fp fp' : Nat → Prop} (h : MyDisk B w0 w b D fp) (hd : DiskAt w' b D' fp') (hu : Upd fp w w') (hs : Stays fp fp' w) : MyDisk B w0 w' b D' fp' :=
  ⟨hd, fun k hk => by rcases hs k hk with h1 | h1; exact h.new k h1; have := h.below.size; have := h.size; omega, below_upd h.below hu h.new (Nat.le_trans h.size h.below.size), h.size⟩

theorem new_my {B : Nat} {w0 w : World} (hb : Below B w0 w) (hB : B ≤ w0.heap.size) (n : Nat) (h1 : 1 ≤ n) (h2 : n ≤ 16384) :
    Calls Tryz.prog 75 #[.int .i64 n] w fun e w' => ∃ b fp, e = .returned (.tuple #[.pointer (some ⟨b, 0, none⟩), .int .i64 0]) ∧ MyDisk B w0 w' b (Dsk.new n) fp :=
  (new_ok n w h1 h2).mono (by
    rintro e w' ⟨b, fp, rfl, hd, hbe, hn⟩
    exact ⟨b, fp, rfl, hd, fun k hk => Nat.le_trans (Nat.le_trans hB hb.size) (hn k hk), hb.trans (hbe.mono (Nat.le_trans hB hb.size)), hB⟩)
section
variable {B : Nat} {w0 w : World} {b : Nat} {D : Dsk} {fp : Nat → Prop}
theorem write_my (h : MyDisk B w0 w b D fp) (a : Int) (s : List UInt8) (ha : -9223372036854775808 ≤ a ∧ a ≤ 9223372036854775807) (hl : s.length ≤ 100000000) (hloose : D.loose.length ≤ 100000000) :
    Calls Tryz.prog 101 #[.pointer (some ⟨b, 0, none⟩), .int .i64 a, .string (bs s)] w fun e w' => e = .returned (.int .i64 (D.write a s).2) ∧ ∃ fp', MyDisk B w0 w' b (D.write a s).1 fp' :=
  (write_any h.disk a s ha (by omega) (by omega)).mono (by
    rintro e w' ⟨rfl, fp', h1, h2, h3⟩
    exact ⟨rfl, fp', h.turn h1 h2 h3⟩)
theorem flush_my (h : MyDisk B w0 w b D fp) (hloose : D.loose.length ≤ 100000000) :
    Calls Tryz.prog 107 #[.pointer (some ⟨b, 0, none⟩)] w fun e w' => e = .returned (.int .i64 D.flush.2) ∧ ∃ fp', MyDisk B w0 w' b D.flush.1 fp' :=
  (flush_any h.disk (by omega)).mono (by
    rintro e w' ⟨rfl, fp', h1, h2, h3⟩
    exact ⟨rfl, fp', h.turn h1 h2 h3⟩)
theorem crash_my (h : MyDisk B w0 w b D fp) (keep : List UInt8) (hloose : D.loose.length ≤ 100000000) (hk : keep.length ≤ 1000000000) :
    Calls Tryz.prog 23 #[.pointer (some ⟨b, 0, none⟩), .string (bs keep)] w fun e w' => e = .returned (.int .i64 0) ∧ ∃ fp', MyDisk B w0 w' b (D.crash keep) fp' :=
  (crash_any h.disk keep (by omega) hk).mono (by
    rintro e w' ⟨rfl, fp', h1, h2, h3⟩
    exact ⟨rfl, fp', h.turn h1 h2 h3⟩)
theorem fuse_my (h : MyDisk B w0 w b D fp) (n : Int) (hn : n ≤ 9223372036854775807) :
    Calls Tryz.prog 22 #[.pointer (some ⟨b, 0, none⟩), .int .i64 n] w fun e w' => e = .returned (.int .i64 0) ∧ MyDisk B w0 w' b (D.fuse n) fp :=
  (fuse_any h.disk n hn).mono (by
    rintro e w' ⟨rfl, h1, h2⟩
    exact ⟨rfl, h.turn h1 h2 (fun k hk => .inl hk)⟩)
theorem read_my (h : MyDisk B w0 w b D fp) (a n : Int) (ha : -9223372036854775808 ≤ a ∧ a ≤ 9223372036854775807) (hn : -9223372036854775808 ≤ n ∧ n ≤ 9223372036854775807) :
    Calls Tryz.prog 115 #[.pointer (some ⟨b, 0, none⟩), .int .i64 a, .int .i64 n] w fun e w' => e = .returned (.tuple #[.string (bs (D.read a n).1), .int .i64 (D.read a n).2]) ∧ Below w.heap.size w w' := by
  obtain ⟨m, lv, hI, _⟩ := h.disk
  by_cases hd : D.down = true
  · have e : D.read a n = ([], 40) := by unfold Dsk.read; rw [if_pos hd]
    rw [e]
    exact (read_down hI a n hd).mono (by rintro e w' ⟨rfl, rfl⟩; exact ⟨rfl, Below.refl _ _⟩)
  · have hd' : D.down = false := by simpa using hd
    cases hi : D.inside a n with
    | false =>
      have e : D.read a n = ([], 2) := by unfold Dsk.read; rw [if_neg hd, hi, if_neg (by decide)]
      rw [e]
      exact (read_out hI a n ha.1 ha.2 hn.1 hn.2 hd' hi).mono (by rintro e w' ⟨rfl, rfl⟩; exact ⟨rfl, Below.refl _ _⟩)
    | true =>
      have e : D.read a n = (Dsk.text D.now a.toNat n.toNat, 0) := by unfold Dsk.read; rw [if_neg hd, hi, if_pos rfl]
      rw [e]
      have h2 := hi
      simp only [Dsk.inside, Bool.and_eq_true, decide_eq_true_eq] at h2
      have ea : a = (a.toNat : Int) := by omega
      have en : n = (n.toNat : Int) := by omega
      have := read_in hI a.toNat n.toNat hd' (by rw [← ea, ← en]; exact hi)
      rw [← ea, ← en] at this
      exact this
theorem sectors_my (h : MyDisk B w0 w b D fp) : Calls Tryz.prog 60 #[.pointer (some ⟨b, 0, none⟩)] w fun e w' => e = .returned (.int .i64 (D.n : Int)) ∧ w = w' := sectors_any h.disk
end
end Go.Proofs.YtdmbadkpendfhaaGreatDoor
