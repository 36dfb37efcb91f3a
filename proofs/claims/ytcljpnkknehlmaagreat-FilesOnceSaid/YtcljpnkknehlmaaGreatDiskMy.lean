/- The disk's contracts, in one word: a disk that lies wholly in memory from block B on; what lay below is as it was. -/
import Derived.Test.YtcljpnkknehlmaaGreatDiskF
import Derived.Test.YtcljpnkknehlmaaGreatDiskCopy
import Derived.Test.YtcljpnkknehlmaaGreatDiskFill
namespace Go.Proofs.YtcljpnkknehlmaaGreat
open Go.RowKit Go.Maps

/-- At b lies this disk, from block B on; its blocks are fp; and what lay below B is as it was. -/
structure MyDisk (B : Nat) (w0 w : World) (b : Nat) (D : Dsk) (fp : Nat → Prop) : Prop where
  disk : DiskAt w b D fp
  new : ∀ k, fp k → B ≤ k
  below : Below B w0 w
  size : B ≤ w0.heap.size
theorem MyDisk.fine {B : Nat} {w0 w : World} {b : Nat} {D : Dsk} {fp : Nat → Prop} (h : MyDisk B w0 w b D fp) : D.Fine := h.disk.fine
theorem MyDisk.step {B : Nat} {w0 w w' : World} {b : Nat} {D : Dsk} {fp : Nat → Prop} (h : MyDisk B w0 w b D fp) (hb : Below w.heap.size w w') : MyDisk B w0 w' b D fp :=
  ⟨h.disk.below hb, h.new, h.below.trans (hb.mono (Nat.le_trans h.size h.below.size)), h.size⟩
theorem MyDisk.turn {B : Nat} {w0 w w' : World} {b : Nat} {D D' : Dsk} {fp fp' : Nat → Prop} (h : MyDisk B w0 w b D fp) (hd : DiskAt w' b D' fp') (hu : Upd fp w w') (hs : Stays fp fp' w) : MyDisk B w0 w' b D' fp' :=
  ⟨hd, fun k hk => by rcases hs k hk with h1 | h1; exact h.new k h1; have := h.below.size; have := h.size; omega, below_upd h.below hu h.new (Nat.le_trans h.size h.below.size), h.size⟩

theorem new_my {B : Nat} {w0 w : World} (hb : Below B w0 w) (hB : B ≤ w0.heap.size) (n : Nat) (h1 : 1 ≤ n) (h2 : n ≤ 16384) :
    Calls Tryz.prog 7 #[.int .i64 n] w fun e w' => ∃ b fp, e = .returned (.tuple #[.pointer (some ⟨b, 0, none⟩), .int .i64 0]) ∧ MyDisk B w0 w' b (Dsk.new n) fp :=
  (new_ok n w h1 h2).mono (by
    rintro e w' ⟨b, fp, rfl, hd, hbe, hn⟩
    exact ⟨b, fp, rfl, hd, fun k hk => Nat.le_trans (Nat.le_trans hB hb.size) (hn k hk), hb.trans (hbe.mono (Nat.le_trans hB hb.size)), hB⟩)
section
variable {B : Nat} {w0 w : World} {b : Nat} {D : Dsk} {fp : Nat → Prop}
theorem write_my (h : MyDisk B w0 w b D fp) (a : Int) (s : List UInt8) (ha : -9223372036854775808 ≤ a ∧ a ≤ 9223372036854775807) (hl : s.length ≤ 100000000) (hloose : D.loose.length ≤ 100000000) :
    Calls Tryz.prog 53 #[.pointer (some ⟨b, 0, none⟩), .int .i64 a, .string (bs s)] w fun e w' => e = .returned (.int .i64 (D.write a s).2) ∧ ∃ fp', MyDisk B w0 w' b (D.write a s).1 fp' :=
  (write_any h.disk a s ha (by omega) (by omega)).mono (by
    rintro e w' ⟨rfl, fp', h1, h2, h3⟩
    exact ⟨rfl, fp', h.turn h1 h2 h3⟩)
theorem flush_my (h : MyDisk B w0 w b D fp) (hloose : D.loose.length ≤ 100000000) :
    Calls Tryz.prog 54 #[.pointer (some ⟨b, 0, none⟩)] w fun e w' => e = .returned (.int .i64 D.flush.2) ∧ ∃ fp', MyDisk B w0 w' b D.flush.1 fp' :=
  (flush_any h.disk (by omega)).mono (by
    rintro e w' ⟨rfl, fp', h1, h2, h3⟩
    exact ⟨rfl, fp', h.turn h1 h2 h3⟩)
theorem crash_my (h : MyDisk B w0 w b D fp) (keep : List UInt8) (hloose : D.loose.length ≤ 100000000) (hk : keep.length ≤ 1000000000) :
    Calls Tryz.prog 15 #[.pointer (some ⟨b, 0, none⟩), .string (bs keep)] w fun e w' => e = .returned (.int .i64 0) ∧ ∃ fp', MyDisk B w0 w' b (D.crash keep) fp' :=
  (crash_any h.disk keep (by omega) hk).mono (by
    rintro e w' ⟨rfl, fp', h1, h2, h3⟩
    exact ⟨rfl, fp', h.turn h1 h2 h3⟩)
theorem read_my (h : MyDisk B w0 w b D fp) (a n : Int) (ha : -9223372036854775808 ≤ a ∧ a ≤ 9223372036854775807) (hn : -9223372036854775808 ≤ n ∧ n ≤ 9223372036854775807) :
    Calls Tryz.prog 39 #[.pointer (some ⟨b, 0, none⟩), .int .i64 a, .int .i64 n] w fun e w' => e = .returned (.tuple #[.string (bs (D.read a n).1), .int .i64 (D.read a n).2]) ∧ Below w.heap.size w w' := by
  obtain ⟨m, lv, hI, _⟩ := h.disk
  by_cases hd : D.down = true
  · have e : D.read a n = ([], 40) := by unfold Dsk.read; rw [if_pos hd]
    rw [e]
    exact (read_down hI a n hd).mono (by rintro e w' ⟨rfl, rfl⟩; exact ⟨rfl, Below.refl _ _⟩)
  · have hd' : D.down = false := by simpa using hd
    cases hi : D.inside a n with
    | false =>
      have e : D.read a n = ([], 2) := by unfold Dsk.read; rw [if_neg hd, hi, if_neg (by decide)]
      rw [e]
      exact (read_out hI a n ha.1 ha.2 hn.1 hn.2 hd' hi).mono (by rintro e w' ⟨rfl, rfl⟩; exact ⟨rfl, Below.refl _ _⟩)
    | true =>
      have e : D.read a n = (Dsk.text D.now a.toNat n.toNat, 0) := by unfold Dsk.read; rw [if_neg hd, hi, if_pos rfl]
      rw [e]
      have h2 := hi
      simp only [Dsk.inside, Bool.and_eq_true, decide_eq_true_eq] at h2
      have ea : a = (a.toNat : Int) := by omega
      have en : n = (n.toNat : Int) := by omega
      have := read_in hI a.toNat n.toNat hd' (by rw [← ea, ← en]; exact hi)
      rw [← ea, ← en] at this
      exact this
theorem sectors_my (h : MyDisk B w0 w b D fp) : Calls Tryz.prog 16 #[.pointer (some ⟨b, 0, none⟩)] w fun e w' => e = .returned (.int .i64 (D.n : Int)) ∧ w = w' := sectors_any h.disk
end
end Go.Proofs.YtcljpnkknehlmaaGreat
