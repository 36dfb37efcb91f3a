/- maslinlaw04.Fill, walked. -/
import Derived.Test.YthbdflmckfgleaaDiskWrite
import Derived.Deep.RegionLaw
import Derived.Laws.MakeOwn
namespace Go.Proofs.Ythbdflmckfgleaa
open Go.RowKit Go.Maps

/-- A text, laid round, so far. -/
def fillTo (s : List UInt8) (k N : Nat) : List UInt8 := (List.range N).map fun i => if i < k then s.getD (i % s.length) 0 else 0
/-- So many bytes of a text, round. -/
def fill (s : List UInt8) (N : Nat) : List UInt8 := (List.range N).map fun i => s.getD (i % s.length) 0
@[simp] theorem fillTo_length (s : List UInt8) (k N : Nat) : (fillTo s k N).length = N := by simp [fillTo]
@[simp] theorem fill_length (s : List UInt8) (N : Nat) : (fill s N).length = N := by simp [fill]
theorem fillTo_zero (s : List UInt8) (N : Nat) : fillTo s 0 N = List.replicate N 0 := by
  apply List.ext_getElem <;> simp [fillTo]
theorem fillTo_full (s : List UInt8) (N : Nat) : fillTo s N N = fill s N := by
  apply List.ext_getElem
  · simp
  · intro i h1 h2
    simp [fillTo] at h1
    simp [fillTo, fill, h1]
theorem fillTo_step (s : List UInt8) (k N : Nat) : (fillTo s k N).set k (s.getD (k % s.length) 0) = fillTo s (k + 1) N := by
  apply List.ext_getElem
  · simp
  · intro i h1 h2
    simp at h1
    rw [List.getElem_set]
    simp only [fillTo, List.getElem_map, List.getElem_range]
    by_cases h : k = i
    · subst h; rw [if_pos rfl, if_pos (by omega)]
    · rw [if_neg h]
      by_cases h3 : i < k
      · rw [if_pos h3, if_pos (by omega)]
      · rw [if_neg h3, if_neg (by omega)]
theorem fill_nil (N : Nat) : fill [] N = List.replicate N 0 := by
  apply List.ext_getElem <;> simp [fill]

theorem u8_made (w : World) (n : Nat) (hn : n ≤ 1000000000) : ∃ C, (Instr.makeSlice 35 (.int .i64 (n : Int)) (.int .i64 (n : Int))).run Try.prog w = .ok (.slice (some ⟨w.heap.size, 0, none⟩) n n) (w.alloc (.cells C 5)) ∧
    BytesAt (w.alloc (.cells C 5)) w.heap.size (List.replicate n 0) := by
  have hinfo : (Try.prog.info? 5).map (fun i => (i.zero, i.size, i.bytes)) = some (some (.int .u8 0), 1, 1) := by kernel_rfl
  obtain ⟨i0, hi, hz0, hz1, hz2⟩ := info_parts hinfo
  have hrun := run_make (P := Try.prog) w 35 5 i0 _ Try.underlying35 hi hz0 .i64 .i64 n n (by omega) (Int.le_refl _) (by rw [hz2]; omega) (by omega)
  rw [Int.toNat_natCast] at hrun
  refine ⟨_, hrun, bytes_row_new w _ _ _ (fun i hi => ?_)⟩
  rw [List.length_replicate] at hi
  rw [hz1, List.getElem_replicate]
  simp [madeCells, Value.cells]
  exact ⟨i, by rw [Array.getElem?_range, if_pos hi], by rw [Nat.mod_one]; rfl⟩

set_option maxRecDepth 100000 in
set_option maxHeartbeats 1000000 in
theorem fill_any (s : List UInt8) (n : Int) (w : World) (hs : s.length ≤ 1000000000) (h1 : -9223372036854775808 ≤ n) (h2 : n ≤ 1000000) :
    Calls Try.prog 25 #[.string (bs s), .int .i64 n] w fun e w' => e = .returned (.string (bs (fill s (64 * n.toNat)))) ∧ Below w.heap.size w w' := by
  have hmax : (if n < 0 then (0 : Int) else n) = (n.toNat : Int) := by split <;> omega
  obtain ⟨N, hN⟩ : ∃ N : Nat, N = 64 * n.toNat := ⟨_, rfl⟩
  have hq : (n.toNat : Int) * 64 = (N : Int) := by omega
  rw [← hN]
  have hNb : N ≤ 64000000 := by omega
  have hq0 : n.toNat ≤ 1000000 := by omega
  clear hN
  generalize n.toNat = q at *
  obtain ⟨C, hmk, hrow⟩ := u8_made w N (by omega)
  have HROW := Lib.hid hrow
  clear hrow
  go_enter Try.func25, Try.ntmps25
  go_wp2_with fail
  by_cases hs0 : s = []
  · subst hs0
    go_loopw [6] (fun i wr => i = .int .i64 0 ∧ BytesAt wr w.heap.size (List.replicate N 0) ∧ Below w.heap.size w wr) (fun _ _ => 0)
    case atStart => exact ⟨rfl, HROW.out, (Below.refl _ _).alloc (Nat.le_refl _) _⟩
    case round =>
      obtain ⟨rfl, hat, hb⟩ := hrel
      have hbytes := run_bytes_bs Try.prog wr 35 5 9 Try.underlying35 Try.underlying5 Try.underlying9 w.heap.size 0 N N (List.replicate N 0) List.length_replicate (fun i h => by rw [Nat.zero_add]; exact hat.cell i h)
      have HB := Lib.hid hb
      have hf := fill_nil N
      rw [← hf] at hbytes
      clear hat hb hf
      by_cases hN : 0 < N
      · go_wp2_with fail
        go_ret
        exact ⟨rfl, HB.out⟩
      · go_wp2_with fail
        go_ret
        exact ⟨rfl, HB.out⟩
  · have hpos : 0 < s.length := List.length_pos_iff.2 hs0
    go_loopw [6] (fun i wr => ∃ k : Nat, k ≤ N ∧ i = .int .i64 k ∧ BytesAt wr w.heap.size (fillTo s k N) ∧ Below w.heap.size w wr) (fun i _ => N - (intOf i).toNat)
    case atStart => exact ⟨0, by omega, rfl, by rw [fillTo_zero]; exact HROW.out, (Below.refl _ _).alloc (Nat.le_refl _) _⟩
    case round =>
      obtain ⟨k, hk, rfl, hat, hb⟩ := hrel
      have HB := Lib.hid hb
      by_cases hlt : k < N
      · have hml := Nat.mod_lt k hpos
        have hmod : (k : Int) % (s.length : Int) = ((k % s.length : Nat) : Int) := by omega
        have hmodT : (k : Int).tmod (s.length : Int) = ((k % s.length : Nat) : Int) := by rw [Int.tmod_eq_emod_of_nonneg (by omega)]; exact hmod
        have HST := Lib.hid (fillTo_step s k N)
        have hgd : s.getD (k % s.length) 0 = s[k % s.length] := by rw [List.getD_eq_getElem?_getD, List.getElem?_eq_getElem hml]; rfl
        rw [hgd] at HST
        have hfz := hat.free k (by simpa using hlt)
        have hcell := hat.cell k (by simpa using hlt)
        generalize (fillTo s k N)[k]'(by simpa using hlt) = y at hcell
        have HAT := Lib.hid hat
        clear hat hb hgd
        generalize k % s.length = i at *
        go_wp2_with fail
        refine ⟨⟨k + 1, by omega, rfl, ?_, HB.out.setCell (p := ⟨w.heap.size, k, none⟩) (Nat.le_refl _) _⟩, ?_⟩
        · have := HAT.out.set k s[i]
          rw [HST.out] at this
          exact this
        · show N - ((k : Int) + 1).toNat < N - ((k : Int)).toNat
          omega
      · obtain rfl : k = N := by omega
        rw [fillTo_full] at hat
        have hbytes := run_bytes_bs Try.prog wr 35 5 9 Try.underlying35 Try.underlying5 Try.underlying9 w.heap.size 0 k k (fill s k) (fill_length _ _) (fun i h => by rw [Nat.zero_add]; exact hat.cell i h)
        clear hat hb
        go_wp2_with fail
        go_ret
        exact ⟨rfl, HB.out⟩
end Go.Proofs.Ythbdflmckfgleaa
