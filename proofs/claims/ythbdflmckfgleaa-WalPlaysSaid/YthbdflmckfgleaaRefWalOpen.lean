/- maslinref05: how the document's log lies in memory; Open, Room, fall, Same, walked. -/
import Derived.Test.YthbdflmckfgleaaRefWal
import Derived.Test.YthbdflmckfgleaaWalOps
import Derived.Test.YthbdflmckfgleaaRef
namespace Go.Proofs.Ythbdflmckfgleaa
open Go.RowKit Go.Maps
open Wal

/-- The cells of the document's log. -/
def rwalRow (L : WLog) (b : Nat) (gv : Value) : Array Value := #[.pointer (some ⟨b, 0, none⟩), .int .i64 (L.from_ : Int), .int .i64 (L.n : Int), .int .u64 (L.gen : Int), gv, .int .i64 (L.used : Int), .int .i64 L.fault]
structure RWalIn (w : World) (x b : Nat) (gv : Value) (L : WLog) : Prop where
  struct : w.heap[x]? = some (.cells (rwalRow L b gv) 133)
  groups : GroupsAt w gv L.groups
  gen : L.gen < 18446744073709551616
  used : L.used + 1 ≤ L.n
  n : L.from_ + L.n ≤ 16384
theorem RWalIn.cells {w : World} {x b : Nat} {gv : Value} {L : WLog} (h : RWalIn w x b gv L) :
    w.cell? ⟨x, 0, none⟩ = some (.pointer (some ⟨b, 0, none⟩)) ∧ w.cell? ⟨x, 1, none⟩ = some (.int .i64 (L.from_ : Int)) ∧ w.cell? ⟨x, 2, none⟩ = some (.int .i64 (L.n : Int)) ∧ w.cell? ⟨x, 3, none⟩ = some (.int .u64 (L.gen : Int)) ∧
    w.cell? ⟨x, 4, none⟩ = some gv ∧ w.cell? ⟨x, 5, none⟩ = some (.int .i64 (L.used : Int)) ∧ w.cell? ⟨x, 6, none⟩ = some (.int .i64 L.fault) ∧ ∀ j, w.frozen? ⟨x, j, none⟩ = false := by
  refine ⟨?_, ?_, ?_, ?_, ?_, ?_, ?_, fun j => frozen_of_row w x j _ _ h.struct⟩ <;> rw [cell_of_row w x _ _ _ _ h.struct] <;> rfl
theorem RWalIn.lt {w : World} {x b : Nat} {gv : Value} {L : WLog} (h : RWalIn w x b gv L) : ∀ k, walBlocks x gv k → k < w.heap.size := by
  rintro k (rfl | hk)
  · exact blk_lt h.struct
  · obtain ⟨cs, h1, _⟩ := h.groups
    exact ownsRow_lt h1 hk
theorem RWalIn.ne {w : World} {x b : Nat} {gv : Value} {L : WLog} (h : RWalIn w x b gv L) : gv.ownBlock ≠ some x := fun e => by
  obtain ⟨cs, h1, _⟩ := h.groups
  exact BlkOf.ne (ownsRow_blk h1 e) ⟨_, _, h.struct⟩ (by decide) rfl
theorem RWalIn.upd {F : Nat → Prop} {w w' : World} {x b : Nat} {gv : Value} {L : WLog} (h : RWalIn w x b gv L) (hu : Upd F w w') (hF : ∀ k, BlkOf w k 9 → ¬ F k) (hG : ∀ k, walBlocks x gv k → ¬ F k) : RWalIn w' x b gv L :=
  ⟨(hu.block x (blk_lt h.struct) (hG x (.inl rfl))).trans h.struct, h.groups.upd hu hF (fun g hg => hG g (.inr hg)), h.gen, h.used, h.n⟩
theorem RWalIn.below {w w' : World} {x b : Nat} {gv : Value} {L : WLog} (h : RWalIn w x b gv L) (hb : Below w.heap.size w w') : RWalIn w' x b gv L := h.upd (Upd.of_below (F := fun _ => False) hb) (fun _ _ f => f) (fun _ _ f => f)
/-- A document's disk has no other elements in its blocks than its own. -/
theorem RefAt.kindOf {w : World} {b : Nat} {D : Dsk} {fp : Nat → Prop} (h : RefAt w b D fp) {k : Nat} (hk : fp k) {t : TypeId} (hb : BlkOf w k t) : t = 119 ∨ t = 9 ∨ t = 123 := by
  obtain ⟨bv, lv, hI, rfl⟩ := h
  obtain ⟨cs, fr, hb⟩ := hb
  rcases hk with rfl | hk | hk
  · rw [hI.struct] at hb
    injection hb with hb
    injection hb with _ hb _
    exact .inl hb.symm
  · rcases hI.base.2 with ⟨e1, _⟩ | ⟨g, cap, cur, e1, _, hg, _⟩
    · subst e1; simp [Value.ownBlock] at hk
    · subst e1
      simp [Value.ownBlock] at hk
      subst hk
      rw [hg] at hb
      injection hb with hb
      injection hb with _ hb _
      exact .inr (.inl hb.symm)
  · rcases hI.loose.2 with ⟨e1, _⟩ | ⟨g, cap, cur, e1, _, hg, _⟩
    · subst e1; simp [Value.ownBlock] at hk
    · subst e1
      simp [Value.ownBlock] at hk
      subst hk
      rw [hg] at hb
      injection hb with hb
      injection hb with _ hb _
      exact .inr (.inr hb.symm)
theorem RWalIn.apart {w : World} {x b : Nat} {gv : Value} {L : WLog} (h : RWalIn w x b gv L) {b' : Nat} {D : Dsk} {fp : Nat → Prop} (hd : RefAt w b' D fp) (i : Nat) (hk : fp i) : ¬ walBlocks x gv i := by
  rintro (rfl | hg)
  · have := hd.kindOf hk ⟨_, _, h.struct⟩
    revert this; decide
  · obtain ⟨cs, h1, _⟩ := h.groups
    have := hd.kindOf hk (ownsRow_blk h1 hg)
    revert this; decide
/-- What is done to the document's disk leaves the document's log. -/
theorem RWalIn.disk {w w' : World} {x b b' : Nat} {gv : Value} {L : WLog} {D : Dsk} {fp : Nat → Prop} (h : RWalIn w x b gv L) (hd : RefAt w b' D fp) (hu : Upd (NoStr w fp) w w') : RWalIn w' x b gv L :=
  h.upd hu (fun _ hk hf => hf.2 hk) (fun k hk hf => h.apart hd k hf.1 hk)

def ROpenPost (w : World) (b : Nat) (D : Dsk) (a n : Int) (e : Ending) (w' : World) : Prop :=
  match D.openW a n with
  | (none, k) => e = .returned (.tuple #[.pointer none, .int .i64 k]) ∧ Below w.heap.size w w'
  | (some L, k) => ∃ x gv, e = .returned (.tuple #[.pointer (some ⟨x, 0, none⟩), .int .i64 k]) ∧ RWalIn w' x b gv L ∧ Below w.heap.size w w' ∧ ∀ q, walBlocks x gv q → w.heap.size ≤ q
theorem ropenPost_none {w w' : World} {b : Nat} {D : Dsk} {a n k : Int} {e : Ending} (h : D.openW a n = (none, k)) (he : e = .returned (.tuple #[.pointer none, .int .i64 k])) (hb : Below w.heap.size w w') : ROpenPost w b D a n e w' := by
  unfold ROpenPost; rw [h]; exact ⟨he, hb⟩
theorem ropenPost_some {w w' : World} {b : Nat} {D : Dsk} {a n k : Int} {L : WLog} {e : Ending} {x : Nat} {gv : Value} (h : D.openW a n = (some L, k)) (he : e = .returned (.tuple #[.pointer (some ⟨x, 0, none⟩), .int .i64 k])) (hw : RWalIn w' x b gv L) (hb : Below w.heap.size w w') (hn : ∀ q, walBlocks x gv q → w.heap.size ≤ q) : ROpenPost w b D a n e w' := by
  unfold ROpenPost; rw [h]; exact ⟨x, gv, he, hw, hb, hn⟩

set_option maxRecDepth 100000 in
set_option maxHeartbeats 1000000 in
theorem rwalOpen_arg {w : World} {b : Nat} {D : Dsk} {fp : Nat → Prop} (h : RefAt w b D fp) (a n : Int) (ha : -9223372036854775808 ≤ a ∧ a ≤ 9223372036854775807) (hn : -9223372036854775808 ≤ n ∧ n ≤ 9223372036854775807)
    (hbad : n < 2 ∨ a < 0 ∨ (D.n : Int) < a ∨ (D.n : Int) - a < n) :
    Calls Try.prog 45 #[.pointer (some ⟨b, 0, none⟩), .int .i64 a, .int .i64 n] w fun e w' => ROpenPost w b D a n e w' := by
  have hO : Hid (D.openW a n = (none, 2)) := Lib.hid (by unfold Dsk.openW; rw [if_pos hbad])
  obtain ⟨bv, lv, hI, _⟩ := h
  have hN := hI.fine.n2
  obtain ⟨c0, _, _, _, _⟩ := hI.cells
  obtain ⟨q, cap, rfl⟩ := slice_len hI.base
  clear hI
  generalize D.n = N at *
  have hN2 : (N : Int) ≤ 16384 := by omega
  by_cases h1 : n < 2
  · clear hbad
    go_enter Try.func45, Try.ntmps45
    go_wp2_with fail
    go_ret2
    exact ropenPost_none hO.out rfl (Below.refl _ _)
  by_cases h2 : a < 0
  · clear hbad
    go_enter Try.func45, Try.ntmps45
    go_wp2_with fail
    go_ret2
    exact ropenPost_none hO.out rfl (Below.refl _ _)
  by_cases h3 : (N : Int) < a
  · clear hbad
    go_enter Try.func45, Try.ntmps45
    go_wp2_with fail
    go_ret2
    exact ropenPost_none hO.out rfl (Below.refl _ _)
  · have h4 : (N : Int) - a < n := by omega
    clear hbad
    go_enter Try.func45, Try.ntmps45
    go_wp2_with fail
    go_ret2
    exact ropenPost_none hO.out rfl (Below.refl _ _)

set_option maxRecDepth 100000 in
set_option maxHeartbeats 1000000 in
theorem rwalOpen_down {w : World} {b : Nat} {D : Dsk} {fp : Nat → Prop} (h : RefAt w b D fp) (a n : Nat) (h2 : 2 ≤ n) (han : a + n ≤ D.n) (hd : D.down = true) (hlo : D.loose.length ≤ 1000000000) :
    Calls Try.prog 45 #[.pointer (some ⟨b, 0, none⟩), .int .i64 (a : Int), .int .i64 (n : Int)] w fun e w' => ROpenPost w b D a n e w' := by
  have hO : Hid (D.openW a n = (none, 40)) := Lib.hid (by unfold Dsk.openW; rw [if_neg (by omega), if_pos hd])
  have hr : D.read a n = ([], 40) := by unfold Dsk.read; rw [if_pos hd]
  have hrd := rread_any h hlo a n
  rw [hr] at hrd
  obtain ⟨bv, lv, hI, _⟩ := h
  have hN := hI.fine.n2
  have hrd := hrd (by omega) (by omega)
  have HRD := Lib.hid hrd
  obtain ⟨c0, _, _, _, _⟩ := hI.cells
  obtain ⟨q, cap, rfl⟩ := slice_len hI.base
  clear hI hrd hr hd
  generalize D.n = N at *
  go_enter Try.func45, Try.ntmps45
  go_wp2_with fail
  refine HRD.out.mono ?_
  rintro e w1 ⟨rfl, hb⟩
  have HB := Lib.hid hb
  clear hb
  go_wp2_with fail
  go_ret2
  exact ropenPost_none hO.out rfl HB.out
/-- How far it has come. -/
structure ROpening (w0 w wr : World) (x b a n gen used : Nat) (r : List UInt8) (sv : Value) (S : List UInt8) (gv : Value) (l : List (List (List UInt8))) (u k : Nat) : Prop where
  val : sv = .string (bs S)
  mod : S.length % 64 = 0
  fuel : S.length ≤ 64 * k
  small : S.length ≤ 10000000
  wal : RWalIn wr x b gv ⟨a, n, gen, u, l, 0⟩
  below : Below w0.heap.size w wr
  new : ∀ q, walBlocks x gv q → w0.heap.size ≤ q
  read : readGs used r = (readGs k S).map (l ++ ·)
  len : l.length + k = used
  sum : 64 * u + S.length = 64 * used
/-- One more group. -/
theorem RWalIn.pushed {w w1 w2 : World} {x b : Nat} {gv lv v' : Value} {L : WLog} {l : List (List UInt8)} {cs : List Value} (h : RWalIn w x b gv L) (hl : RowOk w lv l)
    (hcl : cs.length = L.groups.length) (hc1 : ∀ u ∈ cs, u.oneCell' = true) (hcr : ∀ i (h : i < L.groups.length) (h' : i < cs.length), RowOk w cs[i] L.groups[i]) (hC : w.ownsRow 0 31 1 gv L.groups.length cs)
    (hb : Below w.heap.size w w1) (hgrow : w1.grownBy w2 gv.ownBlock) (hown : w2.ownsRow 0 31 1 v' (L.groups.length + 1) (cs ++ [lv])) (hat : v'.ownBlock = gv.ownBlock ∨ v'.ownBlock = some w1.heap.size) :
    RWalIn (w2.setCell ⟨x, 4, none⟩ v') x b v' { L with groups := L.groups ++ [l] } ∧ Upd (walBlocks x gv) w (w2.setCell ⟨x, 4, none⟩ v') ∧ Stays (walBlocks x gv) (walBlocks x v') w := by
  have hx := blk_lt h.struct
  have hsz := hb.size
  have u1 : Upd (fun k => gv.ownBlock = some k) w w2 := (Upd.of_below hb).trans (Upd.of_grownBy (F := fun k => gv.ownBlock = some k) hgrow (fun k e => e)) (fun k hk => .inl hk)
  have hs2 : w2.heap[x]? = some (.cells (rwalRow L b gv) 133) := (u1.block x hx (fun e => h.ne e)).trans h.struct
  have hv' : v'.ownBlock ≠ some x := fun e => by
    rcases hat with hat | hat
    · exact h.ne (by rw [← hat, e])
    · rw [e] at hat
      have := Option.some.inj hat
      omega
  have hgr := GroupsAt.pushed rfl hC hl hcl hc1 hcr hb hgrow hown
  have c1 : Upd (fun k => k = x) w2 (w2.setCell ⟨x, 4, none⟩ v') := (Upd.refl (fun k => k = x) w2).setCell (p := ⟨x, 4, none⟩) (.inl rfl) _
  refine ⟨⟨heap_setCell_same w2 x 4 _ _ v' hs2, hgr.upd c1 (fun k hk e => by subst e; exact BlkOf.ne hk ⟨_, _, hs2⟩ (by decide) rfl) (fun g hg e => hv' (by rw [hg, e])), h.gen, h.used, h.n⟩, ?_, ?_⟩
  · exact (u1.mono (fun k e => .inr e)).setCell (p := ⟨x, 4, none⟩) (.inl (.inl rfl)) _
  · rintro k (rfl | hk)
    · exact .inl (.inl rfl)
    · rcases hat with hat | hat
      · exact .inl (.inr (by rw [← hat]; exact hk))
      · rw [hat] at hk
        have := Option.some.inj hk
        exact .inr (by omega)
theorem RWalIn.setUsed {w : World} {x b : Nat} {gv : Value} {L : WLog} (h : RWalIn w x b gv L) (u : Nat) (hu : u + 1 ≤ L.n) : RWalIn (w.setCell ⟨x, 5, none⟩ (.int .i64 (u : Int))) x b gv { L with used := u } := by
  have hu' : Upd (fun i => i = x) w (w.setCell ⟨x, 5, none⟩ (.int .i64 (u : Int))) := (Upd.refl (fun i => i = x) w).setCell (p := ⟨x, 5, none⟩) (.inl rfl) _
  refine ⟨heap_setCell_same w x 5 _ _ _ h.struct, h.groups.upd hu' (fun i hi e => by subst e; exact BlkOf.ne hi ⟨_, _, h.struct⟩ (by decide) rfl) (fun g hg e => h.ne (by rw [hg, e])), h.gen, hu, h.n⟩
theorem RWalIn.setGen {w : World} {x b : Nat} {gv : Value} {L : WLog} (h : RWalIn w x b gv L) (g : Nat) (hg : g < 18446744073709551616) : RWalIn (w.setCell ⟨x, 3, none⟩ (.int .u64 (g : Int))) x b gv { L with gen := g } := by
  have hu' : Upd (fun i => i = x) w (w.setCell ⟨x, 3, none⟩ (.int .u64 (g : Int))) := (Upd.refl (fun i => i = x) w).setCell (p := ⟨x, 3, none⟩) (.inl rfl) _
  refine ⟨heap_setCell_same w x 3 _ _ _ h.struct, h.groups.upd hu' (fun i hi e => by subst e; exact BlkOf.ne hi ⟨_, _, h.struct⟩ (by decide) rfl) (fun g hg e => h.ne (by rw [hg, e])), hg, h.used, h.n⟩

set_option maxRecDepth 100000 in
set_option maxHeartbeats 4000000 in
theorem rwalOpen_in {w : World} {b : Nat} {D : Dsk} {fp : Nat → Prop} (h : RefAt w b D fp) (a n : Nat) (h2 : 2 ≤ n) (han : a + n ≤ D.n) (hd : D.down = false) (hlo : D.loose.length ≤ 1000000000) :
    Calls Try.prog 45 #[.pointer (some ⟨b, 0, none⟩), .int .i64 (a : Int), .int .i64 (n : Int)] w fun e w' => ROpenPost w b D a n e w' := by
  have hO : D.openW a n = match openS (Dsk.text D.now a n) n with | none => (none, 50) | some (g, u, l) => (some ⟨a, n, g, u, l, 0⟩, 0) := by
    unfold Dsk.openW
    rw [if_neg (by omega), if_neg (by simp [hd]), Int.toNat_natCast, Int.toNat_natCast]
    rfl
  have hr : D.read a n = (Dsk.text D.now a n, 0) := by
    unfold Dsk.read; rw [if_neg (by simp [hd]), if_pos (by simp [Dsk.inside]; omega)]; rfl
  have hrd := rread_any h hlo a n
  rw [hr] at hrd
  obtain ⟨bv, lv, hI, _⟩ := h
  have hN := hI.fine.n2
  have hlen : (Dsk.text D.now a n).length = 64 * n := Dsk.len_in (fun i h1 h2 => hI.fine.now i (by omega))
  have hrd := hrd (by omega) (by omega)
  have HRD := Lib.hid hrd
  obtain ⟨c0, _, _, _, _⟩ := hI.cells
  obtain ⟨q, cap, rfl⟩ := slice_len hI.base
  clear hI hrd hr hd
  generalize D.n = N at *
  generalize Dsk.text D.now a n = s at *
  have hc64 : ∀ W, (Instr.slice 9 (.string (bs s)) none (some (.int .i64 64)) none).run Try.prog W = .ok (.string (bs (s.take 64))) W := fun W => run_cut_to Try.prog W 9 Try.underlying9 s 64 (by omega)
  have hf64 : (s.take 64).length = 64 := by rw [List.length_take]; omega
  have HF64 := Lib.hid hf64
  have HO := Lib.hid hO
  have HLEN := Lib.hid hlen
  clear hf64 hO hlen
  go_enter Try.func45, Try.ntmps45
  go_wp2_with fail
  refine HRD.out.mono ?_
  rintro e w1 ⟨rfl, hb⟩
  have HB := Lib.hid hb
  obtain ⟨C, hmk0, hrow⟩ := u8_made (w1.alloc (.cells #[.pointer (some ⟨b, 0, none⟩), .int .i64 (a : Int), .int .i64 (n : Int), .int .u64 0, .slice none 0 0, .int .i64 0, .int .i64 0] 133)) 64 (by omega)
  rw [World.size_alloc] at hmk0
  have hmk : (Instr.makeSlice 35 (.int .i64 64) (.int .i64 64)).run Try.prog (w1.alloc (.cells #[.pointer (some ⟨b, 0, none⟩), .int .i64 (a : Int), .int .i64 (n : Int), .int .u64 0, .slice none 0 0, .int .i64 0, .int .i64 0] 133)) = .ok (.slice (some ⟨w1.heap.size + 1, 0, none⟩) 64 64) ((w1.alloc (.cells #[.pointer (some ⟨b, 0, none⟩), .int .i64 (a : Int), .int .i64 (n : Int), .int .u64 0, .slice none 0 0, .int .i64 0, .int .i64 0] 133)).alloc (.cells C 5)) := hmk0
  rw [World.size_alloc] at hrow
  have hbytes := run_bytes_bs Try.prog ((w1.alloc (.cells #[.pointer (some ⟨b, 0, none⟩), .int .i64 (a : Int), .int .i64 (n : Int), .int .u64 0, .slice none 0 0, .int .i64 0, .int .i64 0] 133)).alloc (.cells C 5)) 35 5 9 Try.underlying35 Try.underlying5 Try.underlying9 (w1.heap.size + 1) 0 64 64 (pad [0]) rfl (fun i h => by rw [Nat.zero_add]; exact hrow.cell i h)
  have hw2 : RWalIn ((w1.alloc (.cells #[.pointer (some ⟨b, 0, none⟩), .int .i64 (a : Int), .int .i64 (n : Int), .int .u64 0, .slice none 0 0, .int .i64 0, .int .i64 0] 133)).alloc (.cells C 5)) w1.heap.size b (.slice none 0 0) ⟨a, n, 0, 0, [], 0⟩ := RWalIn.below (w := w1.alloc (.cells #[.pointer (some ⟨b, 0, none⟩), .int .i64 (a : Int), .int .i64 (n : Int), .int .u64 0, .slice none 0 0, .int .i64 0, .int .i64 0] 133)) ⟨heap_alloc_new w1 _, GroupsAt.none _, by show 0 < 18446744073709551616; decide, by show 0 + 1 ≤ n; omega, by show a + n ≤ 16384; omega⟩ ((Below.refl _ _).alloc (Nat.le_refl _) _)
  have hb2 : Below w.heap.size w ((w1.alloc (.cells #[.pointer (some ⟨b, 0, none⟩), .int .i64 (a : Int), .int .i64 (n : Int), .int .u64 0, .slice none 0 0, .int .i64 0, .int .i64 0] 133)).alloc (.cells C 5)) := (hb.alloc hb.size _).alloc (Nat.le_trans hb.size (by rw [World.size_alloc]; omega)) _
  have HX := Lib.hid (show w.heap.size ≤ w1.heap.size from hb.size)
  have HW2 := Lib.hid hw2
  have HB2 := Lib.hid hb2
  clear hb hmk0 hrow hw2 hb2 c0
  have hOS : openS s n = if s.take 64 = pad [0] then some (0, 0, []) else
    if s.take 64 = Wal.mark (Crc.val (((s.take 64).take 12).drop 4)) (Crc.val (((s.take 64).take 16).drop 12)) ∧ Crc.val (((s.take 64).take 16).drop 12) ≤ n - 1 then
      (readGs (Crc.val (((s.take 64).take 16).drop 12)) ((s.drop 64).take (64 * Crc.val (((s.take 64).take 16).drop 12)))).map fun l => (Crc.val (((s.take 64).take 12).drop 4), Crc.val (((s.take 64).take 16).drop 12), l)
    else none := rfl
  generalize s.take 64 = f at *
  by_cases hz : f = pad [0]
  · rw [if_pos hz] at hOS
    have hbz : (f == pad [0]) = true := by simp [hz]
    have HOS := Lib.hid hOS
    clear hOS hz
    go_wp2_with fail
    go_ret2
    refine ropenPost_some (L := ⟨a, n, 0, 0, [], 0⟩) (k := 0) (by rw [HO.out, HOS.out]) rfl HW2.out HB2.out (fun q hq => ?_)
    rcases hq with rfl | hq
    · exact HX.out
    · simp [Value.ownBlock] at hq
  · rw [if_neg hz] at hOS
    have hbz : (f == pad [0]) = false := by simp [hz]
    have hfl := HF64.out
    have hcu1 : ∀ W, (Instr.slice 9 (.string (bs f)) (some (.int .i64 4)) (some (.int .i64 12)) none).run Try.prog W = .ok (.string (bs ((f.take 12).drop 4))) W := fun W => run_cut Try.prog W 9 Try.underlying9 f 4 12 (by omega) (by omega)
    have hcu2 : ∀ W, (Instr.slice 9 (.string (bs f)) (some (.int .i64 12)) (some (.int .i64 16)) none).run Try.prog W = .ok (.string (bs ((f.take 16).drop 12))) W := fun W => run_cut Try.prog W 9 Try.underlying9 f 12 16 (by omega) (by omega)
    have l1 : ((f.take 12).drop 4).length = 8 := by rw [List.length_drop, List.length_take]; omega
    have l2 : ((f.take 16).drop 12).length = 4 := by rw [List.length_drop, List.length_take]; omega
    have g1 := fun (W : World) => value_any ((f.take 12).drop 4) W (by omega)
    have g2 := fun (W : World) => value_any ((f.take 16).drop 12) W (by omega)
    have v1 := Crc.val_lt ((f.take 12).drop 4)
    have v2 := Crc.val_lt ((f.take 16).drop 12)
    rw [l1] at v1
    rw [l2] at v2
    generalize Crc.val ((f.take 12).drop 4) = gen at *
    generalize Crc.val ((f.take 16).drop 12) = used at *
    have v1' : gen < 18446744073709551616 := v1
    have v2' : used < 4294967296 := v2
    have HG1 := Lib.hid g1; have HG2 := Lib.hid g2; have HV1 := Lib.hid v1'
    have hwu0 : IntKind.i64.wrap (used : Int) = (used : Int) := IntWalk.i64_in _ (by omega)
    have hstG : RWalIn ((w1.alloc (.cells #[.pointer (some ⟨b, 0, none⟩), .int .i64 (a : Int), .int .i64 (n : Int), .int .u64 (gen : Int), .slice none 0 0, .int .i64 0, .int .i64 0] 133)).alloc (.cells C 5)) w1.heap.size b (.slice none 0 0) ⟨a, n, gen, 0, [], 0⟩ := RWalIn.below (w := w1.alloc (.cells #[.pointer (some ⟨b, 0, none⟩), .int .i64 (a : Int), .int .i64 (n : Int), .int .u64 (gen : Int), .slice none 0 0, .int .i64 0, .int .i64 0] 133)) ⟨heap_alloc_new w1 _, GroupsAt.none _, v1', by show 0 + 1 ≤ n; omega, HW2.out.n⟩ ((Below.refl _ _).alloc (Nat.le_refl _) _)
    have HSG := Lib.hid hstG
    have HBG := Lib.hid (show Below w.heap.size w ((w1.alloc (.cells #[.pointer (some ⟨b, 0, none⟩), .int .i64 (a : Int), .int .i64 (n : Int), .int .u64 (gen : Int), .slice none 0 0, .int .i64 0, .int .i64 0] 133)).alloc (.cells C 5)) from (HB.out.alloc HB.out.size _).alloc (Nat.le_trans HB.out.size (by rw [World.size_alloc]; omega)) _)
    clear hz hfl l1 l2 g1 g2 v1 v2 v1' hstG
    by_cases hmk2 : f = Wal.mark gen used
    · have hbm : (f == Wal.mark gen used) = true := by rw [hmk2]; simp
      have hbm2 : (f != Wal.mark gen used) = false := by rw [hmk2]; simp
      by_cases hun : used ≤ n - 1
      · rw [if_pos ⟨hmk2, hun⟩] at hOS
        have hui : (used : Int) ≤ (n : Int) - 1 := by omega
        have HOS := Lib.hid hOS
        have HMK := Lib.hid hmk2
        clear hOS hmk2
        go_wp2_with fail
        refine (HG1.out _).mono ?_
        rintro e w3 ⟨rfl, rfl⟩
        go_wp2_with fail
        refine (HG2.out _).mono ?_
        rintro e w3 ⟨rfl, rfl⟩
        go_wp2_with fail
        refine (rmark_any gen used _ HV1.out v2').mono ?_
        rintro e w3 ⟨rfl, hb3⟩
        have HW3 := Lib.hid (HSG.out.below hb3)
        have HB3 := Lib.hid (HBG.out.trans (hb3.mono HBG.out.size))
        have hsl := HLEN.out
        have hRL : ((s.drop 64).take (64 * used)).length = 64 * used := by rw [List.length_take, List.length_drop]; omega
        have hcr : ∀ W, (Instr.slice 9 (.string (bs s)) (some (.int .i64 64)) (some (.int .i64 (64 * (1 + (used : Int))))) none).run Try.prog W = .ok (.string (bs ((s.drop 64).take (64 * used)))) W := fun W => by
          have := run_cut Try.prog W 9 Try.underlying9 s 64 (64 * (1 + used)) (by omega) (by omega)
          rw [List.drop_take, show 64 * (1 + used) - 64 = 64 * used by omega, Int.natCast_mul, Int.natCast_add] at this
          exact this
        have HRL := Lib.hid hRL
        generalize (s.drop 64).take (64 * used) = R at *
        have hub : used ≤ 16384 := by omega
        clear hb3 hRL hmk hbytes hsl
        go_wp2_with fail
        go_loopw [8] (fun sv wr => ∃ (S : List UInt8) (gv : Value) (l : List (List (List UInt8))) (u k : Nat), ROpening w w wr w1.heap.size b a n gen used R sv S gv l u k) (fun sv _ => strSize sv)
        case atStart =>
          refine ⟨R, .slice none 0 0, [], 0, used, rfl, by rw [HRL.out]; omega, by rw [HRL.out]; omega, by rw [HRL.out]; omega, HW3.out, HB3.out, fun q hq => ?_, by simp, by simp, by rw [HRL.out]; omega⟩
          rcases hq with rfl | hq
          · exact HX.out
          · simp [Value.ownBlock] at hq
        case round =>
          obtain ⟨S, gv, l, u, k, ⟨rfl, hS64, hSk, hSb, hwi, hb, hnew, hrs, hlk, hsum⟩⟩ := hrel
          have HLK := Lib.hid hlk
          have HWI := Lib.hid hwi; have HBR := Lib.hid hb; have HNW := Lib.hid hnew; have HRS := Lib.hid hrs
          clear hlk hwi hb hnew hrs HW2 HW3 HB2 HB3 HSG HBG
          by_cases hS : S = []
          · subst hS
            have hu : u = used := by have : 64 * u + 0 = 64 * used := hsum; omega
            go_wp2_with fail
            go_ret2
            refine ropenPost_some (L := ⟨a, n, gen, u, l, 0⟩) (k := 0) ?_ rfl HWI.out HBR.out HNW.out
            rw [HO.out, HOS.out, HRS.out, readGs_nil, hu]
            simp
          · have hkp : 0 < S.length := List.length_pos_iff.2 hS
            have hkpi : (0 : Int) < (S.length : Int) := by omega
            have HSN := Lib.hid hS
            clear hS
            go_wp2_with fail
            refine (rnext_any S _ hSb hS64).mono ?_
            intro e w5 hp
            unfold RNextPost at hp
            obtain ⟨k', rfl⟩ : ∃ k', k = k' + 1 := ⟨k - 1, by omega⟩
            cases hnx : nextG S with
            | none =>
              rw [hnx] at hp
              obtain ⟨⟨vv, kk, rfl⟩, hb5⟩ := hp
              have HB5 := Lib.hid (HBR.out.trans (hb5.mono HBR.out.size))
              have hno : Hid (readGs used R = none) := Lib.hid (readGs_none HSN.out HRS.out hnx)
              clear hb5 hnx
              go_wp2_with fail
              go_ret2
              exact ropenPost_none (by rw [HO.out, HOS.out, hno.out]; rfl) rfl HB5.out
            | some pr =>
              obtain ⟨t, m⟩ := pr
              rw [hnx] at hp
              obtain ⟨lv, rfl, hrow, hb5, _⟩ := hp
              obtain ⟨hm1, hm2, hm3⟩ := nextG_some hnx
              obtain ⟨mq, rfl⟩ : ∃ mq, m = 64 * mq := ⟨m / 64, by omega⟩
              have hmq : 64 * mq / 64 = mq := by omega
              have HB5 := Lib.hid (HBR.out.trans (hb5.mono HBR.out.size))
              have HW5 := Lib.hid (HWI.out.below hb5)
              obtain ⟨qa, ca, rfl, _⟩ := texts_of_row hrow
              have HRK := Lib.hid (RowOk.of_row hrow)
              have HST := Lib.hid (readGs_step HSN.out HRS.out hnx)
              have hux := HBR.out.size
              obtain ⟨cs, hc1, hc2, hc3, hc4⟩ := HW5.out.groups
              obtain ⟨qg, cg, rfl⟩ := slice_len hc1
              have HC1 := Lib.hid hc1; have HC2 := Lib.hid hc2; have HC3 := Lib.hid hc3; have HC4 := Lib.hid hc4
              obtain ⟨i0, hi0, hz0, hz1, hz2⟩ := info_parts rows_info
              obtain ⟨d0, d1, d2, d3, d4, d5, d6, df⟩ := HW5.out.cells
              have df4 := df 4
              have hll : l.length ≤ 16384 := by have := HLK.out; omega
              have k4 := fun (ob : Obj) => And.intro ((((Below.refl w5.heap.size w5).alloc (Nat.le_refl _) ob).cell (p := ⟨w1.heap.size, 4, none⟩) (HW5.out.lt _ (.inl rfl))).trans d4) ((((Below.refl w5.heap.size w5).alloc (Nat.le_refl _) ob).frozen (p := ⟨w1.heap.size, 4, none⟩) (HW5.out.lt _ (.inl rfl))).trans df4)
              have hcut5 : ∀ W, (Instr.slice 9 (.string (bs S)) (some (.int .i64 ((mq : Int) * 64))) none none).run Try.prog W = .ok (.string (bs (S.drop (64 * mq)))) W := fun W => by
                have := run_cut_from Try.prog W 9 Try.underlying9 S (64 * mq) hm3
                rw [Int.natCast_mul, Int.mul_comm] at this
                exact this
              have hsl := HW5.out.ne
              have hub2 : u + mq ≤ used := by omega
              rw [hmq]
              clear hc1 hc2 hc3 hc4 hrow hb5 hnx d0 d1 d2 d3 d5 d6 df hmq
              go_wp2_with (
                at_builtin
                refine wpList_append_own_at _ rfl _ _ _ rfl 0 31 i0 _ 1 24 Try.underlying43 hi0 hz0 hz1 hz2 rfl (by omega) (.slice qg l.length cg) l.length cs rfl (HC1.out.alloc _) ⟨w5.heap.size, 0, none⟩ 1 1 [.slice qa t.length ca] rfl rfl (World.news_of_block (cs := #[.slice qa t.length ca]) (t := 31) (fr := (0, 0)) (heap_alloc_new w5 _)) (fun u hu => by rw [List.mem_singleton] at hu; subst hu; exact HRK.out.one) (by unfold maxLen; omega) (by omega) (Nat.zero_le _) ?_
                intro v' w6 hown hgrow _ hat
                have HPU := Lib.hid (HW5.out.pushed HRK.out HC2.out HC3.out HC4.out HC1.out ((Below.refl w5.heap.size w5).alloc (Nat.le_refl _) _) hgrow hown hat)
                obtain ⟨qv, cv, rfl⟩ := slice_len hown
                have c6 := (hgrow.cell_far ⟨w1.heap.size, 4, none⟩ (by have := HW5.out.lt _ (.inl rfl); show w1.heap.size < (w5.alloc _).heap.size; rw [World.size_alloc]; omega) (Ne.symm hsl)).trans (k4 _).1
                have f6 := (hgrow.frozen_far ⟨w1.heap.size, 4, none⟩ (by have := HW5.out.lt _ (.inl rfl); show w1.heap.size < (w5.alloc _).heap.size; rw [World.size_alloc]; omega) (Ne.symm hsl)).trans (k4 _).2
                have e5 := HPU.out.1.cells.2.2.2.2.2.1
                have ef5 := HPU.out.1.cells.2.2.2.2.2.2.2 5
                have HUS := Lib.hid (HPU.out.1.setUsed (u + mq) (by show u + mq + 1 ≤ n; omega))
                clear hown hgrow hat k4 d4 df4)
              have hw6 := HUS.out
              rw [Int.natCast_add] at hw6
              have hx6 := below_upd HB5.out HPU.out.2.1 HNW.out HB5.out.size
              refine ⟨⟨S.drop (64 * mq), .slice qv (l.length + 1) cv, l ++ [t], u + mq, k', ⟨rfl, by rw [List.length_drop]; omega, by rw [List.length_drop]; omega, by rw [List.length_drop]; omega, hw6, hx6.setCell (p := ⟨w1.heap.size, 5, none⟩) HX.out _, fun q hq => ?_, HST.out, by have := HLK.out; rw [List.length_append, List.length_singleton]; omega, by rw [List.length_drop]; omega⟩⟩, ?_⟩
              · rcases HPU.out.2.2 q hq with h1 | h1
                · exact HNW.out q h1
                · exact Nat.le_trans HB5.out.size h1
              · show (S.drop (64 * mq)).length < S.length
                rw [List.length_drop]; omega
      · rw [if_neg (fun h => hun h.2)] at hOS
        have hui : (n : Int) - 1 < (used : Int) := by omega
        have HOS := Lib.hid hOS
        clear hOS hmk2
        go_wp2_with fail
        refine (HG1.out _).mono ?_
        rintro e w3 ⟨rfl, rfl⟩
        go_wp2_with fail
        refine (HG2.out _).mono ?_
        rintro e w3 ⟨rfl, rfl⟩
        go_wp2_with fail
        refine (rmark_any gen used _ HV1.out v2').mono ?_
        rintro e w3 ⟨rfl, hb3⟩
        have HB3 := Lib.hid (HBG.out.trans (hb3.mono HBG.out.size))
        clear hb3
        go_wp2_with fail
        go_ret2
        exact ropenPost_none (by rw [HO.out, HOS.out]) rfl HB3.out
    · rw [if_neg (fun h => hmk2 h.1)] at hOS
      have hbm : (f == Wal.mark gen used) = false := by simp [hmk2]
      have hbm2 : (f != Wal.mark gen used) = true := by simp [hmk2]
      have HOS := Lib.hid hOS
      clear hOS hmk2
      go_wp2_with fail
      refine (HG1.out _).mono ?_
      rintro e w3 ⟨rfl, rfl⟩
      go_wp2_with fail
      refine (HG2.out _).mono ?_
      rintro e w3 ⟨rfl, rfl⟩
      go_wp2_with fail
      refine (rmark_any gen used _ HV1.out v2').mono ?_
      rintro e w3 ⟨rfl, hb3⟩
      have HB3 := Lib.hid (HBG.out.trans (hb3.mono HBG.out.size))
      clear hb3
      go_wp2_with fail
      go_ret2
      exact ropenPost_none (by rw [HO.out, HOS.out]) rfl HB3.out
/-- Open. -/
theorem rwalOpen_any {w : World} {b : Nat} {D : Dsk} {fp : Nat → Prop} (h : RefAt w b D fp) (a n : Int) (ha : -9223372036854775808 ≤ a ∧ a ≤ 9223372036854775807) (hn : -9223372036854775808 ≤ n ∧ n ≤ 9223372036854775807) (hlo : D.loose.length ≤ 1000000000) :
    Calls Try.prog 45 #[.pointer (some ⟨b, 0, none⟩), .int .i64 a, .int .i64 n] w fun e w' => ROpenPost w b D a n e w' := by
  by_cases hbad : n < 2 ∨ a < 0 ∨ (D.n : Int) < a ∨ (D.n : Int) - a < n
  · exact rwalOpen_arg h a n ha hn hbad
  · obtain ⟨a, rfl⟩ : ∃ k : Nat, a = (k : Int) := ⟨a.toNat, by omega⟩
    obtain ⟨n, rfl⟩ : ∃ k : Nat, n = (k : Int) := ⟨n.toNat, by omega⟩
    cases hd : D.down with
    | true => exact rwalOpen_down h a n (by omega) (by omega) hd hlo
    | false => exact rwalOpen_in h a n (by omega) (by omega) hd hlo
end Go.Proofs.Ythbdflmckfgleaa
