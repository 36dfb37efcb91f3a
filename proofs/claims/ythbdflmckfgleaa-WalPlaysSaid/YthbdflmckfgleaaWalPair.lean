/- maslinlaw05: both logs, on both disks; (*pair).open, walked. -/
import Derived.Test.YthbdflmckfgleaaWalReadsWalk
import Derived.Test.YthbdflmckfgleaaWalHeavy
namespace Go.Proofs.Ythbdflmckfgleaa
open Go.RowKit Go.Maps
open Wal

/-- The cells of a pair. -/
def pairRow (b r : Nat) (vw vx : Value) (a n : Int) : Array Value := #[.pointer (some ⟨b, 0, none⟩), .pointer (some ⟨r, 0, none⟩), vw, vx, .int .i64 a, .int .i64 n]
def PairAt (w : World) (p b r : Nat) (vw vx : Value) (a n : Int) : Prop := w.heap[p]? = some (.cells (pairRow b r vw vx a n) 86)
section
variable {w w' : World} {p b r : Nat} {vw vx : Value} {a n : Int}
theorem PairAt.cells (h : PairAt w p b r vw vx a n) :
    w.cell? ⟨p, 0, none⟩ = some (.pointer (some ⟨b, 0, none⟩)) ∧ w.cell? ⟨p, 1, none⟩ = some (.pointer (some ⟨r, 0, none⟩)) ∧ w.cell? ⟨p, 2, none⟩ = some vw ∧ w.cell? ⟨p, 3, none⟩ = some vx ∧
    w.cell? ⟨p, 4, none⟩ = some (.int .i64 a) ∧ w.cell? ⟨p, 5, none⟩ = some (.int .i64 n) ∧ ∀ j, w.frozen? ⟨p, j, none⟩ = false := by
  refine ⟨?_, ?_, ?_, ?_, ?_, ?_, fun j => frozen_of_row w p j _ _ h⟩ <;> rw [cell_of_row w p _ _ _ _ h] <;> rfl
theorem PairAt.blk (h : PairAt w p b r vw vx a n) : BlkOf w p 86 := ⟨_, _, h⟩
theorem PairAt.upd {F : Nat → Prop} (h : PairAt w p b r vw vx a n) (hu : Upd F w w') (hF : ¬ F p) : PairAt w' p b r vw vx a n := (hu.block p (blk_lt h) hF).trans h
theorem PairAt.below (h : PairAt w p b r vw vx a n) (hb : Below w.heap.size w w') : PairAt w' p b r vw vx a n := (hb.block p (blk_lt h)).trans h
theorem PairAt.setW (h : PairAt w p b r vw vx a n) (v : Value) : PairAt (w.setCell ⟨p, 2, none⟩ v) p b r v vx a n := heap_setCell_same w p 2 _ _ v h
theorem PairAt.setX (h : PairAt w p b r vw vx a n) (v : Value) : PairAt (w.setCell ⟨p, 3, none⟩ v) p b r vw v a n := heap_setCell_same w p 3 _ _ v h
end
theorem WalIn.blk {w : World} {x b : Nat} {gv : Value} {L : WLog} (h : WalIn w x b gv L) : BlkOf w x 127 := ⟨_, _, h.struct⟩
/-- A log's blocks have logs, and rows of texts. -/
theorem WalIn.kind {w : World} {x b : Nat} {gv : Value} {L : WLog} (h : WalIn w x b gv L) {k : Nat} (hk : walBlocks x gv k) {t : TypeId} (hb : BlkOf w k t) (h1 : t ≠ 127) (h2 : t ≠ 31) : False := by
  rcases hk with rfl | hk
  · exact BlkOf.ne hb h.blk h1 rfl
  · obtain ⟨cs, h3, _⟩ := h.groups
    exact BlkOf.ne hb (ownsRow_blk h3 hk) h2 rfl
theorem RWalIn.kind {w : World} {x b : Nat} {gv : Value} {L : WLog} (h : RWalIn w x b gv L) {k : Nat} (hk : walBlocks x gv k) {t : TypeId} (hb : BlkOf w k t) (h1 : t ≠ 133) (h2 : t ≠ 31) : False := by
  rcases hk with rfl | hk
  · exact BlkOf.ne hb h.blk h1 rfl
  · obtain ⟨cs, h3, _⟩ := h.groups
    exact BlkOf.ne hb (ownsRow_blk h3 hk) h2 rfl
/-- A log is apart from the other's disk. -/
theorem WalIn.apartR {w : World} {x b : Nat} {gv : Value} {L : WLog} (h : WalIn w x b gv L) {r : Nat} {R : Dsk} {fr : Nat → Prop} (hd : RefAt w r R fr) (k : Nat) (hk : fr k) : ¬ walBlocks x gv k := by
  rintro (rfl | hg)
  · have := hd.kindOf hk h.blk
    revert this; decide
  · obtain ⟨cs, h1, _⟩ := h.groups
    have := hd.kindOf hk (ownsRow_blk h1 hg)
    revert this; decide
theorem RWalIn.apartD {w : World} {x b : Nat} {gv : Value} {L : WLog} (h : RWalIn w x b gv L) {r : Nat} {D : Dsk} {fp : Nat → Prop} (hd : DiskAt w r D fp) (k : Nat) (hk : fp k) : ¬ walBlocks x gv k := by
  rintro (rfl | hg)
  · have := hd.kindOf hk h.blk
    revert this; decide
  · obtain ⟨cs, h1, _⟩ := h.groups
    have := hd.kindOf hk (ownsRow_blk h1 hg)
    revert this; decide

/-- Both logs, on both disks. -/
structure Duo (B : Nat) (w0 w : World) (b r x y p : Nat) (D R : Dsk) (fp fr : Nat → Prop) (gv gy : Value) (L M : WLog) (a n : Int) : Prop where
  both : Both B w0 w b D fp r R fr
  wal : WalIn w x b gv L
  ref : RWalIn w y r gy M
  wnew : ∀ k, walBlocks x gv k → B ≤ k
  rnew : ∀ k, walBlocks y gy k → B ≤ k
  apart : ∀ k, walBlocks x gv k → ¬ walBlocks y gy k
  pair : PairAt w p b r (.pointer (some ⟨x, 0, none⟩)) (.pointer (some ⟨y, 0, none⟩)) a n
  pnew : B ≤ p
section
variable {B : Nat} {w0 w w' : World} {b r x y p : Nat} {D D' R R' : Dsk} {fp fp' fr fr' : Nat → Prop} {gv gv' gy gy' : Value} {L L' M M' : WLog} {a n : Int}
theorem Duo.fits (h : Duo B w0 w b r x y p D R fp fr gv gy L M a n) : B ≤ w.heap.size := Nat.le_trans h.both.my.size h.both.my.below.size
theorem Duo.step (h : Duo B w0 w b r x y p D R fp fr gv gy L M a n) (hb : Below w.heap.size w w') : Duo B w0 w' b r x y p D R fp fr gv gy L M a n :=
  ⟨h.both.step hb, h.wal.below hb, h.ref.below hb, h.wnew, h.rnew, h.apart, h.pair.below hb, h.pnew⟩
theorem Duo.turnW (h : Duo B w0 w b r x y p D R fp fr gv gy L M a n) (hd : DiskAt w' b D' fp') (hl : WalIn w' x b gv' L') (hu : Upd (fun k => fp k ∨ walBlocks x gv k) w w') (hs : Stays fp fp' w) (hs2 : Stays (walBlocks x gv) (walBlocks x gv') w) :
    Duo B w0 w' b r x y p D' R fp' fr gv' gy L' M a n := by
  have hsz := h.fits
  refine ⟨⟨⟨hd, fun k hk => ?_, below_upd h.both.my.below hu (fun k hk => hk.elim (h.both.my.new k) (h.wnew k)) hsz, h.both.my.size⟩, h.both.ref.upd hu (fun k hk hf => ?_), h.both.new, fun k hk hf => ?_⟩, hl, h.ref.upd hu (fun k hk hf => ?_) (fun k hk hf => ?_), fun k hk => ?_, h.rnew, fun k hk hf => ?_, h.pair.upd hu (fun hf => ?_), h.pnew⟩
  · rcases hs k hk with h1 | h1
    · exact h.both.my.new k h1
    · omega
  · exact hf.elim (fun hf => h.both.apart k hf hk) (fun hf => h.wal.apartR h.both.ref k hk hf)
  · rcases hs k hk with h1 | h1
    · exact h.both.apart k h1 hf
    · have := h.both.ref.lt k hf; omega
  · exact hf.elim (fun hf => (h.both.my.disk.kinds k hf).1 hk) (fun hf => h.wal.kind hf hk (by decide) (by decide))
  · exact hf.elim (fun hf => h.ref.apartD h.both.my.disk k hf hk) (fun hf => h.apart k hf hk)
  · rcases hs2 k hk with h1 | h1
    · exact h.wnew k h1
    · omega
  · rcases hs2 k hk with h1 | h1
    · exact h.apart k h1 hf
    · have := h.ref.lt k hf; omega
  · rcases hf with hf | hf
    · have := h.both.my.disk.kindOf hf h.pair.blk
      revert this; decide
    · exact h.wal.kind hf h.pair.blk (by decide) (by decide)
theorem Duo.turnR (h : Duo B w0 w b r x y p D R fp fr gv gy L M a n) (hd : RefAt w' r R' fr') (hl : RWalIn w' y r gy' M') (hu : Upd (fun k => NoStr w fr k ∨ k = y) w w') (hs : Stays fr fr' w) (hs2 : Stays (walBlocks y gy) (walBlocks y gy') w) :
    Duo B w0 w' b r x y p D R' fp fr' gv gy' L M' a n := by
  have hsz := h.fits
  refine ⟨⟨⟨h.both.my.disk.upd hu (fun k hk hf => ?_), h.both.my.new, below_upd h.both.my.below hu (fun k hk => hk.elim (fun hk => h.both.new k hk.1) (fun hk => h.rnew k (.inl hk))) hsz, h.both.my.size⟩, hd, fun k hk => ?_, fun k hk hf => ?_⟩, h.wal.upd hu (fun k hk hf => ?_) (fun k hk hf => ?_), hl, h.wnew, fun k hk => ?_, fun k hk hf => ?_, h.pair.upd hu (fun hf => ?_), h.pnew⟩
  · exact hf.elim (fun hf => h.both.apart k hk hf.1) (fun hf => h.ref.apartD h.both.my.disk k hk (.inl hf))
  · rcases hs k hk with h1 | h1
    · exact h.both.new k h1
    · omega
  · rcases hs k hf with h1 | h1
    · exact h.both.apart k hk h1
    · have := h.both.my.disk.lt k hk; omega
  · exact hf.elim (fun hf => hf.2 hk) (fun hf => h.ref.kind (k := k) (.inl hf) hk (by decide) (by decide))
  · exact hf.elim (fun hf => h.wal.apartR h.both.ref k hf.1 hk) (fun hf => h.apart k hk (.inl hf))
  · rcases hs2 k hk with h1 | h1
    · exact h.rnew k h1
    · omega
  · rcases hs2 k hf with h1 | h1
    · exact h.apart k hk h1
    · have := h.wal.lt k hk; omega
  · rcases hf with hf | hf
    · have := h.both.ref.kindOf hf.1 h.pair.blk
      revert this; decide
    · exact h.ref.kind (k := p) (.inl hf) h.pair.blk (by decide) (by decide)
theorem Duo.turnD (h : Duo B w0 w b r x y p D R fp fr gv gy L M a n) (hd : DiskAt w' b D' fp') (hu : Upd fp w w') (hs : Stays fp fp' w) : Duo B w0 w' b r x y p D' R fp' fr gv gy L M a n :=
  h.turnW hd (h.wal.disk h.both.my.disk hu) (hu.mono (fun _ => .inl)) hs (fun _ h => .inl h)
theorem Duo.turnDR (h : Duo B w0 w b r x y p D R fp fr gv gy L M a n) (hd : RefAt w' r R' fr') (hu : Upd (NoStr w fr) w w') (hs : Stays fr fr' w) : Duo B w0 w' b r x y p D R' fp fr' gv gy L M a n :=
  h.turnR hd (h.ref.disk h.both.ref hu) (hu.mono (fun _ => .inl)) hs (fun _ h => .inl h)
end

/-- What open leaves. -/
def PairPost (w : World) (b r p : Nat) (D : Dsk) (a n : Int) (e : Ending) (w' : World) : Prop :=
  e = .returned (.bool true) ∧ match D.openW a n with
  | (none, _) => Below w.heap.size w w'
  | (some L, _) => ∃ x gv y gy, WalIn w' x b gv L ∧ RWalIn w' y r gy L ∧ PairAt w' p b r (.pointer (some ⟨x, 0, none⟩)) (.pointer (some ⟨y, 0, none⟩)) a n ∧ Upd (fun k => k = p) w w' ∧
      (∀ k, walBlocks x gv k → w.heap.size ≤ k) ∧ (∀ k, walBlocks y gy k → w.heap.size ≤ k) ∧ ∀ k, walBlocks x gv k → ¬ walBlocks y gy k

set_option maxRecDepth 100000 in
set_option maxHeartbeats 4000000 in
theorem pairOpen_any {B : Nat} {w0 w : World} {b r p : Nat} {D : Dsk} {fp fr : Nat → Prop} {vw vx : Value} {a n : Int} (hB : Both B w0 w b D fp r D fr) (hp : PairAt w p b r vw vx a n)
    (ha : -9223372036854775808 ≤ a ∧ a ≤ 9223372036854775807) (hn : -9223372036854775808 ≤ n ∧ n ≤ 9223372036854775807) (hlo : D.loose.length ≤ 1000000000) :
    Calls Try.prog 57 #[.pointer (some ⟨p, 0, none⟩)] w fun e w' => PairPost w b r p D a n e w' := by
  have hop := fun (V : World) (hb : Below w.heap.size w V) => walOpen_any (hB.my.disk.below hb) a n ha hn
  have hrop := fun (V : World) (hb : Below w.heap.size w V) => rwalOpen_any (hB.ref.below hb) a n ha hn hlo
  have HP := Lib.hid hp
  have HK := Lib.hid (fun (V : World) (hb : Below w.heap.size w V) => (⟨(hp.below hb).cells.1, (hp.below hb).cells.2.2.2.2.1, (hp.below hb).cells.2.2.2.2.2.1⟩ : V.cell? ⟨p, 0, none⟩ = some (.pointer (some ⟨b, 0, none⟩)) ∧ V.cell? ⟨p, 4, none⟩ = some (.int .i64 a) ∧ V.cell? ⟨p, 5, none⟩ = some (.int .i64 n)))
  have HK2 := Lib.hid (fun (V : World) (hb : Below w.heap.size w V) => (⟨(hp.below hb).cells.2.1, (hp.below hb).cells.2.2.2.2.1, (hp.below hb).cells.2.2.2.2.2.1⟩ : V.cell? ⟨p, 1, none⟩ = some (.pointer (some ⟨r, 0, none⟩)) ∧ V.cell? ⟨p, 4, none⟩ = some (.int .i64 a) ∧ V.cell? ⟨p, 5, none⟩ = some (.int .i64 n)))
  have B1 := Lib.hid (show Below w.heap.size w w.drew from (Below.refl _ _).drew)
  unfold OpenPost at hop
  unfold ROpenPost at hrop
  unfold PairPost
  clear hB hp
  cases ho : D.openW a n with
  | mk oL kk =>
    simp only [ho] at hop hrop
    cases oL with
    | none =>
      have HOP := Lib.hid hop; have HROP := Lib.hid hrop
      clear hop hrop ho
      go_enter Try.func57, Try.ntmps57
      go_wp2_with fail
      go_region_held3 (fun V => V.cell? ⟨p, 0, none⟩ = some (.pointer (some ⟨b, 0, none⟩)) ∧ V.cell? ⟨p, 4, none⟩ = some (.int .i64 a) ∧ V.cell? ⟨p, 5, none⟩ = some (.int .i64 n))
        (first | exact HK.out _ B1.out | exact HK.out _ B2.out)
        (first | (go_at_call 44; refine (HOP.out _ B1.out).mono ?_; rintro e wa ⟨rfl, hba⟩; have B2 := Lib.hid (B1.out.trans (hba.mono B1.out.size)); clear hba))
      have B3 := Lib.hid (show Below w.heap.size w wa.drew from B2.out.drew)
      go_wp2_with fail
      go_region_held3 (fun V => V.cell? ⟨p, 1, none⟩ = some (.pointer (some ⟨r, 0, none⟩)) ∧ V.cell? ⟨p, 4, none⟩ = some (.int .i64 a) ∧ V.cell? ⟨p, 5, none⟩ = some (.int .i64 n))
        (first | exact HK2.out _ B3.out | exact HK2.out _ B4.out)
        (first | (go_at_call 45; refine (HROP.out _ B3.out).mono ?_; rintro e wb ⟨rfl, hbb⟩; have B4 := Lib.hid (B3.out.trans (hbb.mono B3.out.size)); clear hbb))
      go_wp2_with fail
      go_ret
      exact ⟨rfl, B4.out⟩
    | some L =>
      have HOP := Lib.hid hop; have HROP := Lib.hid hrop
      clear hop hrop ho
      go_enter Try.func57, Try.ntmps57
      go_wp2_with fail
      go_region_held3 (fun V => V.cell? ⟨p, 0, none⟩ = some (.pointer (some ⟨b, 0, none⟩)) ∧ V.cell? ⟨p, 4, none⟩ = some (.int .i64 a) ∧ V.cell? ⟨p, 5, none⟩ = some (.int .i64 n))
        (first | exact HK.out _ B1.out | exact HK.out _ B2.out)
        (first | (go_at_call 44; refine (HOP.out _ B1.out).mono ?_; rintro e wa ⟨x, gv, rfl, hwa, hba, hna⟩; have B2 := Lib.hid (B1.out.trans (hba.mono B1.out.size)); have HWA := Lib.hid hwa; have HNA := Lib.hid hna; clear hba hwa hna))
      have B3 := Lib.hid (show Below w.heap.size w wa.drew from B2.out.drew)
      go_wp2_with fail
      go_region_held3 (fun V => V.cell? ⟨p, 1, none⟩ = some (.pointer (some ⟨r, 0, none⟩)) ∧ V.cell? ⟨p, 4, none⟩ = some (.int .i64 a) ∧ V.cell? ⟨p, 5, none⟩ = some (.int .i64 n))
        (first | exact HK2.out _ B3.out | exact HK2.out _ B4.out)
        (first | (go_at_call 45; refine (HROP.out _ B3.out).mono ?_; rintro e wb ⟨y, gy, rfl, hwb, hbb, hnb⟩; have B4 := Lib.hid (B3.out.trans (hbb.mono B3.out.size)); have HWB := Lib.hid hwb; have HNB := Lib.hid hnb; have HW2 := Lib.hid ((HWA.out.below ((Below.refl _ _).drew)).below hbb); clear hbb hwb hnb))
      have HP6 := Lib.hid (HP.out.below B4.out)
      obtain ⟨_, _, d2, d3, _, _, df⟩ := HP6.out.cells
      have df2 := df 2
      have df3 := df 3
      clear df
      go_wp2_with fail
      go_ret
      have hu : Upd (fun k => k = p) wb ((wb.setCell ⟨p, 2, none⟩ (.pointer (some ⟨x, 0, none⟩))).setCell ⟨p, 3, none⟩ (.pointer (some ⟨y, 0, none⟩))) := (((Upd.refl (fun i => i = p) wb).setCell (p := ⟨p, 2, none⟩) (.inl rfl) _).setCell (p := ⟨p, 3, none⟩) (.inl rfl) _)
      refine ⟨rfl, x, gv, y, gy, HW2.out.upd hu ?_ ?_, HWB.out.upd hu ?_ ?_, (HP6.out.setW _).setX _, (Upd.of_below B4.out).trans hu (fun k hk => .inl hk), fun k hk => HNA.out k hk, fun k hk => Nat.le_trans B3.out.size (HNB.out k hk), fun k h1 h2 => ?_⟩
      · rintro k hk rfl; exact BlkOf.ne hk HP6.out.blk (by decide) rfl
      · rintro k hk rfl; exact HW2.out.kind hk HP6.out.blk (by decide) (by decide)
      · rintro k hk rfl; exact BlkOf.ne hk HP6.out.blk (by decide) rfl
      · rintro k hk rfl; exact HWB.out.kind hk HP6.out.blk (by decide) (by decide)
      · have h3 : wa.heap.size ≤ k := HNB.out k h2
        have := HWA.out.lt k h1; omega
end Go.Proofs.Ythbdflmckfgleaa
