/- Both disks, the program's and the document's, beside each other; maslinlaw04.Does, walked. -/
import Derived.Test.YthbdflmckfgleaaRef
import Derived.Test.YthbdflmckfgleaaDiskMy
import Derived.Test.YthbdflmckfgleaaDiskH
namespace Go.Proofs.Ythbdflmckfgleaa
open Go.RowKit Go.Maps

theorem RefAt.lt {w : World} {b : Nat} {D : Dsk} {fp : Nat → Prop} (h : RefAt w b D fp) : ∀ k, fp k → k < w.heap.size := by
  obtain ⟨bv, lv, hI, rfl⟩ := h
  exact hI.lt
theorem RefAt.below {w w' : World} {b : Nat} {D : Dsk} {fp : Nat → Prop} (h : RefAt w b D fp) (hb : Below w.heap.size w w') : RefAt w' b D fp := by
  obtain ⟨bv, lv, hI, rfl⟩ := h
  exact ⟨bv, lv, hI.below hb, rfl⟩
theorem RefAt.upd {F : Nat → Prop} {w w' : World} {b : Nat} {D : Dsk} {fp : Nat → Prop} (h : RefAt w b D fp) (hu : Upd F w w') (hF : ∀ k, fp k → ¬ F k) : RefAt w' b D fp := by
  obtain ⟨bv, lv, hI, rfl⟩ := h
  exact ⟨bv, lv, hI.upd hu hF, rfl⟩

theorem blk_lt {w : World} {k : Nat} {o : Obj} (h : w.heap[k]? = some o) : k < w.heap.size := (Array.getElem?_eq_some_iff.1 h).1

/-- Both disks, from block B on. -/
structure Both (B : Nat) (w0 w : World) (b : Nat) (D : Dsk) (fp : Nat → Prop) (r : Nat) (R : Dsk) (fr : Nat → Prop) : Prop where
  my : MyDisk B w0 w b D fp
  ref : RefAt w r R fr
  new : ∀ k, fr k → B ≤ k
  apart : ∀ k, fp k → ¬ fr k

section
variable {B : Nat} {w0 w w' : World} {b r : Nat} {D D' R R' : Dsk} {fp fp' fr fr' : Nat → Prop}
theorem Both.step (h : Both B w0 w b D fp r R fr) (hb : Below w.heap.size w w') : Both B w0 w' b D fp r R fr := ⟨h.my.step hb, h.ref.below hb, h.new, h.apart⟩
theorem Both.turnD (h : Both B w0 w b D fp r R fr) (hd : DiskAt w' b D' fp') (hu : Upd fp w w') (hs : Stays fp fp' w) : Both B w0 w' b D' fp' r R fr :=
  ⟨h.my.turn hd hu hs, h.ref.upd hu (fun k hk hf => h.apart k hf hk), h.new, fun k hk hf => by
    rcases hs k hk with h1 | h1
    · exact h.apart k h1 hf
    · have := h.ref.lt k hf; omega⟩
theorem Both.turnR (h : Both B w0 w b D fp r R fr) (hd : RefAt w' r R' fr') (hu : Upd (NoStr w fr) w w') (hs : Stays fr fr' w) : Both B w0 w' b D fp r R' fr' := by
  have hsz := Nat.le_trans h.my.size h.my.below.size
  refine ⟨⟨h.my.disk.upd hu (fun k hk hf => h.apart k hk hf.1), h.my.new, below_upd h.my.below hu (fun k hk => h.new k hk.1) hsz, h.my.size⟩, hd, fun k hk => ?_, fun k hk hf => ?_⟩
  · rcases hs k hk with h1 | h1
    · exact h.new k h1
    · omega
  · rcases hs k hf with h1 | h1
    · exact h.apart k hk h1
    · have := h.my.disk.lt k hk; omega
end

/-- What a step makes of a disk. -/
def Dsk.does (D : Dsk) (x : Stp) : Dsk :=
  if x.what = 0 then (D.write x.place x.text).1 else if x.what = 2 then D.flush.1 else if x.what = 3 then D.fuse x.n else if x.what = 4 then D.crash x.s else D
/-- What Does answers. -/
def DoesPost (B : Nat) (w0 : World) (b : Nat) (D : Dsk) (r : Nat) (R : Dsk) (x : Stp) (e : Ending) (w' : World) : Prop :=
  ∃ (v : Bool) (fp' fr' : Nat → Prop), e = .returned (.bool v) ∧ (D = R → v = true) ∧ Both B w0 w' b (D.does x) fp' r (R.does x) fr'

/-- A step's cells. -/
def Stp.row (x : Stp) : Array Value := #[.int .i64 x.what, .int .i64 x.place, .int .i64 x.n, .string (bs x.s), .bool x.raw]
theorem i64_of {n : Int} (h : (Lit.int .i64 n).wf = true) : -9223372036854775808 ≤ n ∧ n ≤ 9223372036854775807 := by
  simp [Lit.wf, IntKind.min, IntKind.max, IntKind.signed, IntKind.bits] at h
  omega
theorem Stp.text_le (x : Stp) (hs : x.s.length ≤ 32768) (hn : x.n ≤ 100) : x.text.length ≤ 32768 := by
  unfold Stp.text
  split
  · exact hs
  · rw [fill_length]; omega

section
variable {B : Nat} {w0 w : World} {b r : Nat} {D R : Dsk} {fp fr : Nat → Prop}

set_option maxRecDepth 100000 in
set_option maxHeartbeats 2000000 in
theorem does_write (h : Both B w0 w b D fp r R fr) (x : Stp) (hx : x.okay) (hw : x.what = 0) (hs : x.s.length ≤ 32768) (hn : x.n ≤ 100) (hd : D.loose.length ≤ 50000000) (hr : R.loose.length ≤ 50000000) :
    Calls Try.prog 34 #[.pointer (some ⟨b, 0, none⟩), .pointer (some ⟨r, 0, none⟩), x.val] w fun e w' => DoesPost B w0 b D r R x e w' := by
  obtain ⟨_, o1, o2, _⟩ := hx
  have hl := x.text_le hs hn
  have hD : D.does x = (D.write x.place x.text).1 := by unfold Dsk.does; rw [if_pos hw]
  have hR : R.does x = (R.write x.place x.text).1 := by unfold Dsk.does; rw [if_pos hw]
  have o1' := i64_of o1
  have HT := Lib.hid (fun (W : World) => text_any x W (by omega) o2 (fun _ => by omega))
  unfold DoesPost
  rw [hD, hR]
  clear hD hR hn hs o1 o2
  unfold Stp.val at HT ⊢
  rw [hw] at HT ⊢
  generalize x.text = T at *
  generalize x.place = q1, x.n = q2, x.s = q3, x.raw = q4 at *
  clear hw
  have h0 : Both B w0 (w.alloc (.cells #[.int .i64 0, .int .i64 q1, .int .i64 q2, .string (bs q3), .bool q4] 46)) b D fp r R fr := h.step ((Below.refl _ w).alloc (Nat.le_refl _) _)
  have h1 : Both B w0 (w.alloc (.cells #[.int .i64 0, .int .i64 q1, .int .i64 q2, .string (bs q3), .bool q4] 46)).drew b D fp r R fr := h0.step ((Below.refl _ _).drew)
  have hbox : (w.alloc (.cells #[.int .i64 0, .int .i64 q1, .int .i64 q2, .string (bs q3), .bool q4] 46)).drew.heap[w.heap.size]? = some (.cells #[.int .i64 0, .int .i64 q1, .int .i64 q2, .string (bs q3), .bool q4] 46) := heap_alloc_new w _
  have keepS := fun (W : World) (hb : W.heap[w.heap.size]? = some (.cells #[.int .i64 0, .int .i64 q1, .int .i64 q2, .string (bs q3), .bool q4] 46)) => (⟨by rw [cell_of_row W _ _ _ _ _ hb]; rfl, by rw [cell_of_row W _ _ _ _ _ hb]; rfl, by rw [cell_of_row W _ _ _ _ _ hb]; rfl, by rw [cell_of_row W _ _ _ _ _ hb]; rfl, by rw [cell_of_row W _ _ _ _ _ hb]; rfl⟩ :
    W.cell? ⟨w.heap.size, 0, none⟩ = some (.int .i64 0) ∧ W.cell? ⟨w.heap.size, 1, none⟩ = some (.int .i64 q1) ∧ W.cell? ⟨w.heap.size, 2, none⟩ = some (.int .i64 q2) ∧ W.cell? ⟨w.heap.size, 3, none⟩ = some (.string (bs q3)) ∧ W.cell? ⟨w.heap.size, 4, none⟩ = some (.bool q4))
  have hfpw := fun k (hk : fp k) => h.my.disk.lt k hk
  have hfrw := fun k (hk : fr k) => h.ref.lt k hk
  have HFP := Lib.hid hfpw
  have HFR := Lib.hid hfrw
  have KS := Lib.hid keepS
  have HX := Lib.hid hbox
  have H1 := Lib.hid h1
  clear h h0 h1 hbox keepS hfpw hfrw
  go_enter Try.func34, Try.ntmps34
  go_wp2_with fail
  go_region_held3 (fun W => W.cell? ⟨w.heap.size, 0, none⟩ = some (.int .i64 0) ∧ W.cell? ⟨w.heap.size, 1, none⟩ = some (.int .i64 q1) ∧ W.cell? ⟨w.heap.size, 2, none⟩ = some (.int .i64 q2) ∧ W.cell? ⟨w.heap.size, 3, none⟩ = some (.string (bs q3)) ∧ W.cell? ⟨w.heap.size, 4, none⟩ = some (.bool q4))
    (first | exact KS.out _ HX.out | exact KS.out _ HXA.out | exact KS.out _ HXB.out | exact KS.out _ HXC.out | exact KS.out _ HXD.out)
    (first
      | (go_at_call 28; refine (HT.out _).mono ?_; rintro e wa ⟨rfl, hba⟩; have HA := Lib.hid (H1.out.step hba); have HXA := Lib.hid ((hba.block w.heap.size (blk_lt HX.out)).trans HX.out); clear hba)
      | (go_at_call 27; refine (write_any HA.out.my.disk q1 T o1' (by omega) (by omega)).mono ?_; rintro e wb ⟨rfl, fpb, hdb, hub, hsb⟩; have HB := Lib.hid (HA.out.turnD hdb hub hsb); have HXB := Lib.hid ((hub.block w.heap.size (blk_lt HXA.out) (fun hk => by have := HFP.out _ hk; omega)).trans HXA.out); clear hdb hub hsb)
      | (go_at_call 28; refine (HT.out _).mono ?_; rintro e wc ⟨rfl, hbc⟩; have HC := Lib.hid (HB.out.step hbc); have HXC := Lib.hid ((hbc.block w.heap.size (blk_lt HXB.out)).trans HXB.out); clear hbc)
      | (go_at_call 43; refine (rwrite_any HC.out.ref q1 T o1' (by omega) (by omega)).mono ?_; rintro e wd ⟨rfl, frd, hdd, hud, hsd⟩; have HD := Lib.hid (HC.out.turnR hdd hud hsd); have HXD := Lib.hid ((hud.block w.heap.size (blk_lt HXC.out) (fun hk => by have := HFR.out _ hk.1; omega)).trans HXC.out); clear hdd hud hsd))
  go_wp2_with fail
  go_ret
  exact ⟨_, fpb, frd, rfl, fun e => by rw [e]; simp, HD.out⟩

set_option maxRecDepth 100000 in
set_option maxHeartbeats 1000000 in
theorem does_read (h : Both B w0 w b D fp r R fr) (x : Stp) (hx : x.okay) (hw : x.what = 1) (hr : R.loose.length ≤ 50000000) :
    Calls Try.prog 34 #[.pointer (some ⟨b, 0, none⟩), .pointer (some ⟨r, 0, none⟩), x.val] w fun e w' => DoesPost B w0 b D r R x e w' := by
  obtain ⟨_, o1, o2, _⟩ := hx
  have hD : D.does x = D := by unfold Dsk.does; simp [hw]
  have hR : R.does x = R := by unfold Dsk.does; simp [hw]
  have o1' := i64_of o1
  have o2' := i64_of o2
  unfold DoesPost
  rw [hD, hR]
  clear hD hR o1 o2
  unfold Stp.val
  rw [hw]
  generalize x.place = q1, x.n = q2, x.s = q3, x.raw = q4 at *
  clear hw
  have h0 : Both B w0 (w.alloc (.cells #[.int .i64 1, .int .i64 q1, .int .i64 q2, .string (bs q3), .bool q4] 46)) b D fp r R fr := h.step ((Below.refl _ w).alloc (Nat.le_refl _) _)
  have hbox := heap_alloc_new w (.cells #[.int .i64 1, .int .i64 q1, .int .i64 q2, .string (bs q3), .bool q4] 46)
  have H0 := Lib.hid h0
  have HX := Lib.hid hbox
  clear h h0 hbox
  go_enter Try.func34, Try.ntmps34
  go_wp2_with fail
  refine (read_my H0.out.my q1 q2 o1' o2').mono ?_
  rintro e w1 ⟨rfl, hb⟩
  have H1 := Lib.hid (H0.out.step hb)
  have hc1 : w1.cell? ⟨w.heap.size, 1, none⟩ = some (.int .i64 q1) := by rw [cell_of_row w1 _ _ _ _ _ ((hb.block w.heap.size (blk_lt HX.out)).trans HX.out)]; rfl
  have hc2 : w1.cell? ⟨w.heap.size, 2, none⟩ = some (.int .i64 q2) := by rw [cell_of_row w1 _ _ _ _ _ ((hb.block w.heap.size (blk_lt HX.out)).trans HX.out)]; rfl
  clear hb
  generalize hA : D.read q1 q2 = A
  have HA := Lib.hid hA
  clear hA
  go_wp2_with fail
  refine (rread_any H1.out.ref (by omega) q1 q2 o1' o2').mono ?_
  rintro e w2 ⟨rfl, hb⟩
  have H2 := Lib.hid (H1.out.step hb)
  generalize hC : R.read q1 q2 = C
  have HC := Lib.hid hC
  clear hb hC
  by_cases heq : A = C
  · subst heq
    have he1 : A.1 == A.1 := by simp
    go_wp2_with fail
    go_ret
    exact ⟨true, fp, fr, rfl, fun _ => rfl, H2.out⟩
  · go_wp2_with fail
    all_goals
      go_ret
      exact ⟨_, fp, fr, rfl, fun e => absurd (by rw [← HA.out, ← HC.out, e]) heq, H2.out⟩

set_option maxRecDepth 100000 in
set_option maxHeartbeats 1000000 in
theorem does_flush (h : Both B w0 w b D fp r R fr) (x : Stp) (hw : x.what = 2) (hd : D.loose.length ≤ 50000000) (hr : R.loose.length ≤ 50000000) :
    Calls Try.prog 34 #[.pointer (some ⟨b, 0, none⟩), .pointer (some ⟨r, 0, none⟩), x.val] w fun e w' => DoesPost B w0 b D r R x e w' := by
  have hD : D.does x = D.flush.1 := by unfold Dsk.does; simp [hw]
  have hR : R.does x = R.flush.1 := by unfold Dsk.does; simp [hw]
  unfold DoesPost
  rw [hD, hR]
  clear hD hR
  unfold Stp.val
  rw [hw]
  generalize x.place = q1, x.n = q2, x.s = q3, x.raw = q4 at *
  clear hw
  have h0 : Both B w0 (w.alloc (.cells #[.int .i64 2, .int .i64 q1, .int .i64 q2, .string (bs q3), .bool q4] 46)) b D fp r R fr := h.step ((Below.refl _ w).alloc (Nat.le_refl _) _)
  have H0 := Lib.hid h0
  clear h h0
  go_enter Try.func34, Try.ntmps34
  go_wp2_with fail
  refine (flush_any H0.out.my.disk (by omega)).mono ?_
  rintro e w1 ⟨rfl, fp1, hd1, hu1, hs1⟩
  have H1 := Lib.hid (H0.out.turnD hd1 hu1 hs1)
  clear hd1 hu1 hs1
  go_wp2_with fail
  refine (rflush_any H1.out.ref (by omega)).mono ?_
  rintro e w2 ⟨rfl, fr2, hd2, hu2, hs2⟩
  have H2 := Lib.hid (H1.out.turnR hd2 hu2 hs2)
  clear hd2 hu2 hs2
  go_wp2_with fail
  go_ret
  exact ⟨_, fp1, fr2, rfl, fun e => by rw [e]; simp, H2.out⟩

set_option maxRecDepth 100000 in
set_option maxHeartbeats 1000000 in
theorem does_fuse (h : Both B w0 w b D fp r R fr) (x : Stp) (hx : x.okay) (hw : x.what = 3) :
    Calls Try.prog 34 #[.pointer (some ⟨b, 0, none⟩), .pointer (some ⟨r, 0, none⟩), x.val] w fun e w' => DoesPost B w0 b D r R x e w' := by
  obtain ⟨_, _, o2, _⟩ := hx
  have hD : D.does x = D.fuse x.n := by unfold Dsk.does; simp [hw]
  have hR : R.does x = R.fuse x.n := by unfold Dsk.does; simp [hw]
  have o2' := i64_of o2
  unfold DoesPost
  rw [hD, hR]
  clear hD hR o2
  unfold Stp.val
  rw [hw]
  generalize x.place = q1, x.n = q2, x.s = q3, x.raw = q4 at *
  clear hw
  have h0 : Both B w0 (w.alloc (.cells #[.int .i64 3, .int .i64 q1, .int .i64 q2, .string (bs q3), .bool q4] 46)) b D fp r R fr := h.step ((Below.refl _ w).alloc (Nat.le_refl _) _)
  have hbox := heap_alloc_new w (.cells #[.int .i64 3, .int .i64 q1, .int .i64 q2, .string (bs q3), .bool q4] 46)
  have hfrw := fun k (hk : fr k) => h.ref.lt k hk
  have HFR := Lib.hid hfrw
  have H0 := Lib.hid h0
  have HX := Lib.hid hbox
  clear h h0 hbox hfrw
  go_enter Try.func34, Try.ntmps34
  go_wp2_with fail
  refine (rfuse_any H0.out.ref q2 o2'.2).mono ?_
  rintro e w1 ⟨⟨v, rfl⟩, hd1, hu1⟩
  have H1 := Lib.hid (H0.out.turnR hd1 hu1 (fun _ h => .inl h))
  have hc2 : w1.cell? ⟨w.heap.size, 2, none⟩ = some (.int .i64 q2) := by rw [cell_of_row w1 _ _ _ _ _ ((hu1.block w.heap.size (blk_lt HX.out) (fun hk => by have := HFR.out _ hk.1; omega)).trans HX.out)]; rfl
  clear hd1 hu1
  go_wp2_with fail
  refine (fuse_any H1.out.my.disk q2 o2'.2).mono ?_
  rintro e w2 ⟨rfl, hd2, hu2⟩
  have H2 := Lib.hid (H1.out.turnD hd2 hu2 (fun _ h => .inl h))
  clear hd2 hu2
  go_wp2_with fail
  go_ret
  exact ⟨_, fp, fr, rfl, fun _ => rfl, H2.out⟩

set_option maxRecDepth 100000 in
set_option maxHeartbeats 1000000 in
theorem does_crash (h : Both B w0 w b D fp r R fr) (x : Stp) (hw : x.what = 4) (hs : x.s.length ≤ 32768) (hd : D.loose.length ≤ 50000000) (hr : R.loose.length ≤ 50000000) :
    Calls Try.prog 34 #[.pointer (some ⟨b, 0, none⟩), .pointer (some ⟨r, 0, none⟩), x.val] w fun e w' => DoesPost B w0 b D r R x e w' := by
  have hD : D.does x = D.crash x.s := by unfold Dsk.does; simp [hw]
  have hR : R.does x = R.crash x.s := by unfold Dsk.does; simp [hw]
  unfold DoesPost
  rw [hD, hR]
  clear hD hR
  unfold Stp.val
  rw [hw]
  generalize x.place = q1, x.n = q2, x.s = q3, x.raw = q4 at *
  clear hw
  have h0 : Both B w0 (w.alloc (.cells #[.int .i64 4, .int .i64 q1, .int .i64 q2, .string (bs q3), .bool q4] 46)) b D fp r R fr := h.step ((Below.refl _ w).alloc (Nat.le_refl _) _)
  have hbox := heap_alloc_new w (.cells #[.int .i64 4, .int .i64 q1, .int .i64 q2, .string (bs q3), .bool q4] 46)
  have hfrw := fun k (hk : fr k) => h.ref.lt k hk
  have HFR := Lib.hid hfrw
  have H0 := Lib.hid h0
  have HX := Lib.hid hbox
  clear h h0 hbox hfrw
  go_enter Try.func34, Try.ntmps34
  go_wp2_with fail
  refine (rcrash_any H0.out.ref q3 (by omega) (by omega)).mono ?_
  rintro e w1 ⟨⟨v, rfl⟩, fr1, hd1, hu1, hs1⟩
  have H1 := Lib.hid (H0.out.turnR hd1 hu1 hs1)
  have hc3 : w1.cell? ⟨w.heap.size, 3, none⟩ = some (.string (bs q3)) := by rw [cell_of_row w1 _ _ _ _ _ ((hu1.block w.heap.size (blk_lt HX.out) (fun hk => by have := HFR.out _ hk.1; omega)).trans HX.out)]; rfl
  clear hd1 hu1 hs1
  go_wp2_with fail
  refine (crash_any H1.out.my.disk q3 (by omega) (by omega)).mono ?_
  rintro e w2 ⟨rfl, fp2, hd2, hu2, hs2⟩
  have H2 := Lib.hid (H1.out.turnD hd2 hu2 hs2)
  clear hd2 hu2 hs2
  go_wp2_with fail
  go_ret
  exact ⟨_, fp2, fr1, rfl, fun _ => rfl, H2.out⟩

set_option maxRecDepth 100000 in
set_option maxHeartbeats 1000000 in
theorem does_none (h : Both B w0 w b D fp r R fr) (x : Stp) (hw0 : x.what ≠ 0) (hw1 : x.what ≠ 1) (hw2 : x.what ≠ 2) (hw3 : x.what ≠ 3) (hw4 : x.what ≠ 4) :
    Calls Try.prog 34 #[.pointer (some ⟨b, 0, none⟩), .pointer (some ⟨r, 0, none⟩), x.val] w fun e w' => DoesPost B w0 b D r R x e w' := by
  have hD : D.does x = D := by unfold Dsk.does; simp [*]
  have hR : R.does x = R := by unfold Dsk.does; simp [*]
  unfold DoesPost
  rw [hD, hR]
  clear hD hR
  unfold Stp.val
  generalize x.what = q0, x.place = q1, x.n = q2, x.s = q3, x.raw = q4 at *
  have e0 : (q0 == 0) = false := by simp [hw0]
  have e1 : (q0 == 1) = false := by simp [hw1]
  have e2 : (q0 == 2) = false := by simp [hw2]
  have e3 : (q0 == 3) = false := by simp [hw3]
  have e4 : (q0 == 4) = false := by simp [hw4]
  have h0 : Both B w0 (w.alloc (.cells #[.int .i64 q0, .int .i64 q1, .int .i64 q2, .string (bs q3), .bool q4] 46)) b D fp r R fr := h.step ((Below.refl _ w).alloc (Nat.le_refl _) _)
  have H0 := Lib.hid h0
  clear h h0 hw0 hw1 hw2 hw3 hw4
  go_enter Try.func34, Try.ntmps34
  go_wp2_with fail
  go_ret
  exact ⟨_, fp, fr, rfl, fun _ => rfl, H0.out⟩
theorem does_any (h : Both B w0 w b D fp r R fr) (x : Stp) (hx : x.okay) (hs : x.s.length ≤ 32768) (hn : x.what = 0 → x.n ≤ 100) (hd : D.loose.length ≤ 50000000) (hr : R.loose.length ≤ 50000000) :
    Calls Try.prog 34 #[.pointer (some ⟨b, 0, none⟩), .pointer (some ⟨r, 0, none⟩), x.val] w fun e w' => DoesPost B w0 b D r R x e w' := by
  by_cases h0 : x.what = 0
  · exact does_write h x hx h0 hs (hn h0) hd hr
  by_cases h1 : x.what = 1
  · exact does_read h x hx h1 hr
  by_cases h2 : x.what = 2
  · exact does_flush h x h2 hd hr
  by_cases h3 : x.what = 3
  · exact does_fuse h x hx h3
  by_cases h4 : x.what = 4
  · exact does_crash h x h4 hs hd hr
  exact does_none h x h0 h1 h2 h3 h4
end
end Go.Proofs.Ythbdflmckfgleaa
