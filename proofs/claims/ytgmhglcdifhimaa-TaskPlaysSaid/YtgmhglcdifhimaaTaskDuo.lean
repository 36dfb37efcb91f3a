/- Both boards of tasks, side by side; maslinlaw30.does, walked. -/
import Derived.Test.YtgmhglcdifhimaaTaskRefN
import Derived.Test.YtgmhglcdifhimaaTaskMine
import Derived.Deep.RegionHeld3
namespace Go.Proofs.Ytgmhglcdifhimaa
open Go.RowKit Go.Maps Go.Sort
open Tsk

section
variable {w0 w w' w1 : World} {p m r : Nat} {lv : Value} {nvs : List Value} {b b' : Board} {k k' : Nat}
theorem refTy_no {t : TypeId} (h : t = 63 ∨ t = 66) : ¬ RefTy t := by
  rcases h with rfl | rfl <;> (unfold RefTy; decide)
theorem TRefAt.upd {F : Nat → Prop} (h : TRefAt w r b) (hu : Upd F w w') (hF : ∀ k t, BlkOf w k t → RefTy t → ¬ F k) : TRefAt w' r b := by
  obtain ⟨lv, tv, nvs, h⟩ := h
  exact ⟨lv, tv, nvs, h.upd hu hF⟩
theorem TRefAt.below (h : TRefAt w r b) (hb : Below w.heap.size w w') : TRefAt w' r b := h.upd (Upd.of_below (F := fun _ => False) hb) (fun _ _ _ _ f => f)
theorem TRefAt.blk (h : TRefAt w r b) : BlkOf w r 80 := by
  obtain ⟨lv, tv, nvs, h⟩ := h
  exact ⟨_, _, h.struct⟩
/-- What is not done has no value. -/
def Tsk.Board.Blank (b : Board) : Prop := ∀ x ∈ b.l, x.is = false → x.value = []
theorem Tsk.Board.Blank.start (h : b.Blank) (t x : Int) : (b.start t x).1.Blank := by
  have e := (start_len (b := b) t x).2.1
  intro y hy
  rw [e] at hy
  exact h y hy
theorem Tsk.Board.Blank.commit (h : b.Blank) (x : Int) (v : List UInt8) : (b.commit x v).1.Blank := by
  unfold Board.commit
  split
  · exact h
  · split
    · exact h
    · split
      · exact h
      · intro y hy hi
        rcases List.mem_or_eq_of_mem_set hy with hy | rfl
        · exact h y hy hi
        · cases hi
theorem Tsk.Board.Blank.fail (h : b.Blank) (x : Int) : (b.fail x).1.Blank := by
  unfold Board.fail
  split
  · exact h
  · split
    · exact h
    · rename_i y hy
      split
      · exact h
      · intro z hz hi
        rcases List.mem_or_eq_of_mem_set hz with hz | rfl
        · exact h z hz hi
        · exact h y (List.mem_of_getElem? hy) hi
/-- A board, and the document's, of the same tasks. -/
structure DuoT (w0 w : World) (p m : Nat) (lv : Value) (nvs : List Value) (r : Nat) (b : Board) (k : Nat) : Prop extends MyB w0 w p m lv nvs b k where
  ref : TRefAt w r b
  rnew : w0.heap.size ≤ r
  blank : b.Blank
theorem DuoT.step (h : DuoT w0 w p m lv nvs r b k) (hb : Below w.heap.size w w') : DuoT w0 w' p m lv nvs r b k := ⟨h.toMyB.step hb, h.ref.below hb, h.rnew, h.blank⟩
theorem TRefAt.past (h : TRefAt w r b) (hB : BoardIn w p m lv nvs b') (hu : Upd (boardBlocks p m lv) w w') : TRefAt w' r b := h.upd hu (fun _ _ hb hr hi => refTy_no (hB.kind hi hb) hr)
theorem MyB.past (h : MyB w0 w p m lv nvs b k) (hr : BlkOf w r 80) (hn : w0.heap.size ≤ r) (hu : Upd (fun i => i = r) w w') : MyB w0 w' p m lv nvs b k :=
  ⟨h.board.upd hu (fun i hi e => h.board.notOf hr (by decide) (by decide) (e ▸ hi)) (fun i hb e => BlkOf.ne (e ▸ hb) hr (by decide) rfl), h.fine, below_upd h.below hu (fun i e => by rw [e]; exact hn) h.below.size, h.new⟩
/-- Both have turned alike. -/
theorem DuoT.both (h : DuoT w0 w p m lv nvs r b k) (h1 : BoardTo w w1 p m lv nvs b') (hf : b'.Fine k') (h2 : RefTo w1 w' r b') (hbl : b'.Blank) : DuoT w0 w' p m lv nvs r b' k' := by
  have hr := h.ref.past h.board h1.upd
  exact ⟨(h.toMyB.to h1 hf).past hr.blk h.rnew h2.upd, h2.ref, h.rnew, hbl⟩
def DoesPost (w0 : World) (p m : Nat) (lv : Value) (nvs : List Value) (r k n : Nat) (e : Ending) (w' : World) : Prop := e = .returned (.bool true) ∧ ∃ (b' : Board) (k' : Nat), k' ≤ k + 1 ∧ DuoT w0 w' p m lv nvs r b' k' ∧ b'.l.length = n
theorem DoesPost.mk {e : Ending} {n : Nat} (he : e = .returned (.bool true)) (h : DuoT w0 w p m lv nvs r b k') (hk : k' ≤ k + 1) (hn : b.l.length = n) : DoesPost w0 p m lv nvs r k n e w := ⟨he, b, k', hk, h, hn⟩
set_option maxRecDepth 100000 in
set_option maxHeartbeats 8000000 in
theorem does30_any (h : DuoT w0 w p m lv nvs r b k) (hk : k ≤ 1000) (d t x : Int) (hx : (Lit.int .i64 x).wf = true) (s : List UInt8) :
    Calls Try.prog 23 #[.pointer (some ⟨p, 0, none⟩), .pointer (some ⟨r, 0, none⟩), .agg #[.int .i64 d, .int .i64 t, .int .i64 x, .string (bs s)]] w (DoesPost w0 p m lv nvs r k b.l.length) := by
  have hbx : Below w.heap.size w (w.alloc (.cells #[.int .i64 d, .int .i64 t, .int .i64 x, .string (bs s)] 32)) := (Below.refl _ _).alloc (Nat.le_refl _) _
  have HXB := Lib.hid (show RowAt (w.alloc (.cells #[.int .i64 d, .int .i64 t, .int .i64 x, .string (bs s)] 32)) w.heap.size 32 [.int .i64 d, .int .i64 t, .int .i64 x, .string (bs s)] from heap_alloc_new w _)
  have HD := Lib.hid (h.step hbx)
  clear h hbx
  by_cases h0 : d = 0
  · subst h0
    go_enter Try.func23, Try.ntmps23
    go_wp2_with fail
    generalize hsb : w.heap.size = sb at *
    generalize w.alloc (.cells #[.int .i64 0, .int .i64 t, .int .i64 x, .string (bs s)] 32) = wi at *
    clear hsb
    have hdr : Below wi.heap.size wi wi.drew := (Below.refl _ _).drew
    have HD1 := Lib.hid (HD.out.step hdr)
    have HX1 := Lib.hid (HXB.out.below hdr)
    have KP := Lib.hid (fun (V : World) (hb : RowAt V sb 32 [.int .i64 0, .int .i64 t, .int .i64 x, .string (bs s)]) => (⟨hb.cell 1 (by simp), hb.cell 2 (by simp)⟩ : V.cell? ⟨sb, 1, none⟩ = some (.int .i64 t) ∧ V.cell? ⟨sb, 2, none⟩ = some (.int .i64 x)))
    have HA := Lib.hid (start_any HD1.out.board HD1.out.fine (by omega) t x hx)
    have HB := Lib.hid (fun (V : World) (hr : TRefAt V r b) => (show Calls Try.prog 37 #[.pointer (some ⟨r, 0, none⟩), .int .i64 t, .int .i64 x] V fun e w' => e = .returned (.int .i64 (b.start t x).2) ∧ RefTo V w' r (b.start t x).1 from by
      obtain ⟨_, _, _, hr⟩ := hr
      exact rstart_in hr HD.out.fine (by omega) t x))
    clear hdr
    go_region_held3 (fun V => V.cell? ⟨sb, 1, none⟩ = some (.int .i64 t) ∧ V.cell? ⟨sb, 2, none⟩ = some (.int .i64 x))
      (first | exact KP.out _ HX1.out | exact KP.out _ HXA.out | exact KP.out _ HXC.out)
      (first
        | (go_at_call 12; refine HA.out.mono ?_; rintro e wb ⟨rfl, g1⟩; have HXA := Lib.hid (HX1.out.upd g1.upd (HD1.out.board.notOf HX1.out.blk (by decide) (by decide))); have HTA := Lib.hid g1; clear g1)
        | (go_at_call 37; refine (HB.out _ (HD1.out.ref.past HD1.out.board HTA.out.upd)).mono ?_; rintro e wc ⟨rfl, g2⟩; have HXC := Lib.hid (HXA.out.upd g2.upd (fun e => BlkOf.ne (e ▸ HXA.out.blk) (HD1.out.ref.past HD1.out.board HTA.out.upd).blk (by decide) rfl)); have HTC := Lib.hid g2; clear g2))
    go_wp2_with fail
    go_ret
    exact DoesPost.mk (by simp) (HD1.out.both HTA.out (HD.out.fine.start t x) HTC.out (HD.out.blank.start t x)) (Nat.le_refl _) (start_len t x).1
  have b0 : (d == 0) = false := by simpa using h0
  clear h0
  by_cases h1 : d = 1
  · subst h1
    have HA := Lib.hid (commit_any HD.out.board HD.out.fine x hx s)
    have HB := Lib.hid (fun (V : World) (hr : TRefAt V r b) => (show Calls Try.prog 38 #[.pointer (some ⟨r, 0, none⟩), .int .i64 x, .string (bs s)] V fun e w' => e = .returned (.tuple #[.bool (b.commit x s).2.1, .int .i64 (b.commit x s).2.2]) ∧ RefTo V w' r (b.commit x s).1 from by
      obtain ⟨_, _, _, hr⟩ := hr
      exact rcommit_in hr HD.out.fine (by omega) x s))
    go_enter Try.func23, Try.ntmps23
    go_wp2_with fail
    refine HA.out.mono ?_
    rintro e w2 ⟨rfl, g1⟩
    have hxa := HXB.out.upd g1.upd (HD.out.board.notOf HXB.out.blk (by decide) (by decide))
    have x2 : w2.cell? ⟨w.heap.size, 2, none⟩ = some (.int .i64 x) := hxa.cell 2 (by simp)
    have x3 : w2.cell? ⟨w.heap.size, 3, none⟩ = some (.string (bs s)) := hxa.cell 3 (by simp)
    have HG1 := Lib.hid g1
    have HR2 := Lib.hid (HB.out w2 (HD.out.ref.past HD.out.board g1.upd))
    clear g1 hxa HA HB
    obtain ⟨cf, hcf⟩ : ∃ cf, (b.commit x s).2.1 = cf := ⟨_, rfl⟩
    obtain ⟨ce, hce⟩ : ∃ ce, (b.commit x s).2.2 = ce := ⟨_, rfl⟩
    rw [hcf, hce] at HR2 ⊢
    clear hcf hce
    go_wp2_with fail
    refine HR2.out.mono ?_
    rintro e w3 ⟨rfl, g2⟩
    have HG2 := Lib.hid g2
    clear g2
    go_wp2_with fail
    go_ret
    exact DoesPost.mk (by simp) (HD.out.both HG1.out (HD.out.fine.commit x s) HG2.out (HD.out.blank.commit x s)) (by omega) (commit_len x s).1
  have b1 : (d == 1) = false := by simpa using h1
  clear h1
  by_cases h2 : d = 2
  · subst h2
    go_enter Try.func23, Try.ntmps23
    go_wp2_with fail
    generalize hsb : w.heap.size = sb at *
    generalize w.alloc (.cells #[.int .i64 2, .int .i64 t, .int .i64 x, .string (bs s)] 32) = wi at *
    clear hsb
    have hdr : Below wi.heap.size wi wi.drew := (Below.refl _ _).drew
    have HD1 := Lib.hid (HD.out.step hdr)
    have HX1 := Lib.hid (HXB.out.below hdr)
    have KP := Lib.hid (fun (V : World) (hb : RowAt V sb 32 [.int .i64 2, .int .i64 t, .int .i64 x, .string (bs s)]) => (hb.cell 2 (by simp) : V.cell? ⟨sb, 2, none⟩ = some (.int .i64 x)))
    have HA := Lib.hid (fail_any HD1.out.board HD1.out.fine (by omega) x hx)
    have HB := Lib.hid (fun (V : World) (hr : TRefAt V r b) => (show Calls Try.prog 39 #[.pointer (some ⟨r, 0, none⟩), .int .i64 x] V fun e w' => e = .returned (.int .i64 (b.fail x).2) ∧ RefTo V w' r (b.fail x).1 from by
      obtain ⟨_, _, _, hr⟩ := hr
      exact rfail_in hr HD.out.fine (by omega) x))
    clear hdr
    go_region_held3 (fun V => V.cell? ⟨sb, 2, none⟩ = some (.int .i64 x))
      (first | exact KP.out _ HX1.out | exact KP.out _ HXA.out | exact KP.out _ HXC.out)
      (first
        | (go_at_call 14; refine HA.out.mono ?_; rintro e wb ⟨rfl, g1⟩; have HXA := Lib.hid (HX1.out.upd g1.upd (HD1.out.board.notOf HX1.out.blk (by decide) (by decide))); have HTA := Lib.hid g1; clear g1)
        | (go_at_call 39; refine (HB.out _ (HD1.out.ref.past HD1.out.board HTA.out.upd)).mono ?_; rintro e wc ⟨rfl, g2⟩; have HXC := Lib.hid (HXA.out.upd g2.upd (fun e => BlkOf.ne (e ▸ HXA.out.blk) (HD1.out.ref.past HD1.out.board HTA.out.upd).blk (by decide) rfl)); have HTC := Lib.hid g2; clear g2))
    go_wp2_with fail
    go_ret
    exact DoesPost.mk (by simp) (HD1.out.both HTA.out (HD.out.fine.fail x) HTC.out (HD.out.blank.fail x)) (Nat.le_refl _) (fail_len x).1
  have b2 : (d == 2) = false := by simpa using h2
  clear h2
  go_enter Try.func23, Try.ntmps23
  go_wp2_with fail
  go_ret
  exact DoesPost.mk rfl HD.out (by omega) rfl
end
end Go.Proofs.Ytgmhglcdifhimaa
