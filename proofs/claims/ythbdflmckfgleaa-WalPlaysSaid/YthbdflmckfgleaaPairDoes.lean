/- maslinlaw05: (*pair).does, walked. -/
import Derived.Test.YthbdflmckfgleaaWalPair
import Derived.Test.YthbdflmckfgleaaWalCrashWalk
namespace Go.Proofs.Ythbdflmckfgleaa
open Go.RowKit Go.Maps
open Wal

/-- A log that is opened has no more groups than sectors, and no group is longer than they are. -/
def Mod (k : Nat) (L : WLog) : Prop := L.groups.length ≤ 16384 + k ∧ ∀ l ∈ L.groups, l.length ≤ 1048576
theorem openW_mod {D : Dsk} (hF : D.Fine) {a n k : Int} {L : WLog} (h : D.openW a n = (some L, k)) : Mod 0 L := by
  unfold Dsk.openW at h
  split at h
  · cases h
  · rename_i hok
    split at h
    · cases h
    · have hn := hF.n2
      cases ho : openS (Dsk.text D.now a.toNat n.toNat) n.toNat with
      | none => rw [ho] at h; cases h
      | some p =>
        obtain ⟨g, u, G⟩ := p
        have hlen : (Dsk.text D.now a.toNat n.toNat).length = 64 * n.toNat := Dsk.len_in (fun i h1 h2 => hF.now i (by omega))
        rw [ho] at h
        simp only [Prod.mk.injEq, Option.some.injEq] at h
        obtain ⟨rfl, rfl⟩ := h
        obtain ⟨h1, _, h3, _⟩ := openS_some ho (by omega) (by omega)
        obtain ⟨g1, g2⟩ := groupsE_bound h3
        have hl : ((List.drop 64 (Dsk.text D.now a.toNat n.toNat)).take (64 * u)).length ≤ 64 * u := by rw [List.length_take]; omega
        refine ⟨?_, fun l hl2 => ?_⟩
        · show G.length ≤ _
          omega
        · have := g2 l hl2
          show l.length ≤ _
          omega
theorem Mod.modest {k : Nat} {L : WLog} (h : Mod k L) (hk : k ≤ 1000) : Modest L := ⟨by have := h.1; omega, fun l hl => by have := h.2 l hl; omega⟩
theorem Mod.more {k m : Nat} {L : WLog} (h : Mod k L) (hk : k ≤ m) : Mod m L := ⟨by have := h.1; omega, h.2⟩
theorem Mod.append {k : Nat} {D : Dsk} {L : WLog} {l : List (List UInt8)} (h : Mod k L) (hl : l.length ≤ 60) : Mod (k + 1) (wappend D L l).2.1 := by
  rcases (wappend_cases D L l).2.2 with ⟨_, e, _⟩ | ⟨_, e⟩
  · refine ⟨by rw [e, List.length_append]; have := h.1; simp; omega, fun x hx => ?_⟩
    rw [e] at hx
    rcases List.mem_append.1 hx with hx | hx
    · exact h.2 x hx
    · rw [List.mem_singleton] at hx; subst hx; omega
  · exact ⟨by rw [e]; have := h.1; omega, by rw [e]; exact h.2⟩
theorem Mod.reset {k : Nat} {D : Dsk} {L : WLog} (h : Mod k L) : Mod (k + 1) (wreset D L).2.1 := by
  rcases (wreset_cases D L).2 with ⟨_, e, _⟩ | ⟨_, e, _⟩
  · exact ⟨by rw [e]; simp, by rw [e]; simp⟩
  · exact ⟨by rw [e]; have := h.1; omega, by rw [e]; exact h.2⟩

/-- What has been played so far. -/
structure Play (B : Nat) (w0 w : World) (b r p k : Nat) (a n : Int) (x y : Nat) (D : Dsk) (fp fr : Nat → Prop) (gv gy : Value) (L : WLog) : Prop where
  duo : Duo B w0 w b r x y p D D fp fr gv gy L L a n
  loose : D.loose.length ≤ 1000 * k
  mod : Mod k L
def Played (B : Nat) (w0 w : World) (b r p k : Nat) (a n : Int) : Prop := ∃ x y D fp fr gv gy L, Play B w0 w b r p k a n x y D fp fr gv gy L
/-- What a step answers. -/
def DoesP (B : Nat) (w0 : World) (b r p k : Nat) (a n : Int) (e : Ending) (w' : World) : Prop := e = .returned (.bool true) ∧ Played B w0 w' b r p k a n

theorem Both.past2 {B : Nat} {w0 w w' : World} {b r : Nat} {D R : Dsk} {fp fr F : Nat → Prop} (h : Both B w0 w b D fp r R fr) (hu : Upd F w w') (hF : ∀ k, F k → B ≤ k) (h1 : ∀ k, fp k → ¬ F k) (h2 : ∀ k, fr k → ¬ F k) : Both B w0 w' b D fp r R fr :=
  ⟨⟨h.my.disk.upd hu h1, h.my.new, below_upd h.my.below hu hF (Nat.le_trans h.my.size h.my.below.size), h.my.size⟩, h.ref.upd hu h2, h.new, h.apart⟩
section
variable {B : Nat} {w0 w w' : World} {b r p k x y : Nat} {a n : Int} {D D' : Dsk} {fp fp' fr fr' : Nat → Prop} {gv gy : Value} {L : WLog}
theorem Play.step (h : Play B w0 w b r p k a n x y D fp fr gv gy L) (hb : Below w.heap.size w w') : Play B w0 w' b r p k a n x y D fp fr gv gy L := ⟨h.duo.step hb, h.loose, h.mod⟩
theorem Play.more {m : Nat} (h : Play B w0 w b r p k a n x y D fp fr gv gy L) (hk : k ≤ m) : Play B w0 w b r p m a n x y D fp fr gv gy L := ⟨h.duo, by have := h.loose; omega, h.mod.more hk⟩
theorem PairPost.keep {m : Int} {e : Ending} {vw vx : Value} {sb : Nat} {C : Array Value} {t : TypeId} (h : PairPost w b r p D a m e w') (hp : PairAt w p b r vw vx a m) (hx : w.heap[sb]? = some (.cells C t)) (ht : t ≠ 86) : ∃ vw vx, PairAt w' p b r vw vx a m ∧ w'.heap[sb]? = some (.cells C t) := by
  unfold PairPost at h
  have h := h.2
  cases ho : D.openW a m with
  | mk oL kk =>
    rw [ho] at h
    cases oL with
    | none => exact ⟨_, _, hp.below h, (Below.block h sb (blk_lt hx)).trans hx⟩
    | some L2 =>
      obtain ⟨x2, gv2, y2, gy2, _, _, h3, hu, _⟩ := h
      exact ⟨_, _, h3, (hu.block sb (blk_lt hx) (fun e => by subst e; exact BlkOf.ne ⟨_, _, hx⟩ hp.blk ht rfl)).trans hx⟩
/-- Behind an open. -/
theorem Played.opened {e : Ending} (h : Duo B w0 w b r x y p D D fp fr gv gy L L a n) (hlo : D.loose.length ≤ 1000 * k) (hm : Mod k L) (hp : PairPost w b r p D a n e w') : DoesP B w0 b r p k a n e w' := by
  unfold PairPost at hp
  obtain ⟨he, hp⟩ := hp
  refine ⟨he, ?_⟩
  cases ho : D.openW a n with
  | mk oL kk =>
    rw [ho] at hp
    cases oL with
    | none => exact ⟨x, y, D, fp, fr, gv, gy, L, h.step hp, hlo, hm⟩
    | some L2 =>
      obtain ⟨x2, gv2, y2, gy2, h1, h2, h3, hu, h4, h5, h6⟩ := hp
      have hsz := h.fits
      have hpd : ¬ fp p := fun hf => by have := h.both.my.disk.kindOf hf h.pair.blk; revert this; decide
      have hpr : ¬ fr p := fun hf => by have := h.both.ref.kindOf hf h.pair.blk; revert this; decide
      have hpB : p ≥ B := h.pnew
      exact ⟨x2, y2, D, fp, fr, gv2, gy2, L2, ⟨h.both.past2 hu (fun k hk => by subst hk; exact hpB) (fun k hk e => hpd (e ▸ hk)) (fun k hk e => hpr (e ▸ hk)), h1, h2, fun k hk => Nat.le_trans hsz (h4 k hk), fun k hk => Nat.le_trans hsz (h5 k hk), h6, h3, h.pnew⟩, hlo, (openW_mod h.both.my.disk.fine ho).more (Nat.zero_le _)⟩

set_option maxRecDepth 100000 in
set_option maxHeartbeats 8000000 in
theorem pairDoes_any (h : Play B w0 w b r p k a n x y D fp fr gv gy L) (s : WStp) (ta : Option Addr) (tc : Nat) (hx : TextsAt w ta s.l) (hcap : ta = none → tc = 0) (hold : ∀ q, ta = some q → s.l ≠ [] → q.block < B)
    (hs : rowLen s.l ≤ 8194 ∧ s.l.length ≤ 60 ∧ s.keep.length ≤ 8192) (ho : -9223372036854775808 ≤ s.n ∧ s.n ≤ 9223372036854775807) (ha : -9223372036854775808 ≤ a ∧ a ≤ 9223372036854775807) (hn : -9223372036854775808 ≤ n ∧ n ≤ 9223372036854775807) (hk : k ≤ 60) :
    Calls Try.prog 58 #[.pointer (some ⟨p, 0, none⟩), .agg #[.int .i64 s.what, .int .i64 s.n, .slice ta s.l.length tc, .string (bs s.keep)]] w fun e w' => DoesP B w0 b r p (k + 1) a n e w' := by
  obtain ⟨s1, s2, s3⟩ := hs
  have hlo := h.loose
  have hmod := h.mod
  have hgl := hmod.1
  have hb0 : Below w.heap.size w (w.alloc (.cells #[.int .i64 s.what, .int .i64 s.n, .slice ta s.l.length tc, .string (bs s.keep)] 76)) := (Below.refl _ _).alloc (Nat.le_refl _) _
  have HBX := Lib.hid (heap_alloc_new w (.cells #[.int .i64 s.what, .int .i64 s.n, .slice ta s.l.length tc, .string (bs s.keep)] 76))
  have HI := Lib.hid (h.step hb0)
  have HTX := Lib.hid (hx.below hb0)
  have HMOD := Lib.hid hmod
  -- the step's box is nobody's
  have hnb : ¬ (fp w.heap.size ∨ walBlocks x gv w.heap.size) := fun hf => hf.elim (fun hf => Nat.lt_irrefl _ (h.duo.both.my.disk.lt _ hf)) (fun hf => Nat.lt_irrefl _ (h.duo.wal.lt _ hf))
  have hnr : ¬ (fr w.heap.size ∨ walBlocks y gy w.heap.size) := fun hf => hf.elim (fun hf => Nat.lt_irrefl _ (h.duo.both.ref.lt _ hf)) (fun hf => Nat.lt_irrefl _ (h.duo.ref.lt _ hf))
  have HNB := Lib.hid hnb; have HNR := Lib.hid hnr
  have HOLD := Lib.hid hold
  have HCAP := Lib.hid hcap
  clear h hmod hx hb0 hnb hnr hold hcap
  obtain ⟨sb, hsb⟩ : ∃ sb, sb = w.heap.size := ⟨_, rfl⟩
  go_enter Try.func58, Try.ntmps58
  have s0 : (w.alloc (.cells #[.int .i64 s.what, .int .i64 s.n, .slice ta s.l.length tc, .string (bs s.keep)] 76)).cell? ⟨w.heap.size, 0, none⟩ = some (.int .i64 s.what) := by rw [cell_of_row (w.alloc _) _ _ _ _ _ HBX.out]; rfl
  by_cases h0 : s.what = 0
  · have hb0 : (s.what == 0) = true := by simp [h0]
    clear h0
    go_wp2_with fail
    rw [← hsb] at HBX HNB HNR ⊢
    clear s0
    generalize w.alloc (.cells #[.int .i64 s.what, .int .i64 s.n, .slice ta s.l.length tc, .string (bs s.keep)] 76) = wi at *
    clear hsb
    have HD1 := Lib.hid (HI.out.duo.step ((Below.refl wi.heap.size wi).drew))
    have HX1 := Lib.hid (show wi.drew.heap[sb]? = some (.cells #[.int .i64 s.what, .int .i64 s.n, .slice ta s.l.length tc, .string (bs s.keep)] 76) from HBX.out)
    have KP := Lib.hid (fun (V : World) (hp : PairAt V p b r (.pointer (some ⟨x, 0, none⟩)) (.pointer (some ⟨y, 0, none⟩)) a n) (hb : V.heap[sb]? = some (.cells #[.int .i64 s.what, .int .i64 s.n, .slice ta s.l.length tc, .string (bs s.keep)] 76)) => (⟨hp.cells.2.2.1, hp.cells.2.2.2.1, by rw [cell_of_row V _ _ _ _ _ hb]; rfl⟩ : V.cell? ⟨p, 2, none⟩ = some (.pointer (some ⟨x, 0, none⟩)) ∧ V.cell? ⟨p, 3, none⟩ = some (.pointer (some ⟨y, 0, none⟩)) ∧ V.cell? ⟨sb, 2, none⟩ = some (.slice ta s.l.length tc)))
    have HT1 := Lib.hid (HTX.out.below ((Below.refl wi.heap.size wi).drew))
    have hS := wappend_loose D L s.l s1
    have hM := HMOD.out.append (D := D) (l := s.l) s2
    obtain ⟨D5, L5, k5, hr⟩ : ∃ D5 L5 k5, wappend D L s.l = (D5, L5, k5) := ⟨_, _, _, rfl⟩
    rw [hr] at hS hM
    have HM := Lib.hid (show Mod (k + 1) L5 from hM)
    have HLO := Lib.hid (show D5.loose.length ≤ 1000 * (k + 1) by have : D5.loose.length ≤ D.loose.length + 1000 := hS; omega)
    have HAP := Lib.hid (fun (V : World) (q : Option Addr) (cq : Nat) (hd : DiskAt V b D fp) (hl : WalIn V x b gv L) (ht : TextsAt V q s.l) (hap : ∀ p, q = some p → s.l ≠ [] → ¬ fp p.block ∧ ¬ walBlocks x gv p.block) => (show Calls Try.prog 49 #[.pointer (some ⟨x, 0, none⟩), .slice q s.l.length cq] V fun e w' => OpPost V x b gv fp (D5, L5, k5) e w' from by rw [← hr]; exact append_any hd hl ht hap (by omega) (by omega) (by omega) (by omega)))
    have HRP := Lib.hid (fun (V : World) (hd : RefAt V r D fr) (hl : RWalIn V y r gy L) (ht : TextsAt V ta s.l) (hap : ∀ p, ta = some p → s.l ≠ [] → ¬ fr p.block ∧ p.block ≠ y) => (show Calls Try.prog 94 #[.pointer (some ⟨y, 0, none⟩), .slice ta s.l.length tc] V fun e w' => ROpPost V y r gy fr (D5, L5, k5) e w' from by rw [← hr]; exact rappend_any hd hl ht hap HCAP.out (by omega) (by omega) (by omega) (by omega)))
    have HOB := Lib.hid (show ∀ q, ta = some q → s.l ≠ [] → ¬ (fp q.block ∨ walBlocks x gv q.block) from fun q hq hne hf => by
      have h1 := HOLD.out q hq hne
      rcases hf with hf | hf
      · have := HI.out.duo.both.my.new _ hf; omega
      · have := HI.out.duo.wnew _ hf; omega)
    have HOR := Lib.hid (show ∀ q, ta = some q → s.l ≠ [] → ¬ fr q.block ∧ q.block ≠ y from fun q hq hne => by
      have h1 := HOLD.out q hq hne
      have h2 := HI.out.duo.rnew y (.inl rfl)
      exact ⟨fun hf => by have := HI.out.duo.both.new _ hf; omega, by omega⟩)
    clear hr hS hM
    go_region_held3 (fun V => V.cell? ⟨p, 2, none⟩ = some (.pointer (some ⟨x, 0, none⟩)) ∧ V.cell? ⟨p, 3, none⟩ = some (.pointer (some ⟨y, 0, none⟩)) ∧ V.cell? ⟨sb, 2, none⟩ = some (.slice ta s.l.length tc))
      (first | exact KP.out _ HD1.out.pair HX1.out | exact KP.out _ HDA.out.pair HXA.out | exact KP.out _ HDB.out.pair HXB.out | exact KP.out _ HDC.out.pair HXC.out)
      (first
        | (refine step_copy_texts (by rfl) _ _ (by rfl) (by rfl) ta tc s.l (by rfl) HT1.out HCAP.out (by omega) ?_; intro va wa hA hBA hNA; obtain ⟨qA, cA, rfl, htA⟩ := (RowOk.of_row hA).texts; have HDA := Lib.hid (HD1.out.step hBA); have HXA := Lib.hid ((hBA.block sb (blk_lt HX1.out)).trans HX1.out); have HTA := Lib.hid htA; have HTXA := Lib.hid (HT1.out.below hBA); have HNA := Lib.hid (show ∀ q, qA = some q → s.l ≠ [] → ¬ fp q.block ∧ ¬ walBlocks x gv q.block from fun q hq _ => ⟨fun hf => Nat.not_lt.2 (hNA q.block (by subst hq; rfl)) (HD1.out.both.my.disk.lt _ hf), fun hf => Nat.not_lt.2 (hNA q.block (by subst hq; rfl)) (HD1.out.wal.lt _ hf)⟩); clear hA hBA hNA htA)
        | (go_at_call 49; refine (HAP.out _ qA cA HDA.out.both.my.disk HDA.out.wal HTA.out HNA.out).mono ?_; rintro e wb ⟨rfl, fpb, gvb, g1, g2, g3, g4, g5⟩; have HDB := Lib.hid (show Duo B w0 wb b r x y p D5 D fpb fr gvb gy L5 L a n from HDA.out.turnW g1 g2 g3 g4 g5); have HXB := Lib.hid ((g3.block sb (blk_lt HXA.out) HNB.out).trans HXA.out); have HTB := Lib.hid (HTXA.out.upd g3 HOB.out); clear g1 g2 g3 g4 g5)
        | (go_at_call 94; refine (HRP.out _ HDB.out.both.ref HDB.out.ref HTB.out HOR.out).mono ?_; rintro e wc ⟨rfl, frc, gyc, g1, g2, g3, g4, g5⟩; have HDC := Lib.hid (show Duo B w0 wc b r x y p D5 D5 fpb frc gvb gyc L5 L5 a n from HDB.out.turnR g1 g2 g3 g4 g5); have HXC := Lib.hid ((g3.block sb (blk_lt HXB.out) (fun hf => HNR.out (hf.elim (fun h => .inl h.1) (fun h => .inr (.inl h))))).trans HXB.out); clear g1 g2 g3 g4 g5))
    go_wp2_with fail
    go_ret
    exact ⟨by simp, x, y, D5, fpb, frc, gvb, gyc, L5, HDC.out, HLO.out, HM.out⟩
  have hb0 : (s.what == 0) = false := by simp [h0]
  clear h0
  by_cases h1 : s.what = 1
  · have hb1 : (s.what == 1) = true := by simp [h1]
    clear h1
    go_wp2_with fail
    rw [← hsb] at HBX HNB HNR ⊢
    clear s0
    generalize w.alloc (.cells #[.int .i64 s.what, .int .i64 s.n, .slice ta s.l.length tc, .string (bs s.keep)] 76) = wi at *
    clear hsb
    have HD1 := Lib.hid (HI.out.duo.step ((Below.refl wi.heap.size wi).drew))
    have HX1 := Lib.hid (show wi.drew.heap[sb]? = some (.cells #[.int .i64 s.what, .int .i64 s.n, .slice ta s.l.length tc, .string (bs s.keep)] 76) from HBX.out)
    have KP := Lib.hid (fun (V : World) (hp : PairAt V p b r (.pointer (some ⟨x, 0, none⟩)) (.pointer (some ⟨y, 0, none⟩)) a n) (hb : V.heap[sb]? = some (.cells #[.int .i64 s.what, .int .i64 s.n, .slice ta s.l.length tc, .string (bs s.keep)] 76)) => (⟨hp.cells.2.2.1, hp.cells.2.2.2.1⟩ : V.cell? ⟨p, 2, none⟩ = some (.pointer (some ⟨x, 0, none⟩)) ∧ V.cell? ⟨p, 3, none⟩ = some (.pointer (some ⟨y, 0, none⟩))))
    have hS := wreset_loose D L
    have hM := HMOD.out.reset (D := D)
    obtain ⟨D5, L5, k5, hr⟩ : ∃ D5 L5 k5, wreset D L = (D5, L5, k5) := ⟨_, _, _, rfl⟩
    rw [hr] at hS hM
    have HM := Lib.hid (show Mod (k + 1) L5 from hM)
    have HLO := Lib.hid (show D5.loose.length ≤ 1000 * (k + 1) by have : D5.loose.length ≤ D.loose.length + 1000 := hS; omega)
    have HAP := Lib.hid (fun (V : World) (hd : DiskAt V b D fp) (hl : WalIn V x b gv L) => (show Calls Try.prog 50 #[.pointer (some ⟨x, 0, none⟩)] V fun e w' => OpPost V x b gv fp (D5, L5, k5) e w' from by rw [← hr]; exact reset_any hd hl (by omega)))
    have HRP := Lib.hid (fun (V : World) (hd : RefAt V r D fr) (hl : RWalIn V y r gy L) => (show Calls Try.prog 95 #[.pointer (some ⟨y, 0, none⟩)] V fun e w' => ROpPost V y r gy fr (D5, L5, k5) e w' from by rw [← hr]; exact rreset_any hd hl (by omega)))
    clear hr hS hM
    go_region_held3 (fun V => V.cell? ⟨p, 2, none⟩ = some (.pointer (some ⟨x, 0, none⟩)) ∧ V.cell? ⟨p, 3, none⟩ = some (.pointer (some ⟨y, 0, none⟩)))
      (first | exact KP.out _ HD1.out.pair HX1.out | exact KP.out _ HDB.out.pair HXB.out | exact KP.out _ HDC.out.pair HXC.out)
      (first
        | (go_at_call 50; refine (HAP.out _ HD1.out.both.my.disk HD1.out.wal).mono ?_; rintro e wb ⟨rfl, fpb, gvb, g1, g2, g3, g4, g5⟩; have HDB := Lib.hid (show Duo B w0 wb b r x y p D5 D fpb fr gvb gy L5 L a n from HD1.out.turnW g1 g2 g3 g4 g5); have HXB := Lib.hid ((g3.block sb (blk_lt HX1.out) HNB.out).trans HX1.out); clear g1 g2 g3 g4 g5)
        | (go_at_call 95; refine (HRP.out _ HDB.out.both.ref HDB.out.ref).mono ?_; rintro e wc ⟨rfl, frc, gyc, g1, g2, g3, g4, g5⟩; have HDC := Lib.hid (show Duo B w0 wc b r x y p D5 D5 fpb frc gvb gyc L5 L5 a n from HDB.out.turnR g1 g2 g3 g4 g5); have HXC := Lib.hid ((g3.block sb (blk_lt HXB.out) (fun hf => HNR.out (hf.elim (fun h => .inl h.1) (fun h => .inr (.inl h))))).trans HXB.out); clear g1 g2 g3 g4 g5))
    go_wp2_with fail
    go_ret
    exact ⟨by simp, x, y, D5, fpb, frc, gvb, gyc, L5, HDC.out, HLO.out, HM.out⟩
  have hb1 : (s.what == 1) = false := by simp [h1]
  clear h1
  by_cases h2 : s.what = 2
  · have hb2 : (s.what == 2) = true := by simp [h2]
    clear h2
    go_wp2_with fail
    rw [← hsb] at HBX HNB HNR ⊢
    clear s0
    generalize w.alloc (.cells #[.int .i64 s.what, .int .i64 s.n, .slice ta s.l.length tc, .string (bs s.keep)] 76) = wi at *
    clear hsb
    have HD1 := Lib.hid (HI.out.duo.step ((Below.refl wi.heap.size wi).drew))
    have HX1 := Lib.hid (show wi.drew.heap[sb]? = some (.cells #[.int .i64 s.what, .int .i64 s.n, .slice ta s.l.length tc, .string (bs s.keep)] 76) from HBX.out)
    have KP := Lib.hid (fun (V : World) {vw vx : Value} (hp : PairAt V p b r vw vx a n) (hb : V.heap[sb]? = some (.cells #[.int .i64 s.what, .int .i64 s.n, .slice ta s.l.length tc, .string (bs s.keep)] 76)) => (⟨hp.cells.2.1, by rw [cell_of_row V _ _ _ _ _ hb]; rfl⟩ : V.cell? ⟨p, 1, none⟩ = some (.pointer (some ⟨r, 0, none⟩)) ∧ V.cell? ⟨sb, 1, none⟩ = some (.int .i64 s.n)))
    have KP2 := Lib.hid (fun (V : World) {vw vx : Value} (hp : PairAt V p b r vw vx a n) (hb : V.heap[sb]? = some (.cells #[.int .i64 s.what, .int .i64 s.n, .slice ta s.l.length tc, .string (bs s.keep)] 76)) => (⟨hp.cells.1, by rw [cell_of_row V _ _ _ _ _ hb]; rfl⟩ : V.cell? ⟨p, 0, none⟩ = some (.pointer (some ⟨b, 0, none⟩)) ∧ V.cell? ⟨sb, 1, none⟩ = some (.int .i64 s.n)))
    go_region_held3 (fun V => V.cell? ⟨p, 1, none⟩ = some (.pointer (some ⟨r, 0, none⟩)) ∧ V.cell? ⟨sb, 1, none⟩ = some (.int .i64 s.n))
      (first | exact KP.out _ HD1.out.pair HX1.out | exact KP.out _ HDB.out.pair HXB.out)
      (first
        | (go_at_call 71; refine (rfuse_any HD1.out.both.ref s.n ho.2).mono ?_; rintro e wb ⟨⟨ve, rfl⟩, g1, g3⟩; have HDB := Lib.hid (HD1.out.turnDR g1 g3 (fun _ h => .inl h)); have HXB := Lib.hid ((g3.block sb (blk_lt HX1.out) (fun hf => HNR.out (.inl hf.1))).trans HX1.out); clear g1 g3))
    have HD3 := Lib.hid (HDB.out.step ((Below.refl wb.heap.size wb).drew))
    have HX3 := Lib.hid (show wb.drew.heap[sb]? = some (.cells #[.int .i64 s.what, .int .i64 s.n, .slice ta s.l.length tc, .string (bs s.keep)] 76) from HXB.out)
    go_wp2_with fail
    go_region_held3 (fun V => V.cell? ⟨p, 0, none⟩ = some (.pointer (some ⟨b, 0, none⟩)) ∧ V.cell? ⟨sb, 1, none⟩ = some (.int .i64 s.n))
      (first | exact KP2.out _ HD3.out.pair HX3.out | exact KP2.out _ HDC.out.pair HXC.out)
      (first
        | (go_at_call 30; refine (fuse_any HD3.out.both.my.disk s.n ho.2).mono ?_; rintro e wc ⟨rfl, g1, g3⟩; have HDC := Lib.hid (HD3.out.turnD g1 g3 (fun _ h => .inl h)); have HXC := Lib.hid ((g3.block sb (blk_lt HX3.out) (fun hf => HNB.out (.inl hf))).trans HX3.out); clear g1 g3))
    go_wp2_with fail
    go_ret
    exact ⟨by simp, x, y, D.fuse s.n, fp, fr, gv, gy, L, HDC.out, by show D.loose.length ≤ _; omega, HMOD.out.more (by omega)⟩
  have hb2 : (s.what == 2) = false := by simp [h2]
  clear h2
  by_cases h3 : s.what = 3
  · have hb3 : (s.what == 3) = true := by simp [h3]
    clear h3
    go_wp2_with fail
    rw [← hsb] at HBX HNB HNR ⊢
    clear s0
    generalize w.alloc (.cells #[.int .i64 s.what, .int .i64 s.n, .slice ta s.l.length tc, .string (bs s.keep)] 76) = wi at *
    clear hsb
    have HD1 := Lib.hid (HI.out.duo.step ((Below.refl wi.heap.size wi).drew))
    have HX1 := Lib.hid (show wi.drew.heap[sb]? = some (.cells #[.int .i64 s.what, .int .i64 s.n, .slice ta s.l.length tc, .string (bs s.keep)] 76) from HBX.out)
    have KP := Lib.hid (fun (V : World) {vw vx : Value} (hp : PairAt V p b r vw vx a n) (hb : V.heap[sb]? = some (.cells #[.int .i64 s.what, .int .i64 s.n, .slice ta s.l.length tc, .string (bs s.keep)] 76)) => (⟨hp.cells.2.1, by rw [cell_of_row V _ _ _ _ _ hb]; rfl⟩ : V.cell? ⟨p, 1, none⟩ = some (.pointer (some ⟨r, 0, none⟩)) ∧ V.cell? ⟨sb, 3, none⟩ = some (.string (bs s.keep))))
    have KP2 := Lib.hid (fun (V : World) {vw vx : Value} (hp : PairAt V p b r vw vx a n) (hb : V.heap[sb]? = some (.cells #[.int .i64 s.what, .int .i64 s.n, .slice ta s.l.length tc, .string (bs s.keep)] 76)) => (⟨hp.cells.1, by rw [cell_of_row V _ _ _ _ _ hb]; rfl⟩ : V.cell? ⟨p, 0, none⟩ = some (.pointer (some ⟨b, 0, none⟩)) ∧ V.cell? ⟨sb, 3, none⟩ = some (.string (bs s.keep))))
    go_region_held3 (fun V => V.cell? ⟨p, 1, none⟩ = some (.pointer (some ⟨r, 0, none⟩)) ∧ V.cell? ⟨sb, 3, none⟩ = some (.string (bs s.keep)))
      (first | exact KP.out _ HD1.out.pair HX1.out | exact KP.out _ HDB.out.pair HXB.out)
      (first
        | (go_at_call 40; refine (rcrash_any HD1.out.both.ref s.keep (by omega) (by omega)).mono ?_; rintro e wb ⟨⟨ve, rfl⟩, frb, g1, g3, g4⟩; have HDB := Lib.hid (HD1.out.turnDR g1 g3 g4); have HXB := Lib.hid ((g3.block sb (blk_lt HX1.out) (fun hf => HNR.out (.inl hf.1))).trans HX1.out); clear g1 g3 g4))
    have HD3 := Lib.hid (HDB.out.step ((Below.refl wb.heap.size wb).drew))
    have HX3 := Lib.hid (show wb.drew.heap[sb]? = some (.cells #[.int .i64 s.what, .int .i64 s.n, .slice ta s.l.length tc, .string (bs s.keep)] 76) from HXB.out)
    have HCL := Lib.hid (show (D.crash s.keep).loose.length ≤ 1000 * (k + 1) from Nat.zero_le _)
    go_wp2_with fail
    go_region_held3 (fun V => V.cell? ⟨p, 0, none⟩ = some (.pointer (some ⟨b, 0, none⟩)) ∧ V.cell? ⟨sb, 3, none⟩ = some (.string (bs s.keep)))
      (first | exact KP2.out _ HD3.out.pair HX3.out | exact KP2.out _ HDC.out.pair HXC.out | exact KP2.out _ HPD.out HXD.out)
      (first
        | (go_at_call 33; refine (crash_any HD3.out.both.my.disk s.keep (by omega) (by omega)).mono ?_; rintro e wc ⟨rfl, fpc, g1, g3, g4⟩; have HDC := Lib.hid (HD3.out.turnD g1 g3 g4); have HXC := Lib.hid ((g3.block sb (blk_lt HX3.out) (fun hf => HNB.out (.inl hf))).trans HX3.out); clear g1 g3 g4)
        | (go_at_call 57; refine (pairOpen_any HDC.out.both HDC.out.pair ha hn (Nat.zero_le _)).mono ?_; rintro e wd hpp; obtain rfl := hpp.1; obtain ⟨vw, vx, hpd, hxd⟩ := PairPost.keep hpp HDC.out.pair HXC.out (by decide); have HPP := Lib.hid hpp; have HPD := Lib.hid hpd; have HXD := Lib.hid hxd; clear hpp hpd hxd))
    go_wp2_with fail
    go_ret
    exact ⟨by simp, (Played.opened HDC.out HCL.out (HMOD.out.more (by omega)) HPP.out).2⟩
  have hb3 : (s.what == 3) = false := by simp [h3]
  clear h3
  by_cases h4 : s.what = 4
  · have hb4 : (s.what == 4) = true := by simp [h4]
    clear h4
    go_wp2_with fail
    refine (pairOpen_any HI.out.duo.both HI.out.duo.pair ha hn (by omega)).mono ?_
    rintro e wd hpp
    obtain rfl := hpp.1
    have HPP := Lib.hid hpp
    clear hpp s0
    go_wp2_with fail
    go_ret
    exact ⟨by simp, (Played.opened HI.out.duo (by omega) (HMOD.out.more (by omega)) HPP.out).2⟩
  have hb4 : (s.what == 4) = false := by simp [h4]
  clear h4
  go_wp2_with fail
  go_ret
  exact ⟨rfl, x, y, D, fp, fr, gv, gy, L, HI.out.duo, by omega, HMOD.out.more (by omega)⟩
end
end Go.Proofs.Ythbdflmckfgleaa
