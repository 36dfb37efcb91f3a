/- maslinlaw04.DiskPlays, walked. -/
import Derived.Test.YthbdflmckfgleaaDiskWholeWalk
namespace Go.Proofs.Ythbdflmckfgleaa
open Go.RowKit Go.Maps

section
variable {B : Nat} {w0 w w' : World} {b r o : Nat} {D R : Dsk} {fp fr F : Nat → Prop}
/-- What is done to other blocks leaves both disks. -/
theorem Both.past (h : Both B w0 w b D fp r R fr) (hu : Upd F w w') (hF : ∀ k, F k → B ≤ k) (h1 : ∀ k, fp k → ¬ F k) (h2 : ∀ k, fr k → ¬ F k) : Both B w0 w' b D fp r R fr :=
  ⟨⟨h.my.disk.upd hu h1, h.my.new, below_upd h.my.below hu hF (Nat.le_trans h.my.size h.my.below.size), h.my.size⟩, h.ref.upd hu h2, h.new, h.apart⟩
end
/-- A disk that is played with: what has turned so far. -/
structure Old (w w' : World) (b : Nat) (D' : Dsk) (fp fp' : Nat → Prop) : Prop where
  disk : DiskAt w' b D' fp'
  upd : Upd fp w w'
  stays : Stays fp fp' w
theorem Old.start {w : World} {b : Nat} {D : Dsk} {fp : Nat → Prop} (h : DiskAt w b D fp) : Old w w b D fp fp := ⟨h, Upd.refl _ _, fun _ h => .inl h⟩
theorem Old.next {w w1 w2 : World} {b : Nat} {D1 D2 : Dsk} {fp f1 f2 : Nat → Prop} (h : Old w w1 b D1 fp f1) (hd : DiskAt w2 b D2 f2) (hu : Upd f1 w1 w2) (hs : Stays f1 f2 w1) : Old w w2 b D2 fp f2 :=
  ⟨hd, h.upd.trans hu h.stays, fun k hk => by
    rcases hs k hk with h1 | h1
    · exact h.stays k h1
    · exact .inr (Nat.le_trans h.upd.size h1)⟩
theorem Old.step {w w1 w2 : World} {b : Nat} {D1 : Dsk} {fp f1 : Nat → Prop} (h : Old w w1 b D1 fp f1) (hb : Below w1.heap.size w1 w2) : Old w w2 b D1 fp f1 :=
  h.next (h.disk.below hb) (Upd.of_below hb) (fun _ h => .inl h)

def pl1 (D : Dsk) : Dsk := (D.write 0 (fill [122] (64 * 1))).1
def pl2 (D : Dsk) : Dsk := (pl1 D).flush.1
def pl3 (D : Dsk) : Dsk := (pl2 D).fuse 0
def pl4 (D : Dsk) : Dsk := (pl3 D).crash [49]
theorem pl1_loose (D : Dsk) : (pl1 D).loose.length ≤ D.loose.length + 1 := by
  have := Dsk.write_loose D 0 (fill [122] (64 * 1))
  rw [fill_length] at this
  exact this
theorem pl2_loose (D : Dsk) : (pl2 D).loose.length ≤ D.loose.length + 1 := Nat.le_trans (Dsk.flush_loose _) (pl1_loose D)
theorem pl3_loose (D : Dsk) : (pl3 D).loose.length ≤ D.loose.length + 1 := pl2_loose D
theorem does_five (D : Dsk) (x : Stp) (h : x.what = 5) : D.does x = D := by unfold Dsk.does; simp [h]

set_option maxRecDepth 100000 in
set_option maxHeartbeats 4000000 in
theorem diskPlays_walk (W : World) (N : Int) (hN : (Lit.int .i64 N).wf = true) (a : Option Addr) (cap : Nat) (l : List Stp) (hl : StepsAt W a l) (hlen : l.length ≤ maxLen) (hok : ∀ x ∈ l, x.okay) :
    Calls Try.prog 8 #[.int .i64 N, .slice a l.length cap] W fun e w' => e = .returned (.bool true) ∧ Below W.heap.size W w' := by
  have HL := Lib.hid hl
  have HOK := Lib.hid hok
  have HLEN := Lib.hid hlen
  have hlen2 := hlen
  unfold maxLen at hlen2
  clear hl hok hlen
  go_enter Try.func8, Try.ntmps8
  go_wp2_with fail
  refine (heavy_any N hN a cap l W HL.out HLEN.out HOK.out).mono ?_
  rintro e w1 ⟨hv, rfl, rfl, himp⟩
  cases hv with
  | true =>
    clear himp
    go_wp2_with fail
    refine (alive4_any _).mono ?_
    rintro e w2 ⟨rfl, hb⟩
    go_wp2_with fail
    go_ret
    exact ⟨rfl, hb⟩
  | false =>
    obtain ⟨hLight, h16⟩ := himp rfl
    have hall := light_at hLight HOK.out
    have HALL := Lib.hid hall
    have hlen80 := hLight.len
    clear himp hLight hall
    by_cases h1 : N < 1 ∨ 16384 < N
    · have hmay : (decide (1 ≤ N) && decide (N ≤ 16384)) = false := by
        rcases h1 with h1 | h1
        · have : decide (1 ≤ N) = false := by simp; omega
          rw [this]; rfl
        · have : decide (N ≤ 16384) = false := by simp; omega
          rw [this, Bool.and_false]
      have HM := Lib.hid hmay
      clear hmay
      go_wp2_with fail
      refine (new_no N _ h1).mono ?_
      rintro e w2 ⟨rfl, rfl⟩
      clear h1 h16
      go_wp2_with fail
      refine (may_any N _).mono ?_
      rw [HM.out]
      rintro e w2 ⟨rfl, rfl⟩
      go_wp2_with fail
      refine (alive4_any _).mono ?_
      rintro e w2 ⟨rfl, hb⟩
      go_wp2_with fail
      go_ret
      exact ⟨rfl, hb⟩
    have hmay : (decide (1 ≤ N) && decide (N ≤ 16384)) = true := by simp; omega
    have HM := Lib.hid hmay
    clear hmay
    obtain ⟨n, rfl⟩ : ∃ n : Nat, N = (n : Int) := ⟨N.toNat, by omega⟩
    go_wp2_with fail
    refine (new_my (Below.refl W.heap.size W) (Nat.le_refl _) n (by omega) (by omega)).mono ?_
    rintro e w2 ⟨b, fp, rfl, h0⟩
    have H0 := Lib.hid h0
    clear h0
    go_wp2_with fail
    refine (may_any n _).mono ?_
    rw [HM.out]
    rintro e w3 ⟨rfl, rfl⟩
    go_wp2_with fail
    refine (rnew_any n _ (by omega) (by omega)).mono ?_
    rintro e w3 ⟨r, fr, rfl, hR, hbe, hnw⟩
    have hfp := H0.out.disk.lt
    have HB0 := Lib.hid (Both.mk (H0.out.step hbe) hR (fun k hk => Nat.le_trans (Nat.le_trans H0.out.size H0.out.below.size) (hnw k hk)) (fun k h1 h2 => by have := hfp k h1; have := hnw k h2; omega))
    clear hR hbe hnw hfp H0 h1 h16
    go_wp2_with fail
    go_loopw [5, 8, 9] (fun dv i ov wr => ∃ (k b : Nat) (D : Dsk) (fp fr : Nat → Prop), k ≤ l.length ∧ i = .int .i64 k ∧ dv = .pointer (some ⟨b, 0, none⟩) ∧ Both W.heap.size W wr b D fp r D fr ∧ D.loose.length ≤ 512 * k) (fun _ i _ _ => l.length - (intOf i).toNat)
    case atStart => exact ⟨0, b, Dsk.new n, fp, fr, by omega, rfl, rfl, HB0.out, by simp [Dsk.new]⟩
    case round =>
      clear HB0
      obtain ⟨k, b, D, fp, fr, hk, rfl, rfl, hB, hDl⟩ := hrel
      have HBo := Lib.hid hB
      by_cases hlt : k < l.length
      · obtain ⟨q, hidx, hat⟩ := HL.out.index cap k hlt
        obtain ⟨hx1, hx2, hx3⟩ := HALL.out l[k] (List.getElem_mem hlt)
        have hatk := hat.below hB.my.below
        have hqlt := hat.lt
        have HAT := Lib.hid hat
        obtain ⟨c0, c1, c2, c3, c4⟩ := hatk.cells
        clear hat hatk hB
        generalize l[k] = x at *
        have HX := Lib.hid (And.intro hx1 (And.intro hx2 hx3))
        clear hx1 hx2 hx3
        by_cases hw : x.what = 5
        · have hb5 : (x.what == 5) = true := by simp [hw]
          have HW := Lib.hid hw
          clear hw
          go_wp2_with fail
          refine (copy_my HBo.out.my (by omega)).mono ?_
          rintro e wa ⟨c, fc, rfl, hc1, _, hc3, hc4⟩
          have hfp := HBo.out.my.disk.lt
          have hfr := HBo.out.ref.lt
          have HC := Lib.hid (Both.mk hc1 (HBo.out.ref.below hc4) HBo.out.new (fun k g1 g2 => by have := hc3 k g1; have := hfr k g2; omega))
          have HAP := Lib.hid (fun k (g1 : fc k) (g2 : fp k) => show False by have := hc3 k g1; have := hfp k g2; omega)
          have HO := Lib.hid (Old.start (HBo.out.my.disk.below hc4))
          have HAR := Lib.hid HBo.out.apart
          have HNEW := Lib.hid HBo.out.my.new
          clear hc1 hc3 hc4 hfp hfr
          go_wp2_with fail
          refine (fill_any [122] 1 _ (by decide) (by omega) (by omega)).mono ?_
          rintro e wb ⟨rfl, hb⟩
          have HO1 := Lib.hid (HO.out.step hb)
          clear hb
          go_wp2_with fail
          refine (write_any HO1.out.disk 0 (fill [122] (64 * 1)) (by omega) (by rw [fill_length]; omega) (by rw [fill_length]; omega)).mono ?_
          rintro e wc ⟨rfl, f1, g1, g2, g3⟩
          have HO2 := Lib.hid (show Old wa wc b (pl1 D) fp f1 from HO1.out.next g1 g2 g3)
          clear g1 g2 g3
          go_wp2_with fail
          refine (flush_any HO2.out.disk (by have := pl1_loose D; omega)).mono ?_
          rintro e wd ⟨rfl, f2, g1, g2, g3⟩
          have HO3 := Lib.hid (show Old wa wd b (pl2 D) fp f2 from HO2.out.next g1 g2 g3)
          clear g1 g2 g3
          go_wp2_with fail
          refine (fuse_any HO3.out.disk 0 (by omega)).mono ?_
          rintro e we ⟨rfl, g1, g2⟩
          have HO4 := Lib.hid (show Old wa we b (pl3 D) fp f2 from HO3.out.next g1 g2 (fun _ h => .inl h))
          clear g1 g2
          go_wp2_with fail
          refine (crash_any HO4.out.disk [49] (by have := pl3_loose D; omega) (by simp)).mono ?_
          rintro e wf ⟨rfl, f3, g1, g2, g3⟩
          have HO5 := Lib.hid (show Old wa wf b (pl4 D) fp f3 from HO4.out.next g1 g2 g3)
          have HC5 := Lib.hid (HC.out.past HO5.out.upd HNEW.out HAP.out (fun k h1 h2 => HAR.out k h2 h1))
          have hat5 := (HAT.out.below HC5.out.my.below).cells
          obtain ⟨d0, d1, d2, d3, d4⟩ := hat5
          clear g1 g2 g3 c0 c1 c2 c3 c4
          go_wp2_with fail
          refine (does_any HC5.out x HX.out.1 HX.out.2.1 HX.out.2.2 (by omega) (by omega)).mono ?_
          rintro e wg ⟨v, fq, fr2, rfl, hv, hbo⟩
          obtain rfl := hv rfl
          rw [does_five _ _ HW.out] at hbo
          have HC6 := Lib.hid hbo
          clear hbo hv
          go_wp2_with fail
          refine (same_any HC6.out (by omega)).mono ?_
          rintro e wh ⟨rfl, hb⟩
          have HC7 := Lib.hid (HC6.out.step hb)
          clear hb
          go_wp2_with fail
          go_roundw
          case rel => exact ⟨k + 1, c, D, fq, fr2, by omega, by go_num, rfl, HC7.out, by omega⟩
          case measure => simp [intOf]; omega
        · have hb5 : (x.what == 5) = false := by simp [hw]
          clear hw
          go_wp2_with fail
          refine (does_any HBo.out x HX.out.1 HX.out.2.1 HX.out.2.2 (by omega) (by omega)).mono ?_
          rintro e wg ⟨v, fq, fr2, rfl, hv, hbo⟩
          obtain rfl := hv rfl
          have HC6 := Lib.hid hbo
          have hlo := Dsk.does_loose D x HX.out.2.1 HX.out.2.2
          clear hbo hv
          go_wp2_with fail
          refine (same_any HC6.out (by omega)).mono ?_
          rintro e wh ⟨rfl, hb⟩
          have HC7 := Lib.hid (HC6.out.step hb)
          clear hb
          go_wp2_with fail
          go_roundw
          case rel => exact ⟨k + 1, b, D.does x, fq, fr2, by omega, by go_num, rfl, HC7.out, by omega⟩
          case measure => simp [intOf]; omega
      · obtain rfl : k = l.length := by omega
        have hlo : D.loose.length ≤ 50000000 := by omega
        have hcl : (D.crash []).loose.length ≤ 50000000 := by simp [Dsk.crash]
        clear hB hDl
        go_wp2_with fail
        refine (copy_my HBo.out.my (by omega)).mono ?_
        rintro e wa ⟨c, fc, rfl, hc1, _, hc3, hc4⟩
        have hfp := HBo.out.my.disk.lt
        have hfr := HBo.out.ref.lt
        have HC1 := Lib.hid (Both.mk hc1 (HBo.out.ref.below hc4) HBo.out.new (fun k g1 g2 => by have := hc3 k g1; have := hfr k g2; omega))
        have HB1 := Lib.hid (HBo.out.step hc4)
        have HPC := Lib.hid (fun k (g1 : fp k) (g2 : fc k) => show False by have := hc3 k g2; have := hfp k g1; omega)
        clear hc1 hc3 hc4 hfp hfr
        go_wp2_with fail
        refine (same_any HC1.out hlo).mono ?_
        rintro e wb ⟨rfl, hb⟩
        have HC2 := Lib.hid (HC1.out.step hb)
        have HB2 := Lib.hid (HB1.out.step hb)
        clear hb
        go_wp2_with fail
        refine (crash_any HC2.out.my.disk [] (by omega) (by simp)).mono ?_
        rintro e wc ⟨rfl, f1, g1, g2, g3⟩
        have HC3 := Lib.hid (HC2.out.turnD g1 g2 g3)
        have HB3 := Lib.hid (HB2.out.past g2 HC2.out.my.new HPC.out (fun k h1 h2 => HC2.out.apart k h2 h1))
        clear g1 g2 g3
        go_wp2_with fail
        refine (rcopy_any HB3.out.ref (by omega)).mono ?_
        rintro e wd ⟨s, fs, rfl, g1, g2, g3⟩
        have hf1 := HC3.out.my.disk.lt
        have hfp := HB3.out.my.disk.lt
        have hfr := HB3.out.ref.lt
        have hsz := Nat.le_trans HB3.out.my.size HB3.out.my.below.size
        have HB4 := Lib.hid (HB3.out.step g2)
        have HS4 := Lib.hid (Both.mk (HC3.out.my.step g2) g1 (fun k h => Nat.le_trans hsz (g3 k h)) (fun k h1 h2 => by have := g3 k h2; have := hf1 k h1; omega))
        have HPS := Lib.hid (fun k (h1 : fp k) (h2 : fs k) => show False by have := g3 k h2; have := hfp k h1; omega)
        have HRS := Lib.hid (fun k (h1 : fr k) (h2 : fs k) => show False by have := g3 k h2; have := hfr k h1; omega)
        clear g1 g2 g3 hf1 hfp hfr hsz
        go_wp2_with fail
        refine (rcrash_any HS4.out.ref [] (by omega) (by simp)).mono ?_
        rintro e we ⟨⟨v, rfl⟩, fs2, g1, g2, g3⟩
        have HS5 := Lib.hid (HS4.out.turnR g1 g2 g3)
        have HB5 := Lib.hid (HB4.out.past g2 HS4.out.new HPS.out HRS.out)
        clear g1 g2 g3
        go_wp2_with fail
        refine (same_any HS5.out hcl).mono ?_
        rintro e wf ⟨rfl, hb⟩
        have HB6 := Lib.hid (HB5.out.step hb)
        clear hb
        go_wp2_with fail
        refine (same_any HB6.out hlo).mono ?_
        rintro e wg ⟨rfl, hb⟩
        have HB7 := Lib.hid (HB6.out.step hb).my.below
        clear hb
        go_wp2_with fail
        refine (alive4_any _).mono ?_
        rintro e wh ⟨rfl, hb⟩
        have HB8 := Lib.hid (HB7.out.trans (hb.mono HB7.out.size))
        clear hb
        go_wp2_with fail
        go_ret
        exact ⟨rfl, HB8.out⟩
set_option maxRecDepth 100000 in
theorem diskPlays_any {H : Type} {enc : TypeId × Value → H} {base : Nat} (W : World) (N : Int) (hN : (Lit.int .i64 N).wf = true) (v : Value) (d : DataW H) (p : List MemPlace)
    (ho : Value.okWide Try.prog W .any base 38 v) (h : DataW.Trod enc Try.prog W 0 (fun _ => true) true 38 v d p) (hz : ∀ n ∈ DataW.weights Try.prog 38 d, (decide (n ≤ reachBytes)) = true) :
    Calls Try.prog 8 #[.int .i64 N, v] W fun e w' => e = .returned (.bool true) ∧ Below W.heap.size W w' := by
  obtain ⟨a, cap, l, rfl, h1, h2, h3⟩ := steps_of_trod ho h hz
  exact diskPlays_walk W N hN a cap l h1 h2 h3
end Go.Proofs.Ythbdflmckfgleaa
