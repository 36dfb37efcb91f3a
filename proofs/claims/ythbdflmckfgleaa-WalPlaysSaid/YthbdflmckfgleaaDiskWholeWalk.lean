/- maslinlaw04.DiskWhole, walked. -/
import Derived.Test.YthbdflmckfgleaaDiskLaw
import Derived.Test.YthbdflmckfgleaaDiskAlive
namespace Go.Proofs.Ythbdflmckfgleaa
open Go.RowKit Go.Maps

/-- Two of the program's disks, from block B on. -/
structure Twin (B : Nat) (w0 w : World) (b : Nat) (D : Dsk) (fp : Nat → Prop) (c : Nat) (C : Dsk) (fc : Nat → Prop) : Prop where
  my : MyDisk B w0 w b D fp
  other : DiskAt w c C fc
  new : ∀ k, fc k → B ≤ k
  apart : ∀ k, fp k → ¬ fc k
section
variable {B : Nat} {w0 w w' : World} {b c : Nat} {D D' C C' : Dsk} {fp fp' fc fc' : Nat → Prop}
theorem Twin.swap (h : Twin B w0 w b D fp c C fc) : Twin B w0 w c C fc b D fp := ⟨⟨h.other, h.new, h.my.below, h.my.size⟩, h.my.disk, h.my.new, fun k h1 h2 => h.apart k h2 h1⟩
theorem Twin.step (h : Twin B w0 w b D fp c C fc) (hb : Below w.heap.size w w') : Twin B w0 w' b D fp c C fc := ⟨h.my.step hb, h.other.below hb, h.new, h.apart⟩
theorem Twin.turn (h : Twin B w0 w b D fp c C fc) (hd : DiskAt w' b D' fp') (hu : Upd fp w w') (hs : Stays fp fp' w) : Twin B w0 w' b D' fp' c C fc :=
  ⟨h.my.turn hd hu hs, h.other.upd hu (fun k hk hf => h.apart k hf hk), h.new, fun k hk hf => by
    rcases hs k hk with h1 | h1
    · exact h.apart k h1 hf
    · have := h.other.lt k hf; omega⟩
end

set_option maxRecDepth 100000 in
set_option maxHeartbeats 4000000 in
theorem diskWhole_walk (W : World) (N : Int) (hN : (Lit.int .i64 N).wf = true) (a : Option Addr) (cap : Nat) (l : List Stp) (hl : StepsAt W a l) (hlen : l.length ≤ maxLen) (hok : ∀ x ∈ l, x.okay) (s : List UInt8) (hs : s.length ≤ reachBytes) :
    Calls Try.prog 7 #[.int .i64 N, .slice a l.length cap, .string (bs s)] W fun e w' => e = .returned (.bool true) ∧ Below W.heap.size W w' := by
  unfold reachBytes at hs
  have HL := Lib.hid hl
  have HOK := Lib.hid hok
  have HLEN := Lib.hid hlen
  have hlen2 := hlen
  unfold maxLen at hlen2
  clear hl hok hlen
  go_enter Try.func7, Try.ntmps7
  go_wp2_with fail
  refine (heavy_any N hN a cap l W HL.out HLEN.out HOK.out).mono ?_
  rintro e w1 ⟨hv, rfl, rfl, himp⟩
  cases hv with
  | true =>
    clear himp
    go_wp2_with fail
    refine (alive4_any _).mono ?_
    rintro e w2 ⟨rfl, hb⟩
    go_wp2_with fail
    go_ret
    exact ⟨rfl, hb⟩
  | false =>
    obtain ⟨hLight, _⟩ := himp rfl
    have hall := light_at hLight HOK.out
    have HALL := Lib.hid hall
    have hlen80 := hLight.len
    clear himp hLight hall
    by_cases h200 : 200 < N
    · go_wp2_with fail
      refine (alive4_any _).mono ?_
      rintro e w2 ⟨rfl, hb⟩
      go_wp2_with fail
      go_ret
      exact ⟨rfl, hb⟩
    by_cases hk : 1024 < s.length
    · go_wp2_with fail
      refine (alive4_any _).mono ?_
      rintro e w2 ⟨rfl, hb⟩
      go_wp2_with fail
      go_ret
      exact ⟨rfl, hb⟩
    by_cases h1 : N < 1
    · go_wp2_with fail
      refine (new_no N _ (.inl h1)).mono ?_
      rintro e w2 ⟨rfl, rfl⟩
      go_wp2_with fail
      refine (alive4_any _).mono ?_
      rintro e w2 ⟨rfl, hb⟩
      go_wp2_with fail
      go_ret
      exact ⟨rfl, hb⟩
    obtain ⟨n, rfl⟩ : ∃ n : Nat, N = (n : Int) := ⟨N.toNat, by omega⟩
    go_wp2_with fail
    refine (new_my (Below.refl W.heap.size W) (Nat.le_refl _) n (by omega) (by omega)).mono ?_
    rintro e w2 ⟨b, fp, rfl, h0⟩
    have H0 := Lib.hid h0
    clear h0
    go_wp2_with fail
    go_loopw [9] (fun i wr => ∃ (k : Nat) (D : Dsk) (fp : Nat → Prop), k ≤ l.length ∧ i = .int .i64 k ∧ MyDisk W.heap.size W wr b D fp ∧ Calm D n k) (fun i _ => l.length - (intOf i).toNat)
    case atStart => exact ⟨0, Dsk.new n, fp, by omega, rfl, H0.out, Calm.new n⟩
    case round =>
      clear H0
      obtain ⟨k, D, fp, hk, rfl, hD, hC⟩ := hrel
      have HD := Lib.hid hD
      have HC := Lib.hid hC
      by_cases hlt : k < l.length
      · obtain ⟨q, hidx, hat⟩ := HL.out.index cap k hlt
        obtain ⟨hx1, hx2, hx3⟩ := HALL.out l[k] (List.getElem_mem hlt)
        have hatk := hat.below hD.below
        have hqlt := hat.lt
        have HAT := Lib.hid hat
        obtain ⟨c0, c1, c2, c3, c4⟩ := hatk.cells
        have hDl := hC.loose
        clear hat hatk hD hC
        generalize l[k] = x at *
        by_cases hw : x.what = 3
        · have hb3 : (x.what != 3) = false := by simp [hw]
          clear hx1 hx2 hx3 hw
          go_wp2_with fail
          go_roundw
          case rel => exact ⟨k + 1, D, fp, by omega, by go_num, HD.out, HC.out.mono⟩
          case measure => simp [intOf]; omega
        · have hb3 : (x.what != 3) = true := by simp [hw]
          have HX := Lib.hid (And.intro hx1 (And.intro hx2 (And.intro hx3 hw)))
          clear hx1 hx2 hx3 hw
          have hqw : q.block < wr.heap.size := Nat.lt_of_lt_of_le hqlt HD.out.below.size
          have keepS := fun (w' : World) (hb : Below wr.heap.size wr w') => (((HAT.out.below HD.out.below).below hb).cells)
          have KS := Lib.hid keepS
          have hdr : Below wr.heap.size wr wr.drew := (Below.refl _ _).drew
          have HDR := Lib.hid hdr
          clear keepS hdr
          go_wp2_with fail
          go_region_held3 (fun w' => w'.cell? q = some (.int .i64 x.what) ∧ w'.cell? ⟨q.block, q.off + 1, none⟩ = some (.int .i64 x.place) ∧ w'.cell? ⟨q.block, q.off + 2, none⟩ = some (.int .i64 x.n) ∧ w'.cell? ⟨q.block, q.off + 3, none⟩ = some (.string (bs x.s)) ∧ w'.cell? ⟨q.block, q.off + 4, none⟩ = some (.bool x.raw))
            (first | exact KS.out _ HDR.out | exact KS.out _ HB1.out | exact HATB.out)
            (first
              | (go_at_call 35; refine (rnew_any 1 _ (by omega) (by omega)).mono ?_; rintro e wa ⟨r, fr, rfl, hR, hbe, hnw⟩; have HB1 := Lib.hid (HDR.out.trans (hbe.mono (Nat.le_refl _))); have HBO := Lib.hid (Both.mk (HD.out.step HB1.out) hR (fun k hk => Nat.le_trans (Nat.le_trans HD.out.size HD.out.below.size) (hnw k hk)) (fun k h1 h2 => by have := HD.out.disk.lt k h1; have := hnw k h2; have e0 : wr.drew.heap.size = wr.heap.size := rfl; omega) : Both W.heap.size W wa b D fp r (Dsk.new 1) fr); clear hR hbe hnw)
              | (go_at_call 34; refine (does_any HBO.out x HX.out.1 HX.out.2.1 HX.out.2.2.1 (by omega) (by simp [Dsk.new])).mono ?_; rintro e wb ⟨vb, fpb, frb, rfl, _, hbo⟩; have HBB := Lib.hid hbo; have HATB := Lib.hid ((HAT.out.below hbo.my.below).cells); clear hbo))
          go_wp2_with fail
          go_roundw
          case rel => exact ⟨k + 1, _, fpb, by omega, by go_num, HBB.out.my, HC.out.does x HX.out.2.1 HX.out.2.2.1 HX.out.2.2.2⟩
          case measure => simp [intOf]; omega
      · obtain rfl : k = l.length := by omega
        have hcl := hC.loose
        have hcd := hC.down
        have hcn := hC.n
        have hr0 := Dsk.read_all hcd hcn
        have hca := Dsk.read_all (D := D.crash [49]) rfl (n := n) hcn
        have hnow1 := D.crash_one
        rw [hnow1] at hca
        have hfl := Dsk.flush_ok hcd
        have hfn := Dsk.flush_now hcd
        have hff := (D.flush_n).trans hcn
        have hcb := Dsk.read_all (D := D.flush.1.crash s) rfl (n := n) hff
        rw [Dsk.crash_still hfl.2, hfn] at hcb
        have hcc := Dsk.read_all (D := (D.crash [49]).crash s) rfl (n := n) hcn
        rw [Dsk.crash_still rfl, hnow1] at hcc
        have HR0 := Lib.hid hr0; have HCA := Lib.hid hca; have HCB := Lib.hid hcb; have HCC := Lib.hid hcc; have HFL := Lib.hid hfl
        have hfll := D.flush_loose
        clear hD hC hcd hcn hr0 hca hnow1 hfl hfn hff hcb hcc
        generalize Dsk.text D.now 0 n = T at *
        go_wp2_with fail
        refine (read_my HD.out 0 n (by omega) (by omega)).mono ?_
        rw [HR0.out]
        rintro e w3 ⟨rfl, hb⟩
        have H3 := Lib.hid (HD.out.step hb)
        clear hb
        go_wp2_with fail
        refine (copy_my H3.out (by omega)).mono ?_
        rintro e w4 ⟨c, fc, rfl, hc1, hc2, hc3, _⟩
        have hdl := H3.out.disk.lt
        have HT4 := Lib.hid (Twin.mk hc2 hc1.disk hc1.new (fun k g1 g2 => by have := hdl k g1; have := hc3 k g2; omega))
        clear hc1 hc2 hc3 hdl
        go_wp2_with fail
        refine (crash_any HT4.out.my.disk [49] (by omega) (by simp)).mono ?_
        rintro e w5 ⟨rfl, f5, g1, g2, g3⟩
        have HT5 := Lib.hid (HT4.out.turn g1 g2 g3).swap
        clear g1 g2 g3
        go_wp2_with fail
        refine (flush_any HT5.out.my.disk (by omega)).mono ?_
        rw [HFL.out.1]
        rintro e w6 ⟨rfl, f6, g1, g2, g3⟩
        have HT6 := Lib.hid (HT5.out.turn g1 g2 g3)
        clear g1 g2 g3
        go_wp2_with fail
        refine (crash_any HT6.out.my.disk s (by omega) (by omega)).mono ?_
        rintro e w7 ⟨rfl, f7, g1, g2, g3⟩
        have HT7 := Lib.hid (HT6.out.turn g1 g2 g3).swap
        clear g1 g2 g3
        go_wp2_with fail
        refine (read_my HT7.out.my 0 n (by omega) (by omega)).mono ?_
        rw [HCA.out]
        rintro e w8 ⟨rfl, hb⟩
        have HT8 := Lib.hid (HT7.out.step hb).swap
        clear hb
        go_wp2_with fail
        refine (read_my HT8.out.my 0 n (by omega) (by omega)).mono ?_
        rw [HCB.out]
        rintro e w9 ⟨rfl, hb⟩
        have HT9 := Lib.hid (HT8.out.step hb).swap
        clear hb
        go_wp2_with fail
        refine (crash_any HT9.out.my.disk s (by simp [Dsk.crash]) (by omega)).mono ?_
        rintro e w10 ⟨rfl, f10, g1, g2, g3⟩
        have HT10 := Lib.hid (HT9.out.turn g1 g2 g3)
        clear g1 g2 g3
        go_wp2_with fail
        refine (read_my HT10.out.my 0 n (by omega) (by omega)).mono ?_
        rw [HCC.out]
        rintro e w11 ⟨rfl, hb⟩
        have HB11 := Lib.hid (HT10.out.step hb).my.below
        clear hb
        have hTT : (T == T) = true := by simp
        go_wp2_with fail
        refine (alive4_any _).mono ?_
        rintro e w12 ⟨rfl, hb⟩
        have HB12 := Lib.hid (HB11.out.trans (hb.mono HB11.out.size))
        clear hb
        go_wp2_with fail
        go_ret
        exact ⟨rfl, HB12.out⟩
set_option maxRecDepth 100000 in
theorem diskWhole_any {H : Type} {enc : TypeId × Value → H} {base : Nat} (W : World) (N : Int) (hN : (Lit.int .i64 N).wf = true) (v : Value) (d : DataW H) (p : List MemPlace)
    (ho : Value.okWide Try.prog W .any base 38 v) (h : DataW.Trod enc Try.prog W 0 (fun _ => true) true 38 v d p) (hz : ∀ n ∈ DataW.weights Try.prog 38 d, (decide (n ≤ reachBytes)) = true) (s : List UInt8) (hs : s.length ≤ reachBytes) :
    Calls Try.prog 7 #[.int .i64 N, v, .string (bs s)] W fun e w' => e = .returned (.bool true) ∧ Below W.heap.size W w' := by
  obtain ⟨a, cap, l, rfl, h1, h2, h3⟩ := steps_of_trod ho h hz
  exact diskWhole_walk W N hN a cap l h1 h2 h3 s hs
end Go.Proofs.Ythbdflmckfgleaa
