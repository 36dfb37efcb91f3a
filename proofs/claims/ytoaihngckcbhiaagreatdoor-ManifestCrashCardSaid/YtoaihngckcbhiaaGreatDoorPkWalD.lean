/- WalD -/
import Derived.Test.YtoaihngckcbhiaaGreatDoorPkWalOpen2
import Derived.Test.YtoaihngckcbhiaaGreatDoorPkWalLaw2
import Derived.Test.YtoaihngckcbhiaaGreatDoorPkDiskCopy2
import Derived.Laws.Externs
import Derived.Deep.RegionHeld3
namespace Go.Proofs.YtoaihngckcbhiaaGreatDoor
open Go.RowKit Go.Maps
open Wal
def ActPost (W : World) (b : Nat) (D : Dsk) (fp : Nat → Prop) (f : Dsk → Dsk × Int) (e : Ending) (W' : World) : Prop :=
  e = .returned (.int .i64 (f D).2) ∧ ∃ fp', DiskAt W' b (f D).1 fp' ∧ Upd fp W W' ∧ Stays fp fp' W
structure FnDoes (K : World → Prop) (b : Nat) (v : Value) (f : Dsk → Dsk × Int) : Prop where
  more : ∀ D, (f D).1.loose.length ≤ D.loose.length + 1000000
  fn : ∃ F recv caps, v = .func (.func F) recv caps ∧ (∀ args w, (callFunc F args).run Tryz.prog w = .ok (.enter F args) w) ∧
    ∀ W D fp, K W → DiskAt W b D fp → D.loose.length ≤ 500000000 → Calls Tryz.prog F (recv ++ caps) W (ActPost W b D fp f)
structure FnsDo (K : World → Prop) (b : Nat) (vs : List Value) (fs : List (Dsk → Dsk × Int)) : Prop where
  len : vs.length = fs.length
  each : ∀ i (h : i < vs.length) (h' : i < fs.length), FnDoes K b vs[i] fs[i]
theorem DiskAt.kindOf {w : World} {b : Nat} {D : Dsk} {fp : Nat → Prop} (h : DiskAt w b D fp) {k : Nat} (hk : fp k) {t : TypeId} (hb : BlkOf w k t) : t = 72 ∨ t = 123 := by
  obtain ⟨m, lv, hI, rfl⟩ := h
  obtain ⟨cs, fr, hb⟩ := hb
  rcases hk with rfl | rfl | hk
  · rw [hI.struct] at hb
    injection hb with hb
    injection hb with _ hb _
    exact .inl hb.symm
  · obtain ⟨kv, ⟨_, D', ⟨es, clock, hm, _⟩, _⟩, _⟩ := hI.base
    rw [hm] at hb
    injection hb with hb
    cases hb
  · rcases hI.loose.2 with ⟨e1, _⟩ | ⟨g, cap, cur, e1, _, hg, _⟩
    · subst e1; simp [Value.ownBlock] at hk
    · subst e1
      simp [Value.ownBlock] at hk
      subst hk
      rw [hg] at hb
      injection hb with hb
      injection hb with _ hb _
      exact .inr hb.symm
theorem doS_end {fs : List (Dsk → Dsk × Int)} (h : fs = []) (E : Dsk) : doS fs E = (E, 0) := by subst h; rfl
theorem more_step (a b c k : Nat) (h1 : a ≤ b + 1000000) (h2 : b ≤ c + 1000000 * k) : a ≤ c + 1000000 * (k + 1) := by
  rw [Nat.mul_succ, ← Nat.add_assoc]
  generalize 1000000 * k = m at *
  omega
def DoPost (w : World) (x b : Nat) (gv : Value) (L : WLog) (fp : Nat → Prop) (r : Dsk × Int) (e : Ending) (w' : World) : Prop :=
  e = .returned (.int .i64 r.2) ∧ ∃ fp', DiskAt w' b r.1 fp' ∧ WalIn w' x b gv (if r.2 = 0 then L else L.fell r.2) ∧ Upd (fun k => fp k ∨ k = x) w w' ∧ Stays fp fp' w
theorem WalIn.setFault {w : World} {x b : Nat} {gv : Value} {L : WLog} (h : WalIn w x b gv L) (k : Int) : WalIn (w.setCell ⟨x, 6, none⟩ (.int .i64 k)) x b gv (L.fell k) := by
  have hu : Upd (fun i => i = x) w (w.setCell ⟨x, 6, none⟩ (.int .i64 k)) := (Upd.refl (fun i => i = x) w).setCell (p := ⟨x, 6, none⟩) (.inl rfl) _
  refine ⟨heap_setCell_same w x 6 _ _ _ h.struct, h.groups.upd hu (fun i hi e => by subst e; exact BlkOf.ne hi ⟨_, _, h.struct⟩ (by decide) rfl) (fun g hg e => h.ne (by rw [hg, e])), h.gen, h.used, h.n⟩
theorem WalIn.apart {w : World} {x b : Nat} {gv : Value} {L : WLog} (h : WalIn w x b gv L) {b' : Nat} {D : Dsk} {fp : Nat → Prop} (hd : DiskAt w b' D fp) : ¬ fp x := fun hk => by
  have := hd.kindOf hk ⟨_, _, h.struct⟩
  revert this; decide
set_option maxRecDepth 100000 in
set_option maxHeartbeats 1000000 in
theorem do_any {w : World} {x b g n cap : Nat} {gv : Value} {L : WLog} {D : Dsk} {fp : Nat → Prop} {K : World → Prop} {vs : List Value} {fs : List (Dsk → Dsk × Int)}
    (hd : DiskAt w b D fp) (hl : WalIn w x b gv L) (hK : K w) (hKs : ∀ W W' D fp, K W → DiskAt W b D fp → Upd fp W W' → K W') (hf : FnsDo K b vs fs) (hv : ∀ i u, vs[i]? = some u → w.cell? ⟨g, i, none⟩ = some u) (hg : BlkOf w g 43) (hn : vs.length = n) (hn5 : n ≤ 5) (hloose : D.loose.length ≤ 400000000) :
    Calls Tryz.prog 72 #[.pointer (some ⟨x, 0, none⟩), .slice (some ⟨g, 0, none⟩) n cap] w fun e w' => DoPost w x b gv L fp (doS fs D) e w' := by
  have HD := Lib.hid hd; have HL := Lib.hid hl; have HK := Lib.hid hK; have HKS := Lib.hid hKs; have HF := Lib.hid hf; have HV := Lib.hid hv; have HG := Lib.hid hg; have HN := Lib.hid hn
  clear hd hl hK hKs hf hv hg hn
  go_enter Tryz.func72, Tryz.ntmps72
  go_wp2_with fail
  go_loopw [10] (fun i wr => ∃ (k : Nat) (E : Dsk) (fe : Nat → Prop), k ≤ n ∧ i = .int .i64 k ∧ DiskAt wr b E fe ∧ K wr ∧ Upd fp w wr ∧ Stays fp fe w ∧ E.loose.length ≤ D.loose.length + 1000000 * k ∧ doS fs D = doS (fs.drop k) E) (fun i _ => n - (intOf i).toNat)
  case atStart => exact ⟨0, D, fp, Nat.zero_le _, rfl, HD.out, HK.out, Upd.refl _ _, fun _ h => .inl h, by omega, by rw [List.drop_zero]⟩
  case round =>
    obtain ⟨k, E, fe, hk, rfl, hE, hKr, hU, hS, hEl, hdo⟩ := hrel
    have HE := Lib.hid hE; have HKR := Lib.hid hKr; have HU := Lib.hid hU; have HS := Lib.hid hS; have HDO := Lib.hid hdo
    clear hE hKr hU hS hdo
    by_cases hlt : k < n
    · have hkv : k < vs.length := by rw [HN.out]; exact hlt
      have hkf : k < fs.length := by rw [← HF.out.len]; exact hkv
      obtain ⟨hmore, F, recv, caps, hv, hent, hcall⟩ := HF.out.each k hkv hkf
      have hc0 := HV.out k _ (List.getElem?_eq_getElem hkv)
      have hc : wr.cell? ⟨g, k, none⟩ = some (.func (.func F) recv caps) := by
        rw [← hv, ← hc0]
        exact HU.out.cell (p := ⟨g, k, none⟩) HG.out.lt (fun hk => by have := HD.out.kindOf hk HG.out; revert this; decide)
      have hst : doS (fs.drop k) E = if (fs[k] E).2 = 0 then doS (fs.drop (k + 1)) (fs[k] E).1 else fs[k] E := by
        rw [List.drop_eq_getElem_cons hkf, doS_cons]
      have hml := hmore E
      have hcl := hcall wr E fe HKR.out HE.out (by omega)
      generalize fs[k] = f at *
      have HCL := Lib.hid hcl
      have HST := Lib.hid hst
      clear hc0 hv hcall hmore hcl hst hkv hkf
      go_wp2_with fail
      refine HCL.out.mono ?_
      rintro e w1 ⟨rfl, fe1, hd1, hu1, hs1⟩
      have HD1 := Lib.hid hd1
      have HK1 := Lib.hid (HKS.out _ _ _ _ HKR.out HE.out hu1)
      have HU1 := Lib.hid (HU.out.trans hu1 HS.out)
      have HS1 := Lib.hid (show Stays fp fe1 w from fun i hi => by
        rcases hs1 i hi with h | h
        · exact HS.out i h
        · exact .inr (Nat.le_trans HU.out.size h))
      clear hd1 hu1 hs1 hc
      generalize f E = r at *
      obtain ⟨E1, e1⟩ := r
      by_cases h0 : e1 = 0
      · subst h0
        have HDO1 := Lib.hid (show doS fs D = doS (fs.drop (k + 1)) E1 by rw [HDO.out, HST.out]; rfl)
        have hml' : E1.loose.length ≤ E.loose.length + 1000000 := hml
        have hnew := more_step _ _ _ _ hml' hEl
        have HNEW := Lib.hid hnew
        clear hml hnew
        go_wp2_with fail
        go_roundw
        case rel => exact ⟨k + 1, E1, fe1, by omega, by go_num, HD1.out, HK1.out, HU1.out, HS1.out, HNEW.out, HDO1.out⟩
        case measure => simp [intOf]; omega
      · have hb0 : (e1 == 0) = false := by simp [h0]
        have hb1 : (e1 != 0) = true := by simp [h0]
        have HDO1 := Lib.hid (show doS fs D = (E1, e1) by rw [HDO.out, HST.out, if_neg h0])
        have HL1 := Lib.hid (HL.out.disk HD.out HU1.out)
        have H0 := Lib.hid h0
        obtain ⟨c0, c1, c2, c3, c4, c5, c6, cf⟩ := HL1.out.cells
        have cf6 := cf 6
        clear h0 hml cf
        go_wp2_with fail
        go_ret
        unfold DoPost
        rw [HDO1.out]
        refine ⟨rfl, fe1, HD1.out.upd (F := fun i => i = x) ((Upd.refl (fun i => i = x) w1).setCell (p := ⟨x, 6, none⟩) (.inl rfl) _) (fun i hi e => HL1.out.apart HD1.out (by rw [← e]; exact hi)), ?_, (HU1.out.mono (fun i hi => .inl hi)).setCell (p := ⟨x, 6, none⟩) (.inl (.inr rfl)) _, HS1.out⟩
        rw [if_neg (by exact H0.out)]
        exact HL1.out.setFault e1
    · obtain rfl : k = n := by omega
      have hfl : fs.drop k = [] := List.drop_eq_nil_of_le (by rw [← HF.out.len, HN.out]; exact Nat.le_refl _)
      have HDO1 := Lib.hid (HDO.out.trans (doS_end hfl E))
      have HL1 := Lib.hid (HL.out.disk HD.out HU.out)
      clear hfl
      go_wp2_with fail
      go_ret
      unfold DoPost
      rw [HDO1.out]
      exact ⟨rfl, fe, HE.out, by rw [if_pos rfl]; exact HL1.out, HU.out.mono (fun i hi => .inl hi), HS.out⟩
end Go.Proofs.YtoaihngckcbhiaaGreatDoor
namespace Go.Proofs.YtoaihngckcbhiaaGreatDoor
open Go.RowKit Go.Maps
open Wal
theorem cell_box {w : World} {k : Nat} {v : Value} {t : TypeId} (h : w.heap[k]? = some (.cells #[v] t)) : w.cell? ⟨k, 0, none⟩ = some v := by rw [cell_of_row w _ _ _ _ _ h]; rfl
theorem u64_wrap_succ (g : Nat) : IntKind.u64.wrap ((g : Int) + 1) = (((g + 1) % 18446744073709551616 : Nat) : Int) := by
  simp [IntKind.wrap, IntKind.bits, IntKind.signed]
structure Clo (W : World) (x b : Nat) (gv : Value) (L : WLog) (c0 s0 k0 : Nat) (s : List UInt8) (k : Nat) : Prop where
  wal : WalIn W x b gv L
  box : W.heap[c0]? = some (.cells #[.pointer (some ⟨x, 0, none⟩)] 66)
  txt : W.heap[s0]? = some (.cells #[.string (bs s)] 9)
  num : W.heap[k0]? = some (.cells #[.int .i64 (k : Int)] 3)
theorem Clo.upd {W W' : World} {x b : Nat} {gv : Value} {L : WLog} {c0 s0 k0 : Nat} {s : List UInt8} {k : Nat} (h : Clo W x b gv L c0 s0 k0 s k) {b' : Nat} {D : Dsk} {fp : Nat → Prop} (hd : DiskAt W b' D fp) (hu : Upd fp W W') : Clo W' x b gv L c0 s0 k0 s k :=
  ⟨h.wal.disk hd hu, (hu.block c0 (blk_lt h.box) (fun hk => by have := hd.kindOf hk ⟨_, _, h.box⟩; revert this; decide)).trans h.box, (hu.block s0 (blk_lt h.txt) (fun hk => by have := hd.kindOf hk ⟨_, _, h.txt⟩; revert this; decide)).trans h.txt, (hu.block k0 (blk_lt h.num) (fun hk => by have := hd.kindOf hk ⟨_, _, h.num⟩; revert this; decide)).trans h.num⟩
theorem Clo.below {W W' : World} {x b : Nat} {gv : Value} {L : WLog} {c0 s0 k0 : Nat} {s : List UInt8} {k : Nat} (h : Clo W x b gv L c0 s0 k0 s k) (hb : Below W.heap.size W W') : Clo W' x b gv L c0 s0 k0 s k :=
  ⟨h.wal.below hb, (hb.block c0 (blk_lt h.box)).trans h.box, (hb.block s0 (blk_lt h.txt)).trans h.txt, (hb.block k0 (blk_lt h.num)).trans h.num⟩
theorem Clo.cells {W : World} {x b : Nat} {gv : Value} {L : WLog} {c0 s0 k0 : Nat} {s : List UInt8} {k : Nat} (h : Clo W x b gv L c0 s0 k0 s k) :
    W.cell? ⟨c0, 0, none⟩ = some (.pointer (some ⟨x, 0, none⟩)) ∧ W.cell? ⟨s0, 0, none⟩ = some (.string (bs s)) ∧ W.cell? ⟨k0, 0, none⟩ = some (.int .i64 (k : Int)) ∧
    W.cell? ⟨x, 0, none⟩ = some (.int .u64 (L.gen : Int)) ∧ W.cell? ⟨x, 1, none⟩ = some (.int .i64 (L.used : Int)) ∧ W.cell? ⟨x, 2, none⟩ = some (.pointer (some ⟨b, 0, none⟩)) ∧ W.cell? ⟨x, 3, none⟩ = some (.int .i64 (L.from_ : Int)) := by
  obtain ⟨c0, c1, c2, c3, _⟩ := h.wal.cells
  exact ⟨cell_box h.box, cell_box h.txt, cell_box h.num, c0, c1, c2, c3⟩
structure RClo (W : World) (x b : Nat) (gv : Value) (L : WLog) (c0 : Nat) : Prop where
  wal : WalIn W x b gv L
  box : W.heap[c0]? = some (.cells #[.pointer (some ⟨x, 0, none⟩)] 66)
theorem RClo.of {W : World} {x b : Nat} {gv : Value} {L : WLog} {c0 : Nat} (h : WalIn W x b gv L) (h2 : W.heap[c0]? = some (.cells #[.pointer (some ⟨x, 0, none⟩)] 66)) : RClo W x b gv L c0 := ⟨h, h2⟩
theorem RClo.upd {W W' : World} {x b : Nat} {gv : Value} {L : WLog} {c0 : Nat} (h : RClo W x b gv L c0) {b' : Nat} {D : Dsk} {fp : Nat → Prop} (hd : DiskAt W b' D fp) (hu : Upd fp W W') : RClo W' x b gv L c0 :=
  ⟨h.wal.disk hd hu, (hu.block c0 (blk_lt h.box) (fun hk => by have := hd.kindOf hk ⟨_, _, h.box⟩; revert this; decide)).trans h.box⟩
theorem RClo.below {W W' : World} {x b : Nat} {gv : Value} {L : WLog} {c0 : Nat} (h : RClo W x b gv L c0) (hb : Below W.heap.size W W') : RClo W' x b gv L c0 :=
  ⟨h.wal.below hb, (hb.block c0 (blk_lt h.box)).trans h.box⟩
section
variable {W : World} {x b : Nat} {gv : Value} {L : WLog} {c0 s0 k0 : Nat} {s : List UInt8} {k : Nat} {D : Dsk} {fp : Nat → Prop}
theorem act_of {f : Dsk → Dsk × Int} {e : Ending} {W' : World} (he : e = .returned (.int .i64 (f D).2)) {fp' : Nat → Prop} (hd : DiskAt W' b (f D).1 fp') (hu : Upd fp W W') (hs : Stays fp fp' W) : ActPost W b D fp f e W' := ⟨he, fp', hd, hu, hs⟩
set_option maxRecDepth 100000 in
set_option maxHeartbeats 1000000 in
theorem cloW_any (h : Clo W x b gv L c0 s0 k0 s k) (hd : DiskAt W b D fp) (hs : s.length ≤ 10000000) (hl : D.loose.length ≤ 500000000) :
    Calls Tryz.prog 139 #[.pointer (some ⟨c0, 0, none⟩), .pointer (some ⟨s0, 0, none⟩)] W (ActPost W b D fp (fun D => D.write ((L.from_ + 1 + L.used : Nat) : Int) s)) := by
  have g1 := h.wal.used
  have g2 := h.wal.n
  have HC := Lib.hid h
  have HD := Lib.hid hd
  have hcells := fun (W' : World) (hb : Below W.heap.size W W') => (h.below hb).cells
  have HCELLS := Lib.hid hcells
  have e1 : IntKind.i64.wrap ((L.from_ : Int) + 1) = (L.from_ : Int) + 1 := IntWalk.i64_in _ (by omega)
  have e2 : IntKind.i64.wrap ((L.from_ : Int) + 1 + (L.used : Int)) = (L.from_ : Int) + 1 + (L.used : Int) := IntWalk.i64_in _ (by omega)
  have hat : ((L.from_ + 1 + L.used : Nat) : Int) = (L.from_ : Int) + 1 + (L.used : Int) := by omega
  have hw := fun (W' : World) (hb : Below W.heap.size W W') => write_any (hd.below hb) ((L.from_ : Int) + 1 + (L.used : Int)) s (by omega) (by omega) (by omega)
  have HW := Lib.hid hw
  have HAT := Lib.hid hat
  obtain ⟨d0, d1, d2, d3, d4, d5, d6⟩ := h.cells
  clear h hd hcells hw hat
  rw [HAT.out]
  go_enter Tryz.func139, Tryz.ntmps139
  go_wp2_with fail
  go_region_held3 (fun V => V.cell? ⟨c0, 0, none⟩ = some (.pointer (some ⟨x, 0, none⟩)) ∧ V.cell? ⟨s0, 0, none⟩ = some (.string (bs s)) ∧ V.cell? ⟨x, 1, none⟩ = some (.int .i64 (L.used : Int)) ∧ V.cell? ⟨x, 2, none⟩ = some (.pointer (some ⟨b, 0, none⟩)) ∧ V.cell? ⟨x, 3, none⟩ = some (.int .i64 (L.from_ : Int)))
    (first | exact ⟨d0, d1, d4, d5, d6⟩ | exact ⟨KA.out.cells.1, KA.out.cells.2.1, KA.out.cells.2.2.2.2.1, KA.out.cells.2.2.2.2.2.1, KA.out.cells.2.2.2.2.2.2⟩)
    (first
      | (go_at_call 74; refine (HW.out _ ((Below.refl W.heap.size W).drew)).mono ?_; rintro e wa ⟨rfl, fpa, hda, hua, hsa⟩; have KA := Lib.hid ((HC.out.below ((Below.refl W.heap.size W).drew)).upd (HD.out.below ((Below.refl W.heap.size W).drew)) hua); have HDA := Lib.hid (And.intro hda (And.intro hua hsa)); clear hda hua hsa))
  go_wp2_with fail
  go_ret
  exact act_of rfl HDA.out.1 ((Upd.of_below (F := fp) ((Below.refl W.heap.size W).drew)).trans HDA.out.2.1 (fun _ h => .inl h)) HDA.out.2.2
set_option maxRecDepth 100000 in
set_option maxHeartbeats 1000000 in
theorem cloM_any (h : Clo W x b gv L c0 s0 k0 s k) (hd : DiskAt W b D fp) (hk : k ≤ 1000000) (hl : D.loose.length ≤ 500000000) :
    Calls Tryz.prog 140 #[.pointer (some ⟨c0, 0, none⟩), .pointer (some ⟨k0, 0, none⟩)] W (ActPost W b D fp (fun D => D.write (L.from_ : Int) (Wal.mark L.gen (L.used + k)))) := by
  have g1 := h.wal.used
  have g2 := h.wal.n
  have g3 := h.wal.gen
  have HC := Lib.hid h
  have HD := Lib.hid hd
  have e2 : IntKind.i64.wrap ((L.used : Int) + (k : Int)) = (L.used : Int) + (k : Int) := IntWalk.i64_in _ (by omega)
  have hm := fun (W' : World) => mark_any L.gen (L.used + k) W' g3 (by omega)
  have hml := Wal.mark_length L.gen (L.used + k)
  have hw := fun (W' : World) (hb : Below W.heap.size W W') => write_any (hd.below hb) (L.from_ : Int) (Wal.mark L.gen (L.used + k)) (by omega) (by omega) (by omega)
  have hcast : ((L.used + k : Nat) : Int) = (L.used : Int) + (k : Int) := by omega
  rw [hcast] at hm
  have HM := Lib.hid hm
  have HW := Lib.hid hw
  obtain ⟨d0, d1, d2, d3, d4, d5, d6⟩ := h.cells
  clear h hd hm hw hml hcast g3
  go_enter Tryz.func140, Tryz.ntmps140
  go_wp2_with fail
  go_region_held3 (fun V => V.cell? ⟨c0, 0, none⟩ = some (.pointer (some ⟨x, 0, none⟩)) ∧ V.cell? ⟨k0, 0, none⟩ = some (.int .i64 (k : Int)) ∧ V.cell? ⟨x, 0, none⟩ = some (.int .u64 (L.gen : Int)) ∧ V.cell? ⟨x, 1, none⟩ = some (.int .i64 (L.used : Int)) ∧ V.cell? ⟨x, 2, none⟩ = some (.pointer (some ⟨b, 0, none⟩)) ∧ V.cell? ⟨x, 3, none⟩ = some (.int .i64 (L.from_ : Int)))
    (first | exact ⟨d0, d2, d3, d4, d5, d6⟩ | exact ⟨KM.out.cells.1, KM.out.cells.2.2.1, KM.out.cells.2.2.2.1, KM.out.cells.2.2.2.2.1, KM.out.cells.2.2.2.2.2.1, KM.out.cells.2.2.2.2.2.2⟩ | exact ⟨KA.out.cells.1, KA.out.cells.2.2.1, KA.out.cells.2.2.2.1, KA.out.cells.2.2.2.2.1, KA.out.cells.2.2.2.2.2.1, KA.out.cells.2.2.2.2.2.2⟩)
    (first
      | (go_at_call 67; refine (HM.out _).mono ?_; rintro e wm ⟨rfl, hbm⟩; have HBM := Lib.hid (((Below.refl W.heap.size W).drew).trans hbm); have KM := Lib.hid (HC.out.below HBM.out); clear hbm)
      | (go_at_call 74; refine (HW.out _ HBM.out).mono ?_; rintro e wa ⟨rfl, fpa, hda, hua, hsa⟩; have KA := Lib.hid (KM.out.upd (HD.out.below HBM.out) hua); have HDA := Lib.hid (And.intro hda (And.intro hua hsa)); clear hda hua hsa))
  go_wp2_with fail
  go_ret
  refine act_of rfl HDA.out.1 ((Upd.of_below (F := fp) HBM.out).trans HDA.out.2.1 (fun _ h => .inl h)) (fun i hi => ?_)
  rcases HDA.out.2.2 i hi with h | h
  · exact .inl h
  · exact .inr (Nat.le_trans HBM.out.size h)
set_option maxRecDepth 100000 in
set_option maxHeartbeats 1000000 in
theorem cloR_any (h : RClo W x b gv L c0) (hd : DiskAt W b D fp) (hl : D.loose.length ≤ 500000000) :
    Calls Tryz.prog 73 #[.pointer (some ⟨c0, 0, none⟩)] W (ActPost W b D fp (fun D => D.write (L.from_ : Int) (Wal.mark ((L.gen + 1) % 18446744073709551616) 0))) := by
  have g2 := h.wal.n
  have g3 : (L.gen + 1) % 18446744073709551616 < 18446744073709551616 := Nat.mod_lt _ (by decide)
  have HC := Lib.hid h
  have HD := Lib.hid hd
  have e2 : IntKind.u64.wrap ((L.gen : Int) + 1) = (((L.gen + 1) % 18446744073709551616 : Nat) : Int) := u64_wrap_succ L.gen
  have d0 := cell_box h.box
  obtain ⟨d3, _, d5, d6, _⟩ := h.wal.cells
  have HE := Lib.hid e2
  generalize (L.gen + 1) % 18446744073709551616 = g at *
  have hm := fun (W' : World) => mark_any g 0 W' g3 (by decide)
  have hml := Wal.mark_length g 0
  have hw := fun (W' : World) (hb : Below W.heap.size W W') => write_any (hd.below hb) (L.from_ : Int) (Wal.mark g 0) (by omega) (by omega) (by omega)
  have HM := Lib.hid hm
  have HW := Lib.hid hw
  clear h hd hm hw hml g3
  go_enter Tryz.func73, Tryz.ntmps73
  go_wp2_with fail
  go_region_held3 (fun V => V.cell? ⟨c0, 0, none⟩ = some (.pointer (some ⟨x, 0, none⟩)) ∧ V.cell? ⟨x, 0, none⟩ = some (.int .u64 (L.gen : Int)) ∧ V.cell? ⟨x, 2, none⟩ = some (.pointer (some ⟨b, 0, none⟩)) ∧ V.cell? ⟨x, 3, none⟩ = some (.int .i64 (L.from_ : Int)))
    (first | exact ⟨d0, d3, d5, d6⟩ | exact ⟨cell_box KM.out.box, KM.out.wal.cells.1, KM.out.wal.cells.2.2.1, KM.out.wal.cells.2.2.2.1⟩ | exact ⟨cell_box KA.out.box, KA.out.wal.cells.1, KA.out.wal.cells.2.2.1, KA.out.wal.cells.2.2.2.1⟩)
    (first
      | (go_at_call 67; refine (HM.out _).mono ?_; rintro e wm ⟨rfl, hbm⟩; have HBM := Lib.hid (((Below.refl W.heap.size W).drew).trans hbm); have KM := Lib.hid (HC.out.below HBM.out); clear hbm)
      | (go_at_call 74; refine (HW.out _ HBM.out).mono ?_; rintro e wa ⟨rfl, fpa, hda, hua, hsa⟩; have KA := Lib.hid (KM.out.upd (HD.out.below HBM.out) hua); have HDA := Lib.hid (And.intro hda (And.intro hua hsa)); clear hda hua hsa))
  go_wp2_with fail
  go_ret
  refine act_of rfl HDA.out.1 ((Upd.of_below (F := fp) HBM.out).trans HDA.out.2.1 (fun _ h => .inl h)) (fun i hi => ?_)
  rcases HDA.out.2.2 i hi with h | h
  · exact .inl h
  · exact .inr (Nat.le_trans HBM.out.size h)
end
theorem fns_append {x b : Nat} {gv : Value} {L : WLog} {c0 s0 k0 : Nat} {s : List UInt8} (hs : s.length ≤ 10000000) :
    FnsDo (fun W => Clo W x b gv L c0 s0 k0 s (s.length / 64)) b
      [.func (.func 139) #[] #[.pointer (some ⟨c0, 0, none⟩), .pointer (some ⟨s0, 0, none⟩)], .func (.func 75) #[.pointer (some ⟨b, 0, none⟩)] #[], .func (.func 140) #[] #[.pointer (some ⟨c0, 0, none⟩), .pointer (some ⟨k0, 0, none⟩)], .func (.func 75) #[.pointer (some ⟨b, 0, none⟩)] #[]] (L.acts s) := by
  have hfl : FnDoes (fun W => Clo W x b gv L c0 s0 k0 s (s.length / 64)) b (.func (.func 75) #[.pointer (some ⟨b, 0, none⟩)] #[]) Dsk.flush :=
    ⟨fun D => by have := Dsk.flush_loose D; omega, _, _, _, rfl, enters_of Tryz.func75 (by kernel_rfl) rfl, fun W D fp _ hd hl => flush_any hd (by omega)⟩
  refine ⟨rfl, fun i h h' => ?_⟩
  match i, h with
  | 0, _ => exact ⟨fun D => by have := Dsk.write_loose D ((L.from_ + 1 + L.used : Nat) : Int) s; show (D.write ((L.from_ + 1 + L.used : Nat) : Int) s).1.loose.length ≤ _; omega, _, _, _, rfl, enters_of Tryz.func139 (by kernel_rfl) rfl, fun W D fp hK hd hl => cloW_any hK hd hs hl⟩
  | 1, _ => exact hfl
  | 2, _ => exact ⟨fun D => by have := Dsk.write_loose D (L.from_ : Int) (Wal.mark L.gen (L.used + s.length / 64)); rw [Wal.mark_length] at this; show (D.write (L.from_ : Int) (Wal.mark L.gen (L.used + s.length / 64))).1.loose.length ≤ _; omega, _, _, _, rfl, enters_of Tryz.func140 (by kernel_rfl) rfl, fun W D fp hK hd hl => cloM_any hK hd (by omega) hl⟩
  | 3, _ => exact hfl
theorem fns_reset {x b : Nat} {gv : Value} {L : WLog} {c0 : Nat} :
    FnsDo (fun W => RClo W x b gv L c0) b
      [.func (.func 73) #[] #[.pointer (some ⟨c0, 0, none⟩)], .func (.func 75) #[.pointer (some ⟨b, 0, none⟩)] #[]] L.racts := by
  refine ⟨rfl, fun i h h' => ?_⟩
  match i, h with
  | 0, _ => exact ⟨fun D => by have := Dsk.write_loose D (L.from_ : Int) (Wal.mark ((L.gen + 1) % 18446744073709551616) 0); rw [Wal.mark_length] at this; show (D.write (L.from_ : Int) (Wal.mark ((L.gen + 1) % 18446744073709551616) 0)).1.loose.length ≤ _; omega, _, _, _, rfl, enters_of Tryz.func73 (by kernel_rfl) rfl, fun W D fp hK hd hl => cloR_any hK hd hl⟩
  | 1, _ => exact ⟨fun D => by have := Dsk.flush_loose D; show D.flush.1.loose.length ≤ _; omega, _, _, _, rfl, enters_of Tryz.func75 (by kernel_rfl) rfl, fun W D fp _ hd hl => flush_any hd (by omega)⟩
end Go.Proofs.YtoaihngckcbhiaaGreatDoor
