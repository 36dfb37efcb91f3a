/- WalOps2 -/
import Derived.Test.YtoaihngckcbhiaaGreatDoorPkBase
import Derived.OrdersHeld
import Derived.RegionTactic
import Derived.Deep.RegionHeld3
import Derived.Test.YtoaihngckcbhiaaGreatDoorPkWalD
import Derived.Deep.RegionLaw
import Derived.Deep.AppendLies
import Derived.Outline
namespace Go.Proofs.YtoaihngckcbhiaaGreatDoor
section
variable {P : Program} {ops : Array Oper} {Q : Exit → Act → World → Prop} {md : Region.Mode} {S : World → Prop} {z : Nat}
def wpAnyT (P : Program) (md : Region.Mode) (ops : Array Oper) (Q : Exit → Act → World → Prop) (S : World → Prop) (z : Nat) : Nat → Array Bool → Act → World → Prop
  | 0, listed, a, w => Region.ready md ops listed = [] ∧ Q .normal a w
  | fuel + 1, listed, a, w => (Region.ready md ops listed = [] → Q .normal a w) ∧
    ∀ i ∈ Region.ready md ops listed, wpOp P ops Q i (fun a' w' => (i ≠ z → S w') ∧ wpAnyT P md ops Q S z fuel (listed.setIfInBounds i true) a' w') a w
theorem wpAny_of_T : ∀ (fuel : Nat) (listed : Array Bool) (a : Act) (w : World), wpAnyT P md ops Q S z fuel listed a w → wpAny P md ops Q fuel listed a w
  | 0, _, _, _, h => h
  | fuel + 1, _, _, _, h => ⟨h.1, fun i hi => wpOp_mono (fun a' w' h' => wpAny_of_T fuel _ a' w' h'.2) (h.2 i hi)⟩
def waits (md : Region.Mode) (ops : Array Oper) (z i : Nat) : Bool := match ops[z]? with
  | none => false
  | some o => o.after.any fun e => Region.binds md e && e.on == i
theorem waits_spec {i : Nat} {o : Oper} (h : waits md ops z i = true) (ho : ops[z]? = some o) (hn : ∀ e ∈ o.after, Region.binds md e = true → e.on ≠ i) : False := by
  unfold waits at h
  rw [ho] at h
  obtain ⟨e, he, hb⟩ := Array.any_eq_true'.1 h
  simp only [Bool.and_eq_true, beq_iff_eq] at hb
  exact hn e he hb.1 hb.2
theorem wpAnyT_first {i : Nat} {oi : Oper} {v : Value} (hi : ops[i]? = some oi) (hz : waits md ops z i = true) (hsel : ∀ (j : Nat) (o : Oper) cs b, ops[j]? = some o → o.op ≠ .select cs b)
    (hQ : ∀ c a w, Q (.panic c) (a.put oi.dst v) w → Q (.panic c) a w) :
    ∀ (fuel : Nat) (listed : Array Bool) (a : Act) (w : World),
      (∀ j oj, ops[j]? = some oj → j ≠ i → listed.getD j true = false → (∀ e ∈ oj.after, Region.binds md e = true → e.on ≠ i) → oi.apart ops oj = true) →
      i ∈ Region.ready md ops listed → YieldsIf P ops S oi v a → S w →
      wpAnyT P md ops Q S z fuel (listed.setIfInBounds i true) (a.put oi.dst v) w → wpAnyT P md ops Q S z (fuel + 1) listed a w
  | fuel, listed, a, w => fun hfree hr hy hS H => by
    refine ⟨fun h => (by rw [h] at hr; cases hr), fun j hj => ?_⟩
    by_cases hji : j = i
    · subst hji
      exact hy.wpOp hi hS ⟨fun _ => hS, H⟩
    · obtain ⟨hjun, oj, hoj, hall⟩ := mem_ready.1 hj
      have hnot : ∀ e ∈ oj.after, Region.binds md e = true → e.on ≠ i := fun e he hb heq => by
        have h1 := hall e he hb
        have h0 := (mem_ready.1 hr).1
        rw [heq] at h1
        rcases Nat.lt_or_ge i listed.size with h' | h'
        · simp [h'] at h0 h1; rw [h0] at h1; cases h1
        · simp [Array.getElem?_eq_none h'] at h1
      have hjz : j ≠ z := fun e => by subst e; exact waits_spec hz hoj hnot
      cases fuel with
      | zero =>
        have h2 := ready_mono hj hji
        rw [H.1] at h2
        cases h2
      | succ fuel =>
        have h2 := wpOp_putIf hoj (hfree j oj hoj hji hjun hnot) (fun cs b => hsel i oi cs b hi) (fun cs b => hsel j oj cs b hoj) hQ hy (H.2 j (ready_mono hj hji))
        refine wpOp_mono (fun a' w' h3 => ⟨h3.2.1, wpAnyT_first hi hz hsel hQ fuel (listed.setIfInBounds j true) a' w' (fun k ok hk hki hun hno => ?_) (ready_mono hr (Ne.symm hji)) h3.1 (h3.2.1 hjz) ?_⟩) h2
        · refine hfree k ok hk hki ?_ hno
          by_cases hjk : j = k
          · subst hjk; exact hjun
          · rw [getD_set_ne true hjk] at hun; exact hun
        · rw [Array.setIfInBounds_comm _ _ hji]
          exact h3.2.2
theorem wpAnyT_take {i : Nat} {oi : Oper} {v : Value} {fuel : Nat} {listed : Array Bool} {a : Act} {w : World} (hi : ops[i]? = some oi) (hz : waits md ops z i = true)
    (hs : Region.noSelect ops = true) (hf : Region.free md ops listed i = true) (hr : (Region.ready md ops listed).contains i = true)
    (hQ : ∀ c a w, Q (.panic c) (a.put oi.dst v) w → Q (.panic c) a w) (hy : YieldsIf P ops S oi v a) (hS : S w)
    (h : wpAnyT P md ops Q S z fuel (listed.setIfInBounds i true) (a.put oi.dst v) w) : wpAnyT P md ops Q S z (fuel + 1) listed a w :=
  wpAnyT_first hi hz (Region.noSelect_spec hs) hQ fuel listed a w (Region.free_spec hi hf) (by simpa using hr) hy hS h
theorem wpAnyT_one {i : Nat} {o : Oper} {fuel : Nat} {listed : Array Bool} {a : Act} {w : World} (hr : Region.ready md ops listed = [i]) (ho : ops[i]? = some o)
    (h : ∀ K' : Act → World → Prop, Shut (∀ a w, (i ≠ z → S w) → wpAnyT P md ops Q S z fuel (listed.setIfInBounds i true) a w → K' a w) → if Region.wanted o (yielded ops a.tmps) = true then Oper.wp P o a w K' Q else K' (a.put o.dst undef) w) :
    wpAnyT P md ops Q S z (fuel + 1) listed a w :=
  ⟨fun h0 => (by rw [hr] at h0; cases h0), fun j hj => by
    rw [hr, List.mem_singleton] at hj
    subst hj
    exact wpOp_step ho (fun K' hK => h K' (fun a w hS hW => hK a w ⟨hS, hW⟩))⟩
theorem wpAnyT_done {listed : Array Bool} {a : Act} {w : World} (hr : Region.ready md ops listed = []) (h : Q .normal a w) : ∀ fuel, wpAnyT P md ops Q S z fuel listed a w
  | 0 => ⟨hr, h⟩
  | _ + 1 => ⟨fun _ => h, by rw [hr]; simp⟩
theorem wp_region_T {id : Nat} {a : Act} {w : World} (hm : P.follows .mixedOrders = true) (h : wpAnyT P .any ops Q S z ops.size (Array.replicate ops.size false) a w.drew) : (Code.region id ops true).wp P Q a w :=
  wp_region_any hm (wpAny_of_T _ _ _ _ h)
end
end Go.Proofs.YtoaihngckcbhiaaGreatDoor
namespace Go.Proofs.YtoaihngckcbhiaaGreatDoor
open Go.RowKit Go.Maps
open Wal
def OpPost (w : World) (x b : Nat) (gv : Value) (fp : Nat → Prop) (r : Dsk × WLog × Int) (e : Ending) (w' : World) : Prop :=
  e = .returned (.int .i64 r.2.2) ∧ ∃ fp' gv', DiskAt w' b r.1 fp' ∧ WalIn w' x b gv' r.2.1 ∧ Upd (fun k => fp k ∨ walBlocks x gv k) w w' ∧ Stays fp fp' w ∧ Stays (walBlocks x gv) (walBlocks x gv') w
theorem opPost_same {w w' : World} {x b : Nat} {gv : Value} {fp : Nat → Prop} {D : Dsk} {L : WLog} {k : Int} {r : Dsk × WLog × Int} {e : Ending} (hr : r = (D, L, k)) (he : e = .returned (.int .i64 k)) (hd : DiskAt w b D fp) (hl : WalIn w x b gv L) (hb : Below w.heap.size w w') : OpPost w x b gv fp r e w' := by
  subst hr
  exact ⟨he, fp, gv, hd.below hb, hl.below hb, Upd.of_below hb, fun _ h => .inl h, fun _ h => .inl h⟩
theorem opPost_of {w w' : World} {x b : Nat} {gv gv' : Value} {fp fp' : Nat → Prop} {D : Dsk} {L : WLog} {k : Int} {r : Dsk × WLog × Int} {e : Ending} (hr : r = (D, L, k)) (he : e = .returned (.int .i64 k)) (hd : DiskAt w' b D fp') (hl : WalIn w' x b gv' L) (hu : Upd (fun k => fp k ∨ walBlocks x gv k) w w') (hs : Stays fp fp' w) (hs2 : Stays (walBlocks x gv) (walBlocks x gv') w) : OpPost w x b gv fp r e w' := by
  subst hr
  exact ⟨he, fp', gv', hd, hl, hu, hs, hs2⟩
theorem TextsAt.upd {F : Nat → Prop} {w w' : World} {a : Option Addr} {l : List (List UInt8)} (h : TextsAt w a l) (hu : Upd F w w') (hF : ∀ p, a = some p → l ≠ [] → ¬ F p.block) : TextsAt w' a l := fun i hi => by
  obtain ⟨p, rfl, hc⟩ := h i hi
  have e : (p.add i).block = p.block := by unfold Addr.add; split <;> rfl
  exact ⟨p, rfl, (hu.cell (p := p.add i) (block_lt_of_cell hc) (by rw [e]; exact hF p rfl (fun e => by subst e; simp at hi))).trans hc⟩
theorem WalIn.apart2 {w : World} {x b : Nat} {gv : Value} {L : WLog} (h : WalIn w x b gv L) {b' : Nat} {D : Dsk} {fp : Nat → Prop} (hd : DiskAt w b' D fp) (k : Nat) (hk : fp k) : ¬ walBlocks x gv k := by
  rintro (rfl | hg)
  · exact h.apart hd hk
  · obtain ⟨cs, h1, _⟩ := h.groups
    have := hd.kindOf hk (ownsRow_blk h1 hg)
    revert this; decide
theorem WalIn.setUsed {w : World} {x b : Nat} {gv : Value} {L : WLog} (h : WalIn w x b gv L) (u : Nat) (hu : u + 1 ≤ L.n) : WalIn (w.setCell ⟨x, 1, none⟩ (.int .i64 (u : Int))) x b gv { L with used := u } := by
  have hu' : Upd (fun i => i = x) w (w.setCell ⟨x, 1, none⟩ (.int .i64 (u : Int))) := (Upd.refl (fun i => i = x) w).setCell (p := ⟨x, 1, none⟩) (.inl rfl) _
  refine ⟨heap_setCell_same w x 1 _ _ _ h.struct, h.groups.upd hu' (fun i hi e => by subst e; exact BlkOf.ne hi ⟨_, _, h.struct⟩ (by decide) rfl) (fun g hg e => h.ne (by rw [hg, e])), h.gen, hu, h.n⟩
section
variable {w : World} {x b : Nat} {gv : Value} {L : WLog} {D : Dsk} {fp : Nat → Prop} {l : List (List UInt8)} {a : Option Addr} {cap : Nat}
set_option maxRecDepth 100000 in
set_option maxHeartbeats 1000000 in
theorem append_early (hd : DiskAt w b D fp) (hl : WalIn w x b gv L) (hx : TextsAt w a l) (hlen : l.length ≤ maxLen) (hsum : rowLen l ≤ 1000000) (hbad : L.fault ≠ 0 ∨ groupE l = none) :
    Calls Tryz.prog 98 #[.pointer (some ⟨x, 0, none⟩), .slice a l.length cap] w fun e w' => OpPost w x b gv fp (wappend D L l) e w' := by
  have HD := Lib.hid hd; have HL := Lib.hid hl; have HLEN := Lib.hid hlen
  have hb1 := (Below.refl w.heap.size w).alloc (Nat.le_refl _) (.cells #[.pointer (some ⟨x, 0, none⟩)] 66)
  have HB1 := Lib.hid hb1
  have HL1 := Lib.hid (hl.below hb1)
  have HX1 := Lib.hid (hx.below hb1)
  by_cases hf : L.fault = 0
  · have hg : groupE l = none := hbad.resolve_left (fun h => h hf)
    have hR : Hid (wappend D L l = (D, L, 5)) := Lib.hid (by unfold wappend; rw [if_neg (by simp [hf]), hg])
    have hV : Hid (groupV l = ([], 5)) := Lib.hid (by unfold groupV; rw [hg])
    have HF := Lib.hid hf
    clear hd hl hx hlen hbad hb1 hf hg
    go_enter Tryz.func98, Tryz.ntmps98
    go_wp2_with fail
    refine (walCheck_any HL1.out).mono ?_
    rw [HF.out]
    rintro e w1 ⟨rfl, rfl⟩
    go_wp2_with fail
    refine (group_any l a cap _ HX1.out HLEN.out (by omega)).mono ?_
    rw [hV.out]
    rintro e w1 ⟨rfl, hb⟩
    have HB := Lib.hid hb
    clear hb
    go_wp2_with fail
    go_ret
    exact opPost_same hR.out rfl HD.out HL.out ((HB1.out.trans (HB.out.mono (by rw [World.size_alloc]; omega))).alloc (Nat.le_trans (HB1.out.size) HB.out.size) _)
  · have hR : Hid (wappend D L l = (D, L, L.fault)) := Lib.hid (by unfold wappend; rw [if_pos hf])
    have hb0 : (L.fault == 0) = false := by simp [hf]
    have hb2 : (L.fault != 0) = true := by simp [hf]
    clear hd hl hx hlen hbad hb1 hf
    go_enter Tryz.func98, Tryz.ntmps98
    go_wp2_with fail
    refine (walCheck_any HL1.out).mono ?_
    rintro e w1 ⟨rfl, rfl⟩
    go_wp2_with fail
    go_ret
    exact opPost_same hR.out rfl HD.out HL.out HB1.out
set_option maxRecDepth 100000 in
set_option maxHeartbeats 4000000 in
theorem append_in (hd : DiskAt w b D fp) (hl : WalIn w x b gv L) (hx : TextsAt w a l) (hap : ∀ p, a = some p → l ≠ [] → ¬ fp p.block ∧ ¬ walBlocks x gv p.block) (hlen : l.length ≤ 1000000) (hsum : rowLen l ≤ 1000000) (hf : L.fault = 0) {s : List UInt8} (hg : groupE l = some s) (hloose : D.loose.length ≤ 400000000) (hgl : L.groups.length ≤ 1000000) :
    Calls Tryz.prog 98 #[.pointer (some ⟨x, 0, none⟩), .slice a l.length cap] w fun e w' => OpPost w x b gv fp (wappend D L l) e w' := by
  have HD := Lib.hid hd; have HL := Lib.hid hl; have HAP := Lib.hid hap; have HF := Lib.hid hf; have HX := Lib.hid hx
  have hb1 := (Below.refl w.heap.size w).alloc (Nat.le_refl _) (.cells #[.pointer (some ⟨x, 0, none⟩)] 66)
  have HB1 := Lib.hid hb1
  have HC0 := Lib.hid (heap_alloc_new w (.cells #[.pointer (some ⟨x, 0, none⟩)] 66))
  have HL1 := Lib.hid (hl.below hb1)
  have HX1 := Lib.hid (hx.below hb1)
  have hV : Hid (groupV l = (s, 0)) := Lib.hid (by unfold groupV; rw [hg])
  have hR : wappend D L l = if L.n - 1 - L.used < s.length / 64 then (D, L, 4) else
    if (doS (L.acts s) D).2 = 0 then ((doS (L.acts s) D).1, L.grown l (s.length / 64), 0) else ((doS (L.acts s) D).1, L.fell (doS (L.acts s) D).2, (doS (L.acts s) D).2) := by
    unfold wappend; rw [if_neg (by simp [hf]), hg]
  have hsl : s.length ≤ 1000068 := by have := groupV_length l; rw [hV.out] at this; have h2 : s.length ≤ rowLen l + 68 := this; omega
  have g1 := hl.used
  have g2 := hl.n
  have HLEN := Lib.hid (show l.length ≤ maxLen by unfold maxLen; omega)
  clear hd hl hap hb1 hf hg hx
  by_cases hfull : L.n - 1 - L.used < s.length / 64
  · have HR := Lib.hid (hR.trans (if_pos hfull))
    have hq : (L.n : Int) - 1 - (L.used : Int) < (s.length : Int) / 64 := by omega
    have e1 : IntKind.i64.wrap ((L.n : Int) - 1) = (L.n : Int) - 1 := IntWalk.i64_in _ (by omega)
    have e2 : IntKind.i64.wrap ((L.n : Int) - 1 - (L.used : Int)) = (L.n : Int) - 1 - (L.used : Int) := IntWalk.i64_in _ (by omega)
    clear hR hfull
    go_enter Tryz.func98, Tryz.ntmps98
    go_wp2_with fail
    refine (walCheck_any HL1.out).mono ?_
    rw [HF.out]
    rintro e w1 ⟨rfl, rfl⟩
    go_wp2_with fail
    refine (group_any l a cap _ HX1.out HLEN.out (by omega)).mono ?_
    rw [hV.out]
    rintro e w1 ⟨rfl, hb⟩
    have HB := Lib.hid hb
    have c0 := cell_box ((hb.block w.heap.size (blk_lt HC0.out)).trans HC0.out)
    have hlt0 : w.heap.size < w1.heap.size := Nat.lt_of_lt_of_le (blk_lt HC0.out) hb.size
    obtain ⟨d0, d1, d2, d3, d4, d5, d6, df⟩ := (HL1.out.below hb).cells
    have hxl : x < w1.heap.size := Nat.lt_of_lt_of_le (HL1.out.lt x (.inl rfl)) hb.size
    clear hb df d6 d5
    go_wp2_with fail
    go_quiet (fail)
    go_wp2_with fail
    go_ret
    exact opPost_same HR.out rfl HD.out HL.out ((((HB1.out.trans (HB.out.mono (by rw [World.size_alloc]; omega))).alloc (by omega) _).alloc (by rw [World.size_alloc]; omega) _).trans (below_drawn _ _ |>.mono (by rw [World.size_alloc, World.size_alloc]; omega)))
  · have HR0 := Lib.hid (hR.trans (if_neg hfull))
    have hq : (s.length : Int) / 64 ≤ (L.n : Int) - 1 - (L.used : Int) := by omega
    have e1 : IntKind.i64.wrap ((L.n : Int) - 1) = (L.n : Int) - 1 := IntWalk.i64_in _ (by omega)
    have e2 : IntKind.i64.wrap ((L.n : Int) - 1 - (L.used : Int)) = (L.n : Int) - 1 - (L.used : Int) := IntWalk.i64_in _ (by omega)
    have hk64 : ((s.length / 64 : Nat) : Int) = (s.length : Int) / 64 := by omega
    have HK := Lib.hid hk64
    have hkn : L.used + s.length / 64 + 1 ≤ L.n := by omega
    clear hR hfull hk64
    go_enter Tryz.func98, Tryz.ntmps98
    go_wp2_with fail
    refine (walCheck_any HL1.out).mono ?_
    rw [HF.out]
    rintro e w1 ⟨rfl, rfl⟩
    go_wp2_with fail
    refine (group_any l a cap _ HX1.out HLEN.out (by omega)).mono ?_
    rw [hV.out]
    rintro e w1 ⟨rfl, hb⟩
    have HB := Lib.hid hb
    have c0 := cell_box ((hb.block w.heap.size (blk_lt HC0.out)).trans HC0.out)
    have hlt0 : w.heap.size < w1.heap.size := Nat.lt_of_lt_of_le (blk_lt HC0.out) hb.size
    have HL2 := Lib.hid (HL1.out.below hb)
    obtain ⟨d0, d1, d2, d3, d4, d5, d6, df⟩ := HL2.out.cells
    have hxl : x < w1.heap.size := HL2.out.lt x (.inl rfl)
    clear hb df d6 d5
    go_wp2_with fail
    go_quiet (fail)
    go_wp2_with fail
    have hcl : Clo (((w1.alloc (.cells #[.string (bs s)] 9)).alloc (.cells #[.int .i64 ((s.length : Int) / 64)] 3)).drewN nq) x b gv L w.heap.size w1.heap.size (w1.heap.size + 1) s (s.length / 64) := by
      rw [← HK.out]
      have ba : Below w1.heap.size w1 (w1.alloc (.cells #[.string (bs s)] 9)) := (Below.refl _ _).alloc (Nat.le_refl _) _
      have bb : Below (w1.alloc (.cells #[.string (bs s)] 9)).heap.size (w1.alloc (.cells #[.string (bs s)] 9)) ((w1.alloc (.cells #[.string (bs s)] 9)).alloc (.cells #[.int .i64 ((s.length / 64 : Nat) : Int)] 3)) := (Below.refl _ _).alloc (Nat.le_refl _) _
      have hb2 : Below w1.heap.size w1 (((w1.alloc (.cells #[.string (bs s)] 9)).alloc (.cells #[.int .i64 ((s.length / 64 : Nat) : Int)] 3)).drewN nq) := (ba.trans (bb.mono (by rw [World.size_alloc]; omega))).trans ((below_drawn _ nq).mono (by rw [World.size_alloc, World.size_alloc]; omega))
      have hs0 := heap_alloc_new w1 (.cells #[.string (bs s)] 9)
      have hk0 := heap_alloc_new (w1.alloc (.cells #[.string (bs s)] 9)) (.cells #[.int .i64 ((s.length / 64 : Nat) : Int)] 3)
      rw [World.size_alloc] at hk0
      exact ⟨HL2.out.below hb2, (hb2.block w.heap.size hlt0).trans ((HB.out.block w.heap.size (blk_lt HC0.out)).trans HC0.out), (bb.block w1.heap.size (by rw [World.size_alloc]; omega)).trans hs0, hk0⟩
    have hbw : Below w.heap.size w (((w1.alloc (.cells #[.string (bs s)] 9)).alloc (.cells #[.int .i64 ((s.length : Int) / 64)] 3)).drewN nq) := (((HB1.out.trans (HB.out.mono (by rw [World.size_alloc]; omega))).alloc (by omega) _).alloc (by rw [World.size_alloc]; omega) _).trans ((below_drawn _ nq).mono (by rw [World.size_alloc, World.size_alloc]; omega))
    have hn1 : w1.heap.size + 1 < (((w1.alloc (.cells #[.string (bs s)] 9)).alloc (.cells #[.int .i64 ((s.length : Int) / 64)] 3)).drewN nq).heap.size := by
      show w1.heap.size + 1 < ((w1.alloc _).alloc _).heap.size
      rw [World.size_alloc, World.size_alloc]; omega
    have HCL := Lib.hid hcl
    have HBW := Lib.hid hbw
    clear d0 d1 d2 d3 d4 c0 hcl hbw HL1 HL2 HB1 HB HC0 HX1 hV e1 e2 hq
    generalize (((w1.alloc (.cells #[.string (bs s)] 9)).alloc (.cells #[.int .i64 ((s.length : Int) / 64)] 3)).drewN nq) = W2 at *
    generalize w1.heap.size = s0 at *
    obtain ⟨c0, _, c2, _, d1, d2, _⟩ := HCL.out.cells
    have hdo := fun (nq : Nat) => do_any (w := (W2.alloc (.cells #[.func (.func 139) #[] #[.pointer (some ⟨w.heap.size, 0, none⟩), .pointer (some ⟨s0, 0, none⟩)], .func (.func 75) #[.pointer (some ⟨b, 0, none⟩)] #[], .func (.func 140) #[] #[.pointer (some ⟨w.heap.size, 0, none⟩), .pointer (some ⟨s0 + 1, 0, none⟩)], .func (.func 75) #[.pointer (some ⟨b, 0, none⟩)] #[]] 43)).drewN nq) (g := W2.heap.size) (n := 4) (cap := 4)
      ((HD.out.below HBW.out).below ((((Below.refl _ W2).alloc (Nat.le_refl _) _).trans ((below_drawn _ nq).mono (by rw [World.size_alloc]; omega))))) (HCL.out.wal.below ((((Below.refl _ W2).alloc (Nat.le_refl _) _).trans ((below_drawn _ nq).mono (by rw [World.size_alloc]; omega))))) (HCL.out.below ((((Below.refl _ W2).alloc (Nat.le_refl _) _).trans ((below_drawn _ nq).mono (by rw [World.size_alloc]; omega))))) (fun _ _ _ _ h hd hu => h.upd hd hu) (fns_append (by omega)) (fun i u hu => (cell_new_row W2 _ _ i).trans (by rw [← Array.getElem?_toList]; exact hu)) ⟨_, _, heap_alloc_new W2 _⟩ rfl (by decide) hloose
    obtain ⟨E, k, hr⟩ : ∃ E k, doS (L.acts s) D = (E, k) := ⟨_, _, rfl⟩
    have hR1 : wappend D L l = if k = 0 then (E, L.grown l (s.length / 64), 0) else (E, L.fell k, k) := by rw [HR0.out, hr]
    simp only [hr] at hdo
    have HDO := Lib.hid hdo
    have HR1 := Lib.hid hR1
    have hxw : x < w.heap.size := HL.out.lt x (.inl rfl)
    have hfw := HD.out.lt
    have HFW := Lib.hid hfw
    have HF0 := Lib.hid (show ¬ (fp w.heap.size ∨ w.heap.size = x) from fun hk => hk.elim (fun h => by have := hfw _ h; omega) (fun e => by omega))
    have HF1 := Lib.hid (show ¬ (fp (s0 + 1) ∨ s0 + 1 = x) from fun hk => hk.elim (fun h => by have := hfw _ h; omega) (fun e => by omega))
    clear hdo hr hR1 hfw
    go_region_held3 (fun V => V.cell? ⟨w.heap.size, 0, none⟩ = some (.pointer (some ⟨x, 0, none⟩)) ∧ V.cell? ⟨x, 2, none⟩ = some (.pointer (some ⟨b, 0, none⟩)))
      (first | exact ⟨c0, d2⟩ | exact ⟨c3, HL3.out.cells.2.2.1⟩ | go_keep)
      (first
        | (go_at_call 72; refine (HDO.out 1).mono ?_; rintro e w3 ⟨rfl, fp3, hd3, hl3, hu3, hs3⟩; have hu3' := (Upd.of_below (F := fun k => fp k ∨ k = x) (((Below.refl _ W2).alloc (Nat.le_refl _) _).trans ((below_drawn _ 1).mono (by rw [World.size_alloc]; omega)))).trans hu3 (fun i hi => .inl hi); have c3 : w3.cell? ⟨w.heap.size, 0, none⟩ = some (.pointer (some ⟨x, 0, none⟩)) := (hu3'.cell (p := ⟨w.heap.size, 0, none⟩) (blk_lt HCL.out.box) HF0.out).trans HCL.out.cells.1; have k3 : w3.cell? ⟨s0 + 1, 0, none⟩ = some (.int .i64 ((s.length / 64 : Nat) : Int)) := (hu3'.cell (p := ⟨s0 + 1, 0, none⟩) (blk_lt HCL.out.num) HF1.out).trans HCL.out.cells.2.2.1; have HL3 := Lib.hid hl3; have HD3 := Lib.hid hd3; have HU3 := Lib.hid hu3'; have HS3 := Lib.hid hs3; clear hd3 hl3 hu3 hs3 hu3'))
    all_goals
      clear c0 c2 d1 d2
      have HK3 := Lib.hid k3
      clear k3
      by_cases h0 : k = 0
      · subst h0
        have HR := Lib.hid (HR1.out.trans (if_pos rfl))
        have hl3 : WalIn w3 x b gv L := by have := HL3.out; rwa [if_pos rfl] at this
        obtain ⟨_, d1, _, _, _, d5, _, df⟩ := hl3.cells
        have df1 := df 1
        have df5 := df 5
        have HL3' := Lib.hid hl3
        have k3 := HK3.out
        have e3 : IntKind.i64.wrap ((L.used : Int) + ((s.length / 64 : Nat) : Int)) = (L.used : Int) + ((s.length / 64 : Nat) : Int) := IntWalk.i64_in _ (by omega)
        clear df hl3
        generalize s.length / 64 = kk at *
        go_wp2_with fail
        go_region
        all_goals
          go_wp2_with fail
          have hl4 := (HL3'.out.setUsed (L.used + kk) (by omega)).below ((Below.refl _ (w3.setCell ⟨x, 1, none⟩ (.int .i64 ((L.used + kk : Nat) : Int)))).drew)
          rw [Int.natCast_add] at hl4
          have hd4 : DiskAt (w3.setCell ⟨x, 1, none⟩ (.int .i64 ((L.used : Int) + (kk : Int)))).drew b E fp3 := (HD3.out.upd (F := fun i => i = x) ((Upd.refl (fun i => i = x) w3).setCell (p := ⟨x, 1, none⟩) (.inl rfl) _) (fun i hi e => HL3'.out.apart HD3.out (by rw [← e]; exact hi))).below ((Below.refl _ _).drew)
          have c4 : (w3.setCell ⟨x, 1, none⟩ (.int .i64 ((L.used : Int) + (kk : Int)))).drew.cell? ⟨w.heap.size, 0, none⟩ = some (.pointer (some ⟨x, 0, none⟩)) := by
            rw [← c3]
            exact World.cell?_setCell_far _ _ _ _ (by show x ≠ w.heap.size; omega)
          have hu4 : Upd (fun k => fp k ∨ k = x) w (w3.setCell ⟨x, 1, none⟩ (.int .i64 ((L.used : Int) + (kk : Int)))).drew := (((Upd.of_below (F := fun k => fp k ∨ k = x) HBW.out).trans HU3.out (fun i hi => .inl hi)).setCell (p := ⟨x, 1, none⟩) (.inl (.inr rfl)) _).trans (Upd.of_below (F := fun k => fp k ∨ k = x) ((Below.refl _ _).drew)) (fun i hi => .inl hi)
          have htx := HX.out.upd hu4 (fun p hp hne hk => hk.elim (HAP.out p hp hne).1 (fun e => (HAP.out p hp hne).2 (.inl e)))
          have HL4 := Lib.hid hl4; have HD4 := Lib.hid hd4; have HU4 := Lib.hid hu4; have HTX := Lib.hid htx
          clear hl4 hd4 hu4 htx c3 k3 d1 d5 df1 df5
          generalize (w3.setCell ⟨x, 1, none⟩ (.int .i64 ((L.used : Int) + (kk : Int)))).drew = w4 at *
          obtain ⟨cs, hc1, hc2, hc3, hc4⟩ := HL4.out.groups
          obtain ⟨qg, cg, rfl⟩ := slice_len hc1
          have HC1 := Lib.hid hc1; have HC2 := Lib.hid hc2; have HC3 := Lib.hid hc3; have HC4 := Lib.hid hc4
          obtain ⟨_, _, _, _, _, d5, _, df⟩ := HL4.out.cells
          have df5 := df 5
          obtain ⟨i0, hi0, hz0, hz1, hz2⟩ := info_parts rows_info
          have hne := HL4.out.ne
          have hxl := HL4.out.lt x (.inl rfl)
          have hwl := HU4.out.size
          have hcl0 : w.heap.size < w4.heap.size := block_lt_of_cell c4
          have hne0 : (Value.slice qg L.groups.length cg).ownBlock ≠ some w.heap.size := fun e => by
            have := HL.out.lt _ (.inr e); omega
          clear df hc1 hc2 hc3 hc4
          have HKP := Lib.hid (fun (V : World) (hb : Below w4.heap.size w4 V) => (⟨(hb.cell (p := ⟨w.heap.size, 0, none⟩) (block_lt_of_cell c4)).trans c4, (hb.cell (p := ⟨x, 5, none⟩) hxl).trans d5⟩ : (fun V : World => V.cell? ⟨w.heap.size, 0, none⟩ = some (.pointer (some ⟨x, 0, none⟩)) ∧ V.cell? ⟨x, 5, none⟩ = some (.slice qg L.groups.length cg)) V))
          have HK5 := Lib.hid (And.intro d5 df5)
          have B1 := Lib.hid (show Below w4.heap.size w4 w4.drew from (Below.refl _ _).drew)
          clear c4 d5 df5
          refine wp_region_T (z := 11) (S := (fun V : World => V.cell? ⟨w.heap.size, 0, none⟩ = some (.pointer (some ⟨x, 0, none⟩)) ∧ V.cell? ⟨x, 5, none⟩ = some (.slice qg L.groups.length cg))) (by kernel_rfl) ?_
          refine wpAnyT_take (i := 0) (oi := ({ dst := some 71, op := Go.Op.load 66 (Go.Operand.tmp 2), type := 66, pos := "wal.go:149", after := #[], guard := none } : Oper)) (v := ?_) rfl (by kernel_rfl) (by kernel_rfl) (by kernel_rfl) (by kernel_rfl) (fun _ _ _ h => h) (Or.inl ⟨by rfl, ?_⟩) (HKP.out _ B1.out) ?_
          rotate_left
          · intro V hV
            try dsimp only at hV
            go_simp
            all_goals with_reducible rfl
          try simp only [Act.put, List.setIfInBounds_toArray, List.set_cons_zero, List.set_cons_succ]
          refine wpAnyT_take (i := 1) (oi := ({ dst := some 72, op := Go.Op.load 66 (Go.Operand.tmp 2), type := 66, pos := "wal.go:149", after := #[], guard := none } : Oper)) (v := ?_) rfl (by kernel_rfl) (by kernel_rfl) (by kernel_rfl) (by kernel_rfl) (fun _ _ _ h => h) (Or.inl ⟨by rfl, ?_⟩) (HKP.out _ B1.out) ?_
          rotate_left
          · intro V hV
            try dsimp only at hV
            go_simp
            all_goals with_reducible rfl
          try simp only [Act.put, List.setIfInBounds_toArray, List.set_cons_zero, List.set_cons_succ]
          refine wpAnyT_take (i := 2) (oi := ({ dst := some 73, op := Go.Op.nilCheck (Go.Operand.tmp 72), type := 0, pos := "wal.go:149", after := #[{ on := 1, ground := Go.Ground.data }], guard := none } : Oper)) (v := ?_) rfl (by kernel_rfl) (by kernel_rfl) (by kernel_rfl) (by kernel_rfl) (fun _ _ _ h => h) (Or.inl ⟨by rfl, ?_⟩) (HKP.out _ B1.out) ?_
          rotate_left
          · intro V hV
            try dsimp only at hV
            go_simp
            all_goals with_reducible rfl
          try simp only [Act.put, List.setIfInBounds_toArray, List.set_cons_zero, List.set_cons_succ]
          refine wpAnyT_take (i := 3) (oi := ({ dst := some 74, op := Go.Op.fieldAddr 135 (Go.Operand.tmp 73) 4, type := 0, pos := "wal.go:149", after := #[{ on := 2, ground := Go.Ground.data }], guard := none } : Oper)) (v := ?_) rfl (by kernel_rfl) (by kernel_rfl) (by kernel_rfl) (by kernel_rfl) (fun _ _ _ h => h) (Or.inl ⟨by rfl, ?_⟩) (HKP.out _ B1.out) ?_
          rotate_left
          · intro V hV
            try dsimp only at hV
            go_simp
            all_goals with_reducible rfl
          try simp only [Act.put, List.setIfInBounds_toArray, List.set_cons_zero, List.set_cons_succ]
          refine wpAnyT_take (i := 4) (oi := ({ dst := some 75, op := Go.Op.load 83 (Go.Operand.tmp 74), type := 83, pos := "wal.go:149", after := #[{ on := 3, ground := Go.Ground.data }], guard := none } : Oper)) (v := ?_) rfl (by kernel_rfl) (by kernel_rfl) (by kernel_rfl) (by kernel_rfl) (fun _ _ _ h => h) (Or.inl ⟨by rfl, ?_⟩) (HKP.out _ B1.out) ?_
          rotate_left
          · intro V hV
            try dsimp only at hV
            go_simp
            all_goals with_reducible rfl
          try simp only [Act.put, List.setIfInBounds_toArray, List.set_cons_zero, List.set_cons_succ]
          refine wpAnyT_take (i := 5) (oi := ({ dst := some 76, op := Go.Op.move (Go.Operand.tmp 1), type := 30, pos := "wal.go:149", after := #[], guard := none } : Oper)) (v := ?_) rfl (by kernel_rfl) (by kernel_rfl) (by kernel_rfl) (by kernel_rfl) (fun _ _ _ h => h) (Or.inl ⟨by rfl, ?_⟩) (HKP.out _ B1.out) ?_
          rotate_left
          · intro V hV
            try dsimp only at hV
            go_simp
            all_goals with_reducible rfl
          try simp only [Act.put, List.setIfInBounds_toArray, List.set_cons_zero, List.set_cons_succ]
          refine wpAnyT_one (i := 6) (o := ({ dst := some 77, op := Go.Op.call { callee := Go.Callee.value (Go.Operand.func 114), args := #[Go.Operand.tmp 76], argTypes := #[30] }, type := 30, pos := "wal.go:149", after := #[{ on := 5, ground := Go.Ground.data }], guard := none } : Oper)) (by kernel_rfl) rfl (fun K1 hK1 => ?_)
          go_simp
          go_at_call 114
          refine (strclone_any w4.drew a cap l (HTX.out.below (Below.refl _ w4).drew) (by omega)).mono ?_
          rintro e w5 ⟨lv, rfl, hown5, hb5, hn5⟩
          have B5 := Lib.hid (B1.out.trans (hb5.mono (Nat.le_refl _)))
          obtain ⟨ql, cl, rfl⟩ := slice_len hown5
          have HR5 := Lib.hid (RowOk.of_row hown5)
          have HC15 := Lib.hid (ownsRow_upd HC1.out (Upd.of_below (F := fun _ => False) B5.out) (fun _ _ f => f))
          have HL5 := Lib.hid (HL4.out.below B5.out)
          have HC45 := Lib.hid (fun i (h : i < L.groups.length) (h' : i < cs.length) => (HC4.out i h h').upd (Upd.of_below (F := fun _ => False) B5.out) (fun _ _ f => f))
          clear hown5 hb5 hn5
          go_simp
          refine hK1 _ _ (fun _ => HKP.out _ B5.out) ?_
          try simp only [Act.put, List.setIfInBounds_toArray, List.set_cons_zero, List.set_cons_succ]
          refine wpAnyT_one (i := 7) (o := ({ dst := some 78, op := Go.Op.buildSlice 83 1 #[(0, Go.Operand.tmp 77)], type := 83, pos := "wal.go:149", after := #[{ on := 6, ground := Go.Ground.data }], guard := none } : Oper)) (by kernel_rfl) rfl (fun K2 hK2 => ?_)
          go_simp
          refine hK2 _ _ (fun _ => HKP.out _ (B5.out.alloc B5.out.size _)) ?_
          try simp only [Act.put, List.setIfInBounds_toArray, List.set_cons_zero, List.set_cons_succ]
          refine wpAnyT_one (i := 8) (o := ({ dst := some 79, op := Go.Op.call { callee := Go.Callee.builtin Go.Builtin.append, args := #[Go.Operand.tmp 75, Go.Operand.tmp 78], argTypes := #[83, 83] }, type := 83, pos := "wal.go:149", after := #[{ on := 4, ground := Go.Ground.data }, { on := 7, ground := Go.Ground.data }, { on := 6, ground := Go.Ground.chain }], guard := none } : Oper)) (by kernel_rfl) rfl (fun K3 hK3 => ?_)
          refine step_append_lies _ (by rfl) _ _ _ (by rfl) 0 30 i0 _ 1 24 Tryz.underlying83 hi0 hz0 hz1 hz2 (by rfl) (by omega) (.slice qg L.groups.length cg) L.groups.length cs (by rfl) (HC15.out.alloc _) ⟨w5.heap.size, 0, none⟩ 1 1 [.slice ql l.length cl] (by rfl) (by rfl) (World.news_of_block (cs := #[.slice ql l.length cl]) (t := 30) (fr := (0, 0)) (heap_alloc_new w5 _)) (fun u hu => by rw [List.mem_singleton] at hu; subst hu; exact HR5.out.one) (by omega) (by unfold maxLen; omega) (by omega) (Nat.zero_le _) _ (by rfl) ?_
          intro gg cap2 w6 hown6 hgrow hat hlt6
          have hne5 := HL5.out.ne
          have hc6 := (hgrow.cell_far ⟨x, 5, none⟩ (Nat.lt_of_lt_of_le hxl (Nat.le_trans B5.out.size (by rw [World.size_alloc]; omega))) (Ne.symm hne5)).trans (((B5.out.alloc B5.out.size (.cells #[.slice ql l.length cl] 30)).cell (p := ⟨x, 5, none⟩) hxl).trans HK5.out.1)
          have hf6 := (hgrow.frozen_far ⟨x, 5, none⟩ (Nat.lt_of_lt_of_le hxl (Nat.le_trans B5.out.size (by rw [World.size_alloc]; omega))) (Ne.symm hne5)).trans (((B5.out.alloc B5.out.size (.cells #[.slice ql l.length cl] 30)).frozen (p := ⟨x, 5, none⟩) hxl).trans HK5.out.2)
          have hc06 := (hgrow.cell_far ⟨w.heap.size, 0, none⟩ (Nat.lt_of_lt_of_le hcl0 (Nat.le_trans B5.out.size (by rw [World.size_alloc]; omega))) (Ne.symm hne0)).trans (((B5.out.alloc B5.out.size (.cells #[.slice ql l.length cl] 30)).cell (p := ⟨w.heap.size, 0, none⟩) hcl0).trans (HKP.out _ (Below.refl _ _)).1)
          have HS6 := Lib.hid (And.intro hc06 hc6)
          have HP6 := Lib.hid (HL5.out.pushed HR5.out HC2.out HC3.out HC45.out ((Below.refl w5.heap.size w5).alloc (Nat.le_refl _) _) hgrow hown6 (hat.imp (fun h => h.symm) (fun h => by rw [h]; rfl)))
          clear hgrow hown6 hat hlt6 hne5 hc06
          refine hK3 _ _ (fun _ => HS6.out) ?_
          try simp only [Act.put, List.setIfInBounds_toArray, List.set_cons_zero, List.set_cons_succ]
          refine wpAnyT_one (i := 9) (o := ({ dst := some 80, op := Go.Op.nilCheck (Go.Operand.tmp 71), type := 0, pos := "wal.go:149", after := #[{ on := 0, ground := Go.Ground.data }, { on := 0, ground := Go.Ground.phase }, { on := 1, ground := Go.Ground.phase }, { on := 2, ground := Go.Ground.phase }, { on := 3, ground := Go.Ground.phase }, { on := 4, ground := Go.Ground.phase }, { on := 5, ground := Go.Ground.phase }, { on := 6, ground := Go.Ground.phase }, { on := 7, ground := Go.Ground.phase }, { on := 8, ground := Go.Ground.phase }], guard := none } : Oper)) (by kernel_rfl) rfl (fun K4 hK4 => ?_)
          go_simp
          refine hK4 _ _ (fun _ => HS6.out) ?_
          try simp only [Act.put, List.setIfInBounds_toArray, List.set_cons_zero, List.set_cons_succ]
          refine wpAnyT_one (i := 10) (o := ({ dst := some 81, op := Go.Op.fieldAddr 135 (Go.Operand.tmp 80) 4, type := 0, pos := "wal.go:149", after := #[{ on := 9, ground := Go.Ground.data }, { on := 0, ground := Go.Ground.phase }, { on := 1, ground := Go.Ground.phase }, { on := 2, ground := Go.Ground.phase }, { on := 3, ground := Go.Ground.phase }, { on := 4, ground := Go.Ground.phase }, { on := 5, ground := Go.Ground.phase }, { on := 6, ground := Go.Ground.phase }, { on := 7, ground := Go.Ground.phase }, { on := 8, ground := Go.Ground.phase }], guard := none } : Oper)) (by kernel_rfl) rfl (fun K5 hK5 => ?_)
          go_simp
          refine hK5 _ _ (fun _ => HS6.out) ?_
          try simp only [Act.put, List.setIfInBounds_toArray, List.set_cons_zero, List.set_cons_succ]
          refine wpAnyT_one (i := 11) (o := ({ dst := none, op := Go.Op.store 83 (Go.Operand.tmp 81) (Go.Operand.tmp 79), type := 0, pos := "wal.go:149", after := #[{ on := 10, ground := Go.Ground.data }, { on := 8, ground := Go.Ground.data }, { on := 8, ground := Go.Ground.chain }, { on := 0, ground := Go.Ground.phase }, { on := 1, ground := Go.Ground.phase }, { on := 2, ground := Go.Ground.phase }, { on := 3, ground := Go.Ground.phase }, { on := 4, ground := Go.Ground.phase }, { on := 5, ground := Go.Ground.phase }, { on := 6, ground := Go.Ground.phase }, { on := 7, ground := Go.Ground.phase }, { on := 8, ground := Go.Ground.phase }], guard := none } : Oper)) (by kernel_rfl) rfl (fun K6 hK6 => ?_)
          go_simp
          refine hK6 _ _ (fun h => absurd rfl h) ?_
          try simp only [Act.put, List.setIfInBounds_toArray, List.set_cons_zero, List.set_cons_succ]
          refine wpAnyT_done (by kernel_rfl) ?_ _
          clear hK1 hK2 hK3 hK4 hK5 hK6 K1 K2 K3 K4 K5 K6
          go_wp2_with fail
          go_ret
          have hs5 := B5.out.size
          refine opPost_of HR.out rfl (DiskAt.upd (HD4.out.below B5.out) HP6.out.2.1 (fun k hk => HL5.out.apart2 (HD4.out.below B5.out) k hk)) HP6.out.1 ?_ ?_ ?_
          · exact ((HU4.out.mono (fun i hi => hi.elim .inl (fun e => .inr (.inl e)))).trans (Upd.of_below (F := fun k => fp k ∨ walBlocks x (.slice qg L.groups.length cg) k) B5.out) (fun i hi => .inl hi)).trans HP6.out.2.1 (fun i hi => .inl (.inr hi))
          · intro i hi
            rcases HS3.out i hi with h | h
            · exact .inl h
            · exact .inr (Nat.le_trans HBW.out.size (Nat.le_trans (by show W2.heap.size ≤ (W2.alloc _).heap.size; rw [World.size_alloc]; omega) h))
          · intro i hi
            rcases HP6.out.2.2 i hi with h | h
            · exact .inl h
            · exact .inr (Nat.le_trans hwl (Nat.le_trans hs5 h))
      · have hb1 : (k != 0) = true := by simp [h0]
        have HR := Lib.hid (HR1.out.trans (if_neg h0))
        have HL3' : Hid (WalIn w3 x b gv (L.fell k)) := Lib.hid (by have := HL3.out; rwa [if_neg h0] at this)
        clear h0
        go_wp2_with fail
        go_ret
        refine opPost_of HR.out rfl HD3.out HL3'.out ?_ ?_ (fun _ h => .inl h)
        · exact ((Upd.of_below (F := fun k => fp k ∨ walBlocks x gv k) HBW.out).trans HU3.out (fun i hi => .inl (hi.elim .inl (fun e => .inr (.inl e)))))
        · intro i hi
          rcases HS3.out i hi with h | h
          · exact .inl h
          · exact .inr (Nat.le_trans HBW.out.size (Nat.le_trans (by show W2.heap.size ≤ (W2.alloc _).heap.size; rw [World.size_alloc]; omega) h))
theorem append_any (hd : DiskAt w b D fp) (hl : WalIn w x b gv L) (hx : TextsAt w a l) (hap : ∀ p, a = some p → l ≠ [] → ¬ fp p.block ∧ ¬ walBlocks x gv p.block) (hlen : l.length ≤ 1000000) (hsum : rowLen l ≤ 1000000) (hloose : D.loose.length ≤ 400000000) (hgl : L.groups.length ≤ 1000000) :
    Calls Tryz.prog 98 #[.pointer (some ⟨x, 0, none⟩), .slice a l.length cap] w fun e w' => OpPost w x b gv fp (wappend D L l) e w' := by
  by_cases hf : L.fault = 0
  · cases hg : groupE l with
    | none => exact append_early hd hl hx (by unfold maxLen; omega) hsum (.inr hg)
    | some s => exact append_in hd hl hx hap hlen hsum hf hg hloose hgl
  · exact append_early hd hl hx (by unfold maxLen; omega) hsum (.inl hf)
theorem WalIn.setEmpty {w : World} {x b : Nat} {gv : Value} {L : WLog} (h : WalIn w x b gv L) (g : Nat) (hg : g < 18446744073709551616) : WalIn (((w.setCell ⟨x, 0, none⟩ (.int .u64 (g : Int))).setCell ⟨x, 1, none⟩ (.int .i64 0)).setCell ⟨x, 5, none⟩ (.slice none 0 0)) x b (.slice none 0 0) { L with gen := g, used := 0, groups := [] } := by
  have e1 := heap_setCell_same w x 0 _ _ (.int .u64 (g : Int)) h.struct
  have e2 := heap_setCell_same _ x 1 _ _ (.int .i64 0) e1
  have e3 := heap_setCell_same _ x 5 _ _ (.slice none 0 0) e2
  exact ⟨e3, GroupsAt.none _, hg, by have := h.used; show 0 + 1 ≤ L.n; omega, h.n⟩
set_option maxRecDepth 100000 in
set_option maxHeartbeats 4000000 in
theorem reset_any (hd : DiskAt w b D fp) (hl : WalIn w x b gv L) (hloose : D.loose.length ≤ 400000000) :
    Calls Tryz.prog 33 #[.pointer (some ⟨x, 0, none⟩)] w fun e w' => OpPost w x b gv fp (wreset D L) e w' := by
  have HD := Lib.hid hd; have HL := Lib.hid hl
  have hb1 := (Below.refl w.heap.size w).alloc (Nat.le_refl _) (.cells #[.pointer (some ⟨x, 0, none⟩)] 66)
  have HB1 := Lib.hid hb1
  have HL1 := Lib.hid (hl.below hb1)
  by_cases hf : L.fault = 0
  · have HF := Lib.hid hf
    have hR0 : wreset D L = if (doS L.racts D).2 = 0 then ((doS L.racts D).1, L.emptied, 0) else ((doS L.racts D).1, L.fell (doS L.racts D).2, (doS L.racts D).2) := by
      unfold wreset; rw [if_neg (by simp [hf])]
    have hxw : x < w.heap.size := hl.lt x (.inl rfl)
    have hfw := hd.lt
    have HF0 := Lib.hid (show ¬ (fp w.heap.size ∨ w.heap.size = x) from fun hk => hk.elim (fun h => by have := hfw _ h; omega) (fun e => by omega))
    -- three boxes: the log's address, and two that nobody looks at
    obtain ⟨E, k, hr⟩ : ∃ E k, doS L.racts D = (E, k) := ⟨_, _, rfl⟩
    have hR1 : wreset D L = if k = 0 then (E, L.emptied, 0) else (E, L.fell k, k) := by rw [hR0, hr]
    have hcl := RClo.of (hl.below hb1) (heap_alloc_new w (.cells #[.pointer (some ⟨x, 0, none⟩)] 66))
    have hdo := fun (nq : Nat) => do_any (w := ((w.alloc (.cells #[.pointer (some ⟨x, 0, none⟩)] 66)).alloc (.cells #[.func (.func 73) #[] #[.pointer (some ⟨w.heap.size, 0, none⟩)], .func (.func 75) #[.pointer (some ⟨b, 0, none⟩)] #[]] 43)).drewN nq) (g := (w.alloc (.cells #[.pointer (some ⟨x, 0, none⟩)] 66)).heap.size) (n := 2) (cap := 2)
      ((hd.below hb1).below ((((Below.refl _ _).alloc (Nat.le_refl _) _).trans ((below_drawn _ nq).mono (by simp only [World.size_alloc]; omega))))) (hcl.wal.below ((((Below.refl _ _).alloc (Nat.le_refl _) _).trans ((below_drawn _ nq).mono (by simp only [World.size_alloc]; omega))))) (hcl.below ((((Below.refl _ _).alloc (Nat.le_refl _) _).trans ((below_drawn _ nq).mono (by simp only [World.size_alloc]; omega))))) (fun _ _ _ _ h hd hu => h.upd hd hu) fns_reset (fun i u hu => (cell_new_row _ _ _ i).trans (by rw [← Array.getElem?_toList]; exact hu)) ⟨_, _, heap_alloc_new _ _⟩ rfl (by decide) hloose
    simp only [hr] at hdo
    rw [World.size_alloc] at hdo
    have HDO := Lib.hid hdo
    have HR1 := Lib.hid hR1
    have HCL := Lib.hid hcl
    have c0 := cell_box hcl.box
    have d2 := hcl.wal.cells.2.2.1
    clear hd hl hb1 hf hR0 hfw hr hR1 hcl hdo
    go_enter Tryz.func33, Tryz.ntmps33
    go_wp2_with fail
    refine (walCheck_any HL1.out).mono ?_
    rw [HF.out]
    rintro e w1 ⟨rfl, rfl⟩
    go_wp2_with fail
    go_region_held3 (fun V => V.cell? ⟨w.heap.size, 0, none⟩ = some (.pointer (some ⟨x, 0, none⟩)) ∧ V.cell? ⟨x, 2, none⟩ = some (.pointer (some ⟨b, 0, none⟩)))
      (first | exact ⟨c0, d2⟩ | exact ⟨c3, HL3.out.cells.2.2.1⟩ | go_keep)
      (first
        | (go_at_call 72; refine (HDO.out 1).mono ?_; rintro e w3 ⟨rfl, fp3, hd3, hl3, hu3, hs3⟩; have hu3' := (Upd.of_below (F := fun k => fp k ∨ k = x) (((Below.refl _ (w.alloc (.cells #[.pointer (some ⟨x, 0, none⟩)] 66))).alloc (Nat.le_refl _) _).trans ((below_drawn _ 1).mono (by simp only [World.size_alloc]; omega)))).trans hu3 (fun i hi => .inl hi); have c3 : w3.cell? ⟨w.heap.size, 0, none⟩ = some (.pointer (some ⟨x, 0, none⟩)) := (hu3'.cell (p := ⟨w.heap.size, 0, none⟩) (blk_lt HCL.out.box) HF0.out).trans c0; have HL3 := Lib.hid hl3; have HD3 := Lib.hid hd3; have HU3 := Lib.hid ((Upd.of_below (F := fun k => fp k ∨ k = x) HB1.out).trans hu3' (fun i hi => .inl hi)); have HS3 := Lib.hid hs3; clear hd3 hl3 hu3 hs3 hu3'))
    all_goals
      clear c0 d2
      have hst : Stays fp fp3 w := fun i hi => by
        rcases HS3.out i hi with h | h
        · exact .inl h
        · exact .inr (Nat.le_trans (by show w.heap.size ≤ ((w.alloc _).alloc _).heap.size; rw [World.size_alloc, World.size_alloc]; omega) h)
      have HST := Lib.hid hst
      clear hst
      by_cases h0 : k = 0
      · subst h0
        have HR := Lib.hid (HR1.out.trans (if_pos rfl))
        have hl3 : WalIn w3 x b gv L := by have := HL3.out; rwa [if_pos rfl] at this
        obtain ⟨d0, d1, _, _, _, d5, _, df⟩ := hl3.cells
        have df0 := df 0
        have df1 := df 1
        have df5 := df 5
        have HL3' := Lib.hid hl3
        have e3 := u64_wrap_succ L.gen
        have hgm : (L.gen + 1) % 18446744073709551616 < 18446744073709551616 := Nat.mod_lt _ (by decide)
        have HGM := Lib.hid (And.intro hgm (show L.emptied = { L with gen := (L.gen + 1) % 18446744073709551616, used := 0, groups := [] } from rfl))
        clear df hl3 hgm
        generalize (L.gen + 1) % 18446744073709551616 = g at *
        go_wp2_with fail
        go_region
        all_goals
          go_wp2_with fail
          go_ret
          have hu5 : Upd (fun i => i = x) w3 (((w3.setCell ⟨x, 0, none⟩ (.int .u64 (g : Int))).setCell ⟨x, 1, none⟩ (.int .i64 0)).setCell ⟨x, 5, none⟩ (.slice none 0 0)).drew := ((((Upd.refl (fun i => i = x) w3).setCell (p := ⟨x, 0, none⟩) (.inl rfl) _).setCell (p := ⟨x, 1, none⟩) (.inl rfl) _).setCell (p := ⟨x, 5, none⟩) (.inl rfl) _).trans (Upd.of_below (F := fun i => i = x) ((Below.refl _ _).drew)) (fun i hi => .inl hi)
          refine opPost_of HR.out rfl (HD3.out.upd hu5 (fun i hi e => HL3'.out.apart HD3.out (by rw [← e]; exact hi))) (L := L.emptied) (gv' := .slice none 0 0) (by rw [HGM.out.2]; exact (HL3'.out.setEmpty g HGM.out.1).below ((Below.refl _ _).drew)) ?_ HST.out ?_
          · exact (HU3.out.mono (fun i hi => hi.elim .inl (fun e => .inr (.inl e)))).trans hu5 (fun i hi => .inl (.inr (.inl hi)))
          · rintro i (hi | hi)
            · exact .inl (.inl hi)
            · simp [Value.ownBlock] at hi
      · have hb1 : (k != 0) = true := by simp [h0]
        have HR := Lib.hid (HR1.out.trans (if_neg h0))
        have HL3' : Hid (WalIn w3 x b gv (L.fell k)) := Lib.hid (by have := HL3.out; rwa [if_neg h0] at this)
        clear h0
        go_wp2_with fail
        go_ret
        exact opPost_of HR.out rfl HD3.out HL3'.out (HU3.out.mono (fun i hi => hi.elim .inl (fun e => .inr (.inl e)))) HST.out (fun _ h => .inl h)
  · have hR : Hid (wreset D L = (D, L, L.fault)) := Lib.hid (by unfold wreset; rw [if_pos hf])
    have hb0 : (L.fault == 0) = false := by simp [hf]
    have hb2 : (L.fault != 0) = true := by simp [hf]
    clear hd hl hb1 hf
    go_enter Tryz.func33, Tryz.ntmps33
    go_wp2_with fail
    refine (walCheck_any HL1.out).mono ?_
    rintro e w1 ⟨rfl, rfl⟩
    go_wp2_with fail
    go_ret
    exact opPost_same hR.out rfl HD.out HL.out HB1.out
end
end Go.Proofs.YtoaihngckcbhiaaGreatDoor
