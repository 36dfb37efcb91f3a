/- maslin/task: state, walked. -/
import Derived.Test.YtgmhglcdifhimaaDoorTaskWorkers
namespace Go.Proofs.YtgmhglcdifhimaaDoor
open Go.RowKit Go.Maps Go.Sort
open Tsk

def numsI (l : List Nat) : List Int := l.map fun (n : Nat) => (n : Int)
theorem NumsOk.ints {w : World} {v : Value} {l : List Nat} (h : NumsOk w v l) : ∃ a cap, v = .slice a (numsI l).length cap ∧ IntsAt w a (numsI l) := by
  obtain ⟨a, cap, e, h⟩ := h
  refine ⟨a, cap, by rw [e]; unfold numsI; rw [List.length_map], fun i hi => ?_⟩
  have hi2 : i < l.length := by unfold numsI at hi; rwa [List.length_map] at hi
  obtain ⟨g, o, e1, _, e3⟩ := h i hi2
  refine ⟨⟨g, o, none⟩, e1, ?_⟩
  rw [add_off, e3]
  simp [numsI]
theorem runs_eq (b : Board) (t : Nat) : decide (0 < ((b.workers t).length : Int)) = b.runs t := by
  unfold Board.workers Board.runs
  rw [(sortI_perm _).length_eq, List.length_map]
  cases h : b.tries.any fun p => p.2 == t with
  | true =>
    obtain ⟨q, hq, h2⟩ := List.any_eq_true.1 h
    have : 0 < (b.tries.filter fun p => p.2 == t).length := List.length_pos_of_mem (List.mem_filter.2 ⟨hq, h2⟩)
    simpa using this
  | false =>
    have : b.tries.filter (fun p => p.2 == t) = [] := List.filter_eq_nil_iff.2 fun q hq => by
      have := List.any_eq_false.1 h q hq
      simpa using this
    rw [this]; rfl
section
variable {w : World} {p m : Nat} {lv : Value} {nvs : List Value} {b : Board}
set_option maxRecDepth 100000 in
theorem stateFn {W : World} {B0 : Nat} (hc : W.cell? ⟨B0, 0, none⟩ = some (.pointer (some ⟨p, 0, none⟩))) (h : BoardIn W p m lv nvs b) (n : Nat) (hn : n < b.l.length) :
    Calls Tryd.prog 68 #[.int .i64 (n : Int), .pointer (some ⟨B0, 0, none⟩)] W fun e W' => e = .returned (.bool (!b.isDone n)) ∧ W = W' := by
  obtain ⟨d0, _, _, _, _⟩ := h.cells
  obtain ⟨g, cap, rfl, hix, _, c1, _, _, _⟩ := h.index n hn
  have e1 : b.isDone n = b.l[n].is := by unfold Board.isDone; rw [List.getElem?_eq_getElem hn]
  rw [e1]
  generalize b.l[n].is = s at *
  clear h e1
  go_enter Tryd.func68, Tryd.ntmps68
  go_wp2_with fail
  go_ret
  exact ⟨rfl, rfl⟩
theorem IntsAt.below {w' : World} {a : Option Addr} {l : List Int} (h : IntsAt w a l) (hb : Below w.heap.size w w') : IntsAt w' a l := fun i hi => by
  obtain ⟨q, e, hc⟩ := h i hi
  exact ⟨q, e, (hb.cell (block_lt_of_cell hc)).trans hc⟩
theorem waits_eq (b : Board) (x : Task) : ((numsI x.needs).any fun y => !b.isDone y.toNat) = b.waits x := by
  unfold numsI Board.waits
  rw [List.any_map]
  rfl
theorem BoardIn.below {w' : World} (h : BoardIn w p m lv nvs b) (hb : Below w.heap.size w w') : BoardIn w' p m lv nvs b :=
  h.upd (Upd.of_below (F := fun _ => False) hb) (fun _ _ f => f) (fun _ _ f => f)
set_option maxRecDepth 100000 in
set_option maxHeartbeats 2000000 in
theorem state_in (h : BoardIn w p m lv nvs b) (hneeds : ∀ (t : Nat) (x : Task), b.l[t]? = some x → ∀ n ∈ x.needs, n < t) (hlen : b.tries.length ≤ 1000000) (t : Nat) (ht : t < b.l.length) (hnl : b.l[t].needs.length ≤ 1000000) :
    Calls Tryd.prog 53 #[.pointer (some ⟨p, 0, none⟩), .int .i64 (t : Int)] w fun e w' => e = .returned (.int .u8 (b.state t)) ∧ Below w.heap.size w w' := by
  have est : b.state t = b.stateX t b.l[t] := by unfold Board.state; rw [List.getElem?_eq_getElem ht]
  rw [est]
  have hnt := hneeds t b.l[t] (List.getElem?_eq_getElem ht)
  have hb1 : Below w.heap.size w (w.alloc (.cells #[.pointer (some ⟨p, 0, none⟩)] 35)) := (Below.refl _ _).alloc (Nat.le_refl _) _
  have H1 := h.below hb1
  have d2w := fun o => (h.below (hb1.alloc hb1.size o)).cells.2.2.1
  obtain ⟨d0, _, d2, _, _⟩ := H1.cells
  obtain ⟨g, cap, rfl, hix, c0, c1, c2, c3, _⟩ := H1.index t ht
  have hn1 : t < nvs.length := by rw [h.nlen]; exact ht
  rw [List.getElem?_eq_getElem hn1] at c0
  obtain ⟨na, ncap, hnv, hnat⟩ := (h.needs t ht hn1).ints
  rw [hnv] at c0
  have HB1 := Lib.hid hb1
  have HW := Lib.hid (fun (V : World) (hb : Below w.heap.size w V) => workers_in (h.below hb) hlen t ht)
  have HWE := Lib.hid (waits_eq b b.l[t])
  have HBI := Lib.hid h
  have HNT := Lib.hid hnt
  have HNA := Lib.hid hnat
  have HLT := Lib.hid ht
  have HR := Lib.hid (runs_eq b t)
  clear h est hneeds hnt hb1 H1 hn1 hnv hnat
  generalize b.l[t] = x at *
  obtain ⟨xn, xi, xv, xf⟩ := x
  simp only at *
  cases xi with
  | true =>
    go_enter Tryd.func53, Tryd.ntmps53
    go_wp2_with fail
    go_ret
    exact ⟨by rw [show b.stateX t ⟨xn, true, xv, xf⟩ = 3 from by unfold Board.stateX; rfl]; rfl, HB1.out.alloc HB1.out.size _⟩
  | false =>
    by_cases hf : b.retries < xf
    · have hbf : decide ((b.retries : Int) < (xf : Int)) = true := by simp; omega
      have HF := Lib.hid hf
      clear hf
      go_enter Tryd.func53, Tryd.ntmps53
      go_wp2_with fail
      go_region
      go_wp2_with fail
      go_ret
      exact ⟨by rw [show b.stateX t ⟨xn, false, xv, xf⟩ = 4 from by unfold Board.stateX; rw [if_neg (by show ¬ (false = true); decide), if_pos HF.out]]; rfl, (HB1.out.alloc HB1.out.size _).drew⟩
    · have hbf : decide ((b.retries : Int) < (xf : Int)) = false := by simp; omega
      have HF := Lib.hid hf
      have HBV := Lib.hid ((HB1.out.alloc HB1.out.size (.cells #[.slice na (numsI xn).length ncap, .bool false, .string (bs xv), .int .i64 (xf : Int)] 87)).drew)
      have hcell : ((w.alloc (.cells #[.pointer (some ⟨p, 0, none⟩)] 35)).alloc (.cells #[.slice na (numsI xn).length ncap, .bool false, .string (bs xv), .int .i64 (xf : Int)] 87)).drew.cell? ⟨w.heap.size, 0, none⟩ = some (.pointer (some ⟨p, 0, none⟩)) := by simp
      have HCF := Lib.hid (containsf_any (K := fun W => W.cell? ⟨w.heap.size, 0, none⟩ = some (.pointer (some ⟨p, 0, none⟩)) ∧ BoardIn W p m (.slice (some ⟨g, 0, none⟩) b.l.length cap) nvs b) (ok := fun x => ∃ n : Nat, x = (n : Int) ∧ n < b.l.length) (f := fun y => !b.isDone y.toNat) (v := .func (.func 68) #[] #[.pointer (some ⟨w.heap.size, 0, none⟩)]) ncap (HNA.out.below HBV.out)
        ⟨_, _, _, rfl, enters_of Tryd.func68 (by kernel_rfl) rfl, fun W x hK hx => by obtain ⟨n, rfl, hn⟩ := hx; exact stateFn hK.1 hK.2 n hn⟩
        ⟨hcell, HBI.out.below HBV.out⟩ (fun x hx => by
          unfold numsI at hx
          obtain ⟨n, hn, rfl⟩ := List.mem_map.1 hx
          exact ⟨n, rfl, Nat.lt_trans (HNT.out n hn) HLT.out⟩) (by unfold numsI; rw [List.length_map]; omega))
      clear hf hcell
      go_enter Tryd.func53, Tryd.ntmps53
      go_wp2_with fail
      go_region
      go_wp2_with fail
      refine HCF.out.mono ?_
      rw [HWE.out]
      obtain ⟨wt, hwt⟩ : ∃ wt, wt = b.waits ⟨xn, false, xv, xf⟩ := ⟨_, rfl⟩
      have HWT := Lib.hid hwt
      rw [← hwt]
      clear hwt HWE
      rintro e w3 ⟨rfl, rfl⟩
      cases wt with
      | true =>
        go_wp2_with fail
        go_ret
        exact ⟨by rw [show b.stateX t ⟨xn, false, xv, xf⟩ = 0 from by unfold Board.stateX; rw [if_neg (by show ¬ (false = true); decide), if_neg HF.out, ← HWT.out]; rfl]; rfl, HBV.out⟩
      | false =>
        go_wp2_with fail
        refine (HW.out _ HBV.out).mono ?_
        rintro e w4 ⟨q, wcap, rfl, _, hb4, _⟩
        have HB4 := Lib.hid (HBV.out.trans (hb4.mono HBV.out.size))
        clear hb4
        have hr := HR.out
        obtain ⟨rt, hrt⟩ : ∃ rt, rt = b.runs t := ⟨_, rfl⟩
        have HRT := Lib.hid hrt
        rw [← hrt] at hr
        clear hrt HR HW HCF
        generalize (b.workers t).length = wl at *
        cases rt with
        | true =>
          obtain ⟨k, rfl⟩ : ∃ k, wl = k + 1 := ⟨wl - 1, by simp at hr; omega⟩
          have hkp : decide ((0 : Int) < ((k + 1 : Nat) : Int)) = true := by rw [decide_eq_true_eq]; omega
          clear hr
          go_wp2_with fail
          go_ret
          exact ⟨by rw [show b.stateX t ⟨xn, false, xv, xf⟩ = 2 from by unfold Board.stateX; rw [if_neg (by show ¬ (false = true); decide), if_neg HF.out, ← HWT.out, ← HRT.out]; rfl]; rfl, HB4.out⟩
        | false =>
          obtain rfl : wl = 0 := by simp at hr; omega
          clear hr
          go_wp2_with fail
          go_ret
          exact ⟨by rw [show b.stateX t ⟨xn, false, xv, xf⟩ = 1 from by unfold Board.stateX; rw [if_neg (by show ¬ (false = true); decide), if_neg HF.out, ← HWT.out, ← HRT.out]; rfl]; rfl, HB4.out⟩
end
end Go.Proofs.YtgmhglcdifhimaaDoor
