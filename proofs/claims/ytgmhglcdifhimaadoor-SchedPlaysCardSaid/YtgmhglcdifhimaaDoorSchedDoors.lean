/- What the listed table holds: the six functions, out of the row's condition. -/
import Derived.Test.YtgmhglcdifhimaaDoorRows
import Derived.Test.YtgmhglcdifhimaaDoorSchedRep
import Derived.ProofKit
import Derived.LaidMore
import Derived.OpenShut
import Derived.Stop.Joined
namespace Go.Proofs.YtgmhglcdifhimaaDoor
open Go.ChangeShapes Go.WideShapes Go.ChangeAt Go.RowKit

theorem gDoes : Tryd.prog.globalNamed "maslin/sched.does" = some 0 := by kernel_rfl
theorem tDoes : (Tryd.prog.globals[0]?).map (·.type) = some 91 := by kernel_rfl
theorem cellsDoes : Tryd.prog.cellsOf 90 = 1 := by kernel_rfl
theorem cellsTable : Tryd.prog.cellsOf 91 = 6 := by kernel_rfl
/-- The door's own heap meets the condition. -/
theorem door_met (os : Os) (args : Array Value) : laidMetH Tryd.prog [("maslin/sched.does", Rows.laid_maslin_sched_does)] ((World.doorLaid Tryd.prog 14 os).forCall (fun _ _ => 0) ⟨#[], args, []⟩).memory :=
  laidMetH_of_parts3 (fuel := 8) (laidMet_of_run' 8 (by kernel_rfl) (by kernel_rfl)) (by kernel_rfl) (by kernel_rfl)
theorem doors_of_laid {W : World} (h : laidMetH Tryd.prog [("maslin/sched.does", Rows.laid_maslin_sched_does)] W) : Doors W := by
  obtain ⟨g, t, cs, fuel, p, hg, ht, hv, hd⟩ := h.funcs (List.mem_singleton.2 rfl)
  obtain rfl := Option.some.inj (gDoes.symm.trans hg)
  obtain rfl := Option.some.inj (tDoes.symm.trans ht)
  obtain ⟨xs, m, rfl, hx, hlen, hn, hel⟩ := DataW.trod_array Tryd.underlying91 hd
  rw [cellsTable] at hlen
  rw [cellsDoes] at hel
  have hx1 := (Prod.mk.inj hx).1
  clear hx hd h
  match xs, hn, hx1, hel with
  | [x0, x1, x2, x3, x4, x5], _, hx1, hel =>
    have hx2 : DataW.agg [DataW.held [40, 42, 109, 97, 115, 108, 105, 110, 47, 115, 99, 104, 101, 100, 46, 77, 97, 115, 116, 101, 114, 41, 46, 115, 116, 97, 114, 116], .held [40, 42, 109, 97, 115, 108, 105, 110, 47, 115, 99, 104, 101, 100, 46, 77, 97, 115, 116, 101, 114, 41, 46, 99, 111, 112, 121],
      .held [40, 42, 109, 97, 115, 108, 105, 110, 47, 115, 99, 104, 101, 100, 46, 77, 97, 115, 116, 101, 114, 41, 46, 102, 105, 110, 105, 115, 104], .held [40, 42, 109, 97, 115, 108, 105, 110, 47, 115, 99, 104, 101, 100, 46, 77, 97, 115, 116, 101, 114, 41, 46, 102, 97, 105, 108],
      .held [40, 42, 109, 97, 115, 108, 105, 110, 47, 115, 99, 104, 101, 100, 46, 77, 97, 115, 116, 101, 114, 41, 46, 100, 105, 101], .held [40, 42, 109, 97, 115, 108, 105, 110, 47, 115, 99, 104, 101, 100, 46, 77, 97, 115, 116, 101, 114, 41, 46, 119, 97, 107, 101]] = .agg [x0.1, x1.1, x2.1, x3.1, x4.1, x5.1] := hx1
    simp only [DataW.agg.injEq, List.cons.injEq, and_true] at hx2
    obtain ⟨e0, e1, e2, e3, e4, e5⟩ := hx2
    have one : ∀ (i : Nat) (hi : i < 6), List.take 1 (List.drop (i * 1) cs.toList) = [cs.toList[i]'(by omega)] := fun i hi => by
      rw [Nat.mul_one, List.drop_eq_getElem_cons (by omega)]
      rfl
    have cell : ∀ (i : Nat) (hi : i < 6) (v : Value), cs.toList[i]'(by omega) = v → W.cell? ⟨0, i, none⟩ = some v := fun i hi v e => by
      have := World.var?_cell hg hv i
      rw [this]
      have h2 : cs[i]? = some (cs.toList[i]'(by omega)) := by rw [← Array.getElem?_toList, List.getElem?_eq_getElem (by omega)]
      rw [h2, e]
    have r0 := hel 0 (by omega); have r1 := hel 1 (by omega); have r2 := hel 2 (by omega); have r3 := hel 3 (by omega); have r4 := hel 4 (by omega); have r5 := hel 5 (by omega)
    rw [one _ (by omega)] at r0 r1 r2 r3 r4 r5
    obtain ⟨y0, z0⟩ := x0; obtain ⟨y1, z1⟩ := x1; obtain ⟨y2, z2⟩ := x2; obtain ⟨y3, z3⟩ := x3; obtain ⟨y4, z4⟩ := x4; obtain ⟨y5, z5⟩ := x5
    simp only at e0 e1 e2 e3 e4 e5
    subst e0; subst e1; subst e2; subst e3; subst e4; subst e5
    have f0 := func_of_trod (f0 := 117) Tryd.underlying90 (by kernel_rfl) r0
    have f1 := func_of_trod (f0 := 118) Tryd.underlying90 (by kernel_rfl) r1
    have f2 := func_of_trod (f0 := 119) Tryd.underlying90 (by kernel_rfl) r2
    have f3 := func_of_trod (f0 := 120) Tryd.underlying90 (by kernel_rfl) r3
    have f4 := func_of_trod (f0 := 121) Tryd.underlying90 (by kernel_rfl) r4
    have f5 := func_of_trod (f0 := 122) Tryd.underlying90 (by kernel_rfl) r5
    exact ⟨cell 0 (by omega) _ f0, cell 1 (by omega) _ f1, cell 2 (by omega) _ f2, cell 3 (by omega) _ f3, cell 4 (by omega) _ f4, cell 5 (by omega) _ f5⟩
end Go.Proofs.YtgmhglcdifhimaaDoor
