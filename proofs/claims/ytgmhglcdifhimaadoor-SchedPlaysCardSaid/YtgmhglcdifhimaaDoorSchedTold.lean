/- Picks with values that come in, as they are read ('[]maslinlaw31.Step'). maslinlaw31.Heavy, walked. -/
import Derived.Test.YtgmhglcdifhimaaDoorSchedValue
import Derived.Test.YtgmhglcdifhimaaDoorTaskHead
import Derived.OpenShut
namespace Go.Proofs.YtgmhglcdifhimaaDoor
open Go.RowKit Go.WideShapes Go.ChangeShapes Go.Deep
open Tsk

structure ToldAt (w : World) (q : Addr) (x : Sch.Pick × List UInt8) : Prop where
  pick : PickAt w q x.1
  c3 : w.cell? (q.add 3) = some (.string (bs x.2))
theorem ToldAt.below {w w' : World} {q : Addr} {x : Sch.Pick × List UInt8} (h : ToldAt w q x) (hb : Below w.heap.size w w') : ToldAt w' q x :=
  ⟨h.pick.below hb, (hb.cell (block_lt_of_cell h.c3)).trans h.c3⟩
theorem ToldAt.cells {w : World} {q : Addr} {x : Sch.Pick × List UInt8} (h : ToldAt w q x) : w.cell? q = some (.int .u8 (x.1.d : Int)) ∧ w.cell? ⟨q.block, q.off + 1, none⟩ = some (.int .i64 x.1.w) ∧ w.cell? ⟨q.block, q.off + 2, none⟩ = some (.int .i64 x.1.t) ∧ w.cell? ⟨q.block, q.off + 3, none⟩ = some (.string (bs x.2)) :=
  ⟨h.pick.cells.1, h.pick.cells.2.1, h.pick.cells.2.2, h.c3⟩
def ToldsAt (w : World) (a : Option Addr) (l : List (Sch.Pick × List UInt8)) : Prop := ∀ i, (h : i < l.length) → ∃ p : Addr, a = some p ∧ ToldAt w (p.add (i * 4)) l[i]
theorem ToldsAt.below {w w' : World} {a : Option Addr} {l : List (Sch.Pick × List UInt8)} (h : ToldsAt w a l) (hb : Below w.heap.size w w') : ToldsAt w' a l := fun i hi => by
  obtain ⟨p, hp, h1⟩ := h i hi
  exact ⟨p, hp, h1.below hb⟩
theorem ToldsAt.index {w : World} {a : Option Addr} {l : List (Sch.Pick × List UInt8)} (h : ToldsAt w a l) (cap k : Nat) (hk : k < l.length) :
    ∃ q : Addr, (∀ W, (Instr.indexAt 54 (.slice a l.length cap) (.int .i64 (k : Int))).run Tryd.prog W = .ok (.pointer (some q)) W) ∧ ToldAt w q l[k] := by
  obtain ⟨p, rfl, h1⟩ := h k hk
  exact ⟨_, fun W => run_index_slice Tryd.prog _ 63 Tryd.underlying54 4 (by kernel_rfl) p l.length cap k hk W, h1⟩
set_option maxRecDepth 100000 in
theorem pick_of_cells {H : Type} {enc : TypeId × Value → H} {W : World} {base : Nat} {sp : Nat → Bool} {hd : Bool} {n : Nat} {cs : List Value} {y : DataW H × List MemPlace} (q : Addr)
    (hl : cs.length = 3) (hat : ∀ j, j < 3 → W.cell? (q.add j) = cs[j]?) (h : DataW.trod enc Tryd.prog W base sp hd n 46 cs = some y) :
    ∃ x : Sch.Pick, PickAt W q x ∧ okPick x := by
  obtain ⟨xs, n', _, rfl, _, hxl, hf⟩ := DataW.trod_struct Tryd.underlying46 h
  have o1 : Tryd.prog.cellsOf 3 = 1 := by kernel_rfl
  have o2 : Tryd.prog.cellsOf 5 = 1 := by kernel_rfl
  have hxl3 : xs.length = 3 := hxl
  have g0 : DataW.trod enc Tryd.prog W base sp hd n' 5 ((cs.drop 0).take (Tryd.prog.cellsOf 5)) = xs[0]? := hf 0 _ rfl
  have g1 : DataW.trod enc Tryd.prog W base sp hd n' 3 ((cs.drop 1).take (Tryd.prog.cellsOf 3)) = xs[1]? := hf 1 _ rfl
  have g2 : DataW.trod enc Tryd.prog W base sp hd n' 3 ((cs.drop 2).take (Tryd.prog.cellsOf 3)) = xs[2]? := hf 2 _ rfl
  rw [o1, one_at hl _ (by omega), List.getElem?_eq_getElem (by omega)] at g1 g2
  rw [o2, one_at hl _ (by omega), List.getElem?_eq_getElem (by omega)] at g0
  obtain ⟨v0, e0, _, w0⟩ := DataW.trod_int Tryd.underlying5 g0
  obtain ⟨v1, e1, _, w1⟩ := DataW.trod_int Tryd.underlying3 g1
  obtain ⟨v2, e2, _, w2⟩ := DataW.trod_int Tryd.underlying3 g2
  obtain ⟨n0, rfl, hn0⟩ := u8_nat w0
  have cell : ∀ j (hj : j < 3) v, [cs[j]'(by omega)] = [v] → W.cell? (q.add j) = some v := fun j hj v e => by
    rw [hat j hj, List.getElem?_eq_getElem (by omega)]
    simpa using e
  exact ⟨⟨n0, v1, v2⟩, ⟨cell 0 (by omega) _ e0, cell 1 (by omega) _ e1, cell 2 (by omega) _ e2⟩, hn0, w1, w2⟩
set_option maxRecDepth 100000 in
theorem told_of_trod {H : Type} {enc : TypeId × Value → H} {W : World} {base : Nat} {sp : Nat → Bool} {hd : Bool} {n : Nat} {cs : List Value} {y : DataW H × List MemPlace} (q : Addr)
    (hc : W.cells? base q 4 = some cs) (h : DataW.trod enc Tryd.prog W base sp hd n 63 cs = some y) :
    ∃ x : Sch.Pick × List UInt8, ToldAt W q x ∧ okPick x.1 := by
  obtain ⟨_, hl, hat⟩ := World.cells?_some hc
  obtain ⟨xs, n', _, rfl, _, hxl, hf⟩ := DataW.trod_struct Tryd.underlying63 h
  have o1 : Tryd.prog.cellsOf 46 = 3 := by kernel_rfl
  have o2 : Tryd.prog.cellsOf 9 = 1 := by kernel_rfl
  have hxl2 : xs.length = 2 := hxl
  have g0 : DataW.trod enc Tryd.prog W base sp hd n' 46 ((cs.drop 0).take (Tryd.prog.cellsOf 46)) = xs[0]? := hf 0 _ rfl
  have g1 : DataW.trod enc Tryd.prog W base sp hd n' 9 ((cs.drop 3).take (Tryd.prog.cellsOf 9)) = xs[1]? := hf 1 _ rfl
  rw [o1, List.drop_zero, List.getElem?_eq_getElem (by omega)] at g0
  rw [o2, one_at hl _ (by omega), List.getElem?_eq_getElem (by omega)] at g1
  obtain ⟨x, hx, hok⟩ := pick_of_cells q (by rw [List.length_take]; omega) (fun j hj => by rw [hat j (by omega), List.getElem?_take_of_lt hj]) g0
  obtain ⟨v3, e3, _, _⟩ := DataW.trod_string Tryd.underlying9 g1
  refine ⟨⟨x, v3.data.toList⟩, ⟨hx, ?_⟩, hok⟩
  rw [hat 3 (by omega), List.getElem?_eq_getElem (by omega)]
  have e4 : cs[3] = .string v3 := by simpa using e3
  exact congrArg some e4
set_option maxRecDepth 100000 in
theorem tolds_of_trod {H : Type} {enc : TypeId × Value → H} {W : World} {base : Nat} {v : Value} {d : DataW H} {p : List MemPlace}
    (ho : Value.okWide Tryd.prog W .any base 54 v) (h : DataW.Trod enc Tryd.prog W 0 (fun _ => true) true 54 v d p) :
    ∃ (a : Option Addr) (cap : Nat) (l : List (Sch.Pick × List UInt8)), v = .slice a l.length cap ∧ ToldsAt W a l ∧ l.length ≤ maxLen ∧ ∀ x ∈ l, okPick x.1 := by
  obtain ⟨a0, len, cap, rfl⟩ := okWide_slice Tryd.underlying54 ho
  obtain ⟨fuel, hf⟩ := h
  rcases Go.Deep.open_slice Tryd.underlying54 hf with ⟨hcs, _⟩ | ⟨a, len', cap', m, n, D, Pl, hcs, _, hl, hm, hmm, hx, hi⟩
  · simp [Value.cells] at hcs
    obtain ⟨rfl, rfl, rfl⟩ := hcs
    exact ⟨none, 0, [], rfl, fun i hi => by simp at hi, by simp, by simp⟩
  · simp [Value.cells] at hcs
    obtain ⟨rfl, rfl, rfl⟩ := hcs
    have hC : Tryd.prog.cellsOf 63 = 4 := by kernel_rfl
    simp only [if_true] at hmm
    subst hmm
    rw [hC] at hi
    simp only [Prod.mk.injEq] at hx
    obtain ⟨rfl, _⟩ := hx
    obtain ⟨l, hll, hP⟩ := list_of (P := fun i x => ToldAt W (a.add (i * 4)) x ∧ okPick x.1) len (fun i hil => by
      obtain ⟨cs', h1, h2⟩ := hi i (by omega)
      exact told_of_trod _ h1 h2)
    refine ⟨some a, m, l, by rw [hll], fun i hil => ⟨a, rfl, (hP i hil).1⟩, by omega, fun x hxm => ?_⟩
    obtain ⟨i, hil, rfl⟩ := List.getElem_of_mem hxm
    exact (hP i hil).2
def HeavyM (L : List (List Int)) (n : Nat) (w : World) (e : Ending) (w' : World) : Prop := ∃ h : Bool, e = .returned (.bool h) ∧ w = w' ∧ (h = false → LightT L 0 ∧ n ≤ 100)
theorem HeavyM.mk {L : List (List Int)} {n : Nat} {w : World} (h : Bool) (hl : h = false → LightT L 0 ∧ n ≤ 100) : HeavyM L n w (.returned (.bool h)) w := ⟨h, rfl, rfl, hl⟩
set_option maxRecDepth 100000 in
theorem heavy31_any (a c : Option Addr) (cap cap' n : Nat) (L : List (List Int)) (w : World) (hL : NeedsAt w a L) (hlen : L.length ≤ maxLen) :
    Calls Tryd.prog 21 #[.slice a L.length cap, .slice c n cap'] w (HeavyM L n w) := by
  have HC := Lib.hid (heavy30_any a none cap 0 0 L w hL hlen (Nat.zero_le _))
  clear hL hlen
  go_enter Tryd.func21, Tryd.ntmps21
  go_wp2_with fail
  refine HC.out.mono ?_
  rintro e w1 ⟨h, rfl, rfl, hi⟩
  have HI := Lib.hid hi
  clear hi HC
  cases h with
  | true =>
    go_wp2_with fail
    go_ret
    exact HeavyM.mk true (fun h => by cases h)
  | false =>
    go_wp2_with fail
    go_ret
    exact HeavyM.mk _ (fun h => ⟨HI.out trivial, Int.ofNat_le.1 (show (n : Int) ≤ ((100 : Nat) : Int) by simpa using h)⟩)
end Go.Proofs.YtgmhglcdifhimaaDoor
