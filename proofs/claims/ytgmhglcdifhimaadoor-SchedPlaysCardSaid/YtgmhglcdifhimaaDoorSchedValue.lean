/- Picks that come in, as they are read. maslinlaw31.value, walked. -/
import Derived.Test.YtgmhglcdifhimaaDoorSchedAlive
import Derived.OpenShut
namespace Go.Proofs.YtgmhglcdifhimaaDoor
open Go.RowKit Go.WideShapes Go.ChangeShapes Go.Deep
open Tsk

structure PickAt (w : World) (q : Addr) (x : Sch.Pick) : Prop where
  c0 : w.cell? (q.add 0) = some (.int .u8 (x.d : Int))
  c1 : w.cell? (q.add 1) = some (.int .i64 x.w)
  c2 : w.cell? (q.add 2) = some (.int .i64 x.t)
theorem PickAt.below {w w' : World} {q : Addr} {x : Sch.Pick} (h : PickAt w q x) (hb : Below w.heap.size w w') : PickAt w' q x := by
  obtain ⟨h0, h1, h2⟩ := h
  exact ⟨(hb.cell (block_lt_of_cell h0)).trans h0, (hb.cell (block_lt_of_cell h1)).trans h1, (hb.cell (block_lt_of_cell h2)).trans h2⟩
theorem PickAt.cells {w : World} {q : Addr} {x : Sch.Pick} (h : PickAt w q x) : w.cell? q = some (.int .u8 (x.d : Int)) ∧ w.cell? ⟨q.block, q.off + 1, none⟩ = some (.int .i64 x.w) ∧ w.cell? ⟨q.block, q.off + 2, none⟩ = some (.int .i64 x.t) := by
  refine ⟨?_, h.c1, h.c2⟩
  rw [← add_zero' q]
  exact h.c0
def PicksAt (w : World) (a : Option Addr) (l : List Sch.Pick) : Prop := ∀ i, (h : i < l.length) → ∃ p : Addr, a = some p ∧ PickAt w (p.add (i * 3)) l[i]
theorem PicksAt.below {w w' : World} {a : Option Addr} {l : List Sch.Pick} (h : PicksAt w a l) (hb : Below w.heap.size w w') : PicksAt w' a l := fun i hi => by
  obtain ⟨p, hp, h1⟩ := h i hi
  exact ⟨p, hp, h1.below hb⟩
theorem PicksAt.index {w : World} {a : Option Addr} {l : List Sch.Pick} (h : PicksAt w a l) (cap k : Nat) (hk : k < l.length) :
    ∃ q : Addr, (∀ W, (Instr.indexAt 23 (.slice a l.length cap) (.int .i64 (k : Int))).run Tryd.prog W = .ok (.pointer (some q)) W) ∧ PickAt w q l[k] := by
  obtain ⟨p, rfl, h1⟩ := h k hk
  exact ⟨_, fun W => run_index_slice Tryd.prog _ 46 Tryd.underlying23 3 (by kernel_rfl) p l.length cap k hk W, h1⟩
def okPick (x : Sch.Pick) : Prop := x.d < 256 ∧ (Lit.int .i64 x.w).wf = true ∧ (Lit.int .i64 x.t).wf = true
theorem u8_nat {v : Int} (h : (Lit.int .u8 v).wf = true) : ∃ n : Nat, v = (n : Int) ∧ n < 256 := by
  have := bounds_u8 h
  exact ⟨v.toNat, by omega, by omega⟩
set_option maxRecDepth 100000 in
theorem pick_of_trod {H : Type} {enc : TypeId × Value → H} {W : World} {base : Nat} {sp : Nat → Bool} {hd : Bool} {n : Nat} {cs : List Value} {y : DataW H × List MemPlace} (q : Addr)
    (hc : W.cells? base q 3 = some cs) (h : DataW.trod enc Tryd.prog W base sp hd n 46 cs = some y) :
    ∃ x : Sch.Pick, PickAt W q x ∧ okPick x := by
  obtain ⟨_, hl, hat⟩ := World.cells?_some hc
  obtain ⟨xs, n', _, rfl, _, hxl, hf⟩ := DataW.trod_struct Tryd.underlying46 h
  have o1 : Tryd.prog.cellsOf 3 = 1 := by kernel_rfl
  have o2 : Tryd.prog.cellsOf 5 = 1 := by kernel_rfl
  have hxl3 : xs.length = 3 := hxl
  have g0 : DataW.trod enc Tryd.prog W base sp hd n' 5 ((cs.drop 0).take (Tryd.prog.cellsOf 5)) = xs[0]? := hf 0 _ rfl
  have g1 : DataW.trod enc Tryd.prog W base sp hd n' 3 ((cs.drop 1).take (Tryd.prog.cellsOf 3)) = xs[1]? := hf 1 _ rfl
  have g2 : DataW.trod enc Tryd.prog W base sp hd n' 3 ((cs.drop 2).take (Tryd.prog.cellsOf 3)) = xs[2]? := hf 2 _ rfl
  rw [o1, one_at hl _ (by omega), List.getElem?_eq_getElem (by omega)] at g1 g2
  rw [o2, one_at hl _ (by omega), List.getElem?_eq_getElem (by omega)] at g0
  obtain ⟨v0, e0, _, w0⟩ := DataW.trod_int Tryd.underlying5 g0
  obtain ⟨v1, e1, _, w1⟩ := DataW.trod_int Tryd.underlying3 g1
  obtain ⟨v2, e2, _, w2⟩ := DataW.trod_int Tryd.underlying3 g2
  obtain ⟨n0, rfl, hn0⟩ := u8_nat w0
  have cell : ∀ j (hj : j < 3) v, [cs[j]'(by omega)] = [v] → W.cell? (q.add j) = some v := fun j hj v e => by
    rw [hat j hj, List.getElem?_eq_getElem (by omega)]
    simpa using e
  exact ⟨⟨n0, v1, v2⟩, ⟨cell 0 (by omega) _ e0, cell 1 (by omega) _ e1, cell 2 (by omega) _ e2⟩, hn0, w1, w2⟩
set_option maxRecDepth 100000 in
theorem picks_of_trod {H : Type} {enc : TypeId × Value → H} {W : World} {base : Nat} {v : Value} {d : DataW H} {p : List MemPlace}
    (ho : Value.okWide Tryd.prog W .any base 23 v) (h : DataW.Trod enc Tryd.prog W 0 (fun _ => true) true 23 v d p) :
    ∃ (a : Option Addr) (cap : Nat) (l : List Sch.Pick), v = .slice a l.length cap ∧ PicksAt W a l ∧ l.length ≤ maxLen ∧ ∀ x ∈ l, okPick x := by
  obtain ⟨a0, len, cap, rfl⟩ := okWide_slice Tryd.underlying23 ho
  obtain ⟨fuel, hf⟩ := h
  rcases Go.Deep.open_slice Tryd.underlying23 hf with ⟨hcs, _⟩ | ⟨a, len', cap', m, n, D, Pl, hcs, _, hl, hm, hmm, hx, hi⟩
  · simp [Value.cells] at hcs
    obtain ⟨rfl, rfl, rfl⟩ := hcs
    exact ⟨none, 0, [], rfl, fun i hi => by simp at hi, by simp, by simp⟩
  · simp [Value.cells] at hcs
    obtain ⟨rfl, rfl, rfl⟩ := hcs
    have hC : Tryd.prog.cellsOf 46 = 3 := by kernel_rfl
    simp only [if_true] at hmm
    subst hmm
    rw [hC] at hi
    simp only [Prod.mk.injEq] at hx
    obtain ⟨rfl, _⟩ := hx
    obtain ⟨l, hll, hP⟩ := list_of (P := fun i x => PickAt W (a.add (i * 3)) x ∧ okPick x) len (fun i hil => by
      obtain ⟨cs', h1, h2⟩ := hi i (by omega)
      exact pick_of_trod _ h1 h2)
    refine ⟨some a, m, l, by rw [hll], fun i hil => ⟨a, rfl, (hP i hil).1⟩, by omega, fun x hxm => ?_⟩
    obtain ⟨i, hil, rfl⟩ := List.getElem_of_mem hxm
    exact (hP i hil).2
end Go.Proofs.YtgmhglcdifhimaaDoor

namespace Go.Proofs.YtgmhglcdifhimaaDoor
open Go.RowKit Go.Maps Go.Sort
open Tsk

/-- A task's value, as the laws have it. -/
def valueOf (t : Nat) : List UInt8 := [118, UInt8.ofNat (48 + t / 10), UInt8.ofNat (48 + t % 10)]
set_option maxRecDepth 100000 in
theorem value_any (t : Nat) (ht : t < 100000) (w : World) : Calls Tryd.prog 19 #[.int .i64 (t : Int)] w fun e w' => e = .returned (.string (bs (valueOf t))) ∧ Below w.heap.size w w' := by
  have hrow : RowAt (w.alloc (.cells #[.int .u8 ((UInt8.ofNat (48 + t / 10)).toNat : Int), .int .u8 ((UInt8.ofNat (48 + t % 10)).toNat : Int)] 5)) w.heap.size 5 [.int .u8 ((UInt8.ofNat (48 + t / 10)).toNat : Int), .int .u8 ((UInt8.ofNat (48 + t % 10)).toNat : Int)] := RowAt.made w _ _
  have hstr := run_bytes_bs Tryd.prog (w.alloc (.cells #[.int .u8 ((UInt8.ofNat (48 + t / 10)).toNat : Int), .int .u8 ((UInt8.ofNat (48 + t % 10)).toNat : Int)] 5)) 94 5 9 Tryd.underlying94 Tryd.underlying5 Tryd.underlying9 w.heap.size 0 2 2 [UInt8.ofNat (48 + t / 10), UInt8.ofNat (48 + t % 10)] rfl (fun i hi => by
    match i, hi with
    | 0, _ => exact hrow.cell 0 (by simp)
    | 1, _ => exact hrow.cell 1 (by simp))
  clear hrow
  have e1 : ((UInt8.ofNat (48 + t / 10)).toNat : Int) = (48 + (t : Int) / 10) % 256 := by rw [u8_ofNat]; omega
  have e2 : ((UInt8.ofNat (48 + t % 10)).toNat : Int) = 48 + (t : Int) % 10 := by rw [u8_ofNat]; omega
  rw [e1, e2] at hstr
  clear e1 e2
  obtain ⟨L, hL⟩ : ∃ L, L = [UInt8.ofNat (48 + t / 10), UInt8.ofNat (48 + t % 10)] := ⟨_, rfl⟩
  rw [← hL] at hstr
  have HV := Lib.hid (show valueOf t = [118] ++ L from by rw [hL]; rfl)
  have hLl : L.length = 2 := by rw [hL]; rfl
  clear hL
  go_enter Tryd.func19, Tryd.ntmps19
  go_wp2_with fail
  go_ret
  refine ⟨?_, (Below.refl _ _).alloc (Nat.le_refl _) _⟩
  rw [HV.out, ← bs_append]
  rfl
end Go.Proofs.YtgmhglcdifhimaaDoor
