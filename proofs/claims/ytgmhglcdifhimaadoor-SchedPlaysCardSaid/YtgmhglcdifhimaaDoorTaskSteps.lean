/- '[][]int' and '[]maslinlaw30.Step' as they came in. -/
import Derived.Test.YtgmhglcdifhimaaDoorTrod
import Derived.Test.YtgmhglcdifhimaaDoorTaskFind
namespace Go.Proofs.YtgmhglcdifhimaaDoor
open Go.RowKit Go.WideShapes Go.ChangeShapes Go.Deep

/-- Numbers that came in. -/
structure IntsIn (w : World) (v : Value) (l : List Int) : Prop where
  at_ : ∃ a cap, v = .slice a l.length cap ∧ IntsAt w a l ∧ (a = none → cap = 0)
  len : l.length ≤ 140737488355328
  all : ∀ x ∈ l, (Lit.int .i64 x).wf = true
theorem IntsAt.below' {w w' : World} {a : Option Addr} {l : List Int} (h : IntsAt w a l) (hb : Below w.heap.size w w') : IntsAt w' a l := fun i hi => by
  obtain ⟨q, e, hc⟩ := h i hi
  exact ⟨q, e, (hb.cell (block_lt_of_cell hc)).trans hc⟩
theorem IntsIn.below {w w' : World} {v : Value} {l : List Int} (h : IntsIn w v l) (hb : Below w.heap.size w w') : IntsIn w' v l := by
  obtain ⟨⟨a, cap, e, h1, h2⟩, h3, h4⟩ := h
  exact ⟨⟨a, cap, e, h1.below' hb, h2⟩, h3, h4⟩

set_option maxRecDepth 100000 in
theorem ints_core {H : Type} {enc : TypeId × Value → H} {W : World} {base : Nat} {sp : Nat → Bool} {hd : Bool} {n : Nat} {cs : List Value} {y : DataW H × List MemPlace}
    (h : DataW.trod enc Tryd.prog W base sp hd n 31 cs = some y) (hz : ∀ n ∈ DataW.weights Tryd.prog 31 y.1, n ≤ reachBytes) : ∃ v l, cs = [v] ∧ IntsIn W v l := by
  rcases Go.Deep.open_slice Tryd.underlying31 h with ⟨rfl, _⟩ | ⟨a, len, cap, m, k, D, Pl, rfl, _, hl, hm, hmm, hx, hi⟩
  · exact ⟨_, [], rfl, ⟨none, 0, rfl, fun i hi => by simp at hi, fun _ => rfl⟩, by simp, by simp⟩
  · have hC : Tryd.prog.cellsOf 3 = 1 := by kernel_rfl
    rw [hC] at hi
    have hlm : len ≤ m := by rw [hmm]; split <;> omega
    obtain ⟨l, hll, hP⟩ := list_of (P := fun i (x : Int) => W.cell? (a.add i) = some (.int .i64 x) ∧ (Lit.int .i64 x).wf = true) len (fun i hil => by
      obtain ⟨cs', h1, h2⟩ := hi i (by omega)
      obtain ⟨_, hl1, hat⟩ := World.cells?_some h1
      obtain ⟨v, e1, e2, e3⟩ := DataW.trod_int Tryd.underlying3 h2
      subst e1
      refine ⟨v, ?_, e3⟩
      have := hat 0 (by omega)
      rw [add_zero', Nat.mul_one] at this
      rw [this]; rfl)
    have hzl : len ≤ 140737488355328 := by
      have := hz _ (by rw [hx]; simp only [DataW.weights, Tryd.underlying31]; exact List.mem_cons_self)
      rw [List.length_map, List.length_range, show Tryd.prog.bytesOf 3 = 8 by kernel_rfl] at this
      unfold reachBytes at this
      omega
    refine ⟨_, l, rfl, ⟨some a, cap, by rw [hll], fun i hil => ⟨a, rfl, (hP i hil).1⟩, fun e => by cases e⟩, by omega, fun x hxm => ?_⟩
    obtain ⟨i, hil, rfl⟩ := List.getElem_of_mem hxm
    exact (hP i hil).2

/-- Rows of numbers behind an address. -/
def NeedsAt (w : World) (a : Option Addr) (L : List (List Int)) : Prop := ∀ i, (h : i < L.length) → ∃ p v, a = some p ∧ w.cell? (p.add i) = some v ∧ IntsIn w v L[i]
theorem NeedsAt.below {w w' : World} {a : Option Addr} {L : List (List Int)} (h : NeedsAt w a L) (hb : Below w.heap.size w w') : NeedsAt w' a L := fun i hi => by
  obtain ⟨p, v, e, h1, h2⟩ := h i hi
  exact ⟨p, v, e, (hb.cell (block_lt_of_cell h1)).trans h1, h2.below hb⟩
theorem NeedsAt.index {w : World} {a : Option Addr} {L : List (List Int)} (h : NeedsAt w a L) (cap k : Nat) (hk : k < L.length) :
    ∃ q : Addr, (∀ W, (Instr.indexAt 22 (.slice a L.length cap) (.int .i64 (k : Int))).run Tryd.prog W = .ok (.pointer (some q)) W) ∧ ∃ v, w.cell? q = some v ∧ IntsIn w v L[k] := by
  obtain ⟨p, v, rfl, h1, h2⟩ := h k hk
  refine ⟨p.add k, fun W => ?_, v, h1, h2⟩
  have := run_index_slice Tryd.prog 22 31 Tryd.underlying22 1 (by kernel_rfl) p L.length cap k hk W
  rwa [Nat.mul_one] at this
set_option maxRecDepth 100000 in
theorem needs_of_trod {H : Type} {enc : TypeId × Value → H} {W : World} {base : Nat} {v : Value} {d : DataW H} {p : List MemPlace}
    (ho : Value.okWide Tryd.prog W .any base 22 v) (h : DataW.Trod enc Tryd.prog W 0 (fun _ => true) true 22 v d p) (hz : ∀ n ∈ DataW.weights Tryd.prog 22 d, (decide (n ≤ reachBytes)) = true) :
    ∃ (a : Option Addr) (cap : Nat) (L : List (List Int)), v = .slice a L.length cap ∧ NeedsAt W a L ∧ L.length ≤ maxLen := by
  obtain ⟨a0, len, cap, rfl⟩ := okWide_slice Tryd.underlying22 ho
  obtain ⟨fuel, hf⟩ := h
  rcases Go.Deep.open_slice Tryd.underlying22 hf with ⟨hcs, _⟩ | ⟨a, len', cap', m, n, D, Pl, hcs, _, hl, hm, hmm, hx, hi⟩
  · simp [Value.cells] at hcs
    obtain ⟨rfl, rfl, rfl⟩ := hcs
    exact ⟨none, 0, [], rfl, fun i hi => by simp at hi, by simp⟩
  · simp [Value.cells] at hcs
    obtain ⟨rfl, rfl, rfl⟩ := hcs
    have hC : Tryd.prog.cellsOf 31 = 1 := by kernel_rfl
    simp only [if_true] at hmm
    subst hmm
    rw [hC] at hi
    simp only [Prod.mk.injEq] at hx
    obtain ⟨rfl, _⟩ := hx
    obtain ⟨l, hll, hP⟩ := list_of (P := fun i (x : List Int) => ∃ v, W.cell? (a.add i) = some v ∧ IntsIn W v x) len (fun i hil => by
      obtain ⟨cs', h1, h2⟩ := hi i (by omega)
      obtain ⟨_, hl1, hat⟩ := World.cells?_some h1
      obtain ⟨v, l, e1, e2⟩ := ints_core h2 (fun k hk => of_decide_eq_true (hz k (by
        simp only [DataW.weights, Tryd.underlying22]
        exact List.mem_cons_of_mem _ (List.mem_append_left _ (weights_all (List.mem_map.2 ⟨i, List.mem_range.2 hil, rfl⟩) hk)))))
      subst e1
      refine ⟨l, v, ?_, e2⟩
      have := hat 0 (by omega)
      rw [add_zero', Nat.mul_one] at this
      rw [this]; rfl)
    refine ⟨some a, m, l, by rw [hll], fun i hil => ?_, by omega⟩
    obtain ⟨v, h1, h2⟩ := hP i hil
    exact ⟨a, v, rfl, h1, h2⟩

/-- A step: what is done, the task, the worker, the value. -/
structure TStp where
  what : Int
  t : Int
  w : Int
  s : List UInt8
structure TStpAt (w : World) (q : Addr) (x : TStp) : Prop where
  c0 : w.cell? (q.add 0) = some (.int .i64 x.what)
  c1 : w.cell? (q.add 1) = some (.int .i64 x.t)
  c2 : w.cell? (q.add 2) = some (.int .i64 x.w)
  c3 : w.cell? (q.add 3) = some (.string (bs x.s))
theorem TStpAt.below {w w' : World} {q : Addr} {x : TStp} (h : TStpAt w q x) (hb : Below w.heap.size w w') : TStpAt w' q x := by
  obtain ⟨h0, h1, h2, h4⟩ := h
  exact ⟨(hb.cell (block_lt_of_cell h0)).trans h0, (hb.cell (block_lt_of_cell h1)).trans h1, (hb.cell (block_lt_of_cell h2)).trans h2, (hb.cell (block_lt_of_cell h4)).trans h4⟩
theorem TStpAt.cells {w : World} {q : Addr} {x : TStp} (h : TStpAt w q x) : w.cell? q = some (.int .i64 x.what) ∧ w.cell? ⟨q.block, q.off + 1, none⟩ = some (.int .i64 x.t) ∧ w.cell? ⟨q.block, q.off + 2, none⟩ = some (.int .i64 x.w) ∧
    w.cell? ⟨q.block, q.off + 3, none⟩ = some (.string (bs x.s)) := by
  refine ⟨?_, h.c1, h.c2, h.c3⟩
  rw [← add_zero' q]
  exact h.c0
def TStepsAt (w : World) (a : Option Addr) (l : List TStp) : Prop := ∀ i, (h : i < l.length) → ∃ p : Addr, a = some p ∧ TStpAt w (p.add (i * 4)) l[i]
theorem TStepsAt.below {w w' : World} {a : Option Addr} {l : List TStp} (h : TStepsAt w a l) (hb : Below w.heap.size w w') : TStepsAt w' a l := fun i hi => by
  obtain ⟨p, hp, h1⟩ := h i hi
  exact ⟨p, hp, h1.below hb⟩
theorem TStepsAt.index {w : World} {a : Option Addr} {l : List TStp} (h : TStepsAt w a l) (cap k : Nat) (hk : k < l.length) :
    ∃ q : Addr, (∀ W, (Instr.indexAt 73 (.slice a l.length cap) (.int .i64 (k : Int))).run Tryd.prog W = .ok (.pointer (some q)) W) ∧ TStpAt w q l[k] := by
  obtain ⟨p, rfl, h1⟩ := h k hk
  exact ⟨_, fun W => run_index_slice Tryd.prog _ 172 Tryd.underlying73 4 (by kernel_rfl) p l.length cap k hk W, h1⟩
def TStp.okay (x : TStp) : Prop := (Lit.int .i64 x.what).wf = true ∧ (Lit.int .i64 x.t).wf = true ∧ (Lit.int .i64 x.w).wf = true ∧ x.s.length ≤ reachBytes

set_option maxRecDepth 100000 in
theorem tstep_of_trod {H : Type} {enc : TypeId × Value → H} {W : World} {base : Nat} {sp : Nat → Bool} {hd : Bool} {n : Nat} {cs : List Value} {y : DataW H × List MemPlace} (q : Addr)
    (hc : W.cells? base q 4 = some cs) (h : DataW.trod enc Tryd.prog W base sp hd n 172 cs = some y) (hz : ∀ n ∈ DataW.weights Tryd.prog 172 y.1, n ≤ reachBytes) :
    ∃ x : TStp, TStpAt W q x ∧ x.okay := by
  obtain ⟨_, hl, hat⟩ := World.cells?_some hc
  obtain ⟨xs, n', _, rfl, _, hxl, hf⟩ := DataW.trod_struct Tryd.underlying172 h
  have o1 : Tryd.prog.cellsOf 3 = 1 := by kernel_rfl
  have o2 : Tryd.prog.cellsOf 9 = 1 := by kernel_rfl
  have hxl4 : xs.length = 4 := hxl
  have g0 : DataW.trod enc Tryd.prog W base sp hd n' 3 ((cs.drop 0).take (Tryd.prog.cellsOf 3)) = xs[0]? := hf 0 _ rfl
  have g1 : DataW.trod enc Tryd.prog W base sp hd n' 3 ((cs.drop 1).take (Tryd.prog.cellsOf 3)) = xs[1]? := hf 1 _ rfl
  have g2 : DataW.trod enc Tryd.prog W base sp hd n' 3 ((cs.drop 2).take (Tryd.prog.cellsOf 3)) = xs[2]? := hf 2 _ rfl
  have g3 : DataW.trod enc Tryd.prog W base sp hd n' 9 ((cs.drop 3).take (Tryd.prog.cellsOf 9)) = xs[3]? := hf 3 _ rfl
  rw [o1, one_at hl _ (by omega), List.getElem?_eq_getElem (by omega)] at g0 g1 g2
  rw [o2, one_at hl _ (by omega), List.getElem?_eq_getElem (by omega)] at g3
  obtain ⟨v0, e0, _, w0⟩ := DataW.trod_int Tryd.underlying3 g0
  obtain ⟨v1, e1, _, w1⟩ := DataW.trod_int Tryd.underlying3 g1
  obtain ⟨v2, e2, _, w2⟩ := DataW.trod_int Tryd.underlying3 g2
  obtain ⟨v3, e3, y3, _⟩ := DataW.trod_string Tryd.underlying9 g3
  have cell : ∀ j (hj : j < 4) v, [cs[j]'(by omega)] = [v] → W.cell? (q.add j) = some v := fun j hj v e => by
    rw [hat j hj, List.getElem?_eq_getElem (by omega)]
    simpa using e
  refine ⟨⟨v0, v1, v2, v3.data.toList⟩, ⟨cell 0 (by omega) _ e0, cell 1 (by omega) _ e1, cell 2 (by omega) _ e2, cell 3 (by omega) _ e3⟩, w0, w1, w2, ?_⟩
  refine hz _ ?_
  simp only [DataW.weights, Tryd.underlying172]
  refine DataW.weights_mem_each (j := 3) (t := 9) (d := .lit (.string v3.data.toList)) rfl ?_ _ (by simp [DataW.weights])
  rw [List.getElem?_map, List.getElem?_eq_getElem (by omega), y3]
  rfl

set_option maxRecDepth 100000 in
theorem tsteps_of_trod {H : Type} {enc : TypeId × Value → H} {W : World} {base : Nat} {v : Value} {d : DataW H} {p : List MemPlace}
    (ho : Value.okWide Tryd.prog W .any base 73 v) (h : DataW.Trod enc Tryd.prog W 0 (fun _ => true) true 73 v d p) (hz : ∀ n ∈ DataW.weights Tryd.prog 73 d, (decide (n ≤ reachBytes)) = true) :
    ∃ (a : Option Addr) (cap : Nat) (l : List TStp), v = .slice a l.length cap ∧ TStepsAt W a l ∧ l.length ≤ maxLen ∧ ∀ x ∈ l, x.okay := by
  obtain ⟨a0, len, cap, rfl⟩ := okWide_slice Tryd.underlying73 ho
  obtain ⟨fuel, hf⟩ := h
  rcases Go.Deep.open_slice Tryd.underlying73 hf with ⟨hcs, _⟩ | ⟨a, len', cap', m, n, D, Pl, hcs, _, hl, hm, hmm, hx, hi⟩
  · simp [Value.cells] at hcs
    obtain ⟨rfl, rfl, rfl⟩ := hcs
    exact ⟨none, 0, [], rfl, fun i hi => by simp at hi, by simp, by simp⟩
  · simp [Value.cells] at hcs
    obtain ⟨rfl, rfl, rfl⟩ := hcs
    have hC : Tryd.prog.cellsOf 172 = 4 := by kernel_rfl
    simp only [if_true] at hmm
    subst hmm
    rw [hC] at hi
    simp only [Prod.mk.injEq] at hx
    obtain ⟨rfl, _⟩ := hx
    obtain ⟨l, hll, hP⟩ := list_of (P := fun i x => TStpAt W (a.add (i * 4)) x ∧ x.okay) len (fun i hil => by
      obtain ⟨cs', h1, h2⟩ := hi i (by omega)
      exact tstep_of_trod _ h1 h2 (fun k hk => of_decide_eq_true (hz k (by
        simp only [DataW.weights, Tryd.underlying73]
        exact List.mem_cons_of_mem _ (List.mem_append_left _ (weights_all (List.mem_map.2 ⟨i, List.mem_range.2 hil, rfl⟩) hk))))))
    refine ⟨some a, m, l, by rw [hll], fun i hil => ⟨a, rfl, (hP i hil).1⟩, by omega, fun x hxm => ?_⟩
    obtain ⟨i, hil, rfl⟩ := List.getElem_of_mem hxm
    exact (hP i hil).2
end Go.Proofs.YtgmhglcdifhimaaDoor
