/- '[]maslinlaw05.Step', and '[]string', as they came in; Heavy, walked. -/
import Derived.Test.YthbdflmckfgleaaSteps
import Derived.Test.YthbdflmckfgleaaOct
namespace Go.Proofs.Ythbdflmckfgleaa
open Go.RowKit Go.WideShapes Go.ChangeShapes Go.Deep

/-- Texts that came in. -/
structure TextsIn (w : World) (v : Value) (l : List (List UInt8)) : Prop where
  at_ : ∃ a cap, v = .slice a l.length cap ∧ TextsAt w a l ∧ (a = none → cap = 0)
  len : l.length ≤ maxLen
  all : ∀ s ∈ l, s.length ≤ reachBytes
theorem TextsIn.below {w w' : World} {v : Value} {l : List (List UInt8)} (h : TextsIn w v l) (hb : Below w.heap.size w w') : TextsIn w' v l := by
  obtain ⟨⟨a, cap, e, h1, h2⟩, h3, h4⟩ := h
  exact ⟨⟨a, cap, e, h1.below hb, h2⟩, h3, h4⟩
/-- Where they lie: nowhere new. -/
theorem TextsAt.old {w : World} {a : Option Addr} {l : List (List UInt8)} (h : TextsAt w a l) : ∀ p, a = some p → l ≠ [] → p.block < w.heap.size := fun p hp hne => by
  have h0 : 0 < l.length := List.length_pos_iff.2 hne
  obtain ⟨q, hq, hc⟩ := h 0 h0
  rw [hp] at hq
  cases hq
  have := block_lt_of_cell hc
  rwa [add_block] at this

set_option maxRecDepth 100000 in
theorem texts_core {H : Type} {enc : TypeId × Value → H} {W : World} {base : Nat} {sp : Nat → Bool} {hd : Bool} {n : Nat} {cs : List Value} {y : DataW H × List MemPlace}
    (h : DataW.trod enc Try.prog W base sp hd n 31 cs = some y) (hz : ∀ n ∈ DataW.weights Try.prog 31 y.1, n ≤ reachBytes) : ∃ v l, cs = [v] ∧ TextsIn W v l := by
  rcases Go.Deep.open_slice Try.underlying31 h with ⟨rfl, _⟩ | ⟨a, len, cap, m, k, D, Pl, rfl, _, hl, hm, hmm, hx, hi⟩
  · exact ⟨_, [], rfl, ⟨none, 0, rfl, fun i hi => by simp at hi, fun _ => rfl⟩, by simp, by simp⟩
  · have hC : Try.prog.cellsOf 9 = 1 := by kernel_rfl
    rw [hC] at hi
    have hlm : len ≤ m := by rw [hmm]; split <;> omega
    obtain ⟨l, hll, hP⟩ := list_of (P := fun i (x : List UInt8) => W.cell? (a.add i) = some (.string (bs x)) ∧ x.length ≤ reachBytes) len (fun i hil => by
      obtain ⟨cs', h1, h2⟩ := hi i (by omega)
      obtain ⟨_, hl1, hat⟩ := World.cells?_some h1
      obtain ⟨v, e1, e2, _⟩ := DataW.trod_string Try.underlying9 h2
      subst e1
      refine ⟨v.data.toList, ?_, ?_⟩
      · have := hat 0 (by omega)
        rw [add_zero', Nat.mul_one] at this
        rw [this]; rfl
      · refine hz _ ?_
        have hD : D i = .lit (.string v.data.toList) := congrArg Prod.fst e2
        rw [hx]
        simp only [DataW.weights, Try.underlying31]
        exact List.mem_cons_of_mem _ (List.mem_append_left _ (weights_all (List.mem_map.2 ⟨i, List.mem_range.2 hil, rfl⟩) (by rw [hD]; simp [DataW.weights]))))
    refine ⟨_, l, rfl, ⟨some a, cap, by rw [hll], fun i hil => ⟨a, rfl, (hP i hil).1⟩, fun e => by cases e⟩, by omega, fun x hxm => ?_⟩
    obtain ⟨i, hil, rfl⟩ := List.getElem_of_mem hxm
    exact (hP i hil).2
set_option maxRecDepth 100000 in
theorem texts_of_trod {H : Type} {enc : TypeId × Value → H} {W : World} {base : Nat} {v : Value} {d : DataW H} {p : List MemPlace}
    (ho : Value.okWide Try.prog W .any base 31 v) (h : DataW.Trod enc Try.prog W 0 (fun _ => true) true 31 v d p) (hz : ∀ n ∈ DataW.weights Try.prog 31 d, (decide (n ≤ reachBytes)) = true) : ∃ l, TextsIn W v l := by
  obtain ⟨a0, len, cap, rfl⟩ := okWide_slice Try.underlying31 ho
  obtain ⟨fuel, hf⟩ := h
  obtain ⟨v, l, e, ht⟩ := texts_core hf (fun n hn => of_decide_eq_true (hz n hn))
  simp [Value.cells] at e
  subst e
  exact ⟨l, ht⟩

structure WStp where
  what : Int
  n : Int
  l : List (List UInt8)
  keep : List UInt8
/-- A step lies at an address. -/
structure WStpAt (w : World) (q : Addr) (x : WStp) : Prop where
  c0 : w.cell? (q.add 0) = some (.int .i64 x.what)
  c1 : w.cell? (q.add 1) = some (.int .i64 x.n)
  c2 : ∃ v, w.cell? (q.add 2) = some v ∧ TextsIn w v x.l
  c3 : w.cell? (q.add 3) = some (.string (bs x.keep))
theorem WStpAt.below {w w' : World} {q : Addr} {x : WStp} (h : WStpAt w q x) (hb : Below w.heap.size w w') : WStpAt w' q x := by
  obtain ⟨h0, h1, ⟨v, h2, h3⟩, h4⟩ := h
  exact ⟨(hb.cell (block_lt_of_cell h0)).trans h0, (hb.cell (block_lt_of_cell h1)).trans h1, ⟨v, (hb.cell (block_lt_of_cell h2)).trans h2, h3.below hb⟩, (hb.cell (block_lt_of_cell h4)).trans h4⟩
theorem WStpAt.cells {w : World} {q : Addr} {x : WStp} (h : WStpAt w q x) : w.cell? q = some (.int .i64 x.what) ∧ w.cell? ⟨q.block, q.off + 1, none⟩ = some (.int .i64 x.n) ∧ (∃ v, w.cell? ⟨q.block, q.off + 2, none⟩ = some v ∧ TextsIn w v x.l) ∧
    w.cell? ⟨q.block, q.off + 3, none⟩ = some (.string (bs x.keep)) := by
  refine ⟨?_, h.c1, h.c2, h.c3⟩
  rw [← add_zero' q]
  exact h.c0
/-- A row of steps behind an address. -/
def WStepsAt (w : World) (a : Option Addr) (l : List WStp) : Prop := ∀ i, (h : i < l.length) → ∃ p : Addr, a = some p ∧ WStpAt w (p.add (i * 4)) l[i]
theorem WStepsAt.below {w w' : World} {a : Option Addr} {l : List WStp} (h : WStepsAt w a l) (hb : Below w.heap.size w w') : WStepsAt w' a l := fun i hi => by
  obtain ⟨p, hp, h1⟩ := h i hi
  exact ⟨p, hp, h1.below hb⟩
theorem WStepsAt.index {w : World} {a : Option Addr} {l : List WStp} (h : WStepsAt w a l) (cap k : Nat) (hk : k < l.length) :
    ∃ q : Addr, (∀ W, (Instr.indexAt 72 (.slice a l.length cap) (.int .i64 (k : Int))).run Try.prog W = .ok (.pointer (some q)) W) ∧ WStpAt w q l[k] := by
  obtain ⟨p, rfl, h1⟩ := h k hk
  exact ⟨_, fun W => run_index_slice Try.prog _ 76 Try.underlying72 4 (by kernel_rfl) p l.length cap k hk W, h1⟩
def WStp.okay (x : WStp) : Prop := (Lit.int .i64 x.what).wf = true ∧ (Lit.int .i64 x.n).wf = true ∧ x.keep.length ≤ reachBytes

set_option maxRecDepth 100000 in
theorem wstep_of_trod {H : Type} {enc : TypeId × Value → H} {W : World} {base : Nat} {sp : Nat → Bool} {hd : Bool} {n : Nat} {cs : List Value} {y : DataW H × List MemPlace} (q : Addr)
    (hc : W.cells? base q 4 = some cs) (h : DataW.trod enc Try.prog W base sp hd n 76 cs = some y) (hz : ∀ n ∈ DataW.weights Try.prog 76 y.1, n ≤ reachBytes) :
    ∃ x : WStp, WStpAt W q x ∧ x.okay := by
  obtain ⟨_, hl, hat⟩ := World.cells?_some hc
  obtain ⟨xs, n', _, rfl, _, hxl, hf⟩ := DataW.trod_struct Try.underlying76 h
  have o1 : Try.prog.cellsOf 3 = 1 := by kernel_rfl
  have o2 : Try.prog.cellsOf 9 = 1 := by kernel_rfl
  have o3 : Try.prog.cellsOf 31 = 1 := by kernel_rfl
  have hxl4 : xs.length = 4 := hxl
  have g0 : DataW.trod enc Try.prog W base sp hd n' 3 ((cs.drop 0).take (Try.prog.cellsOf 3)) = xs[0]? := hf 0 _ rfl
  have g1 : DataW.trod enc Try.prog W base sp hd n' 3 ((cs.drop 1).take (Try.prog.cellsOf 3)) = xs[1]? := hf 1 _ rfl
  have g2 : DataW.trod enc Try.prog W base sp hd n' 31 ((cs.drop 2).take (Try.prog.cellsOf 31)) = xs[2]? := hf 2 _ rfl
  have g3 : DataW.trod enc Try.prog W base sp hd n' 9 ((cs.drop 3).take (Try.prog.cellsOf 9)) = xs[3]? := hf 3 _ rfl
  rw [o1, one_at hl _ (by omega), List.getElem?_eq_getElem (by omega)] at g0 g1
  rw [o3, one_at hl _ (by omega), List.getElem?_eq_getElem (by omega)] at g2
  rw [o2, one_at hl _ (by omega), List.getElem?_eq_getElem (by omega)] at g3
  obtain ⟨v0, e0, _, w0⟩ := DataW.trod_int Try.underlying3 g0
  obtain ⟨v1, e1, _, w1⟩ := DataW.trod_int Try.underlying3 g1
  obtain ⟨v2, l2, e2, t2⟩ := texts_core g2 (fun k hk => hz k (by
    simp only [DataW.weights, Try.underlying76]
    refine DataW.weights_mem_each (j := 2) (t := 31) (d := (xs[2]'(by omega)).1) rfl ?_ _ hk
    rw [List.getElem?_map, List.getElem?_eq_getElem (by omega)]
    rfl))
  obtain ⟨v3, e3, y3, _⟩ := DataW.trod_string Try.underlying9 g3
  have cell : ∀ j (hj : j < 4) v, [cs[j]'(by omega)] = [v] → W.cell? (q.add j) = some v := fun j hj v e => by
    rw [hat j hj, List.getElem?_eq_getElem (by omega)]
    simpa using e
  refine ⟨⟨v0, v1, l2, v3.data.toList⟩, ⟨cell 0 (by omega) _ e0, cell 1 (by omega) _ e1, ⟨v2, cell 2 (by omega) _ e2, t2⟩, cell 3 (by omega) _ e3⟩, w0, w1, ?_⟩
  refine hz _ ?_
  simp only [DataW.weights, Try.underlying76]
  refine DataW.weights_mem_each (j := 3) (t := 9) (d := .lit (.string v3.data.toList)) rfl ?_ _ (by simp [DataW.weights])
  rw [List.getElem?_map, List.getElem?_eq_getElem (by omega), y3]
  rfl

set_option maxRecDepth 100000 in
theorem wsteps_of_trod {H : Type} {enc : TypeId × Value → H} {W : World} {base : Nat} {v : Value} {d : DataW H} {p : List MemPlace}
    (ho : Value.okWide Try.prog W .any base 72 v) (h : DataW.Trod enc Try.prog W 0 (fun _ => true) true 72 v d p) (hz : ∀ n ∈ DataW.weights Try.prog 72 d, (decide (n ≤ reachBytes)) = true) :
    ∃ (a : Option Addr) (cap : Nat) (l : List WStp), v = .slice a l.length cap ∧ WStepsAt W a l ∧ l.length ≤ maxLen ∧ ∀ x ∈ l, x.okay := by
  obtain ⟨a0, len, cap, rfl⟩ := okWide_slice Try.underlying72 ho
  obtain ⟨fuel, hf⟩ := h
  rcases Go.Deep.open_slice Try.underlying72 hf with ⟨hcs, _⟩ | ⟨a, len', cap', m, n, D, Pl, hcs, _, hl, hm, hmm, hx, hi⟩
  · simp [Value.cells] at hcs
    obtain ⟨rfl, rfl, rfl⟩ := hcs
    exact ⟨none, 0, [], rfl, fun i hi => by simp at hi, by simp, by simp⟩
  · simp [Value.cells] at hcs
    obtain ⟨rfl, rfl, rfl⟩ := hcs
    have hC : Try.prog.cellsOf 76 = 4 := by kernel_rfl
    simp only [if_true] at hmm
    subst hmm
    rw [hC] at hi
    simp only [Prod.mk.injEq] at hx
    obtain ⟨rfl, _⟩ := hx
    obtain ⟨l, hll, hP⟩ := list_of (P := fun i x => WStpAt W (a.add (i * 4)) x ∧ x.okay) len (fun i hil => by
      obtain ⟨cs', h1, h2⟩ := hi i (by omega)
      exact wstep_of_trod _ h1 h2 (fun k hk => of_decide_eq_true (hz k (by
        simp only [DataW.weights, Try.underlying72]
        exact List.mem_cons_of_mem _ (List.mem_append_left _ (weights_all (List.mem_map.2 ⟨i, List.mem_range.2 hil, rfl⟩) hk))))))
    refine ⟨some a, m, l, by rw [hll], fun i hil => ⟨a, rfl, (hP i hil).1⟩, by omega, fun x hxm => ?_⟩
    obtain ⟨i, hil, rfl⟩ := List.getElem_of_mem hxm
    exact (hP i hil).2
end Go.Proofs.Ythbdflmckfgleaa
