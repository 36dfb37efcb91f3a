/- '[]maslinlaw04.Step', as it came in. -/
import Derived.Test.YthbdflmckfgleaaReads
import Derived.Deep.Slices
import Derived.Deep.Fields
import Derived.ChangeArms
namespace Go.Proofs.Ythbdflmckfgleaa
open Go.RowKit Go.WideShapes Go.ChangeShapes Go.Deep

structure Stp where
  what : Int
  place : Int
  n : Int
  s : List UInt8
  raw : Bool

/-- A step lies at an address. -/
structure StpAt (w : World) (q : Addr) (x : Stp) : Prop where
  lt : q.block < w.heap.size
  c0 : w.cell? (q.add 0) = some (.int .i64 x.what)
  c1 : w.cell? (q.add 1) = some (.int .i64 x.place)
  c2 : w.cell? (q.add 2) = some (.int .i64 x.n)
  c3 : w.cell? (q.add 3) = some (.string (bs x.s))
  c4 : w.cell? (q.add 4) = some (.bool x.raw)
theorem add_block (q : Addr) (i : Nat) : (q.add i).block = q.block := by unfold Addr.add; split <;> rfl
theorem add_zero' (q : Addr) : q.add 0 = q := by unfold Addr.add; simp
theorem StpAt.below {w w' : World} {q : Addr} {x : Stp} (h : StpAt w q x) (hb : Below w.heap.size w w') : StpAt w' q x :=
  ⟨Nat.lt_of_lt_of_le h.lt hb.size, (hb.cell (by rw [add_block]; exact h.lt)).trans h.c0, (hb.cell (by rw [add_block]; exact h.lt)).trans h.c1, (hb.cell (by rw [add_block]; exact h.lt)).trans h.c2, (hb.cell (by rw [add_block]; exact h.lt)).trans h.c3, (hb.cell (by rw [add_block]; exact h.lt)).trans h.c4⟩
theorem StpAt.cells {w : World} {q : Addr} {x : Stp} (h : StpAt w q x) : w.cell? q = some (.int .i64 x.what) ∧ w.cell? ⟨q.block, q.off + 1, none⟩ = some (.int .i64 x.place) ∧ w.cell? ⟨q.block, q.off + 2, none⟩ = some (.int .i64 x.n) ∧
    w.cell? ⟨q.block, q.off + 3, none⟩ = some (.string (bs x.s)) ∧ w.cell? ⟨q.block, q.off + 4, none⟩ = some (.bool x.raw) := by
  refine ⟨?_, h.c1, h.c2, h.c3, h.c4⟩
  rw [← add_zero' q]
  exact h.c0
/-- A row of steps behind an address. -/
def StepsAt (w : World) (a : Option Addr) (l : List Stp) : Prop := ∀ i, (h : i < l.length) → ∃ p : Addr, a = some p ∧ StpAt w (p.add (i * 5)) l[i]
theorem StepsAt.below {w w' : World} {a : Option Addr} {l : List Stp} (h : StepsAt w a l) (hb : Below w.heap.size w w') : StepsAt w' a l := fun i hi => by
  obtain ⟨p, hp, h1⟩ := h i hi
  exact ⟨p, hp, h1.below hb⟩
theorem StepsAt.index {w : World} {a : Option Addr} {l : List Stp} (h : StepsAt w a l) (cap k : Nat) (hk : k < l.length) :
    ∃ q : Addr, (∀ W, (Instr.indexAt 38 (.slice a l.length cap) (.int .i64 (k : Int))).run Try.prog W = .ok (.pointer (some q)) W) ∧ StpAt w q l[k] := by
  obtain ⟨p, rfl, h1⟩ := h k hk
  exact ⟨_, fun W => run_index_slice Try.prog _ 46 Try.underlying38 5 (by kernel_rfl) p l.length cap k hk W, h1⟩

/-- A step's bounds. -/
def Stp.okay (x : Stp) : Prop := (Lit.int .i64 x.what).wf = true ∧ (Lit.int .i64 x.place).wf = true ∧ (Lit.int .i64 x.n).wf = true ∧ x.s.length ≤ reachBytes

theorem list_of {α : Type} {P : Nat → α → Prop} : ∀ (n : Nat), (∀ i, i < n → ∃ x, P i x) → ∃ l : List α, l.length = n ∧ ∀ i, (h : i < l.length) → P i l[i]
  | 0, _ => ⟨[], rfl, fun i hi => by simp at hi⟩
  | n + 1, h => by
    obtain ⟨l, hl, hp⟩ := list_of n (fun i hi => h i (by omega))
    obtain ⟨x, hx⟩ := h n (by omega)
    refine ⟨l ++ [x], by simp [hl], fun i hi => ?_⟩
    by_cases hin : i < l.length
    · rw [List.getElem_append_left hin]; exact hp i hin
    · have : i = l.length := by simp at hi; omega
      subst this
      rw [List.getElem_append_right (Nat.le_refl _)]
      simp
      rw [hl]; exact hx

theorem weights_all {H : Type} {P : Program} {e : TypeId} {x : DataW H} {l : List (DataW H)} (h : x ∈ l) {n : Nat} (hn : n ∈ DataW.weights P e x) : n ∈ DataW.weightsAll P e l := by
  induction l with
  | nil => simp at h
  | cons y l ih =>
    simp only [DataW.weightsAll, List.mem_append]
    rcases List.mem_cons.1 h with rfl | h
    · exact .inl hn
    · exact .inr (ih h)

theorem one_at {cs : List Value} {n : Nat} (hl : cs.length = n) (j : Nat) (hj : j < n) : (cs.drop j).take 1 = [cs[j]'(by omega)] := by
  rw [List.drop_eq_getElem_cons (by omega)]
  rfl

set_option maxRecDepth 100000 in
theorem step_of_trod {H : Type} {enc : TypeId × Value → H} {W : World} {base : Nat} {sp : Nat → Bool} {hd : Bool} {n : Nat} {cs : List Value} {y : DataW H × List MemPlace} (q : Addr)
    (hc : W.cells? base q 5 = some cs) (h : DataW.trod enc Try.prog W base sp hd n 46 cs = some y) (hz : ∀ n ∈ DataW.weights Try.prog 46 y.1, n ≤ reachBytes) :
    ∃ x : Stp, StpAt W q x ∧ x.okay := by
  obtain ⟨_, hl, hat⟩ := World.cells?_some hc
  obtain ⟨xs, n', _, rfl, _, hxl, hf⟩ := DataW.trod_struct Try.underlying46 h
  have o1 : Try.prog.cellsOf 3 = 1 := by kernel_rfl
  have o2 : Try.prog.cellsOf 9 = 1 := by kernel_rfl
  have o3 : Try.prog.cellsOf 4 = 1 := by kernel_rfl
  have hxl5 : xs.length = 5 := hxl
  have g0 : DataW.trod enc Try.prog W base sp hd n' 3 ((cs.drop 0).take (Try.prog.cellsOf 3)) = xs[0]? := hf 0 _ rfl
  have g1 : DataW.trod enc Try.prog W base sp hd n' 3 ((cs.drop 1).take (Try.prog.cellsOf 3)) = xs[1]? := hf 1 _ rfl
  have g2 : DataW.trod enc Try.prog W base sp hd n' 3 ((cs.drop 2).take (Try.prog.cellsOf 3)) = xs[2]? := hf 2 _ rfl
  have g3 : DataW.trod enc Try.prog W base sp hd n' 9 ((cs.drop 3).take (Try.prog.cellsOf 9)) = xs[3]? := hf 3 _ rfl
  have g4 : DataW.trod enc Try.prog W base sp hd n' 4 ((cs.drop 4).take (Try.prog.cellsOf 4)) = xs[4]? := hf 4 _ rfl
  rw [o1, one_at hl _ (by omega), List.getElem?_eq_getElem (by omega)] at g0 g1 g2
  rw [o2, one_at hl _ (by omega), List.getElem?_eq_getElem (by omega)] at g3
  rw [o3, one_at hl _ (by omega), List.getElem?_eq_getElem (by omega)] at g4
  obtain ⟨v0, e0, _, w0⟩ := DataW.trod_int Try.underlying3 g0
  obtain ⟨v1, e1, _, w1⟩ := DataW.trod_int Try.underlying3 g1
  obtain ⟨v2, e2, _, w2⟩ := DataW.trod_int Try.underlying3 g2
  obtain ⟨v3, e3, y3, _⟩ := DataW.trod_string Try.underlying9 g3
  obtain ⟨v4, e4, _⟩ := DataW.trod_bool Try.underlying4 g4
  have cell : ∀ j (hj : j < 5) v, [cs[j]'(by omega)] = [v] → W.cell? (q.add j) = some v := fun j hj v e => by
    rw [hat j hj, List.getElem?_eq_getElem (by omega)]
    simpa using e
  have c0 := cell 0 (by omega) _ e0
  refine ⟨⟨v0, v1, v2, v3.data.toList, v4⟩, ⟨?_, c0, cell 1 (by omega) _ e1, cell 2 (by omega) _ e2, cell 3 (by omega) _ e3, cell 4 (by omega) _ e4⟩, w0, w1, w2, ?_⟩
  · have := block_lt_of_cell c0
    rw [add_block] at this
    exact this
  · refine hz _ ?_
    simp only [DataW.weights, Try.underlying46]
    refine DataW.weights_mem_each (j := 3) (t := 9) (d := .lit (.string v3.data.toList)) rfl ?_ _ (by simp [DataW.weights])
    rw [List.getElem?_map, List.getElem?_eq_getElem (by omega), y3]
    rfl

set_option maxRecDepth 100000 in
theorem steps_of_trod {H : Type} {enc : TypeId × Value → H} {W : World} {base : Nat} {v : Value} {d : DataW H} {p : List MemPlace}
    (ho : Value.okWide Try.prog W .any base 38 v) (h : DataW.Trod enc Try.prog W 0 (fun _ => true) true 38 v d p) (hz : ∀ n ∈ DataW.weights Try.prog 38 d, (decide (n ≤ reachBytes)) = true) :
    ∃ (a : Option Addr) (cap : Nat) (l : List Stp), v = .slice a l.length cap ∧ StepsAt W a l ∧ l.length ≤ maxLen ∧ ∀ x ∈ l, x.okay := by
  obtain ⟨a0, len, cap, rfl⟩ := okWide_slice Try.underlying38 ho
  obtain ⟨fuel, hf⟩ := h
  rcases Go.Deep.open_slice Try.underlying38 hf with ⟨hcs, _⟩ | ⟨a, len', cap', m, n, D, Pl, hcs, _, hl, hm, hmm, hx, hi⟩
  · simp [Value.cells] at hcs
    obtain ⟨rfl, rfl, rfl⟩ := hcs
    exact ⟨none, 0, [], rfl, fun i hi => by simp at hi, by simp, by simp⟩
  · simp [Value.cells] at hcs
    obtain ⟨rfl, rfl, rfl⟩ := hcs
    have hC : Try.prog.cellsOf 46 = 5 := by kernel_rfl
    simp only [if_true] at hmm
    subst hmm
    rw [hC] at hi
    simp only [Prod.mk.injEq] at hx
    obtain ⟨rfl, _⟩ := hx
    obtain ⟨l, hll, hP⟩ := list_of (P := fun i x => StpAt W (a.add (i * 5)) x ∧ x.okay) len (fun i hil => by
      obtain ⟨cs', h1, h2⟩ := hi i (by omega)
      exact step_of_trod _ h1 h2 (fun k hk => of_decide_eq_true (hz k (by
        simp only [DataW.weights, Try.underlying38]
        exact List.mem_cons_of_mem _ (List.mem_append_left _ (weights_all (List.mem_map.2 ⟨i, List.mem_range.2 hil, rfl⟩) hk))))))
    refine ⟨some a, m, l, by rw [hll], fun i hil => ⟨a, rfl, (hP i hil).1⟩, by omega, fun x hxm => ?_⟩
    obtain ⟨i, hil, rfl⟩ := List.getElem_of_mem hxm
    exact (hP i hil).2
end Go.Proofs.Ythbdflmckfgleaa
