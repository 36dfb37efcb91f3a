/- What is ranged over: the loose writes, all, or those that a crash keeps. -/
import Derived.Test.YthbdflmckfgleaaDiskWrite
import Derived.RangeFuncNested
import Derived.RangeFuncBound
import Derived.RangeFuncCalls
import Derived.RangeFuncLeaves
import Derived.RangeFuncBox
import Derived.Shelf.Abstract
import Derived.Shelf.RegionOpen
import Derived.WalkKit
import Derived.OwnWalkIn
import Derived.TacticsInMore
import Derived.LoopNIn
import Derived.LoopIn
import Derived.Deep.WholeRow
namespace Go.Proofs.Ythbdflmckfgleaa
open Go.RowKit Go.Maps Go.Shelf
attribute [local go_sem] Oper.semAt_some

/-! ### Loads and stores of whole rows, named, so that the walk does not open them -/
def putLoad (p : Value) : Sem Value := Instr.loadAt 101 p
theorem put_load (p : Value) : Instr.loadAt 101 p = putLoad p := rfl
def putStore (p v : Value) : Sem Unit := Instr.storeAt 101 p v
theorem put_store (p v : Value) : Instr.storeAt 101 p v = putStore p v := rfl
theorem putLoad_mid {W : World} {g o : Nat} {p : Nat × List UInt8} (h : p.2.length = 64) (hr : W.rangeAt g o (Value.int .i64 (p.1 : Int) :: u8cells p.2)) : (putLoad (.pointer (some ⟨g, o, none⟩))).run Try.prog W = .ok (.agg (putRow p)) W := by
  have := run_loadAt_mid (P := Try.prog) W g o 101 _ _ hr Try.underlying101 rfl (put_len p h)
  rw [put_array] at this
  exact this
theorem putLoad_new (W : World) {p : Nat × List UInt8} (h : p.2.length = 64) : (putLoad (.pointer (some ⟨W.heap.size, 0, none⟩))).run Try.prog (W.alloc (.cells (putRow p) 101)) = .ok (.agg (putRow p)) (W.alloc (.cells (putRow p) 101)) := by
  refine putLoad_mid h (fun j v hv => ?_)
  rw [Nat.zero_add, cell_new_row, ← Array.getElem?_toList, putRow_list]
  exact hv
theorem putStore_new (W : World) {p : Nat × List UInt8} (h : p.2.length = 64) (Z : Array Value) (hZ : Z.size = 65) : (putStore (.pointer (some ⟨W.heap.size, 0, none⟩)) (.agg (putRow p))).run Try.prog (W.alloc (.cells Z 101)) = .ok () (W.alloc (.cells (putRow p) 101)) :=
  run_storeAt_new W _ Z (putRow p) (put_size p h) (by rw [hZ, putRow_size p h]) (putRow_one p)
attribute [local go_sem ↓] put_load put_store

/-- A loose write of a disk of N sectors. -/
abbrev Item (N : Nat) := { p : Nat × List UInt8 // p.1 < N ∧ p.2.length = 64 }
def encI {N : Nat} (x : Item N) : Array Value := #[.agg (putRow x.1)]
/-- What a round may turn: the map, and what is new. -/
def MapOr (m n₀ k : Nat) : Prop := k = m ∨ n₀ ≤ k
/-- What a round keeps. -/
def Kp (m n₀ : Nat) (W W' : World) : Prop := Upd (MapOr m n₀) W W'
theorem kp_t {m n₀ : Nat} {A B C : World} (h : Kp m n₀ A B) (k : Kp m n₀ B C) : Kp m n₀ A C := h.trans k (fun _ h => .inl h)
theorem kp_b {m n₀ M : Nat} (hM : n₀ ≤ M) : ∀ (W : World) (l : Nat) (o o' : Obj), M ≤ l → W.heap[l]? = some o → o.isCells = false → o.isWalk = false → Kp m n₀ W (W.putObj l o') := fun W l o o' h _ _ _ => by
  have hg := grownBy_putObj' W l o'
  exact Upd.of_grownBy hg (fun k e => .inr (by cases e; omega))

/-- The loose writes lie behind a slice. -/
structure LooseAt (m n₀ : Nat) (W : World) (lv : Value) (L : List (Nat × List UInt8)) : Prop where
  row : W.ownsRow 0 101 65 lv L.length (looseCells L)
  old : ∀ g, lv.ownBlock = some g → g < n₀ ∧ g ≠ m
  len : ∀ p ∈ L, p.2.length = 64
theorem LooseAt.upd {m n₀ : Nat} {W W' : World} {lv : Value} {L : List (Nat × List UInt8)} (h : LooseAt m n₀ W lv L) (hk : Kp m n₀ W W') : LooseAt m n₀ W' lv L :=
  ⟨ownsRow_upd h.row hk (fun g hg f => by obtain ⟨h1, h2⟩ := h.old g hg; rcases f with f | f; exact h2 f; omega), h.old, h.len⟩

set_option maxRecDepth 100000 in
set_option maxHeartbeats 1000000 in
/-- 'slices.Values(s)': the slice value is boxed; the function value captures the box. -/
theorem values_in (F : Fence) (n : Nat) (hf : F.fn 65) (hro : F.round = none) (a : Option Addr) (len cap : Nat) (w : World) :
    CallsIn F n Try.prog 65 #[.slice a len cap] w fun e w' => e = .returned (.func (.func 97) #[] #[.pointer (some ⟨w.heap.size, 0, none⟩)]) ∧ w' = w.alloc (.cells #[.slice a len cap] 94) := by
  refine callsIn_of_wp Try.func65 rfl hf ?_ hro
  simp only [Try.ntmps65, List.size_toArray, List.length_cons, List.length_nil, Nat.reduceAdd, Nat.reduceSub, Array.replicate_succ, Array.replicate_zero, List.push_toArray, List.append_toArray, List.nil_append, List.cons_append]
  gi_wp2
  go_ret
  exact ⟨rfl, rfl⟩

set_option maxRecDepth 100000 in
set_option maxHeartbeats 2000000 in
/-- What it hands back gives all loose writes, in order. -/
theorem values_stops (F : Fence) (n : Nat) (hf : F.fn 97) (hro : F.round = none) (hn : 1 ≤ n) (N m n₀ Bs : Nat) (lv : Value) (L : List (Item N)) (w : World) (hc : w.cell? ⟨Bs, 0, none⟩ = some lv) (hL : LooseAt m n₀ w lv (L.map (·.1))) (hlen : L.length ≤ 1000000000) :
    SeqStopsK F n Try.prog 97 #[.pointer (some ⟨Bs, 0, none⟩)] (encI (N := N)) (Kp m n₀) (fun ys => ys = L) (fun _ => True) L.length w := fun l J Jx W hW hJ _ hY h0 => by
  have hc' := (hW.cell (p := ⟨Bs, 0, none⟩) (block_lt_of_cell hc)).trans hc
  have hL' : LooseAt m n₀ W lv (L.map (·.1)) := ⟨ownsRow_upd hL.row (Upd.of_below (F := fun _ => False) hW) (fun _ _ f => f), hL.old, hL.len⟩
  obtain ⟨q, cap, rfl⟩ : ∃ q cap, lv = .slice q L.length cap := by
    rcases hL.row.2 with ⟨e1, e2⟩ | ⟨g, cap, _, e1, _⟩
    · rw [List.length_map] at e2; exact ⟨none, 0, by rw [e1, e2]⟩
    · rw [List.length_map] at e1; exact ⟨_, cap, e1⟩
  have HL := Lib.hid hL'
  clear hL hL' hc
  refine callsIn_of_wp Try.func97 rfl hf ?_ hro
  simp only [Try.ntmps97, List.size_toArray, List.length_cons, List.length_nil, Nat.reduceAdd, Nat.reduceSub, Array.replicate_succ, Array.replicate_zero, List.push_toArray, List.append_toArray, List.nil_append, List.cons_append]
  gi_wp2
  gi_loopw [7] (fun i wr => ∃ k : Nat, k ≤ L.length ∧ i = .int .i64 k ∧ J (L.take k) wr ∧ Kp m n₀ W wr)
    (fun i _ => L.length - (intOf i).toNat)
  case atStart => exact ⟨0, Nat.zero_le _, rfl, by rw [List.take_zero]; exact h0, Upd.refl _ _⟩
  case round =>
    obtain ⟨k, hk, rfl, hJs, hnx⟩ := hrel
    by_cases hlt : k < L.length
    · have hlo := (HL.out.upd hnx).row
      obtain ⟨g, rfl⟩ : ∃ g, q = some ⟨g, 0, none⟩ := by
        rcases hlo.2 with ⟨e1, e2⟩ | ⟨g, cap, _, e1, _⟩
        · rw [List.length_map] at e2; omega
        · exact ⟨g, by injection e1⟩
      have hlk : k < (L.map (·.1)).length := by rw [List.length_map]; exact hlt
      have hr := loose_range (by rw [List.length_map] at hlo ⊢; exact hlo) HL.out.len k hlk
      have hidx := run_index_slice Try.prog 94 101 Try.underlying94 65 put_elem ⟨g, 0, none⟩ L.length cap k hlt
      have ead : (⟨g, 0, none⟩ : Addr).add (k * 65) = ⟨g, k * 65, none⟩ := by unfold Addr.add; split <;> simp_all
      rw [ead] at hidx
      rw [List.getElem_map] at hr
      have htk : L.take (k + 1) = L.take k ++ [L[k]] := by rw [List.take_add_one, List.getElem?_eq_getElem hlt]; rfl
      have HTK := Lib.hid htk
      have hl1 := putLoad_mid L[k].2.2 hr
      have hs1 := putStore_new wr L[k].2.2 Try.zeroCells101 put_zeros
      have hl2 := putLoad_new wr L[k].2.2
      generalize L[k] = x at *
      have hJ' : J (L.take k) (wr.alloc (.cells (putRow x.1) 101)) := hJ _ _ _ none hJs (World.grownBy_alloc _ _ none) (fun r e => by cases e)
      obtain ⟨fn, tmps, assign, body, hy, hR⟩ := hY _ x _ hJ' (by rw [List.length_take]; omega)
      unfold encI at hy
      have HNX := Lib.hid hnx
      clear hr hlo ead htk hnx hJs
      gi_wp2
      refine hR.mono ?_
      rintro e W3 (⟨rfl, hJ3, hk3⟩ | ⟨rfl, hJx3⟩)
      · gi_wp2
        go_roundw
        case rel =>
          have h1 : Kp m n₀ wr (wr.alloc (.cells (putRow x.1) 101)) := (Upd.refl _ wr).alloc _
          exact ⟨k + 1, by omega, by simp, by rw [HTK.out]; exact hJ3, kp_t HNX.out (kp_t h1 hk3)⟩
        case measure => simp [intOf]; omega
      · gi_wp2
        refine bodyPost_ret (results_none rfl _ _ _) rfl ?_
        exact ⟨⟨_, rfl⟩, .inr ⟨_, trivial, hJx3⟩⟩
    · obtain rfl : k = L.length := by omega
      gi_wp2
      go_end0
      exact ⟨⟨_, rfl⟩, .inl ⟨_, rfl, by rw [List.take_length] at hJs; exact hJs⟩⟩

/-! ### Those that a crash keeps -/
/-- Does the i-th loose write stay? -/
def stays (keep : List UInt8) (i : Nat) : Bool := decide (keep ≠ []) && (keep.getD (i % keep.length) 0).toNat % 2 == 1
def keptI {α : Type} (keep : List UInt8) : Nat → List α → List α
  | _, [] => []
  | i, p :: l => (if stays keep i then [p] else []) ++ keptI keep (i + 1) l
theorem keptI_map {α β : Type} (f : α → β) (keep : List UInt8) (i : Nat) (l : List α) : (keptI keep i l).map f = keptI keep i (l.map f) := by
  induction l generalizing i with
  | nil => rfl
  | cons p l ih => simp only [keptI, List.map_cons, List.map_append, ih]; split <;> rfl
theorem keptI_from (keep : List UInt8) (i : Nat) (l : List (Nat × List UInt8)) : keptI keep i l = Dsk.keptFrom keep i l := by
  induction l generalizing i with
  | nil => rfl
  | cons p l ih => simp only [keptI, Dsk.keptFrom, ih, stays]; simp
theorem keptI_append {α : Type} (keep : List UInt8) (i : Nat) (a b : List α) : keptI keep i (a ++ b) = keptI keep i a ++ keptI keep (i + a.length) b := by
  induction a generalizing i with
  | nil => rfl
  | cons p a ih => simp only [List.cons_append, keptI, ih, List.append_assoc, List.length_cons, Nat.add_assoc, Nat.add_comm 1]
theorem keptI_length {α : Type} (keep : List UInt8) (i : Nat) (l : List α) : (keptI keep i l).length ≤ l.length := by
  induction l generalizing i with
  | nil => exact Nat.le_refl _
  | cons p l ih => have := ih (i + 1); simp only [keptI, List.length_append, List.length_cons]; split <;> simp <;> omega

set_option maxRecDepth 100000 in
set_option maxHeartbeats 1000000 in
theorem kept_in (F : Fence) (n : Nat) (hf : F.fn 68) (hro : F.round = none) (b : Nat) (keep : List UInt8) (w : World) :
    CallsIn F n Try.prog 68 #[.pointer (some ⟨b, 0, none⟩), .string (bs keep)] w fun e w' => e = .returned (.func (.func 99) #[] #[.pointer (some ⟨w.heap.size, 0, none⟩), .pointer (some ⟨w.heap.size + 1, 0, none⟩)]) ∧ w' = (w.alloc (.cells #[.pointer (some ⟨b, 0, none⟩)] 40)).alloc (.cells #[.string (bs keep)] 9) := by
  refine callsIn_of_wp Try.func68 rfl hf ?_ hro
  simp only [Try.ntmps68, List.size_toArray, List.length_cons, List.length_nil, Nat.reduceAdd, Nat.reduceSub, Array.replicate_succ, Array.replicate_zero, List.push_toArray, List.append_toArray, List.nil_append, List.cons_append]
  gi_wp2
  go_ret
  exact ⟨rfl, rfl⟩

theorem bit_low (y : UInt8) : (bits BinOp.and IntKind.u8 (y.toNat : Int) 1 == 1) = (y.toNat % 2 == 1) := by
  have h : ∀ z : Fin 256, (bits BinOp.and IntKind.u8 (z.val : Int) 1 == 1) = (z.val % 2 == 1) := by decide +kernel
  exact h ⟨y.toNat, y.toNat_lt⟩
theorem grown_drawn (W W' : World) (h1 : W'.os = W.os) (h2 : W'.tape = W.tape) (h3 : W'.output = W.output) (h4 : W'.heap = W.heap) : W.grownBy W' none := ⟨h1, h2, h3, by rw [h4]; exact Nat.le_refl _, fun k _ _ => by rw [h4]⟩

set_option maxRecDepth 100000 in
set_option maxHeartbeats 2000000 in
theorem kept_stops (n : Nat) (hn : 1 ≤ n) (N m n₀ Bd Bk b : Nat) (keep : List UInt8) (lv : Value) (L : List (Item N)) (w : World) (hk1 : Bk < n₀) (hk2 : Bk ≠ m) (hn₀ : n₀ ≤ w.heap.size)
    (hd : w.cell? ⟨Bd, 0, none⟩ = some (.pointer (some ⟨b, 0, none⟩))) (hk : w.cell? ⟨Bk, 0, none⟩ = some (.string (bs keep))) (hc : w.cell? ⟨b, 2, none⟩ = some lv) (hL : LooseAt m n₀ w lv (L.map (·.1))) (hlen : L.length ≤ 1000000000) (hkl : keep.length ≤ 1000000000) :
    SeqStopsK Fence.wide n Try.prog 99 #[.pointer (some ⟨Bd, 0, none⟩), .pointer (some ⟨Bk, 0, none⟩)] (encI (N := N)) (Kp m n₀) (fun ys => ys = keptI keep 0 L) (fun _ => True) L.length w := fun l J Jx W hW hJ _ hY h0 => by
  have hc' := (hW.cell (p := ⟨b, 2, none⟩) (block_lt_of_cell hc)).trans hc
  have hd' := (hW.cell (p := ⟨Bd, 0, none⟩) (block_lt_of_cell hd)).trans hd
  have hk' := (hW.cell (p := ⟨Bk, 0, none⟩) (block_lt_of_cell hk)).trans hk
  have hL' : LooseAt m n₀ W lv (L.map (·.1)) := ⟨ownsRow_upd hL.row (Upd.of_below (F := fun _ => False) hW) (fun _ _ f => f), hL.old, hL.len⟩
  have hsz := hW.size
  have hmix : Try.prog.follows .mixedOrders = true := by kernel_rfl
  obtain ⟨q, cap, rfl⟩ : ∃ q cap, lv = .slice q L.length cap := by
    rcases hL.row.2 with ⟨e1, e2⟩ | ⟨g, cap, _, e1, _⟩
    · rw [List.length_map] at e2; exact ⟨none, 0, by rw [e1, e2]⟩
    · rw [List.length_map] at e1; exact ⟨_, cap, e1⟩
  have HL := Lib.hid hL'
  have HK := Lib.hid hk'
  clear hL hL' hc hd hk hk' hW
  refine callsIn_of_wp Try.func99 rfl trivial ?_ rfl
  simp only [Try.ntmps99, List.size_toArray, List.length_cons, List.length_nil, Nat.reduceAdd, Nat.reduceSub, Array.replicate_succ, Array.replicate_zero, List.push_toArray, List.append_toArray, List.nil_append, List.cons_append]
  gi_wp2
  gi_loopw [11] (fun i wr => ∃ k : Nat, k ≤ L.length ∧ i = .int .i64 k ∧ J (keptI keep 0 (L.take k)) wr ∧ Kp m n₀ W wr)
    (fun i _ => L.length - (intOf i).toNat)
  case atStart => exact ⟨0, Nat.zero_le _, rfl, by rw [List.take_zero]; exact h0, Upd.refl _ _⟩
  case round =>
    obtain ⟨k, hk, rfl, hJs, hnx⟩ := hrel
    by_cases hlt : k < L.length
    · have hlo := (HL.out.upd hnx).row
      obtain ⟨g, rfl⟩ : ∃ g, q = some ⟨g, 0, none⟩ := by
        rcases hlo.2 with ⟨e1, e2⟩ | ⟨g, cap, _, e1, _⟩
        · rw [List.length_map] at e2; omega
        · exact ⟨g, by injection e1⟩
      have hkr : wr.cell? ⟨Bk, 0, none⟩ = some (.string (bs keep)) := (hnx.cell (p := ⟨Bk, 0, none⟩) (by show Bk < W.heap.size; omega) (fun f => by rcases f with f | f; exact hk2 f; have f' : n₀ ≤ Bk := f; omega)).trans HK.out
      have hkn := ((Below.refl _ wr).alloc (Nat.le_refl _) (.cells (putRow L[k].1) 101)).cell (p := ⟨Bk, 0, none⟩) (block_lt_of_cell hkr)
      rw [hkr] at hkn
      have hlk : k < (L.map (·.1)).length := by rw [List.length_map]; exact hlt
      have hr := loose_range (by rw [List.length_map] at hlo ⊢; exact hlo) HL.out.len k hlk
      have hidx := run_index_slice Try.prog 94 101 Try.underlying94 65 put_elem ⟨g, 0, none⟩ L.length cap k hlt
      have ead : (⟨g, 0, none⟩ : Addr).add (k * 65) = ⟨g, k * 65, none⟩ := by unfold Addr.add; split <;> simp_all
      rw [ead] at hidx
      rw [List.getElem_map] at hr
      have htk : keptI keep 0 (L.take (k + 1)) = keptI keep 0 (L.take k) ++ (if stays keep k then [L[k]] else []) := by
        rw [List.take_add_one, List.getElem?_eq_getElem hlt, keptI_append, List.length_take, Nat.min_eq_left (by omega)]
        simp [keptI]
      have HTK := Lib.hid htk
      have hl1 := putLoad_mid L[k].2.2 hr
      have hs1 := putStore_new wr L[k].2.2 Try.zeroCells101 put_zeros
      have hl2 := putLoad_new wr L[k].2.2
      have HLT := Lib.hid (show (keptI keep 0 (L.take k)).length < L.length by have := keptI_length keep 0 (L.take k); rw [List.length_take] at this; omega)
      generalize L[k] = x at *
      have HJ' := Lib.hid (hJ _ _ _ none hJs (World.grownBy_alloc _ (.cells (putRow x.1) 101) none) (fun r e => by cases e))
      have HNX := Lib.hid hnx
      clear hr hlo ead htk hnx hJs hkr
      by_cases hke : keep = []
      · subst hke
        gi_wp2
        refine wpIn_region_quiet_lit rfl hmix (by kernel_rfl) ?_
        repeat (gi_big_quiet_step (fail))
        refine BigFrame.wpQuietIn_skip ?ha rfl ?_
        case ha => simp [Oper.askedIn, go_sem]; exact fun _ _ _ => trivial
        simp only [Act.put, List.setIfInBounds_toArray, List.set_cons_zero, List.set_cons_succ]
        repeat (gi_big_quiet_step (fail))
        refine wpQuietIn_nil ?_
        rintro _ ⟨nq, rfl⟩
        gi_wp2
        go_roundw
        case rel =>
          have h1 : Kp m n₀ wr (wr.alloc (.cells (putRow x.1) 101)) := (Upd.refl _ wr).alloc _
          refine ⟨k + 1, by omega, by simp, ?_, kp_t HNX.out ⟨h1.os, h1.tape, h1.output, h1.size, h1.block⟩⟩
          rw [HTK.out]
          simp only [stays, List.append_nil, Bool.false_eq_true, ite_false, decide_false, ne_eq, not_true_eq_false, Bool.false_and]
          exact hJ _ _ _ none HJ'.out (grown_drawn _ _ rfl rfl rfl rfl) (fun r e => by cases e)
        case measure => simp [intOf]; omega
      · have hpos : 0 < keep.length := List.length_pos_iff.2 hke
        have hml := Nat.mod_lt k hpos
        have hmod : (k : Int) % (keep.length : Int) = ((k % keep.length : Nat) : Int) := by omega
        have hmodT : (k : Int).tmod (keep.length : Int) = ((k % keep.length : Nat) : Int) := by rw [Int.tmod_eq_emod_of_nonneg (by omega)]; exact hmod
        have hne : keep.isEmpty = false := by
          cases keep with
          | nil => exact absurd rfl hke
          | cons => rfl
        have hst : stays keep k = (keep[k % keep.length].toNat % 2 == 1) := by
          unfold stays
          rw [List.getD_eq_getElem?_getD, List.getElem?_eq_getElem hml]
          simp [hke]
        rw [← bit_low] at hst
        generalize k % keep.length = i at *
        cases hs : stays keep k with
        | false =>
          rw [hs] at hst HTK
          have hbit := hst.symm
          clear hst hs
          gi_wp2
          refine wpIn_region_quiet_lit rfl hmix (by kernel_rfl) ?_
          repeat (gi_big_quiet_step (fail))
          refine BigFrame.wpQuietIn_skip ?ha2 rfl ?_
          case ha2 => simp [Oper.askedIn, go_sem]; exact fun _ _ _ => trivial
          simp only [Act.put, List.setIfInBounds_toArray, List.set_cons_zero, List.set_cons_succ]
          repeat (gi_big_quiet_step (fail))
          refine wpQuietIn_nil ?_
          rintro _ ⟨nq, rfl⟩
          gi_wp2
          go_roundw
          case rel =>
            have h1 : Kp m n₀ wr (wr.alloc (.cells (putRow x.1) 101)) := (Upd.refl _ wr).alloc _
            refine ⟨k + 1, by omega, by simp, ?_, kp_t HNX.out ⟨h1.os, h1.tape, h1.output, h1.size, h1.block⟩⟩
            rw [HTK.out]
            simp only [List.append_nil, Bool.false_eq_true, ite_false]
            exact hJ _ _ _ none HJ'.out (grown_drawn _ _ rfl rfl rfl rfl) (fun r e => by cases e)
          case measure => simp [intOf]; omega
        | true =>
          rw [hs] at hst HTK
          have hbit := hst.symm
          clear hst hs
          have hl3 : (putLoad (.pointer (some ⟨wr.heap.size, 0, none⟩))).run Try.prog (wr.alloc (.cells (putRow x.1) 101)).drew = .ok (.agg (putRow x.1)) (wr.alloc (.cells (putRow x.1) 101)).drew := by
            refine putLoad_mid x.2.2 (fun j v hv => ?_)
            show (wr.alloc _).cell? _ = _
            rw [Nat.zero_add, cell_new_row, ← Array.getElem?_toList, putRow_list]
            exact hv
          have hJ' : J (keptI keep 0 (L.take k)) (wr.alloc (.cells (putRow x.1) 101)).drew := hJ _ _ _ none HJ'.out (grown_drawn _ _ rfl rfl rfl rfl) (fun r e => by cases e)
          obtain ⟨fn, tmps, assign, body, hy, hR⟩ := hY _ x _ hJ' HLT.out
          unfold encI at hy
          have hR' := hR.mono (R' := fun e W' => ∃ c, e = .returned (.bool c) ∧ if c = true then J (keptI keep 0 (L.take k) ++ [x]) W' ∧ Kp m n₀ (wr.alloc (.cells (putRow x.1) 101)).drew W' else Jx (keptI keep 0 (L.take k) ++ [x]) W') (fun e W' h => by
            rcases h with ⟨h1, h2⟩ | ⟨h1, h2⟩
            · exact ⟨true, h1, by rw [if_pos rfl]; exact h2⟩
            · exact ⟨false, h1, by rw [if_neg (by decide)]; exact h2⟩)
          clear hJ' hR
          gi_wp2
          gi_region_with_o (refine hR'.mono ?_; rintro e W3 ⟨c, rfl, hcc⟩)
          all_goals
            clear hR' hy hl3 hl1 hs1 hl2 hidx hbit hkn hmodT hmod hne
            cases c with
            | false =>
              rw [if_neg (by decide)] at hcc
              have HCC := Lib.hid hcc
              clear hcc
              gi_wp2
              refine bodyPost_ret (results_none rfl _ _ _) rfl ?_
              exact ⟨⟨_, rfl⟩, .inr ⟨_, trivial, HCC.out⟩⟩
            | true =>
              rw [if_pos rfl] at hcc
              have HCC := Lib.hid hcc
              clear hcc
              gi_wp2
              go_roundw
              case rel =>
                have h1 : Kp m n₀ wr (wr.alloc (.cells (putRow x.1) 101)).drew := ((Upd.refl _ wr).alloc _).drew
                refine ⟨k + 1, by omega, by simp, ?_, kp_t HNX.out (kp_t h1 HCC.out.2)⟩
                rw [HTK.out]
                exact HCC.out.1
              case measure => simp [intOf]; omega
    · obtain rfl : k = L.length := by omega
      gi_wp2
      go_end0
      exact ⟨⟨_, rfl⟩, .inl ⟨_, rfl, by rw [List.take_length] at hJs; exact hJs⟩⟩
end Go.Proofs.Ythbdflmckfgleaa
