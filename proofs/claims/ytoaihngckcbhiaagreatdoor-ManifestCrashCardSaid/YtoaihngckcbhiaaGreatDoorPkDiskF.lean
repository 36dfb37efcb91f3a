/- DiskF -/
import Derived.Test.YtoaihngckcbhiaaGreatDoorPkDiskRep
import Derived.RangeFuncNested
import Derived.RangeFuncBound
import Derived.RangeFuncCalls
import Derived.RangeFuncLeaves
import Derived.RangeFuncBox
import Derived.Shelf.Abstract
import Derived.Shelf.RegionOpen
import Derived.WalkKit
import Derived.OwnWalkIn
import Derived.TacticsInMore
import Derived.LoopNIn
import Derived.LoopIn
import Derived.Deep.WholeRow
import Derived.Test.YtoaihngckcbhiaaGreatDoorPkRounds
namespace Go.Proofs.YtoaihngckcbhiaaGreatDoor
open Go.RowKit Go.Maps Go.Shelf
attribute [local go_sem] Oper.semAt_some
def putLoad (p : Value) : Sem Value := Instr.loadAt 123 p
theorem put_load (p : Value) : Instr.loadAt 123 p = putLoad p := rfl
def putStore (p v : Value) : Sem Unit := Instr.storeAt 123 p v
theorem put_store (p v : Value) : Instr.storeAt 123 p v = putStore p v := rfl
theorem putLoad_mid {W : World} {g o : Nat} {p : Nat × List UInt8} (h : p.2.length = 64) (hr : W.rangeAt g o (Value.int .i64 (p.1 : Int) :: u8cells p.2)) : (putLoad (.pointer (some ⟨g, o, none⟩))).run Tryz.prog W = .ok (.agg (putRow p)) W := by
  have := run_loadAt_mid (P := Tryz.prog) W g o 123 _ _ hr Tryz.underlying123 rfl (put_len p h)
  rw [put_array] at this
  exact this
theorem putLoad_new (W : World) {p : Nat × List UInt8} (h : p.2.length = 64) : (putLoad (.pointer (some ⟨W.heap.size, 0, none⟩))).run Tryz.prog (W.alloc (.cells (putRow p) 123)) = .ok (.agg (putRow p)) (W.alloc (.cells (putRow p) 123)) := by
  refine putLoad_mid h (fun j v hv => ?_)
  rw [Nat.zero_add, cell_new_row, ← Array.getElem?_toList, putRow_list]
  exact hv
theorem putStore_new (W : World) {p : Nat × List UInt8} (h : p.2.length = 64) (Z : Array Value) (hZ : Z.size = 65) : (putStore (.pointer (some ⟨W.heap.size, 0, none⟩)) (.agg (putRow p))).run Tryz.prog (W.alloc (.cells Z 123)) = .ok () (W.alloc (.cells (putRow p) 123)) :=
  run_storeAt_new W _ Z (putRow p) (put_size p h) (by rw [hZ, putRow_size p h]) (putRow_one p)
attribute [local go_sem ↓] put_load put_store
abbrev Item (N : Nat) := { p : Nat × List UInt8 // p.1 < N ∧ p.2.length = 64 }
def encI {N : Nat} (x : Item N) : Array Value := #[.agg (putRow x.1)]
def MapOr (m n₀ k : Nat) : Prop := k = m ∨ n₀ ≤ k
def Kp (m n₀ : Nat) (W W' : World) : Prop := Upd (MapOr m n₀) W W'
theorem kp_t {m n₀ : Nat} {A B C : World} (h : Kp m n₀ A B) (k : Kp m n₀ B C) : Kp m n₀ A C := h.trans k (fun _ h => .inl h)
theorem kp_b {m n₀ M : Nat} (hM : n₀ ≤ M) : ∀ (W : World) (l : Nat) (o o' : Obj), M ≤ l → W.heap[l]? = some o → o.isCells = false → o.isWalk = false → Kp m n₀ W (W.putObj l o') := fun W l o o' h _ _ _ => by
  have hg := grownBy_putObj' W l o'
  exact Upd.of_grownBy hg (fun k e => .inr (by cases e; omega))
structure LooseAt (m n₀ : Nat) (W : World) (lv : Value) (L : List (Nat × List UInt8)) : Prop where
  row : W.ownsRow 0 123 65 lv L.length (looseCells L)
  old : ∀ g, lv.ownBlock = some g → g < n₀ ∧ g ≠ m
  len : ∀ p ∈ L, p.2.length = 64
theorem LooseAt.upd {m n₀ : Nat} {W W' : World} {lv : Value} {L : List (Nat × List UInt8)} (h : LooseAt m n₀ W lv L) (hk : Kp m n₀ W W') : LooseAt m n₀ W' lv L :=
  ⟨ownsRow_upd h.row hk (fun g hg f => by obtain ⟨h1, h2⟩ := h.old g hg; rcases f with f | f; exact h2 f; omega), h.old, h.len⟩
set_option maxRecDepth 100000 in
set_option maxHeartbeats 1000000 in
theorem values_in (F : Fence) (n : Nat) (hf : F.fn 122) (hro : F.round = none) (a : Option Addr) (len cap : Nat) (w : World) :
    CallsIn F n Tryz.prog 122 #[.slice a len cap] w fun e w' => e = .returned (.func (.func 152) #[] #[.pointer (some ⟨w.heap.size, 0, none⟩)]) ∧ w' = w.alloc (.cells #[.slice a len cap] 70) := by
  refine callsIn_of_wp Tryz.func122 rfl hf ?_ hro
  simp only [Tryz.ntmps122, List.size_toArray, List.length_cons, List.length_nil, Nat.reduceAdd, Nat.reduceSub, Array.replicate_succ, Array.replicate_zero, List.push_toArray, List.append_toArray, List.nil_append, List.cons_append]
  gi_wp2
  go_ret
  exact ⟨rfl, rfl⟩
set_option maxRecDepth 100000 in
set_option maxHeartbeats 2000000 in
theorem values_stops (F : Fence) (n : Nat) (hf : F.fn 152) (hro : F.round = none) (hn : 1 ≤ n) (N m n₀ Bs : Nat) (lv : Value) (L : List (Item N)) (w : World) (hc : w.cell? ⟨Bs, 0, none⟩ = some lv) (hL : LooseAt m n₀ w lv (L.map (·.1))) (hlen : L.length ≤ 1000000000) :
    SeqStopsK F n Tryz.prog 152 #[.pointer (some ⟨Bs, 0, none⟩)] (encI (N := N)) (Kp m n₀) (fun ys => ys = L) (fun _ => True) L.length w := fun l J Jx W hW hJ _ hY h0 => by
  have hc' := (hW.cell (p := ⟨Bs, 0, none⟩) (block_lt_of_cell hc)).trans hc
  have hL' : LooseAt m n₀ W lv (L.map (·.1)) := ⟨ownsRow_upd hL.row (Upd.of_below (F := fun _ => False) hW) (fun _ _ f => f), hL.old, hL.len⟩
  obtain ⟨q, cap, rfl⟩ : ∃ q cap, lv = .slice q L.length cap := by
    rcases hL.row.2 with ⟨e1, e2⟩ | ⟨g, cap, _, e1, _⟩
    · rw [List.length_map] at e2; exact ⟨none, 0, by rw [e1, e2]⟩
    · rw [List.length_map] at e1; exact ⟨_, cap, e1⟩
  have HL := Lib.hid hL'
  clear hL hL' hc
  refine callsIn_of_wp Tryz.func152 rfl hf ?_ hro
  simp only [Tryz.ntmps152, List.size_toArray, List.length_cons, List.length_nil, Nat.reduceAdd, Nat.reduceSub, Array.replicate_succ, Array.replicate_zero, List.push_toArray, List.append_toArray, List.nil_append, List.cons_append]
  gi_wp2
  gi_loopw [7] (fun i wr => ∃ k : Nat, k ≤ L.length ∧ i = .int .i64 k ∧ J (L.take k) wr ∧ Kp m n₀ W wr)
    (fun i _ => L.length - (intOf i).toNat)
  case atStart => exact ⟨0, Nat.zero_le _, rfl, by rw [List.take_zero]; exact h0, Upd.refl _ _⟩
  case round =>
    obtain ⟨k, hk, rfl, hJs, hnx⟩ := hrel
    by_cases hlt : k < L.length
    · have hlo := (HL.out.upd hnx).row
      obtain ⟨g, rfl⟩ : ∃ g, q = some ⟨g, 0, none⟩ := by
        rcases hlo.2 with ⟨e1, e2⟩ | ⟨g, cap, _, e1, _⟩
        · rw [List.length_map] at e2; omega
        · exact ⟨g, by injection e1⟩
      have hlk : k < (L.map (·.1)).length := by rw [List.length_map]; exact hlt
      have hr := loose_range (by rw [List.length_map] at hlo ⊢; exact hlo) HL.out.len k hlk
      have hidx := run_index_slice Tryz.prog 70 123 Tryz.underlying70 65 put_elem ⟨g, 0, none⟩ L.length cap k hlt
      have ead : (⟨g, 0, none⟩ : Addr).add (k * 65) = ⟨g, k * 65, none⟩ := by unfold Addr.add; split <;> simp_all
      rw [ead] at hidx
      rw [List.getElem_map] at hr
      have htk : L.take (k + 1) = L.take k ++ [L[k]] := by rw [List.take_add_one, List.getElem?_eq_getElem hlt]; rfl
      have HTK := Lib.hid htk
      have hl1 := putLoad_mid L[k].2.2 hr
      have hs1 := putStore_new wr L[k].2.2 Tryz.zeroCells123 put_zeros
      have hl2 := putLoad_new wr L[k].2.2
      generalize L[k] = x at *
      have hJ' : J (L.take k) (wr.alloc (.cells (putRow x.1) 123)) := hJ _ _ _ none hJs (World.grownBy_alloc _ _ none) (fun r e => by cases e)
      obtain ⟨fn, tmps, assign, body, hy, hR⟩ := hY _ x _ hJ' (by rw [List.length_take]; omega)
      unfold encI at hy
      have HNX := Lib.hid hnx
      clear hr hlo ead htk hnx hJs
      gi_wp2
      refine hR.mono ?_
      rintro e W3 (⟨rfl, hJ3, hk3⟩ | ⟨rfl, hJx3⟩)
      · gi_wp2
        go_roundw
        case rel =>
          have h1 : Kp m n₀ wr (wr.alloc (.cells (putRow x.1) 123)) := (Upd.refl _ wr).alloc _
          exact ⟨k + 1, by omega, by simp, by rw [HTK.out]; exact hJ3, kp_t HNX.out (kp_t h1 hk3)⟩
        case measure => simp [intOf]; omega
      · gi_wp2
        refine bodyPost_ret (results_none rfl _ _ _) rfl ?_
        exact ⟨⟨_, rfl⟩, .inr ⟨_, trivial, hJx3⟩⟩
    · obtain rfl : k = L.length := by omega
      gi_wp2
      go_end0
      exact ⟨⟨_, rfl⟩, .inl ⟨_, rfl, by rw [List.take_length] at hJs; exact hJs⟩⟩
def stays (keep : List UInt8) (i : Nat) : Bool := decide (keep ≠ []) && (keep.getD (i % keep.length) 0).toNat % 2 == 1
def keptI {α : Type} (keep : List UInt8) : Nat → List α → List α
  | _, [] => []
  | i, p :: l => (if stays keep i then [p] else []) ++ keptI keep (i + 1) l
theorem keptI_map {α β : Type} (f : α → β) (keep : List UInt8) (i : Nat) (l : List α) : (keptI keep i l).map f = keptI keep i (l.map f) := by
  induction l generalizing i with
  | nil => rfl
  | cons p l ih => simp only [keptI, List.map_cons, List.map_append, ih]; split <;> rfl
theorem keptI_from (keep : List UInt8) (i : Nat) (l : List (Nat × List UInt8)) : keptI keep i l = Dsk.keptFrom keep i l := by
  induction l generalizing i with
  | nil => rfl
  | cons p l ih => simp only [keptI, Dsk.keptFrom, ih, stays]; simp
theorem keptI_append {α : Type} (keep : List UInt8) (i : Nat) (a b : List α) : keptI keep i (a ++ b) = keptI keep i a ++ keptI keep (i + a.length) b := by
  induction a generalizing i with
  | nil => rfl
  | cons p a ih => simp only [List.cons_append, keptI, ih, List.append_assoc, List.length_cons, Nat.add_assoc, Nat.add_comm 1]
theorem keptI_length {α : Type} (keep : List UInt8) (i : Nat) (l : List α) : (keptI keep i l).length ≤ l.length := by
  induction l generalizing i with
  | nil => exact Nat.le_refl _
  | cons p l ih => have := ih (i + 1); simp only [keptI, List.length_append, List.length_cons]; split <;> simp <;> omega
set_option maxRecDepth 100000 in
set_option maxHeartbeats 1000000 in
theorem kept_in (F : Fence) (n : Nat) (hf : F.fn 25) (hro : F.round = none) (b : Nat) (keep : List UInt8) (w : World) :
    CallsIn F n Tryz.prog 25 #[.pointer (some ⟨b, 0, none⟩), .string (bs keep)] w fun e w' => e = .returned (.func (.func 58) #[] #[.pointer (some ⟨w.heap.size, 0, none⟩), .pointer (some ⟨w.heap.size + 1, 0, none⟩)]) ∧ w' = (w.alloc (.cells #[.pointer (some ⟨b, 0, none⟩)] 36)).alloc (.cells #[.string (bs keep)] 9) := by
  refine callsIn_of_wp Tryz.func25 rfl hf ?_ hro
  simp only [Tryz.ntmps25, List.size_toArray, List.length_cons, List.length_nil, Nat.reduceAdd, Nat.reduceSub, Array.replicate_succ, Array.replicate_zero, List.push_toArray, List.append_toArray, List.nil_append, List.cons_append]
  gi_wp2
  go_ret
  exact ⟨rfl, rfl⟩
theorem bit_low (y : UInt8) : (bits BinOp.and IntKind.u8 (y.toNat : Int) 1 == 1) = (y.toNat % 2 == 1) := by
  have h : ∀ z : Fin 256, (bits BinOp.and IntKind.u8 (z.val : Int) 1 == 1) = (z.val % 2 == 1) := by decide +kernel
  exact h ⟨y.toNat, y.toNat_lt⟩
theorem grown_drawn (W W' : World) (h1 : W'.os = W.os) (h2 : W'.tape = W.tape) (h3 : W'.output = W.output) (h4 : W'.heap = W.heap) : W.grownBy W' none := ⟨h1, h2, h3, by rw [h4]; exact Nat.le_refl _, fun k _ _ => by rw [h4]⟩
set_option maxRecDepth 100000 in
set_option maxHeartbeats 2000000 in
theorem kept_stops (n : Nat) (hn : 1 ≤ n) (N m n₀ Bd Bk b : Nat) (keep : List UInt8) (lv : Value) (L : List (Item N)) (w : World) (hk1 : Bk < n₀) (hk2 : Bk ≠ m) (hn₀ : n₀ ≤ w.heap.size)
    (hd : w.cell? ⟨Bd, 0, none⟩ = some (.pointer (some ⟨b, 0, none⟩))) (hk : w.cell? ⟨Bk, 0, none⟩ = some (.string (bs keep))) (hc : w.cell? ⟨b, 2, none⟩ = some lv) (hL : LooseAt m n₀ w lv (L.map (·.1))) (hlen : L.length ≤ 1000000000) (hkl : keep.length ≤ 1000000000) :
    SeqStopsK Fence.wide n Tryz.prog 58 #[.pointer (some ⟨Bd, 0, none⟩), .pointer (some ⟨Bk, 0, none⟩)] (encI (N := N)) (Kp m n₀) (fun ys => ys = keptI keep 0 L) (fun _ => True) L.length w := fun l J Jx W hW hJ _ hY h0 => by
  have hc' := (hW.cell (p := ⟨b, 2, none⟩) (block_lt_of_cell hc)).trans hc
  have hd' := (hW.cell (p := ⟨Bd, 0, none⟩) (block_lt_of_cell hd)).trans hd
  have hk' := (hW.cell (p := ⟨Bk, 0, none⟩) (block_lt_of_cell hk)).trans hk
  have hL' : LooseAt m n₀ W lv (L.map (·.1)) := ⟨ownsRow_upd hL.row (Upd.of_below (F := fun _ => False) hW) (fun _ _ f => f), hL.old, hL.len⟩
  have hsz := hW.size
  have hmix : Tryz.prog.follows .mixedOrders = true := by kernel_rfl
  obtain ⟨q, cap, rfl⟩ : ∃ q cap, lv = .slice q L.length cap := by
    rcases hL.row.2 with ⟨e1, e2⟩ | ⟨g, cap, _, e1, _⟩
    · rw [List.length_map] at e2; exact ⟨none, 0, by rw [e1, e2]⟩
    · rw [List.length_map] at e1; exact ⟨_, cap, e1⟩
  have HL := Lib.hid hL'
  have HK := Lib.hid hk'
  clear hL hL' hc hd hk hk' hW
  refine callsIn_of_wp Tryz.func58 rfl trivial ?_ rfl
  simp only [Tryz.ntmps58, List.size_toArray, List.length_cons, List.length_nil, Nat.reduceAdd, Nat.reduceSub, Array.replicate_succ, Array.replicate_zero, List.push_toArray, List.append_toArray, List.nil_append, List.cons_append]
  gi_wp2
  gi_loopw [11] (fun i wr => ∃ k : Nat, k ≤ L.length ∧ i = .int .i64 k ∧ J (keptI keep 0 (L.take k)) wr ∧ Kp m n₀ W wr)
    (fun i _ => L.length - (intOf i).toNat)
  case atStart => exact ⟨0, Nat.zero_le _, rfl, by rw [List.take_zero]; exact h0, Upd.refl _ _⟩
  case round =>
    obtain ⟨k, hk, rfl, hJs, hnx⟩ := hrel
    by_cases hlt : k < L.length
    · have hlo := (HL.out.upd hnx).row
      obtain ⟨g, rfl⟩ : ∃ g, q = some ⟨g, 0, none⟩ := by
        rcases hlo.2 with ⟨e1, e2⟩ | ⟨g, cap, _, e1, _⟩
        · rw [List.length_map] at e2; omega
        · exact ⟨g, by injection e1⟩
      have hkr : wr.cell? ⟨Bk, 0, none⟩ = some (.string (bs keep)) := (hnx.cell (p := ⟨Bk, 0, none⟩) (by show Bk < W.heap.size; omega) (fun f => by rcases f with f | f; exact hk2 f; have f' : n₀ ≤ Bk := f; omega)).trans HK.out
      have hkn := ((Below.refl _ wr).alloc (Nat.le_refl _) (.cells (putRow L[k].1) 123)).cell (p := ⟨Bk, 0, none⟩) (block_lt_of_cell hkr)
      rw [hkr] at hkn
      have hlk : k < (L.map (·.1)).length := by rw [List.length_map]; exact hlt
      have hr := loose_range (by rw [List.length_map] at hlo ⊢; exact hlo) HL.out.len k hlk
      have hidx := run_index_slice Tryz.prog 70 123 Tryz.underlying70 65 put_elem ⟨g, 0, none⟩ L.length cap k hlt
      have ead : (⟨g, 0, none⟩ : Addr).add (k * 65) = ⟨g, k * 65, none⟩ := by unfold Addr.add; split <;> simp_all
      rw [ead] at hidx
      rw [List.getElem_map] at hr
      have htk : keptI keep 0 (L.take (k + 1)) = keptI keep 0 (L.take k) ++ (if stays keep k then [L[k]] else []) := by
        rw [List.take_add_one, List.getElem?_eq_getElem hlt, keptI_append, List.length_take, Nat.min_eq_left (by omega)]
        simp [keptI]
      have HTK := Lib.hid htk
      have hl1 := putLoad_mid L[k].2.2 hr
      have hs1 := putStore_new wr L[k].2.2 Tryz.zeroCells123 put_zeros
      have hl2 := putLoad_new wr L[k].2.2
      have HLT := Lib.hid (show (keptI keep 0 (L.take k)).length < L.length by have := keptI_length keep 0 (L.take k); rw [List.length_take] at this; omega)
      generalize L[k] = x at *
      have HJ' := Lib.hid (hJ _ _ _ none hJs (World.grownBy_alloc _ (.cells (putRow x.1) 123) none) (fun r e => by cases e))
      have HNX := Lib.hid hnx
      clear hr hlo ead htk hnx hJs hkr
      by_cases hke : keep = []
      · subst hke
        gi_wp2
        refine wpIn_region_quiet_lit rfl hmix (by kernel_rfl) ?_
        repeat (gi_big_quiet_step (fail))
        refine BigFrame.wpQuietIn_skip ?ha rfl ?_
        case ha => simp [Oper.askedIn, go_sem]; exact fun _ _ _ => trivial
        simp only [Act.put, List.setIfInBounds_toArray, List.set_cons_zero, List.set_cons_succ]
        repeat (gi_big_quiet_step (fail))
        refine wpQuietIn_nil ?_
        rintro _ ⟨nq, rfl⟩
        gi_wp2
        go_roundw
        case rel =>
          have h1 : Kp m n₀ wr (wr.alloc (.cells (putRow x.1) 123)) := (Upd.refl _ wr).alloc _
          refine ⟨k + 1, by omega, by simp, ?_, kp_t HNX.out ⟨h1.os, h1.tape, h1.output, h1.size, h1.block⟩⟩
          rw [HTK.out]
          simp only [stays, List.append_nil, Bool.false_eq_true, ite_false, decide_false, ne_eq, not_true_eq_false, Bool.false_and]
          exact hJ _ _ _ none HJ'.out (grown_drawn _ _ rfl rfl rfl rfl) (fun r e => by cases e)
        case measure => simp [intOf]; omega
      · have hpos : 0 < keep.length := List.length_pos_iff.2 hke
        have hml := Nat.mod_lt k hpos
        have hmod : (k : Int) % (keep.length : Int) = ((k % keep.length : Nat) : Int) := by omega
        have hmodT : (k : Int).tmod (keep.length : Int) = ((k % keep.length : Nat) : Int) := by rw [Int.tmod_eq_emod_of_nonneg (by omega)]; exact hmod
        have hne : keep.isEmpty = false := by
          cases keep with
          | nil => exact absurd rfl hke
          | cons => rfl
        have hst : stays keep k = (keep[k % keep.length].toNat % 2 == 1) := by
          unfold stays
          rw [List.getD_eq_getElem?_getD, List.getElem?_eq_getElem hml]
          simp [hke]
        rw [← bit_low] at hst
        generalize k % keep.length = i at *
        cases hs : stays keep k with
        | false =>
          rw [hs] at hst HTK
          have hbit := hst.symm
          clear hst hs
          gi_wp2
          refine wpIn_region_quiet_lit rfl hmix (by kernel_rfl) ?_
          repeat (gi_big_quiet_step (fail))
          refine BigFrame.wpQuietIn_skip ?ha2 rfl ?_
          case ha2 => simp [Oper.askedIn, go_sem]; exact fun _ _ _ => trivial
          simp only [Act.put, List.setIfInBounds_toArray, List.set_cons_zero, List.set_cons_succ]
          repeat (gi_big_quiet_step (fail))
          refine wpQuietIn_nil ?_
          rintro _ ⟨nq, rfl⟩
          gi_wp2
          go_roundw
          case rel =>
            have h1 : Kp m n₀ wr (wr.alloc (.cells (putRow x.1) 123)) := (Upd.refl _ wr).alloc _
            refine ⟨k + 1, by omega, by simp, ?_, kp_t HNX.out ⟨h1.os, h1.tape, h1.output, h1.size, h1.block⟩⟩
            rw [HTK.out]
            simp only [List.append_nil, Bool.false_eq_true, ite_false]
            exact hJ _ _ _ none HJ'.out (grown_drawn _ _ rfl rfl rfl rfl) (fun r e => by cases e)
          case measure => simp [intOf]; omega
        | true =>
          rw [hs] at hst HTK
          have hbit := hst.symm
          clear hst hs
          have hl3 : (putLoad (.pointer (some ⟨wr.heap.size, 0, none⟩))).run Tryz.prog (wr.alloc (.cells (putRow x.1) 123)).drew = .ok (.agg (putRow x.1)) (wr.alloc (.cells (putRow x.1) 123)).drew := by
            refine putLoad_mid x.2.2 (fun j v hv => ?_)
            show (wr.alloc _).cell? _ = _
            rw [Nat.zero_add, cell_new_row, ← Array.getElem?_toList, putRow_list]
            exact hv
          have hJ' : J (keptI keep 0 (L.take k)) (wr.alloc (.cells (putRow x.1) 123)).drew := hJ _ _ _ none HJ'.out (grown_drawn _ _ rfl rfl rfl rfl) (fun r e => by cases e)
          obtain ⟨fn, tmps, assign, body, hy, hR⟩ := hY _ x _ hJ' HLT.out
          unfold encI at hy
          have hR' := hR.mono (R' := fun e W' => ∃ c, e = .returned (.bool c) ∧ if c = true then J (keptI keep 0 (L.take k) ++ [x]) W' ∧ Kp m n₀ (wr.alloc (.cells (putRow x.1) 123)).drew W' else Jx (keptI keep 0 (L.take k) ++ [x]) W') (fun e W' h => by
            rcases h with ⟨h1, h2⟩ | ⟨h1, h2⟩
            · exact ⟨true, h1, by rw [if_pos rfl]; exact h2⟩
            · exact ⟨false, h1, by rw [if_neg (by decide)]; exact h2⟩)
          clear hJ' hR
          gi_wp2
          gi_region_with_o (refine hR'.mono ?_; rintro e W3 ⟨c, rfl, hcc⟩)
          all_goals
            clear hR' hy hl3 hl1 hs1 hl2 hidx hbit hkn hmodT hmod hne
            cases c with
            | false =>
              rw [if_neg (by decide)] at hcc
              have HCC := Lib.hid hcc
              clear hcc
              gi_wp2
              refine bodyPost_ret (results_none rfl _ _ _) rfl ?_
              exact ⟨⟨_, rfl⟩, .inr ⟨_, trivial, HCC.out⟩⟩
            | true =>
              rw [if_pos rfl] at hcc
              have HCC := Lib.hid hcc
              clear hcc
              gi_wp2
              go_roundw
              case rel =>
                have h1 : Kp m n₀ wr (wr.alloc (.cells (putRow x.1) 123)).drew := ((Upd.refl _ wr).alloc _).drew
                refine ⟨k + 1, by omega, by simp, ?_, kp_t HNX.out (kp_t h1 HCC.out.2)⟩
                rw [HTK.out]
                exact HCC.out.1
              case measure => simp [intOf]; omega
    · obtain rfl : k = L.length := by omega
      gi_wp2
      go_end0
      exact ⟨⟨_, rfl⟩, .inl ⟨_, rfl, by rw [List.take_length] at hJs; exact hJs⟩⟩
end Go.Proofs.YtoaihngckcbhiaaGreatDoor
namespace Go.Proofs.YtoaihngckcbhiaaGreatDoor
open Go.RowKit Go.Maps Go.Shelf
attribute [local go_sem] Oper.semAt_some
attribute [local go_sem ↓] put_load put_store sec_load
def laid (D : Dsk) (pre : List (Item D.n)) : Dsk := { D with base := Dsk.lay D.base (pre.map (·.1)) }
theorem laid_snoc (D : Dsk) (pre : List (Item D.n)) (x : Item D.n) : laid D (pre ++ [x]) = { laid D pre with base := fun k => if k = x.1.1 then x.1.2 else (laid D pre).base k } := by
  unfold laid
  rw [List.map_append, List.map_cons, List.map_nil, Dsk.lay_snoc]
theorem laid_fine {D : Dsk} (h : D.Fine) (pre : List (Item D.n)) : (laid D pre).Fine :=
  ⟨h.n1, h.n2, Dsk.lay_length h.base (fun p hp => by obtain ⟨y, _, rfl⟩ := List.mem_map.1 hp; exact y.2), h.loose, h.left⟩
theorem DiskIn.put {w : World} {b m : Nat} {lv : Value} {D : Dsk} (h : DiskIn w b m lv D) {f : Nat → List UInt8} {w' : World} (hs : SecMap w' m D.n f) (hg : w.grownBy w' (some m)) (hf : Dsk.Fine { D with base := f }) : DiskIn w' b m lv { D with base := f } := by
  have hu : Upd (fun k => k = m) w w' := Upd.of_grownBy hg (fun k e => by cases e; rfl)
  refine ⟨?_, hs, ownsRow_upd h.loose hu (fun g hgg e => h.lm (by rw [hgg, e])), h.mb, h.lb, h.lm, hf⟩
  rw [hu.block b (Array.getElem?_eq_some_iff.1 h.struct).1 (Ne.symm h.mb)]
  exact h.struct
theorem secLoad_mid {W : World} {g o : Nat} {x : List UInt8} (h : x.length = 64) (hr : W.rangeAt g o (u8cells x)) : (secLoad (.pointer (some ⟨g, o, none⟩))).run Tryz.prog W = .ok (.agg (u8row x)) W := by
  have := run_loadAt_mid (P := Tryz.prog) W g o 121 _ _ hr Tryz.underlying121 rfl (sec_len x h)
  rw [u8cells_array] at this
  exact this
set_option maxRecDepth 100000 in
set_option maxHeartbeats 2000000 in
theorem lay_in {w : World} {b m : Nat} {lv : Value} {D : Dsk} (h : DiskIn w b m lv D) {gf : Nat} {lb : Array Value} (he : ∀ args w, (callFunc gf args).run Tryz.prog w = .ok (.enter gf args) w) {n₀ : Nat} (hn₀ : n₀ ≤ w.heap.size) {L : List (Item D.n)} {N n : Nat} (hn : 3 ≤ n)
    (hs : SeqStopsK Fence.wide (n - 1) Tryz.prog gf lb (encI (N := D.n)) (Kp m n₀) (fun ys => ys = L) (fun _ => True) N w) :
    CallsIn Fence.wide n Tryz.prog 24 #[.pointer (some ⟨b, 0, none⟩), .func (.func gf) #[] lb] w fun e w' => (∃ v, e = .returned v) ∧ DiskIn w' b m lv (laid D L) ∧ Upd (fun k => k = m) w w' := by
  have h1 : 1 ≤ n := by omega
  have hmix : Tryz.prog.follows .mixedOrders = true := by kernel_rfl
  have hfine := h.fine
  have HD := Lib.hid h
  have hb : b < w.heap.size := (Array.getElem?_eq_some_iff.1 h.struct).1
  have hm : m < w.heap.size := h.base.lt
  clear h
  refine callsIn_of_wp_marks Tryz.func24 rfl trivial ?_ rfl
  simp only [Tryz.ntmps24, List.size_toArray, List.length_cons, List.length_nil, Nat.reduceAdd, Nat.reduceSub, Array.replicate_succ, Array.replicate_zero, List.push_toArray, List.append_toArray, List.nil_append, List.cons_append]
  gi_wp2
  have hbox := Boxed.new w 36 (.pointer (some ⟨b, 0, none⟩))
  have hU0 : Upd (fun k => k = m) w (w.alloc (.cells #[.pointer (some ⟨b, 0, none⟩)] 36)) := (Upd.refl _ w).alloc _
  have hD0 : DiskIn (w.alloc (.cells #[.pointer (some ⟨b, 0, none⟩)] 36)) b m lv (laid D []) := HD.out.upd ((Upd.refl (fun _ => False) w).alloc _) (fun _ _ f => f)
  have hsz : (w.alloc (.cells #[.pointer (some ⟨b, 0, none⟩)] 36)).heap.size = w.heap.size + 1 := World.size_alloc _ _
  refine wpIn_rangeFunc_ownH rfl h1 (gf := gf) (lb := lb) rfl trivial he hs kp_t (kp_b (by omega)) ((Below.refl _ w).alloc (Nat.le_refl _) _) (fun _ => rfl)
    (fun pre W => (DiskIn W b m lv (laid D pre) ∧ Boxed W w.heap.size 36 (.pointer (some ⟨b, 0, none⟩))) ∧ Upd (fun k => k = m) w W)
    (fun _ _ _ => False)
    (fun s A B row hs hg hr => ?hown)
    (fun _ _ _ _ _ hs _ _ => hs)
    ⟨⟨hD0, hbox⟩, hU0⟩
    (fun x a' W => ∃ Bx, w.heap.size < Bx ∧ W.heap[Bx]? = some (.cells (putRow x.1) 123 (0, 0)) ∧ a' = { tmps := #[.pointer (some ⟨b, 0, none⟩), .func (.func gf) #[] lb, .pointer (some ⟨w.heap.size, 0, none⟩), undef, .pointer (some ⟨Bx, 0, none⟩), .func (.func gf) #[] lb, .agg (putRow x.1), undef, undef, undef, undef, undef, undef, undef, undef], defers := [] })
    (fun x a' _ X Y row hs hg hr => ?hAx)
    ?assign ?body ?done ?stop
  case hown =>
    have hu : Upd (fun k => w.heap.size + 1 ≤ k) A B := Upd.of_grownBy hg (fun k e => by have := (hr k e).1; omega)
    obtain ⟨⟨g1, g2⟩, g3⟩ := hs
    refine ⟨⟨g1.upd hu (fun k hk => ?_), g2.kept hg (fun e => ?_)⟩, g3.trans hu (fun i hi => .inr (by omega))⟩
    · rcases hk with rfl | rfl | hk
      · omega
      · omega
      · have := ownsRow_lt HD.out.loose hk; omega
    · have := (hr _ e.symm).1
      omega
  case hAx =>
    obtain ⟨Bx, g1, g2, g3⟩ := hs
    refine ⟨Bx, g1, (hg.block Bx (Array.getElem?_eq_some_iff.1 g2).1 (fun e => ?_)).trans g2, g3⟩
    obtain ⟨_, o, ho, hc⟩ := hr Bx e.symm
    rw [g2] at ho
    cases ho
    cases hc
  case assign =>
    rintro l pre x W K ⟨⟨hD, hB⟩, hU⟩ hK
    have hs1 := putStore_new W x.2.2 Tryz.zeroCells123 put_zeros
    unfold encI
    gi_wp2
    exact hK _ _ ((KeepsOthers.alloc _ _).from _) ((Upd.refl _ W).alloc _) ⟨⟨hD.upd ((Upd.refl (fun _ => False) W).alloc _) (fun _ _ f => f), hB.alloc _⟩, hU.alloc _⟩ ⟨W.heap.size, hB.lt, World.alloc_heap_new W _, rfl⟩
  case body =>
    rintro l pre x a' W hl ⟨r, hr⟩ ⟨⟨hD, hB⟩, hU⟩ ⟨Bx, hBx, hx, rfl⟩ hlt
    have c0 := hB.cell
    obtain ⟨_, c1, _, _, _, _⟩ := hD.cells
    have hx0 : W.cell? ⟨Bx, 0, none⟩ = some (.int .i64 (x.1.1 : Int)) := by rw [cell_of_row W Bx 0 _ _ _ hx]; exact putRow_zero x.1
    have hxs : W.rangeAt Bx 1 (u8cells x.1.2) := fun j v hv => by
      rw [cell_of_row W Bx (1 + j) _ _ _ hx, ← Array.getElem?_toList, putRow_list, Nat.add_comm 1 j]
      exact hv
    have hls := secLoad_mid (W := W.drew) x.2.2 (fun j v hv => hxs j v hv)
    obtain ⟨w2, hput, hS2, hg2⟩ := SecMap.put (w := W.drew) (hD.base.kept rfl) x.1.1 x.2.1 (by exact hD.fine.n2) x.1.2
    gi_wp2
    refine wpIn_region_any hmix ?_
    refine wpAnyIn_reads (m := 8) (d := 7) (vals := #[.pointer (some ⟨b, 0, none⟩), .pointer (some ⟨b, 0, none⟩), .pointer (some ⟨b, 1, none⟩), .map (some m), .pointer (some ⟨Bx, 0, none⟩), .int .i64 (x.1.1 : Int), .pointer (some ⟨Bx, 1, none⟩), .agg (u8row x.1.2)]) rfl (by simp) ?hops (by kernel_rfl) (by kernel_rfl) ?hrun ?hfin
    case hops =>
      intro j hj
      have : j = 0 ∨ j = 1 ∨ j = 2 ∨ j = 3 ∨ j = 4 ∨ j = 5 ∨ j = 6 ∨ j = 7 := by omega
      rcases this with rfl | rfl | rfl | rfl | rfl | rfl | rfl | rfl <;> exact ⟨_, rfl, rfl, rfl⟩
    case hrun =>
      intro j hj
      have : j = 0 ∨ j = 1 ∨ j = 2 ∨ j = 3 ∨ j = 4 ∨ j = 5 ∨ j = 6 ∨ j = 7 := by omega
      have a2 : ∀ a : Act, (∀ s, (s < 7 ∨ 7 + 8 ≤ s) → a.tmps.getD s undef = (#[Value.pointer (some ⟨b, 0, none⟩), .func (.func gf) #[] lb, .pointer (some ⟨w.heap.size, 0, none⟩), undef, .pointer (some ⟨Bx, 0, none⟩), .func (.func gf) #[] lb, .agg (putRow x.1), undef, undef, undef, undef, undef, undef, undef, undef] : Array Value).getD s undef) → a.tmps.getD 2 undef = .pointer (some ⟨w.heap.size, 0, none⟩) ∧ a.tmps.getD 4 undef = .pointer (some ⟨Bx, 0, none⟩) := fun a h => ⟨h 2 (by omega), h 4 (by omega)⟩
      rcases this with rfl | rfl | rfl | rfl | rfl | rfl | rfl | rfl <;> (intro o ho; cases ho; intro a _ hout hin; obtain ⟨t2, t4⟩ := a2 a hout; simp [Region.binds] at hin; refine ⟨fun f hf => (by simp [Oper.about] at hf), ?_⟩; simp [go_sem, *])
    case hfin =>
      intro a hdf hsz' hout hgot
      have t10 := hgot 3 (by omega)
      have t12 := hgot 5 (by omega)
      have t14 := hgot 7 (by omega)
      clear hgot hout
      simp at t10 t12 t14
      unfold wpOpIn
      simp [Region.wanted, Oper.wpIn, go_sem, t10, t12, t14, hput]
      have hD1 : DiskIn W.drew b m lv (laid D pre) := hD.upd ((Upd.refl (fun _ => False) W).drew) (fun _ _ f => f)
      have hfin : (laid D (pre ++ [x])).Fine := laid_fine hfine _
      rw [laid_snoc] at hfin
      have hD2 := hD1.put hS2 hg2 hfin
      rw [← laid_snoc] at hD2
      have hu2 : Upd (fun k => k = m) W w2 := ((Upd.refl _ W).drew).trans (Upd.of_grownBy (F := fun k => k = m) hg2 (fun k e => by cases e; rfl)) (fun _ h => .inl h)
      refine ⟨?_, hu2.mono (fun i e => .inl e), ⟨hD2, ?_⟩, hU.trans hu2 (fun _ h => .inl h)⟩
      · exact ((KeepsOthers.drew W).from _).trans (KeepsFrom.of_grownBy hg2 (fun j e => by cases e; omega))
      · exact (hu2.block _ hB.lt (by omega)).trans hB
  case done =>
    rintro DD ys W hDD rfl ⟨⟨hD, hB⟩, hU⟩ hK
    gi_wp2
    refine ⟨by simp, .inl ⟨_, _, rfl, run_takeDeferred hK, ?_⟩⟩
    have hu : Upd (fun k => k = DD) W (W.putObj DD (.deferred none)) := Upd.of_grownBy (grownBy_putObj' W DD (.deferred none)) (fun k e => by cases e; rfl)
    refine ⟨_, results_none rfl _ _ _, ⟨_, rfl⟩, hD.upd hu (fun k hk e => ?_), hU.trans hu (fun i hi => .inr (by omega))⟩
    subst e
    rcases hk with rfl | rfl | hk
    · omega
    · omega
    · have := ownsRow_lt HD.out.loose hk; omega
  case stop =>
    rintro DD c pre W _ _ h _
    exact h.elim
end Go.Proofs.YtoaihngckcbhiaaGreatDoor
namespace Go.Proofs.YtoaihngckcbhiaaGreatDoor
open Go.RowKit Go.Maps Go.Shelf
theorem items_of {N : Nat} : ∀ (l : List (Nat × List UInt8)), (∀ p ∈ l, p.1 < N ∧ p.2.length = 64) → ∃ L : List (Item N), L.map (·.1) = l
  | [], _ => ⟨[], rfl⟩
  | p :: l, h => by
    obtain ⟨L, hL⟩ := items_of l (fun q hq => h q (List.mem_cons_of_mem _ hq))
    exact ⟨⟨p, h p List.mem_cons_self⟩ :: L, by rw [List.map_cons, hL]⟩
theorem DiskIn.looseAt {w : World} {b m : Nat} {lv : Value} {D : Dsk} (h : DiskIn w b m lv D) : LooseAt m w.heap.size w lv D.loose :=
  ⟨h.loose, fun _ hg => ⟨ownsRow_lt h.loose hg, fun e => h.lm (by rw [hg, e])⟩, fun p hp => (h.fine.loose p hp).2⟩
theorem DiskIn.drop {w : World} {b m : Nat} {lv : Value} {D : Dsk} (h : DiskIn w b m lv D) : DiskIn (w.setCell ⟨b, 2, none⟩ (.slice none 0 0)) b m (.slice none 0 0) { D with loose := [] } := by
  have hu : Upd (fun k => k = b) w (w.setCell ⟨b, 2, none⟩ (.slice none 0 0)) := (Upd.refl (fun k => k = b) w).setCell (p := ⟨b, 2, none⟩) (.inl rfl) _
  refine ⟨?_, h.base.kept (hu.block m h.base.lt h.mb), ?_, h.mb, by simp [Value.ownBlock], by simp [Value.ownBlock], ⟨h.fine.n1, h.fine.n2, h.fine.base, fun p hp => by simp at hp, h.fine.left⟩⟩
  · exact heap_setCell_same w b 2 _ _ (.slice none 0 0) h.struct
  · show World.ownsRow _ 0 _ 65 (.slice none 0 0) 0 _
    rw [looseCells_nil]
    exact World.ownsRow_nil _ _ _ _
theorem values_any (a : Option Addr) (len cap : Nat) (w : World) :
    Calls Tryz.prog 122 #[.slice a len cap] w fun e w' => e = .returned (.func (.func 152) #[] #[.pointer (some ⟨w.heap.size, 0, none⟩)]) ∧ w' = w.alloc (.cells #[.slice a len cap] 70) :=
  callsIn_wide.1 (values_in Fence.wide 3 trivial rfl a len cap w)
theorem layall_any {w : World} {b m : Nat} {q : Option Addr} {cap : Nat} {D : Dsk} (h : DiskIn w b m (.slice q D.loose.length cap) D) (hlen : D.loose.length ≤ 1000000000) :
    Calls Tryz.prog 24 #[.pointer (some ⟨b, 0, none⟩), .func (.func 152) #[] #[.pointer (some ⟨w.heap.size, 0, none⟩)]] (w.alloc (.cells #[.slice q D.loose.length cap] 70)) fun e w' => (∃ v, e = .returned v) ∧ DiskIn w' b m (.slice q D.loose.length cap) { D with base := Dsk.lay D.base D.loose } ∧ Upd (fun k => k = m) w w' := by
  obtain ⟨L, hL⟩ := items_of (N := D.n) D.loose h.fine.loose
  have hb := (Below.refl w.heap.size w).alloc (Nat.le_refl _) (.cells #[.slice q D.loose.length cap] 70)
  have h' := h.below hb
  have hbox := Boxed.new w 70 (.slice q D.loose.length cap)
  have hll : L.length = D.loose.length := by rw [← hL, List.length_map]
  have hs := values_stops Fence.wide 2 trivial rfl (by omega) D.n m (w.alloc (.cells #[.slice q D.loose.length cap] 70)).heap.size w.heap.size (.slice q D.loose.length cap) L _ hbox.cell (by rw [hL]; exact h'.looseAt) (by omega)
  refine (callsIn_wide.1 (lay_in h' (enters_of Tryz.func152 (by kernel_rfl) rfl) (Nat.le_refl _) (n := 3) (by omega) hs)).mono ?_
  rintro e w' ⟨g1, g2, g3⟩
  refine ⟨g1, ?_, (Upd.of_below hb).trans g3 (fun _ h => .inl h)⟩
  unfold laid at g2
  rw [hL] at g2
  exact g2
set_option maxRecDepth 100000 in
set_option maxHeartbeats 400000 in
theorem flush_any {w : World} {b : Nat} {D : Dsk} {fp : Nat → Prop} (h : DiskAt w b D fp) (hlen : D.loose.length ≤ 1000000000) :
    Calls Tryz.prog 75 #[.pointer (some ⟨b, 0, none⟩)] w fun e w' => e = .returned (.int .i64 D.flush.2) ∧ ∃ fp', DiskAt w' b D.flush.1 fp' ∧ Upd fp w w' ∧ Stays fp fp' w := by
  obtain ⟨m, lv, hI, rfl⟩ := h
  have HI := Lib.hid hI
  by_cases hd : D.down = true
  · have hu : Hid (D.up = 40) := Lib.hid (by unfold Dsk.up; rw [hd]; rfl)
    have hF : D.flush = (D, 40) := by unfold Dsk.flush; rw [if_pos hd]
    rw [hF]
    clear hF hd
    go_enter Tryz.func75, Tryz.ntmps75
    go_wp2_with fail
    refine (up_any hI).mono ?_
    rw [hu.out]
    rintro e w1 ⟨rfl, rfl⟩
    go_wp2_with fail
    go_ret
    exact ⟨rfl, _, ⟨m, lv, HI.out, rfl⟩, Upd.refl _ _, fun _ h => .inl h⟩
  · have hd' : D.down = false := by simpa using hd
    have hu : Hid (D.up = 0) := Lib.hid (by unfold Dsk.up; rw [hd']; rfl)
    have hF : D.flush = ({ D with base := Dsk.lay D.base D.loose, loose := [] }, 0) := by unfold Dsk.flush; rw [if_neg hd]
    rw [hF]
    clear hF hd hd'
    obtain ⟨q, cap, rfl⟩ : ∃ q cap, lv = .slice q D.loose.length cap := by
      rcases hI.loose.2 with ⟨e1, e2⟩ | ⟨g, cap, _, e1, _⟩
      · exact ⟨none, 0, by rw [e1, e2]⟩
      · exact ⟨_, cap, e1⟩
    obtain ⟨_, _, c2, _, _, _⟩ := hI.cells
    go_enter Tryz.func75, Tryz.ntmps75
    go_wp2_with fail
    refine (up_any hI).mono ?_
    rw [hu.out]
    rintro e w1 ⟨rfl, rfl⟩
    go_wp2_with fail
    refine (values_any _ _ _ _).mono ?_
    rintro e w1 ⟨rfl, rfl⟩
    go_wp2_with fail
    refine (layall_any HI.out hlen).mono ?_
    rintro e w1 ⟨⟨v, rfl⟩, hD, hU⟩
    have HD := Lib.hid hD
    have HU := Lib.hid hU
    obtain ⟨_, _, d2, _, _, df⟩ := hD.cells
    have df2 := df 2
    clear hI hD hU df c2
    go_wp2_with fail
    go_ret
    refine ⟨rfl, _, ⟨m, _, HD.out.drop, rfl⟩, (HU.out.mono (fun _ e => .inr (.inl e))).setCell (p := ⟨b, 2, none⟩) (.inl (.inl rfl)) _, ?_⟩
    rintro k (rfl | rfl | hk)
    · exact .inl (.inl rfl)
    · exact .inl (.inr (.inl rfl))
    · simp [Value.ownBlock] at hk
end Go.Proofs.YtoaihngckcbhiaaGreatDoor
namespace Go.Proofs.YtoaihngckcbhiaaGreatDoor
open Go.RowKit Go.Maps Go.Shelf
theorem kept_any (b : Nat) (keep : List UInt8) (w : World) :
    Calls Tryz.prog 25 #[.pointer (some ⟨b, 0, none⟩), .string (bs keep)] w fun e w' => e = .returned (.func (.func 58) #[] #[.pointer (some ⟨w.heap.size, 0, none⟩), .pointer (some ⟨w.heap.size + 1, 0, none⟩)]) ∧ w' = (w.alloc (.cells #[.pointer (some ⟨b, 0, none⟩)] 36)).alloc (.cells #[.string (bs keep)] 9) :=
  callsIn_wide.1 (kept_in Fence.wide 3 trivial rfl b keep w)
theorem laykept_any {w : World} {b m : Nat} {lv : Value} {D : Dsk} (h : DiskIn w b m lv D) (keep : List UInt8) (hlen : D.loose.length ≤ 1000000000) (hk : keep.length ≤ 1000000000) :
    Calls Tryz.prog 24 #[.pointer (some ⟨b, 0, none⟩), .func (.func 58) #[] #[.pointer (some ⟨w.heap.size, 0, none⟩), .pointer (some ⟨w.heap.size + 1, 0, none⟩)]] ((w.alloc (.cells #[.pointer (some ⟨b, 0, none⟩)] 36)).alloc (.cells #[.string (bs keep)] 9)) fun e w' => (∃ v, e = .returned v) ∧ DiskIn w' b m lv { D with base := Dsk.lay D.base (D.kept keep) } ∧ Upd (fun k => k = m) w w' := by
  obtain ⟨L, hL⟩ := items_of (N := D.n) D.loose h.fine.loose
  have hb1 := (Below.refl w.heap.size w).alloc (Nat.le_refl _) (.cells #[.pointer (some ⟨b, 0, none⟩)] 36)
  have hbx1 := (Boxed.new w 36 (.pointer (some ⟨b, 0, none⟩))).alloc (.cells #[.string (bs keep)] 9)
  have hbx2 := Boxed.new (w.alloc (.cells #[.pointer (some ⟨b, 0, none⟩)] 36)) 9 (.string (bs keep))
  have hb := hb1.alloc hb1.size (.cells #[.string (bs keep)] 9)
  have hsz : ((w.alloc (.cells #[.pointer (some ⟨b, 0, none⟩)] 36)).alloc (.cells #[.string (bs keep)] 9)).heap.size = w.heap.size + 2 := by rw [World.size_alloc, World.size_alloc]
  rw [World.size_alloc] at hbx2
  have h' := h.below hb
  obtain ⟨_, _, c2, _, _, _⟩ := h'.cells
  have hll : L.length = D.loose.length := by rw [← hL, List.length_map]
  have hs := kept_stops 2 (by omega) D.n m (w.heap.size + 2) w.heap.size (w.heap.size + 1) b keep lv L _ (by omega) (by have := h.base.lt; omega) (by omega) hbx1.cell hbx2.cell c2 (by rw [hL, ← hsz]; exact h'.looseAt) (by omega) hk
  refine (callsIn_wide.1 (lay_in h' (enters_of Tryz.func58 (by kernel_rfl) rfl) (n₀ := w.heap.size + 2) (by omega) (n := 3) (by omega) hs)).mono ?_
  rintro e w' ⟨g1, g2, g3⟩
  refine ⟨g1, ?_, (Upd.of_below hb).trans g3 (fun _ h => .inl h)⟩
  unfold laid at g2
  rw [keptI_map, hL, keptI_from] at g2
  exact g2
set_option maxRecDepth 100000 in
set_option maxHeartbeats 400000 in
theorem crash_any {w : World} {b : Nat} {D : Dsk} {fp : Nat → Prop} (h : DiskAt w b D fp) (keep : List UInt8) (hlen : D.loose.length ≤ 1000000000) (hk : keep.length ≤ 1000000000) :
    Calls Tryz.prog 10 #[.pointer (some ⟨b, 0, none⟩), .string (bs keep)] w fun e w' => e = .returned (.int .i64 0) ∧ ∃ fp', DiskAt w' b (D.crash keep) fp' ∧ Upd fp w w' ∧ Stays fp fp' w := by
  obtain ⟨m, lv, hI, rfl⟩ := h
  have HI := Lib.hid hI
  clear hI
  go_enter Tryz.func10, Tryz.ntmps10
  go_wp2_with fail
  refine (kept_any _ _ _).mono ?_
  rintro e w1 ⟨rfl, rfl⟩
  go_wp2_with fail
  refine (laykept_any HI.out keep hlen hk).mono ?_
  rintro e w1 ⟨⟨v, rfl⟩, hD, hU⟩
  have HD := Lib.hid hD
  have HU := Lib.hid hU
  obtain ⟨_, _, d2, d3, d4, df⟩ := hD.cells
  have df2 := df 2
  have df3 := df 3
  have df4 := df 4
  clear hD hU df
  go_wp2_with fail
  go_ret
  have h1 := HD.out.drop
  have hF := HI.out.fine.crash keep
  have h2 := h1.set (D' := { { { D with base := Dsk.lay D.base (D.kept keep) } with loose := [] } with left := -1 }) 3 (.int .i64 (-1)) rfl rfl rfl rfl ⟨hF.n1, hF.n2, hF.base, hF.loose, by show (-1 : Int) ≤ -1 ∧ (-1 : Int) ≤ 9223372036854775807; omega⟩
  have h3 := h2.set (D' := D.crash keep) 4 (.bool false) rfl rfl rfl rfl hF
  refine ⟨rfl, _, ⟨m, _, h3, rfl⟩, (((HU.out.mono (fun _ e => .inr (.inl e))).setCell (p := ⟨b, 2, none⟩) (.inl (.inl rfl)) _).setCell (p := ⟨b, 3, none⟩) (.inl (.inl rfl)) _).setCell (p := ⟨b, 4, none⟩) (.inl (.inl rfl)) _, ?_⟩
  rintro k (rfl | rfl | hk)
  · exact .inl (.inl rfl)
  · exact .inl (.inr (.inl rfl))
  · simp [Value.ownBlock] at hk
end Go.Proofs.YtoaihngckcbhiaaGreatDoor
