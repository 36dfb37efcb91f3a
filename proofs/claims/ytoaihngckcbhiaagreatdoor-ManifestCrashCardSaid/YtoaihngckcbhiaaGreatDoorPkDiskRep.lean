/- DiskRep Builder DiskWalks DiskRW -/
import Derived.Test.YtoaihngckcbhiaaGreatDoorPkHeap
import Derived.Test.YtoaihngckcbhiaaGreatDoorPkBlk
import Derived.Test.YtoaihngckcbhiaaGreatDoorPkDiskPlain
import Derived.Test.YtoaihngckcbhiaaGreatDoorPkBase
import Derived.Lib.Builder
import Derived.Lib.UnsafeStr
import Derived.Laws.Externs
import Derived.Maps.AppendAt
import Derived.BigQuiet
import Derived.Deep.QuietTactic
import Derived.WalkSpells
import Derived.Deep.RegionHeld3
import Derived.Deep.RegionLaw
import Derived.Deep.AppendLies
section
namespace Go.Proofs.YtoaihngckcbhiaaGreatDoor
open Go.RowKit Go.Maps
theorem sec_info : (Tryz.prog.info? 121).map (fun i => (i.zero, i.size)) = some (some (.agg (u8row sec0)), 64) := by kernel_rfl
theorem sec_zero (w : World) : (zeroValue 121).run Tryz.prog w = .ok (.agg (u8row sec0)) w := (zero_of_info sec_info).1 w
theorem sec_size : (Tryz.prog.info? 121).map (·.size) = some 64 := (zero_of_info sec_info).2
@[irreducible] def looseCells (l : List (Nat × List UInt8)) : List Value := l.flatMap fun p => Value.int .i64 (p.1 : Int) :: u8cells p.2
theorem looseCells_snoc (l : List (Nat × List UInt8)) (p : Nat × List UInt8) : looseCells (l ++ [p]) = looseCells l ++ (Value.int .i64 (p.1 : Int) :: u8cells p.2) := by
  unfold looseCells; simp
theorem looseCells_nil : looseCells [] = [] := by unfold looseCells; rfl
theorem looseCells_get (l : List (Nat × List UInt8)) (h : ∀ p ∈ l, p.2.length = 64) (k : Nat) (hk : k < l.length) (j : Nat) (hj : j < 65) :
    (looseCells l)[k * 65 + j]? = (Value.int .i64 (l[k].1 : Int) :: u8cells l[k].2)[j]? := by
  induction l generalizing k with
  | nil => simp at hk
  | cons p l ih =>
    have e : looseCells (p :: l) = (Value.int .i64 (p.1 : Int) :: u8cells p.2) ++ looseCells l := by unfold looseCells; rfl
    have hlen : (Value.int .i64 (p.1 : Int) :: u8cells p.2).length = 65 := by rw [List.length_cons, u8cells_length, h p List.mem_cons_self]
    rw [e]
    cases k with
    | zero =>
      rw [Nat.zero_mul, Nat.zero_add, List.getElem?_append_left (by omega)]
      rfl
    | succ k =>
      rw [List.getElem?_append_right (by omega), hlen, show (k + 1) * 65 + j - 65 = k * 65 + j by omega]
      exact ih (fun q hq => h q (List.mem_cons_of_mem _ hq)) k (by simpa using hk)
@[irreducible] def putRow (p : Nat × List UInt8) : Array Value := (Value.int .i64 (p.1 : Int) :: u8cells p.2).toArray
theorem putRow_list (p : Nat × List UInt8) : (putRow p).toList = Value.int .i64 (p.1 : Int) :: u8cells p.2 := by unfold putRow; rfl
theorem putRow_size (p : Nat × List UInt8) (h : p.2.length = 64) : (putRow p).size = 65 := by
  rw [← Array.length_toList, putRow_list, List.length_cons, u8cells_length, h]
theorem putRow_zero (p : Nat × List UInt8) : (putRow p)[0]? = some (.int .i64 (p.1 : Int)) := by
  rw [← Array.getElem?_toList, putRow_list]; rfl
theorem putRow_one (p : Nat × List UInt8) : (putRow p).all (·.oneCell') = true := by
  rw [Array.all_eq_true_iff_forall_mem]
  intro u hu
  have : u ∈ (putRow p).toList := by simpa using hu
  rw [putRow_list] at this
  rcases List.mem_cons.1 this with rfl | h
  · rfl
  · exact u8cells_one _ u h
theorem put_info : (Tryz.prog.info? 123).map (fun i => (i.zero, i.size)) = some (some (.agg Tryz.zeroCells123), 65) := by kernel_rfl
theorem put_size (p : Nat × List UInt8) (h : p.2.length = 64) : (Tryz.prog.info? 123).map (·.size) = some (putRow p).size := by rw [putRow_size p h]; exact (zero_of_info put_info).2
theorem put_zero (p : Nat × List UInt8) (h : p.2.length = 64) : Tryz.zeroCells123.size = (putRow p).size := by rw [putRow_size p h]; kernel_rfl
theorem putRow_sec (w : World) (p : Nat × List UInt8) (T : TypeId) : (w.alloc (.cells (putRow p) T)).rangeAt w.heap.size 1 (u8cells p.2) := by
  intro j v hv
  rw [cell_new_row, ← Array.getElem?_toList, putRow_list, Nat.add_comm 1 j]
  exact hv
theorem sec_len (x : List UInt8) (h : x.length = 64) : (Tryz.prog.info? 121).map (·.size) = some (u8cells x).length := by rw [u8cells_length, h]; exact sec_size
@[irreducible] def putRowZ (i : Int) (x : List UInt8) : Array Value := (Value.int .i64 i :: u8cells x).toArray
theorem putRowZ_eq (a k : Nat) (x : List UInt8) : putRowZ ((a : Int) + (k : Int)) x = putRow (a + k, x) := by unfold putRowZ putRow; rfl
theorem putRowZ_size (i : Int) (x : List UInt8) (h : x.length = 64) : (putRowZ i x).size = 65 := by
  unfold putRowZ
  rw [List.size_toArray, List.length_cons, u8cells_length, h]
theorem put_zeros : Tryz.zeroCells123.size = 65 := by kernel_rfl
theorem put_fold (i : Int) (x : List UInt8) (h : x.length = 64) :
    Array.foldl (fun cs (x : Value × Nat) => cs.setIfInBounds (1 + x.snd) x.fst) (Tryz.zeroCells123.setIfInBounds 0 (Value.int .i64 i)) (u8row x).zipIdx 0 64 = putRowZ i x := by
  have hz : (Tryz.zeroCells123.setIfInBounds 0 (Value.int .i64 i)).size = 65 := by rw [Array.size_setIfInBounds, put_zeros]
  rw [foldl_lay 1 64 (u8row x) _ (by simp [h]) (by rw [hz])]
  have h0 : (Tryz.zeroCells123.setIfInBounds 0 (Value.int .i64 i)).toList.take 1 = [.int .i64 i] := by
    apply List.ext_getElem?
    intro j
    rw [List.getElem?_take]
    by_cases hj : j < 1
    · obtain rfl : j = 0 := by omega
      rw [if_pos hj, Array.getElem?_toList, Array.getElem?_setIfInBounds, if_pos rfl, if_pos (by rw [put_zeros]; decide)]
      rfl
    · rw [if_neg hj, List.getElem?_eq_none (by simp; omega)]
  rw [h0, u8row_list]
  unfold putRowZ
  rfl
theorem put_fold2 (Z : Array Value) (i : Int) (x : List UInt8) (h : x.length = 64) (hZ : Z.size = 65) :
    Array.foldl (fun cs (x : Value × Nat) => cs.setIfInBounds x.snd x.fst) Z (putRowZ i x).zipIdx 0 65 = putRowZ i x := foldl_all 65 _ _ (putRowZ_size i x h) hZ
theorem loose_range {w : World} {base g n cap : Nat} {l : List (Nat × List UInt8)} (h : w.ownsRow base 123 65 (.slice (some ⟨g, 0, none⟩) n cap) l.length (looseCells l)) (hl : ∀ p ∈ l, p.2.length = 64) (k : Nat) (hk : k < l.length) :
    w.rangeAt g (k * 65) (Value.int .i64 (l[k].1 : Int) :: u8cells l[k].2) := by
  intro j v hv
  have hj : j < 65 := by
    have := (List.getElem?_eq_some_iff.1 hv).1
    rw [List.length_cons, u8cells_length, hl _ (List.getElem_mem hk)] at this
    omega
  rw [← looseCells_get l hl k hk j hj] at hv
  have := h.cells (g := g) rfl _ _ hv
  have e : (⟨g, 0, none⟩ : Addr).add (k * 65 + j) = ⟨g, k * 65 + j, none⟩ := by unfold Addr.add; split <;> simp_all
  rw [e] at this
  exact this
theorem put_len (p : Nat × List UInt8) (h : p.2.length = 64) : (Tryz.prog.info? 123).map (·.size) = some (Value.int .i64 (p.1 : Int) :: u8cells p.2).length := by rw [List.length_cons, u8cells_length, h]; exact (zero_of_info put_info).2
theorem put_array (p : Nat × List UInt8) : (Value.int .i64 (p.1 : Int) :: u8cells p.2).toArray = putRow p := by unfold putRow; rfl
theorem put_elem : (Tryz.prog.info? 123).map (·.size) = some 65 := (zero_of_info put_info).2
def SecMap (w : World) (m N : Nat) (f : Nat → List UInt8) : Prop :=
  ∃ kv, IntMap Tryz.prog 3 w m kv ∧ (∀ p ∈ kv, ∃ i : Nat, i < N ∧ p.1 = (i : Int) ∧ p.2 = .agg (u8row (f i))) ∧ ∀ i : Nat, i < N → kvGet kv i = none → f i = sec0
theorem SecMap.lt {w : World} {m N : Nat} {f : Nat → List UInt8} (h : SecMap w m N f) : m < w.heap.size := h.choose_spec.1.lt
theorem SecMap.kept {w w' : World} {m N : Nat} {f : Nat → List UInt8} (h : SecMap w m N f) (e : w'.heap[m]? = w.heap[m]?) : SecMap w' m N f := by
  obtain ⟨kv, h1, h2⟩ := h
  exact ⟨kv, h1.kept e, h2⟩
theorem SecMap.made (w : World) (N : Nat) : SecMap (w.alloc (.map #[] 0)) w.heap.size N (fun _ => sec0) := ⟨[], IntMap.made w, fun p hp => by simp at hp, fun _ _ _ => rfl⟩
theorem wf_nat (i : Nat) (h : i ≤ 16384) : (Lit.int .i64 (i : Int)).wf = true := WalkArith.wf_i64 (by omega)
theorem SecMap.get {w : World} {m N : Nat} {f : Nat → List UInt8} (h : SecMap w m N f) (i : Nat) (hi : i < N) (hN : N ≤ 16384) :
    (Instr.lookup 69 (.map (some m)) (.int .i64 (i : Int)) false).run Tryz.prog w = .ok (.agg (u8row (f i))) w := by
  obtain ⟨kv, h1, h2, h3⟩ := h
  rw [h1.lookup Tryz.underlying3 Tryz.underlying69 (sec_zero w) i (wf_nat i (by omega))]
  cases hg : kvGet kv i with
  | none => rw [h3 i hi hg]; rfl
  | some v =>
    obtain ⟨j, _, e1, e2⟩ := h2 _ (kvGet_mem hg)
    simp at e1 e2
    have e3 : i = j := by omega
    subst e3
    rw [e2]; rfl
theorem nodup_len (N : Nat) : ∀ (l : List Int), l.Nodup → (∀ x ∈ l, ∃ i : Nat, i < N ∧ x = (i : Int)) → l.length ≤ N := by
  induction N with
  | zero =>
    intro l _ h
    cases l with
    | nil => simp
    | cons x l => obtain ⟨i, hi, _⟩ := h x List.mem_cons_self; omega
  | succ N ih =>
    intro l hn h
    by_cases hm : (N : Int) ∈ l
    · have h1 := ih (l.erase (N : Int)) (hn.erase _) (fun x hx => by
        obtain ⟨hne, hx⟩ := (List.Nodup.mem_erase_iff hn).1 hx
        obtain ⟨i, hi, e⟩ := h x hx
        exact ⟨i, by have : i ≠ N := fun e' => hne (by rw [e, e']); omega, e⟩)
      rw [List.length_erase_of_mem hm] at h1
      omega
    · have := ih l hn (fun x hx => by
        obtain ⟨i, hi, e⟩ := h x hx
        exact ⟨i, by have : i ≠ N := fun e' => hm (by rw [← e', ← e]; exact hx); omega, e⟩)
      omega
theorem SecMap.put {w : World} {m N : Nat} {f : Nat → List UInt8} (h : SecMap w m N f) (i : Nat) (hi : i < N) (hN : N ≤ 16384) (x : List UInt8) :
    ∃ w', (Instr.mapUpdate 69 (.map (some m)) (.int .i64 (i : Int)) (.agg (u8row x))).run Tryz.prog w = .ok () w' ∧ SecMap w' m N (fun k => if k = i then x else f k) ∧ w.grownBy w' (some m) := by
  obtain ⟨kv, h1, h2, h3⟩ := h
  have hlen : kv.length ≤ N := by
    have := nodup_len N (kv.map (·.1)) h1.1 (fun y hy => by
      obtain ⟨p, hp, rfl⟩ := List.mem_map.1 hy
      obtain ⟨j, hj, e, _⟩ := h2 p hp
      exact ⟨j, hj, e⟩)
    simpa using this
  obtain ⟨w', hrun, hm, hg⟩ := h1.update Tryz.underlying3 Tryz.underlying69 i (wf_nat i (by omega)) (.agg (u8row x)) (by unfold maxLen; omega)
  refine ⟨w', hrun, ⟨kvPut i (.agg (u8row x)) kv, hm, fun p hp => ?_, fun j hj hg => ?_⟩, hg⟩
  · rcases List.mem_cons.1 hp with rfl | hp
    · exact ⟨i, hi, rfl, by simp⟩
    · obtain ⟨hp1, hp2⟩ := List.mem_filter.1 hp
      obtain ⟨j, hj, e1, e2⟩ := h2 p hp1
      have hne : ¬ j = i := fun e => by simp [e1, e] at hp2
      exact ⟨j, hj, e1, by simp only [if_neg hne]; exact e2⟩
  · by_cases e : j = i
    · subst e; rw [kvGet_put_same] at hg; simp at hg
    · simp only [if_neg e]
      rw [kvGet_put_other (by omega)] at hg
      exact h3 j hj hg
structure DiskIn (w : World) (b m : Nat) (lv : Value) (D : Dsk) : Prop where
  struct : w.heap[b]? = some (.cells #[.int .i64 (D.n : Int), .map (some m), lv, .int .i64 D.left, .bool D.down] 72)
  base : SecMap w m D.n D.base
  loose : w.ownsRow 0 123 65 lv D.loose.length (looseCells D.loose)
  mb : m ≠ b
  lb : lv.ownBlock ≠ some b
  lm : lv.ownBlock ≠ some m
  fine : D.Fine
def diskBlocks (b m : Nat) (lv : Value) (k : Nat) : Prop := k = b ∨ k = m ∨ lv.ownBlock = some k
def DiskAt (w : World) (b : Nat) (D : Dsk) (fp : Nat → Prop) : Prop := ∃ m lv, DiskIn w b m lv D ∧ fp = diskBlocks b m lv
theorem DiskIn.upd {F : Nat → Prop} {w w' : World} {b m : Nat} {lv : Value} {D : Dsk} (h : DiskIn w b m lv D) (hu : Upd F w w') (hF : ∀ k, diskBlocks b m lv k → ¬ F k) : DiskIn w' b m lv D :=
  ⟨by rw [hu.block b (Array.getElem?_eq_some_iff.1 h.struct).1 (hF b (.inl rfl))]; exact h.struct, h.base.kept (hu.block m h.base.lt (hF m (.inr (.inl rfl)))), ownsRow_upd h.loose hu (fun g hg => hF g (.inr (.inr hg))), h.mb, h.lb, h.lm, h.fine⟩
theorem DiskAt.upd {F : Nat → Prop} {w w' : World} {b : Nat} {D : Dsk} {fp : Nat → Prop} (h : DiskAt w b D fp) (hu : Upd F w w') (hF : ∀ k, fp k → ¬ F k) : DiskAt w' b D fp := by
  obtain ⟨m, lv, h1, rfl⟩ := h
  exact ⟨m, lv, h1.upd hu hF, rfl⟩
theorem DiskAt.below {w w' : World} {b : Nat} {D : Dsk} {fp : Nat → Prop} (h : DiskAt w b D fp) (hu : Below w.heap.size w w') : DiskAt w' b D fp := h.upd (Upd.of_below (F := fun _ => False) hu) (fun _ _ f => f)
theorem DiskAt.lt {w : World} {b : Nat} {D : Dsk} {fp : Nat → Prop} (h : DiskAt w b D fp) : ∀ k, fp k → k < w.heap.size := by
  obtain ⟨m, lv, h1, rfl⟩ := h
  rintro k (rfl | rfl | hk)
  · exact (Array.getElem?_eq_some_iff.1 h1.struct).1
  · exact h1.base.lt
  · exact ownsRow_lt h1.loose hk
theorem DiskAt.fine {w : World} {b : Nat} {D : Dsk} {fp : Nat → Prop} (h : DiskAt w b D fp) : D.Fine := by obtain ⟨m, lv, h1, _⟩ := h; exact h1.fine
end Go.Proofs.YtoaihngckcbhiaaGreatDoor
end
section
namespace Go.Proofs.YtoaihngckcbhiaaGreatDoor
open Go.RowKit Go.Maps
def BuiltAt (w : World) (b : Nat) (l : List UInt8) (fp : Nat → Prop) : Prop :=
  ∃ p v, w.heap[b]? = some (.cells #[.pointer p, v] 178) ∧ (p = none ∨ p = some ⟨b, 0, none⟩) ∧ w.ownsRow 0 5 1 v l.length (u8cells l) ∧ v.ownBlock ≠ some b ∧ (l = [] → v = .slice none 0 0) ∧ fp = fun k => k = b ∨ v.ownBlock = some k
theorem BuiltAt.made (w : World) : BuiltAt (w.alloc (.cells #[.pointer none, .slice none 0 0] 178)) w.heap.size [] (fun k => k = w.heap.size ∨ (Value.slice none 0 0).ownBlock = some k) :=
  ⟨none, .slice none 0 0, heap_alloc_new w _, .inl rfl, ⟨by rw [u8cells_length]; rfl, .inl ⟨rfl, rfl⟩⟩, by simp [Value.ownBlock], fun _ => rfl, rfl⟩
theorem BuiltAt.lt {w : World} {b : Nat} {l : List UInt8} {fp : Nat → Prop} (h : BuiltAt w b l fp) : ∀ k, fp k → k < w.heap.size := by
  obtain ⟨p, v, h1, _, h3, _, _, rfl⟩ := h
  rintro k (rfl | hk)
  · exact (Array.getElem?_eq_some_iff.1 h1).1
  · exact ownsRow_lt h3 hk
theorem BuiltAt.own {w : World} {b : Nat} {l : List UInt8} {fp : Nat → Prop} (h : BuiltAt w b l fp) : fp b := by
  obtain ⟨p, v, _, _, _, _, _, rfl⟩ := h
  exact .inl rfl
theorem BuiltAt.upd {F : Nat → Prop} {w w' : World} {b : Nat} {l : List UInt8} {fp : Nat → Prop} (h : BuiltAt w b l fp) (hu : Upd F w w') (hF : ∀ k, fp k → ¬ F k) : BuiltAt w' b l fp := by
  obtain ⟨p, v, h1, h2, h3, h4, h5, rfl⟩ := h
  exact ⟨p, v, by rw [hu.block b (Array.getElem?_eq_some_iff.1 h1).1 (hF b (.inl rfl))]; exact h1, h2, ownsRow_upd h3 hu (fun g hg => hF g (.inr hg)), h4, h5, rfl⟩
theorem builder_size : ∃ j, Tryz.prog.info? 178 = some j ∧ j.size = 2 := by
  have h : (Tryz.prog.info? 178).map (·.size) = some 2 := by kernel_rfl
  exact Option.map_eq_some_iff.1 h
theorem builder_lies : liesAt Tryz.prog Tryz.prog.depth 178 (2 / Tryz.prog.cellsOf 178) 0 178 1 = true := by kernel_rfl
theorem byte_info : (Tryz.prog.info? 5).map (fun i => (i.zero, i.size, i.bytes)) = some (some (.int .u8 0), 1, 1) := by kernel_rfl
set_option maxRecDepth 100000 in
set_option maxHeartbeats 1000000 in
theorem copyCheck_any (b : Nat) (p : Option Addr) (v : Value) (w : World) (hb : w.heap[b]? = some (.cells #[.pointer p, v] 178)) (hp : p = none ∨ p = some ⟨b, 0, none⟩) :
    Calls Tryz.prog 151 #[.pointer (some ⟨b, 0, none⟩)] w fun e w' => e = .returned (.tuple #[]) ∧ w'.heap[b]? = some (.cells #[.pointer (some ⟨b, 0, none⟩), v] 178) ∧ Upd (fun k => k = b) w w' := by
  obtain ⟨j, hj, hjs⟩ := builder_size
  have c0 : w.cell? ⟨b, 0, none⟩ = some (.pointer p) := by rw [Lib.cell_of_heap hb]; rfl
  rcases hp with rfl | rfl
  · have hf := Lib.frozen_of_heap hb 0
    have hsh : w.shape? b = some (178, 2) := by simp [World.shape?, hb]
    go_enter Tryz.func151, Tryz.ntmps151
    go_wp2_with fail
    rw [Lib.run_to_unsafe w ⟨b, 0, none⟩ Tryz.underlying175 Tryz.underlying235 hj (by rw [hjs]; decide) hsh (Nat.zero_lt_succ 1)]
    simp only [Result.andThen]
    rw [Oper.upon_value]
    go_wp2_with fail
    rw [run_callFunc_extern Tryz.func173 (by kernel_rfl) (by kernel_rfl) (by kernel_rfl) (e := Extern.AbiNoEscape.same) (by kernel_rfl)]
    rw [Lib.run_noEscape]
    simp only [Result.andThen]
    rw [Oper.upon_value]
    go_wp2_with fail
    rw [Lib.run_from_unsafe w ⟨b, 0, none⟩ Tryz.underlying235 Tryz.underlying175 hj hsh builder_lies]
    simp only [Result.andThen]
    rw [Oper.upon_value]
    go_wp2_with fail
    go_end0
    exact ⟨rfl, heap_setCell_same w b 0 _ _ _ hb, (Upd.refl (fun k => k = b) w).setCell (p := ⟨b, 0, none⟩) (.inl rfl) _⟩
  · go_enter Tryz.func151, Tryz.ntmps151
    go_wp2_with fail
    rw [Lib.run_neq_ptr_same w _ Tryz.underlying175 hj]
    go_wp2_with fail
    go_end0
    exact ⟨rfl, hb, Upd.refl _ _⟩
set_option maxRecDepth 100000 in
set_option maxHeartbeats 1000000 in
theorem bwrite_any {w : World} {b : Nat} {l : List UInt8} {fp : Nat → Prop} (h : BuiltAt w b l fp) (g off c : Nat) (k : List UInt8) (hk : ∀ i, (hi : i < k.length) → w.cell? ⟨g, off + i, none⟩ = some (.int .u8 (k[i].toNat : Int)))
    (hg : ¬ fp g) (hlen : l.length + k.length ≤ 1099511627776) (n : Nat) (hn : k.length = n) :
    Calls Tryz.prog 119 #[.pointer (some ⟨b, 0, none⟩), .slice (some ⟨g, off, none⟩) n c] w fun e w' => e = .returned (.tuple #[.int .i64 (n : Int), .nilIface]) ∧ ∃ fp', BuiltAt w' b (l ++ k) fp' ∧ Upd fp w w' ∧ Stays fp fp' w := by
  obtain ⟨p, v, hb, hp, hown, hne, hnil0, rfl⟩ := h
  have HNIL := Lib.hid hnil0
  clear hnil0
  obtain ⟨i0, hi, hz0, hz1, hz2⟩ := info_parts byte_info
  have hgb : g ≠ b := fun e => hg (.inl e)
  have HK := Lib.hid hk
  clear hk
  subst hn
  go_enter Tryz.func119, Tryz.ntmps119
  go_wp2_with fail
  refine (copyCheck_any b p v _ hb hp).mono ?_
  rintro e w1 ⟨rfl, hb1, hu1⟩
  have hblt : b < w.heap.size := (Array.getElem?_eq_some_iff.1 hb).1
  have hown1 : w1.ownsRow 0 5 1 v l.length (u8cells l) := ownsRow_upd hown hu1 (fun q hq e => hne (by rw [hq, e]))
  have c1 : w1.cell? ⟨b, 1, none⟩ = some v := by rw [Lib.cell_of_heap hb1]; rfl
  have hnews : ∀ j u, (u8cells k)[j]? = some u → w1.cell? ((⟨g, off, none⟩ : Addr).add j) = some u := by
    intro j u hj
    have hjl : j < k.length := by
      have := (List.getElem?_eq_some_iff.1 hj).1
      rwa [u8cells_length] at this
    have e : (⟨g, off, none⟩ : Addr).add j = ⟨g, off + j, none⟩ := by unfold Addr.add; split <;> simp_all
    have hc := HK.out j hjl
    rw [e, hu1.cell (p := ⟨g, off + j, none⟩) (block_lt_of_cell hc) hgb, hc]
    rw [u8cells_get k j hjl] at hj
    exact hj
  go_wp2_with (at_builtin; refine wpList_append_own_at _ rfl _ _ 176 rfl 0 5 i0 (.int .u8 0) 1 1 Tryz.underlying176 hi hz0 hz1 hz2 rfl (by decide) _ _ _ rfl hown1 ⟨g, off, none⟩ k.length c (u8cells k) rfl (by rw [u8cells_length, Nat.mul_one]) hnews (u8cells_one k) ?c3 ?c4 ?c5 ?_)
  case c3 => unfold maxLen; omega
  case c4 => omega
  case c5 => omega
  intro v' w2 hown' hgrow hnil hat
  have HN2 := Lib.hid hnil
  clear hnil
  have hb2 : w2.heap[b]? = some (.cells #[.pointer (some ⟨b, 0, none⟩), v] 178) := by
    rw [hgrow.block b (Nat.lt_of_lt_of_le hblt hu1.size) (fun e => hne e.symm)]
    exact hb1
  have d1 : w2.cell? ⟨b, 1, none⟩ = some v := by rw [Lib.cell_of_heap hb2]; rfl
  have f1 : w2.frozen? ⟨b, 1, none⟩ = false := Lib.frozen_of_heap hb2 1
  have hv' : v'.ownBlock ≠ some b := by
    rcases hat with hat | hat
    · rw [hat]; exact hne
    · rw [hat]; intro e; have := Option.some.inj e; have := hu1.size; omega
  have HN3 : Hid (l ++ k = [] → v' = .slice none 0 0) := Lib.hid (fun e => by
    obtain ⟨e1, e2⟩ := List.append_eq_nil_iff.1 e
    exact HN2.out.2 ⟨HNIL.out e1, e2⟩)
  obtain ⟨ao, n', cap, rfl⟩ : ∃ ao n' cap, v' = .slice ao n' cap := by
    rcases hown'.2 with ⟨hv, _⟩ | ⟨g, cap, cur, hv, _⟩
    · exact ⟨_, _, _, hv⟩
    · exact ⟨_, _, _, hv⟩
  clear c1 hnews
  go_wp2_with fail
  go_ret2
  have hu2 : Upd (fun k => k = b ∨ v.ownBlock = some k) w w2 := (hu1.mono (fun i e => Or.inl e)).trans (Upd.of_grownBy (F := fun k => k = b ∨ v.ownBlock = some k) hgrow (fun q e => .inr e)) (fun i e => .inl e)
  have hu3 := hu2.setCell (p := ⟨b, 1, none⟩) (.inl (.inl rfl)) (.slice ao n' cap)
  refine ⟨rfl, fun q => q = b ∨ (Value.slice ao n' cap).ownBlock = some q, ⟨some ⟨b, 0, none⟩, .slice ao n' cap, heap_setCell_same w2 b 1 _ _ _ hb2, .inr rfl, ?_, hv', HN3.out, rfl⟩, hu3, ?_⟩
  · rw [List.length_append, u8cells_append]
    exact ownsRow_upd hown' ((Upd.refl (fun q => q = b) w2).setCell (p := ⟨b, 1, none⟩) (.inl rfl) _) (fun q hq e => hv' (by rw [hq, e]))
  · rintro q (rfl | hq)
    · exact .inl (.inl rfl)
    · rcases hat with hat | hat
      · exact .inl (.inr (by rw [← hat]; exact hq))
      · rw [hat] at hq
        have := Option.some.inj hq
        exact .inr (by have := hu1.size; omega)
set_option maxRecDepth 100000 in
set_option maxHeartbeats 1000000 in
theorem bstring_any {w : World} {b : Nat} {l : List UInt8} {fp : Nat → Prop} (h : BuiltAt w b l fp) :
    Calls Tryz.prog 120 #[.pointer (some ⟨b, 0, none⟩)] w fun e w' => e = .returned (.string (bs l)) ∧ Upd fp w w' := by
  obtain ⟨p, v, hb, hp, hown, hne, hnil, rfl⟩ := h
  have hbd : w.drew.heap[b]? = some (.cells #[.pointer p, v] 178) := hb
  have c1 : w.drew.cell? ⟨b, 1, none⟩ = some v := by rw [Lib.cell_of_heap hbd]; rfl
  rcases hown.2 with ⟨rfl, h0⟩ | ⟨g, cap, cur, rfl, _, hg, hnc, hcm, hcs, htake⟩
  · obtain rfl : l = [] := by simpa using h0
    have hUS : (Builtin.unsafeString_ #[210, 3] 9 #[.pointer none, .int .i64 0]).run Tryz.prog w.drew = .ok (.string .empty) w.drew := Lib.run_unsafeString_none _ _ _ _ _
    have hSD : (Builtin.unsafeSliceData_ #[176] 210 #[.slice none 0 0]).run Tryz.prog w.drew = .ok (.pointer none) w.drew := rfl
    clear hp hne hown
    go_enter Tryz.func120, Tryz.ntmps120
    go_wp2_with fail
    go_region
    all_goals (go_wp2; go_ret; exact ⟨rfl, (Upd.refl _ _).drew⟩)
  · by_cases h0 : l = []
    · have := hnil h0
      simp at this
    · have hl0 : l.length ≠ 0 := by simpa using h0
      have hSD : (Builtin.unsafeSliceData_ #[176] 210 #[.slice (some ⟨g, 0, none⟩) l.length cap]).run Tryz.prog w.drew = .ok (.pointer (some ⟨g, 0, none⟩)) w.drew := Lib.run_unsafeSliceData_row _ _ _ _ _ _ (by omega)
      have hUS : (Builtin.unsafeString_ #[210, 3] 9 #[.pointer (some ⟨g, 0, none⟩), .int .i64 l.length]).run Tryz.prog w.drew = .ok (.string (bs l)) (w.drew.freeze ⟨g, 0, none⟩ l.length) := by
        refine Lib.run_unsafeString_row w.drew 210 3 9 5 Tryz.underlying210 (by kernel_rfl) g cur.size (by have hg' : w.drew.heap[g]? = some (.cells cur 5 (0, 0)) := hg; simp [World.shape?, hg']) l h0 (by omega) (by unfold maxLen at hcm; omega) ?_
        intro j x hx
        have hjl := (List.getElem?_eq_some_iff.1 hx).1
        have := hown.cells (g := g) rfl j (.int .u8 x.toNat) (by rw [u8cells_get l j hjl]; rw [List.getElem?_eq_getElem hjl] at hx; rw [Option.some.inj hx])
        exact this
      have hfz : Upd (fun k => k = b ∨ (Value.slice (some ⟨g, 0, none⟩) l.length cap).ownBlock = some k) w (w.drew.freeze ⟨g, 0, none⟩ l.length) := by
        refine ((Upd.refl _ w).drew).trans (G := fun k => k = g) ?_ (fun i e => .inl (.inr (by rw [e]; rfl)))
        unfold World.freeze
        split
        · exact Upd.refl _ _
        · refine ⟨rfl, rfl, rfl, by simp, fun k _ hF => ?_⟩
          simp only [Array.getElem?_modify]
          rw [if_neg (fun e => hF e.symm)]
      have HF := Lib.hid hfz
      clear hp hne hown hfz
      go_enter Tryz.func120, Tryz.ntmps120
      go_wp2_with fail
      go_region
      all_goals (go_wp2; go_ret; exact ⟨rfl, HF.out⟩)
end Go.Proofs.YtoaihngckcbhiaaGreatDoor
end
section
namespace Go.Proofs.YtoaihngckcbhiaaGreatDoor
open Go.RowKit Go.Maps
theorem DiskIn.cells {w : World} {b m : Nat} {lv : Value} {D : Dsk} (h : DiskIn w b m lv D) :
    w.cell? ⟨b, 0, none⟩ = some (.int .i64 (D.n : Int)) ∧ w.cell? ⟨b, 1, none⟩ = some (.map (some m)) ∧ w.cell? ⟨b, 2, none⟩ = some lv ∧ w.cell? ⟨b, 3, none⟩ = some (.int .i64 D.left) ∧ w.cell? ⟨b, 4, none⟩ = some (.bool D.down) ∧ ∀ j, w.frozen? ⟨b, j, none⟩ = false := by
  refine ⟨?_, ?_, ?_, ?_, ?_, fun j => frozen_of_row w b j _ _ h.struct⟩ <;> rw [cell_of_row w b _ _ _ _ h.struct] <;> rfl
set_option maxRecDepth 100000 in
set_option maxHeartbeats 400000 in
theorem new_ok (n : Nat) (w : World) (h1 : 1 ≤ n) (h2 : n ≤ 16384) :
    Calls Tryz.prog 55 #[.int .i64 n] w fun e w' => ∃ b fp, e = .returned (.tuple #[.pointer (some ⟨b, 0, none⟩), .int .i64 0]) ∧ DiskAt w' b (Dsk.new n) fp ∧ Below w.heap.size w w' ∧ ∀ k, fp k → w.heap.size ≤ k := by
  have hmm := @run_makeMap Tryz.prog
  go_enter Tryz.func55, Tryz.ntmps55
  go_wp2_with fail
  go_ret2
  refine ⟨w.heap.size + 1, diskBlocks (w.heap.size + 1) w.heap.size (.slice none 0 0), ?_, ⟨w.heap.size, .slice none 0 0, ⟨?_, ?_, ?_, ?_, ?_, ?_, ?_⟩, rfl⟩, ?_, ?_⟩
  · rfl
  · exact heap_alloc2_new w _ _
  · exact (SecMap.made w n).kept (heap_alloc_old _ _ (by simp))
  · exact ⟨by simp [Dsk.new, looseCells_nil], .inl ⟨rfl, rfl⟩⟩
  · omega
  · simp [Value.ownBlock]
  · simp [Value.ownBlock]
  · exact Dsk.Fine.new h1 h2
  · exact ((Below.refl _ _).alloc (Nat.le_refl _) _).alloc (by simp) _
  · rintro k (rfl | rfl | hk)
    · omega
    · exact Nat.le_refl _
    · simp [Value.ownBlock] at hk
set_option maxRecDepth 100000 in
set_option maxHeartbeats 400000 in
theorem up_any {w : World} {b m : Nat} {lv : Value} {D : Dsk} (h : DiskIn w b m lv D) : Calls Tryz.prog 117 #[.pointer (some ⟨b, 0, none⟩)] w fun e w' => e = .returned (.int .i64 D.up) ∧ w = w' := by
  obtain ⟨c0, c1, c2, c3, c4, cf⟩ := h.cells
  obtain ⟨n, f, l, q, d⟩ := D
  simp only at c4
  clear c0 c1 c2 c3 cf
  cases d
  · go_enter Tryz.func117, Tryz.ntmps117
    go_wp2_with fail
    go_ret
    exact ⟨rfl, rfl⟩
  · go_enter Tryz.func117, Tryz.ntmps117
    go_wp2_with fail
    go_ret
    exact ⟨rfl, rfl⟩
set_option maxRecDepth 100000 in
set_option maxHeartbeats 400000 in
theorem in_any {w : World} {b m : Nat} {lv : Value} {D : Dsk} (h : DiskIn w b m lv D) (at_ n : Int) (_h1 : -9223372036854775808 ≤ at_) (_h2 : at_ ≤ 9223372036854775807) (_h3 : -9223372036854775808 ≤ n) (_h4 : n ≤ 9223372036854775807) :
    Calls Tryz.prog 118 #[.pointer (some ⟨b, 0, none⟩), .int .i64 at_, .int .i64 n] w fun e w' => e = .returned (.bool (D.inside at_ n)) ∧ w = w' := by
  obtain ⟨c0, _, _, _, _, _⟩ := h.cells
  have hN := h.fine.n2
  generalize hNN : D.n = N at *
  have HN := Lib.hid hNN
  clear hNN
  by_cases a1 : 0 ≤ at_
  · have d1 : decide (0 ≤ at_) = true := by simpa using a1
    by_cases a2 : 0 ≤ n
    · have d2 : decide (0 ≤ n) = true := by simpa using a2
      by_cases a3 : at_ ≤ (N : Int)
      · have d3 : decide (at_ ≤ (N : Int)) = true := by simpa using a3
        by_cases a4 : n ≤ (N : Int) - at_
        · have d4 : decide (n ≤ (N : Int) - at_) = true := by simpa using a4
          have HI : Hid (D.inside at_ n = true) := Lib.hid (by unfold Dsk.inside; rw [HN.out, d1, d2, d3, d4]; rfl)
          go_enter Tryz.func118, Tryz.ntmps118
          go_wp2_with fail
          go_ret
          rw [HI.out]
          exact ⟨rfl, rfl⟩
        · have d4 : decide (n ≤ (N : Int) - at_) = false := by simpa using a4
          have HI : Hid (D.inside at_ n = false) := Lib.hid (by unfold Dsk.inside; rw [HN.out, d1, d2, d3, d4]; rfl)
          go_enter Tryz.func118, Tryz.ntmps118
          go_wp2_with fail
          go_ret
          rw [HI.out]
          exact ⟨rfl, rfl⟩
      · have d3 : decide (at_ ≤ (N : Int)) = false := by simpa using a3
        have HI : Hid (D.inside at_ n = false) := Lib.hid (by unfold Dsk.inside; rw [HN.out, d1, d2, d3]; rfl)
        go_enter Tryz.func118, Tryz.ntmps118
        go_wp2_with fail
        go_ret
        rw [HI.out]
        exact ⟨rfl, rfl⟩
    · have d2 : decide (0 ≤ n) = false := by simpa using a2
      have HI : Hid (D.inside at_ n = false) := Lib.hid (by unfold Dsk.inside; rw [d1, d2]; rfl)
      go_enter Tryz.func118, Tryz.ntmps118
      go_wp2_with fail
      go_ret
      rw [HI.out]
      exact ⟨rfl, rfl⟩
  · have d1 : decide (0 ≤ at_) = false := by simpa using a1
    have HI : Hid (D.inside at_ n = false) := Lib.hid (by unfold Dsk.inside; rw [d1]; rfl)
    go_enter Tryz.func118, Tryz.ntmps118
    go_wp2_with fail
    go_ret
    rw [HI.out]
    exact ⟨rfl, rfl⟩
set_option maxRecDepth 100000 in
set_option maxHeartbeats 400000 in
theorem sectors_any {w : World} {b : Nat} {D : Dsk} {fp : Nat → Prop} (h : DiskAt w b D fp) : Calls Tryz.prog 26 #[.pointer (some ⟨b, 0, none⟩)] w fun e w' => e = .returned (.int .i64 (D.n : Int)) ∧ w = w' := by
  obtain ⟨m, lv, h, rfl⟩ := h
  obtain ⟨c0, _, _, _, _, _⟩ := h.cells
  go_enter Tryz.func26, Tryz.ntmps26
  go_wp2_with fail
  go_ret
  exact ⟨rfl, rfl⟩
theorem DiskIn.set {w : World} {b m : Nat} {lv : Value} {D D' : Dsk} (h : DiskIn w b m lv D) (i : Nat) (v : Value)
    (hs : (#[.int .i64 (D.n : Int), .map (some m), lv, .int .i64 D.left, .bool D.down] : Array Value).setIfInBounds i v = #[.int .i64 (D'.n : Int), .map (some m), lv, .int .i64 D'.left, .bool D'.down])
    (hn : D'.n = D.n) (hb : D'.base = D.base) (hl : D'.loose = D.loose) (hf : D'.Fine) : DiskIn (w.setCell ⟨b, i, none⟩ v) b m lv D' := by
  have hu : Upd (fun k => k = b) w (w.setCell ⟨b, i, none⟩ v) := (Upd.refl (fun k => k = b) w).setCell (p := ⟨b, i, none⟩) (.inl rfl) v
  refine ⟨?_, ?_, ?_, h.mb, h.lb, h.lm, hf⟩
  · rw [← hs]
    exact heap_setCell_same w b i _ _ v h.struct
  · rw [hn, hb]; exact h.base.kept (hu.block m h.base.lt h.mb)
  · rw [hl]; exact ownsRow_upd h.loose hu (fun g hg e => h.lb (by rw [hg, e]))
set_option maxRecDepth 100000 in
set_option maxHeartbeats 400000 in
theorem fuse_any {w : World} {b : Nat} {D : Dsk} {fp : Nat → Prop} (h : DiskAt w b D fp) (n : Int) (hn : n ≤ 9223372036854775807) :
    Calls Tryz.prog 9 #[.pointer (some ⟨b, 0, none⟩), .int .i64 n] w fun e w' => e = .returned (.int .i64 0) ∧ DiskAt w' b (D.fuse n) fp ∧ Upd fp w w' := by
  obtain ⟨m, lv, hd, rfl⟩ := h
  obtain ⟨_, _, _, c3, _, cf⟩ := hd.cells
  have hf3 := cf 3
  clear cf
  go_enter Tryz.func9, Tryz.ntmps9
  go_wp2_with fail
  · have hlt : n < -1 := by assumption
    go_ret
    exact ⟨rfl, ⟨m, lv, hd.set 3 _ (by simp [Dsk.fuse]; omega) rfl rfl rfl (hd.fine.fuse hn), rfl⟩, (Upd.refl _ w).setCell (p := ⟨b, 3, none⟩) (.inl (.inl rfl)) _⟩
  · have hge : -1 ≤ n := by assumption
    go_ret
    exact ⟨rfl, ⟨m, lv, hd.set 3 _ (by simp [Dsk.fuse]; omega) rfl rfl rfl (hd.fine.fuse hn), rfl⟩, (Upd.refl _ w).setCell (p := ⟨b, 3, none⟩) (.inl (.inl rfl)) _⟩
end Go.Proofs.YtoaihngckcbhiaaGreatDoor
end
section
namespace Go.Proofs.YtoaihngckcbhiaaGreatDoor
open Go.RowKit Go.Maps
theorem BytesAt.upd {F : Nat → Prop} {w w' : World} {b : Nat} {l : List UInt8} (h : BytesAt w b l) (hu : Upd F w w') (hF : ¬ F b) : BytesAt w' b l := by
  have hlt := h.lt
  obtain ⟨C, e, fr, h1, h2⟩ := h
  exact ⟨C, e, fr, by rw [hu.block b hlt hF]; exact h1, h2⟩
theorem ownsRow_max {w : World} {base e s : Nat} {v : Value} {n : Nat} {xs : List Value} (h : w.ownsRow base e s v n xs) : n ≤ 9223372036854775807 := by
  rcases h.2 with ⟨_, e⟩ | ⟨g, cap, _, _, _, _, h1, h2, _⟩
  · omega
  · unfold maxLen at h2; omega
theorem DiskIn.below {w w' : World} {b m : Nat} {lv : Value} {D : Dsk} (h : DiskIn w b m lv D) (hb : Below w.heap.size w w') : DiskIn w' b m lv D := h.upd (Upd.of_below (F := fun _ => False) hb) (fun _ _ f => f)
theorem sec_made (w : World) (n : Nat) (hn : n ≤ 16384) : ∃ C, (Instr.makeSlice 174 (.int .i64 (n : Int)) (.int .i64 (n : Int))).run Tryz.prog w = .ok (.slice (some ⟨w.heap.size, 0, none⟩) n n) (w.alloc (.cells C 121)) ∧
    BytesAt (w.alloc (.cells C 121)) w.heap.size (List.replicate (64 * n) 0) := by
  have hinfo : (Tryz.prog.info? 121).map (fun i => (i.zero, i.size, i.bytes)) = some (some (.agg (u8row sec0)), 64, 64) := by kernel_rfl
  obtain ⟨i0, hi, hz0, hz1, hz2⟩ := info_parts hinfo
  have hrun := run_make (P := Tryz.prog) w 174 121 i0 _ Tryz.underlying174 hi hz0 .i64 .i64 n n (by omega) (Int.le_refl _) (by rw [hz2]; omega) (by omega)
  rw [Int.toNat_natCast] at hrun
  refine ⟨_, hrun, bytes_row_new w _ _ _ (fun i hi => ?_)⟩
  have hi0 := hi
  rw [List.length_replicate] at hi
  rw [hz1]
  have hs : sec0.length = 64 := by simp [sec0]
  have hg := u8row_get sec0 (i % 64) (by rw [hs]; exact Nat.mod_lt _ (by decide))
  have hz : sec0[i % 64]'(by rw [hs]; exact Nat.mod_lt _ (by decide)) = 0 := List.getElem_replicate _
  rw [hz] at hg
  clear hz hrun
  have hz2 : (List.replicate (64 * n) (0 : UInt8))[i]'hi0 = 0 := List.getElem_replicate _
  rw [hz2]
  unfold madeCells
  simp only [Value.cells, u8row_size, hs]
  rw [Array.getElem?_map, Array.getElem?_range, if_pos (by omega)]
  simp only [Option.map_some]
  rw [getElem!_def, hg]
set_option maxRecDepth 100000 in
set_option maxHeartbeats 400000 in
theorem read_down {w : World} {b m : Nat} {lv : Value} {D : Dsk} (h : DiskIn w b m lv D) (at_ n : Int) (hd : D.down = true) :
    Calls Tryz.prog 59 #[.pointer (some ⟨b, 0, none⟩), .int .i64 at_, .int .i64 n] w fun e w' => e = .returned (.tuple #[.string (bs []), .int .i64 40]) ∧ w = w' := by
  have hu : Hid (D.up = 40) := Lib.hid (by unfold Dsk.up; rw [hd]; rfl)
  clear hd
  go_enter Tryz.func59, Tryz.ntmps59
  go_wp2_with fail
  refine (up_any h).mono ?_
  rw [hu.out]
  rintro e w1 ⟨rfl, rfl⟩
  go_wp2_with fail
  go_ret2
  exact ⟨rfl, rfl⟩
set_option maxRecDepth 100000 in
set_option maxHeartbeats 1000000 in
theorem read_in {w : World} {b m : Nat} {lv : Value} {D : Dsk} (h : DiskIn w b m lv D) (a n : Nat) (hd : D.down = false) (hi : D.inside a n = true) :
    Calls Tryz.prog 59 #[.pointer (some ⟨b, 0, none⟩), .int .i64 a, .int .i64 n] w fun e w' => e = .returned (.tuple #[.string (bs (Dsk.text D.now a n)), .int .i64 0]) ∧ Below w.heap.size w w' := by
  have hu : Hid (D.up = 0) := Lib.hid (by unfold Dsk.up; rw [hd]; rfl)
  have HI := Lib.hid hi
  have hN := h.fine.n2
  have hin : a + n ≤ D.n := by
    simp [Dsk.inside] at hi
    omega
  clear hd hi
  obtain ⟨C, hmk, hrow⟩ := sec_made w n (by omega)
  have HROW := Lib.hid hrow
  clear hrow
  have HD := Lib.hid h
  go_enter Tryz.func59, Tryz.ntmps59
  go_wp2_with fail
  refine (up_any h).mono ?_
  rw [hu.out]
  rintro e w1 ⟨rfl, rfl⟩
  go_wp2_with fail
  refine (in_any h a n (by omega) (by omega) (by omega) (by omega)).mono ?_
  rw [HI.out]
  rintro e w1 ⟨rfl, rfl⟩
  clear h
  go_wp2_with fail
  go_loopw [30] (fun i wr => ∃ k : Nat, k ≤ n ∧ i = .int .i64 k ∧ BytesAt wr w.heap.size (Dsk.text (Dsk.upTo D.base (a + k)) a n) ∧ Below w.heap.size w wr) (fun i _ => n - (intOf i).toNat)
  case atStart =>
    refine ⟨0, by omega, rfl, ?_, (Below.refl _ _).alloc (Nat.le_refl _) _⟩
    rw [Nat.add_zero, Dsk.upTo_start]
    exact HROW.out
  case round =>
    obtain ⟨k, hk, rfl, hat, hb⟩ := hrel
    by_cases hlt : k < n
    · have HAT := Lib.hid hat
      have hdi := HD.out.below hb
      obtain ⟨_, c1, _, _, _, _⟩ := hdi.cells
      have hget := hdi.base.get (a + k) (by omega) hN
      rw [Int.natCast_add] at hget
      clear hat hdi
      have hbl := HD.out.fine.base
      have HBL := Lib.hid (hbl (a + k) (by omega))
      have hul : ∀ j, a ≤ j → j < a + n → (Dsk.upTo D.base (a + k) j).length = 64 := fun j _ h2 => Dsk.upTo_len hbl _ j (by omega)
      have HUL := Lib.hid hul
      have hlen : (Dsk.text (Dsk.upTo D.base (a + k)) a n).length = 64 * n := Dsk.len_in hul
      have hst := HAT.out.store Tryz.prog (k * 64) (D.base (a + k)) (by rw [HBL.out, hlen]; omega)
      have HSEG := Lib.hid (HAT.out.seg (D.base (a + k)) (k * 64) (by rw [HBL.out, hlen]; omega))
      have hl2 := HBL.out
      clear hbl hlen hul
      go_wp2_with fail
      go_roundw
      case rel =>
        refine ⟨k + 1, by omega, by go_num, ?_, below_setCells hb (Nat.le_refl _) _ _⟩
        have e := HSEG.out
        rw [Nat.mul_comm k 64, ← Dsk.text_upd HUL.out hlt HBL.out, ← Dsk.upTo_step] at e
        rw [Nat.mul_comm k 64]
        exact e
      case measure => simp [intOf]; omega
    · obtain rfl : k = n := by omega
      rw [Dsk.upTo_full] at hat
      have HAT := Lib.hid hat
      have hdi := HD.out.below hb
      obtain ⟨_, _, c2, _, _, _⟩ := hdi.cells
      have hl : ∃ q cap, lv = .slice q D.loose.length cap := by
        rcases hdi.loose.2 with ⟨e1, e2⟩ | ⟨g, cap, _, e1, _⟩
        · exact ⟨none, 0, by rw [e1, e2]⟩
        · exact ⟨_, cap, e1⟩
      obtain ⟨q, cap, rfl⟩ := hl
      have hmax := ownsRow_max hdi.loose
      have HB := Lib.hid hb
      clear hat hdi hb hmk
      go_wp2_with fail
      go_loopw [50] (fun i wr => ∃ j : Nat, j ≤ D.loose.length ∧ i = .int .i64 j ∧ BytesAt wr w.heap.size (Dsk.text (Dsk.lay D.base (D.loose.take j)) a k) ∧ Below w.heap.size w wr) (fun i _ => D.loose.length - (intOf i).toNat)
      case atStart => exact ⟨0, by omega, rfl, HAT.out, HB.out⟩
      case round =>
        clear HAT HB
        rename_i wr0
        obtain ⟨j, hj, rfl, hat, hb⟩ := hrel
        by_cases hlt : j < D.loose.length
        · have hlo := (HD.out.below hb).loose
          obtain ⟨g, rfl⟩ : ∃ g, q = some ⟨g, 0, none⟩ := by
            rcases hlo.2 with ⟨e1, e2⟩ | ⟨g, cap, _, e1, _⟩
            · omega
            · exact ⟨g, by cases e1; rfl⟩
          obtain ⟨p1, p2⟩ := HD.out.fine.loose D.loose[j] (List.getElem_mem hlt)
          have hall : ∀ p ∈ D.loose, p.2.length = 64 := fun p hp => (HD.out.fine.loose p hp).2
          have hr := loose_range hlo hall j hlt
          have hidx := run_index_slice Tryz.prog 70 123 Tryz.underlying70 65 put_elem ⟨g, 0, none⟩ D.loose.length cap j hlt
          have ead : (⟨g, 0, none⟩ : Addr).add (j * 65) = ⟨g, j * 65, none⟩ := by unfold Addr.add; split <;> simp_all
          rw [ead] at hidx
          have HS := Lib.hid (Dsk.lay_take_succ D.base D.loose j hlt)
          have hfl : ∀ i, i < D.n → (Dsk.lay D.base (D.loose.take j) i).length = 64 := Dsk.lay_length HD.out.fine.base (fun p hp => HD.out.fine.loose p (List.mem_of_mem_take hp))
          have HFL := Lib.hid hfl
          have HR := Lib.hid hr
          have HP2 := Lib.hid p2
          have HAT := Lib.hid hat
          generalize D.loose[j] = p at *
          clear hlo hall hr hfl ead p2 hat
          have hz := putRow_zero p
          have hlen : (Dsk.text (Dsk.lay D.base (D.loose.take j)) a k).length = 64 * k := Dsk.len_in (fun i _ h2 => HFL.out i (by omega))
          have HLEN := Lib.hid hlen
          have HB := Lib.hid hb
          clear hlen hb
          by_cases hin2 : a ≤ p.1 ∧ p.1 < a + k
          · obtain ⟨i1, i2⟩ := hin2
            have hat2 := HAT.out.below ((Below.refl _ wr).alloc (Nat.le_refl _) (.cells (putRow p) 123))
            have hst := hat2.store Tryz.prog ((p.1 - a) * 64) p.2 (by rw [HP2.out, HLEN.out]; omega)
            have HSEG := Lib.hid (hat2.seg p.2 ((p.1 - a) * 64) (by rw [HP2.out, HLEN.out]; omega))
            have hl2 := HP2.out
            clear hat2
            go_wp2_with (first | (refine wpList_load_mid rfl 123 _ rfl g (j * 65) rfl _ _ HR.out Tryz.underlying123 rfl (put_len p HP2.out) ?_; rw [put_array]) | (refine wpList_store_row rfl 123 _ _ rfl wr.heap.size (putRow p) rfl rfl 123 _ (heap_alloc_new wr _) (put_size p HP2.out) (put_zero p HP2.out) (putRow_one p) ?_; rw [World.setRow_alloc_new]) | (refine wpList_load_mid rfl 121 _ rfl wr.heap.size 1 rfl _ _ (putRow_sec wr p _) Tryz.underlying121 rfl (sec_len p.2 HP2.out) ?_; rw [u8cells_array]))
            go_roundw
            case rel =>
              refine ⟨j + 1, by omega, by go_num, ?_, below_setCells (HB.out.alloc HB.out.size _) (Nat.le_refl _) _ _⟩
              have e := HSEG.out
              have e2 := Dsk.text_upd (f := Dsk.lay D.base (D.loose.take j)) (k := a) (n := k) (i := p.1 - a) (x := p.2) (fun i _ h2 => HFL.out i (by omega)) (by omega) HP2.out
              rw [show a + (p.1 - a) = p.1 by omega, ← HS.out] at e2
              rw [Nat.mul_comm (p.1 - a) 64, ← e2] at e
              rw [Nat.mul_comm (p.1 - a) 64]
              exact e
            case measure => simp [intOf]; omega
          · have hsame : Dsk.text (Dsk.lay D.base (D.loose.take (j + 1))) a k = Dsk.text (Dsk.lay D.base (D.loose.take j)) a k := by
              rw [HS.out]
              exact Dsk.text_congr a k (fun i h1 h2 => by unfold Dsk.upd; rw [if_neg (by omega)])
            have HSAME := Lib.hid hsame
            clear hsame
            by_cases hlow : a ≤ p.1
            · have hhi : a + k ≤ p.1 := by omega
              clear hin2
              go_wp2_with (first | (refine wpList_load_mid rfl 123 _ rfl g (j * 65) rfl _ _ HR.out Tryz.underlying123 rfl (put_len p HP2.out) ?_; rw [put_array]) | (refine wpList_store_row rfl 123 _ _ rfl wr.heap.size (putRow p) rfl rfl 123 _ (heap_alloc_new wr _) (put_size p HP2.out) (put_zero p HP2.out) (putRow_one p) ?_; rw [World.setRow_alloc_new]))
              go_roundw
              case rel => exact ⟨j + 1, by omega, by go_num, by rw [HSAME.out]; exact HAT.out.below ((Below.refl _ wr).alloc (Nat.le_refl _) _), HB.out.alloc HB.out.size _⟩
              case measure => simp [intOf]; omega
            · clear hin2
              go_wp2_with (first | (refine wpList_load_mid rfl 123 _ rfl g (j * 65) rfl _ _ HR.out Tryz.underlying123 rfl (put_len p HP2.out) ?_; rw [put_array]) | (refine wpList_store_row rfl 123 _ _ rfl wr.heap.size (putRow p) rfl rfl 123 _ (heap_alloc_new wr _) (put_size p HP2.out) (put_zero p HP2.out) (putRow_one p) ?_; rw [World.setRow_alloc_new]))
              go_roundw
              case rel => exact ⟨j + 1, by omega, by go_num, by rw [HSAME.out]; exact HAT.out.below ((Below.refl _ wr).alloc (Nat.le_refl _) _), HB.out.alloc HB.out.size _⟩
              case measure => simp [intOf]; omega
        · obtain rfl : j = D.loose.length := by omega
          rw [List.take_length] at hat
          have HAT := Lib.hid hat
          have HB := Lib.hid hb
          have HFL := Lib.hid HD.out.fine.now
          clear hat hb c2 HD HROW hmax
          go_wp2_with fail
          have hmade := BuiltAt.made wr
          obtain ⟨wo, rfl⟩ : ∃ wo : World, wo = wr := ⟨_, rfl⟩
          have hlb := HAT.out.lt
          have hnew := (Below.refl wo.heap.size wo).alloc (Nat.le_refl _) (.cells #[.pointer none, .slice none 0 0] 178)
          have hat1 := HAT.out.below hnew
          have hb1 : Below w.heap.size w (wo.alloc (.cells #[.pointer none, .slice none 0 0] 178)) := HB.out.alloc HB.out.size _
          have hfulllen : (Dsk.text D.now a k).length = 64 * k := Dsk.len_in (fun i _ h2 => HFL.out i (by omega))
          have HLEN := Lib.hid hfulllen
          clear hfulllen hnew
          have hnow : Dsk.lay D.base D.loose = D.now := rfl
          rw [hnow] at hat1
          clear hnow
          go_loopw [77] (fun i wl => ∃ (j : Nat) (fp : Nat → Prop), j ≤ k ∧ i = .int .i64 j ∧ BytesAt wl w.heap.size (Dsk.text D.now a k) ∧ BuiltAt wl wo.heap.size ((Dsk.text D.now a k).take (64 * j)) fp ∧ (∀ q, fp q → wo.heap.size ≤ q) ∧ Below w.heap.size w wl) (fun i _ => k - (intOf i).toNat)
          case atStart =>
            refine ⟨0, _, by omega, rfl, hat1, hmade, ?_, hb1⟩
            rintro q (rfl | hq)
            · exact Nat.le_refl _
            · simp [Value.ownBlock] at hq
          case round =>
            clear hmade hat1 hb1
            obtain ⟨j, fp, hj, rfl, hat, hbu, hfp, hb⟩ := hrel
            by_cases hlt : j < k
            · have hpart := Dsk.text_part (f := D.now) (k := a) (n := k) (i := j) (fun i _ h2 => HFL.out i (by omega)) hlt
              have hr := hat.range (j * 64) 64 (by rw [HLEN.out]; omega)
              rw [Nat.mul_comm j 64, hpart.2.1] at hr
              have hx : (D.now (a + j)).length = 64 := HFL.out _ (by omega)
              have HX := Lib.hid hx
              have HR := Lib.hid hr
              have HT : Hid ((Dsk.text D.now a k).take (64 * (j + 1)) = (Dsk.text D.now a k).take (64 * j) ++ D.now (a + j)) := Lib.hid (by
                rw [show 64 * (j + 1) = 64 * j + 64 by omega, List.take_add, hpart.2.1])
              have hnew := (Below.refl wr.heap.size wr).alloc (Nat.le_refl _) (.cells (u8row (D.now (a + j))) 121)
              have HAT2 := Lib.hid (hat.below hnew)
              have HBU := Lib.hid (hbu.upd (Upd.of_below (F := fun _ => False) hnew) (fun _ _ f => f))
              have HFP := Lib.hid hfp
              have HLT := Lib.hid hbu.lt
              have HWO : Hid (wo.heap.size ≤ wr.heap.size) := Lib.hid (Nat.le_of_lt (hbu.lt wo.heap.size hbu.own))
              have HBB := Lib.hid (hb.alloc hb.size (.cells (u8row (D.now (a + j))) 121))
              generalize hxx : D.now (a + j) = x at *
              clear hpart hr hx hat hbu hfp hb hnew hxx
              have hsl := fun W => run_slice_arr_all Tryz.prog W 121 5 64 wr.heap.size Tryz.underlying121 (by kernel_rfl)
              go_wp2_with (first | (refine wpList_load_mid rfl 121 _ rfl w.heap.size (j * 64) rfl _ _ (by rw [Nat.mul_comm]; exact HR.out) Tryz.underlying121 rfl (sec_len x HX.out) ?_; rw [u8cells_array]) | (refine wpList_store_row rfl 121 _ _ rfl wr.heap.size (u8row x) rfl rfl 121 _ (heap_alloc_new wr _) (by rw [u8row_size, HX.out]; exact sec_size) (by rw [u8row_size, HX.out]; rfl) (u8row_one x) ?_; rw [World.setRow_alloc_new]))
              refine (bwrite_any HBU.out wr.heap.size 0 64 x (fun i hi => by rw [Nat.zero_add, cell_new_row]; exact u8row_get x i hi) (fun hf => Nat.lt_irrefl _ (HLT.out _ hf)) (by rw [List.length_take, HLEN.out, HX.out]; omega) 64 HX.out).mono ?_
              rintro e w2 ⟨rfl, fp2, hbu2, hu2, hst2⟩
              have HBU2 := Lib.hid hbu2
              have HU2 := Lib.hid hu2
              have HST2 := Lib.hid hst2
              clear hbu2 hu2 hst2
              go_wp2_with fail
              go_roundw
              case rel =>
                refine ⟨j + 1, fp2, by omega, by go_num, HAT2.out.upd HU2.out (fun hf => by have := HFP.out _ hf; omega), by rw [HT.out]; exact HBU2.out, ?_, below_upd HBB.out HU2.out (fun q hq => Nat.le_trans (Nat.le_of_lt hlb) (HFP.out q hq)) HBB.out.size⟩
                intro q hq
                rcases HST2.out q hq with h1 | h1
                · exact HFP.out q h1
                · have := HWO.out
                  rw [World.size_alloc] at h1
                  omega
              case measure => simp [intOf]; omega
            · obtain rfl : j = k := by omega
              rw [List.take_of_length_le (by rw [HLEN.out]; omega)] at hbu
              have HBU := Lib.hid hbu
              have HFP := Lib.hid hfp
              have HB2 := Lib.hid hb
              clear hbu hfp hb hat
              go_wp2_with fail
              refine (bstring_any HBU.out).mono ?_
              rintro e w2 ⟨rfl, hu2⟩
              go_wp2_with fail
              go_ret2
              exact ⟨rfl, below_upd HB2.out hu2 (fun q hq => Nat.le_trans (Nat.le_of_lt hlb) (HFP.out q hq)) HB2.out.size⟩
end Go.Proofs.YtoaihngckcbhiaaGreatDoor
namespace Go.Proofs.YtoaihngckcbhiaaGreatDoor
open Go.RowKit Go.Maps
theorem chunk (s : List UInt8) (k : Nat) (h : 64 * (k + 1) ≤ s.length) : (s.take (64 * (k + 1))).drop (64 * k) = (s.drop (64 * k)).take 64 ∧ ((s.drop (64 * k)).take 64).length = 64 := by
  refine ⟨?_, by rw [List.length_take, List.length_drop]; omega⟩
  rw [List.drop_take, show 64 * (k + 1) - 64 * k = 64 by omega]
theorem put_info3 : (Tryz.prog.info? 123).map (fun i => (i.zero, i.size, i.bytes)) = some (some (.agg Tryz.zeroCells123), 65, 72) := by kernel_rfl
theorem news_new (w : World) (C : Array Value) (T : TypeId) (N : Nat) (hN : w.heap.size = N) : ∀ j u, C.toList[j]? = some u → (w.alloc (.cells C T)).drew.cell? ((⟨N, 0, none⟩ : Addr).add j) = some u := by
  subst hN
  intro j u h
  have e : (⟨w.heap.size, 0, none⟩ : Addr).add j = ⟨w.heap.size, j, none⟩ := by unfold Addr.add; split <;> simp_all
  rw [e]
  show (w.alloc (.cells C T)).cell? _ = _
  rw [cell_new_row, ← Array.getElem?_toList]
  exact h
theorem putRowZ_one (i : Int) (x : List UInt8) : ∀ u ∈ (putRowZ i x).toList, u.oneCell' = true := by
  unfold putRowZ
  intro u hu
  rcases List.mem_cons.1 hu with rfl | h
  · rfl
  · exact u8cells_one _ u h
theorem putRowZ_len (i : Int) (x : List UInt8) (h : x.length = 64) : (putRowZ i x).toList.length = 1 * 65 := by rw [Array.length_toList, putRowZ_size i x h]
theorem rangeAt_grown {w w' : World} {row : Option Nat} (hg : w.grownBy w' row) {b o : Nat} {cs : List Value} (h : w.rangeAt b o cs) (hne : some b ≠ row) : w'.rangeAt b o cs := fun j v hv => hg.cell (h j v hv) hne
theorem keep_S {w : World} {a : Addr} {v : Value} {b2 o : Nat} {cs : List Value} (h1 : w.cell? a = some v) (h0 : w.frozen? a = false) (h2 : w.rangeAt b2 o cs) (ob : Obj) : (w.alloc ob).drew.cell? a = some v ∧ (w.alloc ob).drew.frozen? a = false ∧ (w.alloc ob).drew.rangeAt b2 o cs := by
  have hb := (Below.refl w.heap.size w).alloc (Nat.le_refl _) ob
  refine ⟨(hb.cell (block_lt_of_cell h1)).trans h1, (hb.frozen (block_lt_of_cell h1)).trans h0, fun j u hj => ?_⟩
  have := h2 j u hj
  exact (hb.cell (block_lt_of_cell this)).trans this
theorem keep_grown {w w' : World} {a : Addr} {v : Value} {b2 o : Nat} {cs : List Value} (h : w.cell? a = some v ∧ w.frozen? a = false ∧ w.rangeAt b2 o cs) {row : Option Nat} (hg : w.grownBy w' row) (hne : some a.block ≠ row) (hne2 : some b2 ≠ row) : w'.cell? a = some v ∧ w'.frozen? a = false ∧ w'.rangeAt b2 o cs :=
  ⟨hg.cell h.1 hne, (hg.frozen_far a (block_lt_of_cell h.1) hne).trans h.2.1, rangeAt_grown hg h.2.2 hne2⟩
theorem wrote {w1 W w2 : World} {b m : Nat} {lk : Value} {E : Dsk} (h : DiskIn w1 b m lk E) (hW : Below w1.heap.size w1 W) (hgrow : W.grownBy w2 lk.ownBlock) {gg cap a : Nat} {x : List UInt8} {L : Int} {C : List Value} {N : Nat} (hN : E.loose.length + 1 = N)
    (hown : w2.ownsRow 0 123 65 (.slice (some ⟨gg, 0, none⟩) N cap) N C) (hC : C = looseCells (E.loose ++ [(a, x)])) (hat : lk.ownBlock = some gg ∨ w1.heap.size ≤ gg) (ha : a < E.n) (hx : x.length = 64) (hL : -1 ≤ L ∧ L ≤ 9223372036854775807) :
    DiskIn ((w2.setCell ⟨b, 2, none⟩ (.slice (some ⟨gg, 0, none⟩) N cap)).setCell ⟨b, 3, none⟩ (.int .i64 L)) b m (.slice (some ⟨gg, 0, none⟩) N cap) { E with loose := E.loose ++ [(a, x)], left := L } ∧
    Upd (diskBlocks b m lk) w1 ((w2.setCell ⟨b, 2, none⟩ (.slice (some ⟨gg, 0, none⟩) N cap)).setCell ⟨b, 3, none⟩ (.int .i64 L)) ∧ Stays (diskBlocks b m lk) (diskBlocks b m (.slice (some ⟨gg, 0, none⟩) N cap)) w1 := by
  subst hC; subst hN
  have hb : b < w1.heap.size := (Array.getElem?_eq_some_iff.1 h.struct).1
  have hm : m < w1.heap.size := h.base.lt
  have u1 : Upd (diskBlocks b m lk) w1 w2 := (Upd.of_below hW).trans (Upd.of_grownBy (F := fun k => lk.ownBlock = some k) hgrow (fun k e => e)) (fun k hk => .inl (.inr (.inr hk)))
  have u2 : Upd (fun k => lk.ownBlock = some k) w1 w2 := (Upd.of_below hW).trans (Upd.of_grownBy (F := fun k => lk.ownBlock = some k) hgrow (fun k e => e)) (fun k hk => .inl hk)
  have hgb : gg ≠ b := fun e => by
    rcases hat with hat | hat
    · exact h.lb (by rw [hat, e])
    · omega
  have hgm : gg ≠ m := fun e => by
    rcases hat with hat | hat
    · exact h.lm (by rw [hat, e])
    · omega
  have hs : w2.heap[b]? = some (.cells #[.int .i64 (E.n : Int), .map (some m), lk, .int .i64 E.left, .bool E.down] 72) := by
    rw [u2.block b hb h.lb]; exact h.struct
  have hF : Dsk.Fine { E with loose := E.loose ++ [(a, x)], left := L } := by
    refine ⟨h.fine.n1, h.fine.n2, h.fine.base, fun p hp => ?_, hL⟩
    rcases List.mem_append.1 hp with hp | hp
    · exact h.fine.loose p hp
    · simp at hp; subst hp; exact ⟨ha, hx⟩
  have hv : ∀ (v v' : Value), Upd (fun k => k = b) w2 ((w2.setCell ⟨b, 2, none⟩ v).setCell ⟨b, 3, none⟩ v') := fun v v' => ((Upd.refl (fun k => k = b) w2).setCell (p := ⟨b, 2, none⟩) (.inl rfl) v).setCell (p := ⟨b, 3, none⟩) (.inl rfl) v'
  refine ⟨⟨?_, ?_, ?_, h.mb, fun e => hgb (by simpa [Value.ownBlock] using e), fun e => hgm (by simpa [Value.ownBlock] using e), hF⟩, ?_, ?_⟩
  · have e1 := heap_setCell_same w2 b 2 _ _ (.slice (some ⟨gg, 0, none⟩) (E.loose.length + 1 : Nat) cap) hs
    have e2 := heap_setCell_same _ b 3 _ _ (.int .i64 L) e1
    exact e2
  · refine (h.base.kept (u2.block m hm h.lm)).kept ((hv _ _).block m (Nat.lt_of_lt_of_le hm u2.size) h.mb)
  · have e : (E.loose ++ [(a, x)]).length = E.loose.length + 1 := by simp
    show World.ownsRow _ 0 _ 65 _ (E.loose ++ [(a, x)]).length _
    rw [e]
    exact ownsRow_upd hown (hv _ _) (fun g hg e => hgb (by simp [Value.ownBlock] at hg; omega))
  · exact (u1.setCell (p := ⟨b, 2, none⟩) (.inl (.inl rfl)) _).setCell (p := ⟨b, 3, none⟩) (.inl (.inl rfl)) _
  · rintro k (rfl | rfl | hk)
    · exact .inl (.inl rfl)
    · exact .inl (.inr (.inl rfl))
    · simp [Value.ownBlock] at hk
      subst hk
      rcases hat with hat | hat
      · exact .inl (.inr (.inr hat))
      · exact .inr hat
theorem loose_more (l : List (Nat × List UInt8)) (a k : Nat) (x : List UInt8) : looseCells l ++ (putRowZ ((a : Int) + (k : Int)) x).toList = looseCells (l ++ [(a + k, x)]) := by
  rw [looseCells_snoc, putRowZ_eq, putRow_list]
def secLoad (p : Value) : Sem Value := Instr.loadAt 121 p
theorem sec_load (p : Value) : Instr.loadAt 121 p = secLoad p := rfl
attribute [local go_sem ↓] sec_load
attribute [local simp] u8cells_array put_fold putRowZ_size put_fold2
set_option maxRecDepth 100000 in
set_option maxHeartbeats 2000000 in
theorem write_in {w : World} {b m : Nat} {lv : Value} {D : Dsk} (h : DiskIn w b m lv D) (a : Nat) (s : List UInt8) (hd : D.down = false) (n : Nat) (hs : s.length = 64 * n) (hi : D.inside a n = true) (hloose : D.loose.length + n ≤ 1000000000) :
    Calls Tryz.prog 74 #[.pointer (some ⟨b, 0, none⟩), .int .i64 a, .string (bs s)] w fun e w' => e = .returned (.int .i64 (Dsk.writes D a s n).2) ∧ ∃ lv', DiskIn w' b m lv' (Dsk.writes D a s n).1 ∧ Upd (diskBlocks b m lv) w w' ∧ Stays (diskBlocks b m lv) (diskBlocks b m lv') w := by
  have hu : Hid (D.up = 0) := Lib.hid (by unfold Dsk.up; rw [hd]; rfl)
  have HI := Lib.hid hi
  have hN := h.fine.n2
  have hin : a + n ≤ D.n := by
    simp [Dsk.inside] at hi
    omega
  clear hd hi
  have HS := Lib.hid hs
  have hq : ((s.length : Int) / 64) = (n : Int) := by omega
  have hr : (s.length : Int) % 64 = 0 := by omega
  have HD := Lib.hid h
  clear hs
  have HQ := Lib.hid hq
  have HR := Lib.hid hr
  clear hq hr
  go_enter Tryz.func74, Tryz.ntmps74
  go_wp2_with fail
  go_step3
  go_wp2_with fail
  refine (up_any h).mono ?_
  rw [hu.out]
  rintro e w1 ⟨rfl, rfl⟩
  have hq := HQ.out
  have hr := HR.out
  go_wp2_with fail
  refine (in_any h a n (by omega) (by omega) (by omega) (by omega)).mono ?_
  rw [HI.out]
  rintro e w1 ⟨rfl, rfl⟩
  clear h hq hr
  go_wp2_with fail
  go_step3
  go_wp2_with fail
  go_loopw [6, 31] (fun e i wr => e = .int .i64 0 ∧ ∃ (k : Nat) (lk : Value) (E : Dsk), k ≤ n ∧ i = .int .i64 k ∧ DiskIn wr b m lk E ∧ E.n = D.n ∧ E.loose.length = D.loose.length + k ∧ Dsk.writes D a s n = Dsk.writes E (a + k) (s.drop (64 * k)) (n - k) ∧ Upd (diskBlocks b m lv) w wr ∧ Stays (diskBlocks b m lv) (diskBlocks b m lk) w) (fun _ i _ => n - (intOf i).toNat)
  case atStart => exact ⟨rfl, 0, lv, D, by omega, rfl, HD.out, rfl, rfl, by rw [Nat.mul_zero, List.drop_zero]; rfl, Upd.refl _ _, fun _ h => .inl h⟩
  case round =>
    obtain ⟨rfl, k, lk, E, hk, rfl, hE, hEn, hEl, hW, hU, hS⟩ := hrel
    obtain ⟨c0, c1, c2, c3, c4, cf⟩ := hE.cells
    by_cases hlt : k < n
    · obtain ⟨hx1, hx2⟩ := chunk s k (by rw [HS.out]; omega)
      have hstep : Dsk.writes E (a + k) (s.drop (64 * k)) (n - k) = if E.left = 0 then ({ E with down := true }, 40) else Dsk.writes { E with loose := E.loose ++ [(a + k, (s.drop (64 * k)).take 64)], left := max (E.left - 1) (-1) } (a + k + 1) ((s.drop (64 * k)).drop 64) (n - (k + 1)) := by
        rw [show n - k = (n - (k + 1)) + 1 by omega]; rfl
      have HST := Lib.hid hstep
      have HE := Lib.hid hE; have HEN := Lib.hid hEn; have HEL := Lib.hid hEl; have HW := Lib.hid hW; have HU := Lib.hid hU; have HSS := Lib.hid hS
      have HX1 := Lib.hid hx1; have HX2 := Lib.hid hx2
      have cf3 := cf 3; have cf4 := cf 4; have cf2 := cf 2
      clear hstep hE hEn hEl hW hU hS hx1 hx2 cf c0 c1
      by_cases hl0 : E.left = 0
      · have hb0 : (E.left == 0) = true := by simp [hl0]
        have HL := Lib.hid hl0
        clear hl0
        go_wp2_with fail
        rw [Exit.noGoto_ret]
        go_ret
        have hfine : Dsk.Fine { E with down := true } := ⟨HE.out.fine.n1, HE.out.fine.n2, HE.out.fine.base, HE.out.fine.loose, HE.out.fine.left⟩
        refine ⟨by rw [HW.out, HST.out, if_pos HL.out]; rfl, lk, ?_, HU.out.setCell (p := ⟨b, 4, none⟩) (.inl (.inl rfl)) _, HSS.out⟩
        rw [HW.out, HST.out, if_pos HL.out]
        exact HE.out.set (D' := { E with down := true }) 4 _ rfl rfl rfl rfl hfine
      · have hb0 : (E.left == 0) = false := by simp [hl0]
        have HL := Lib.hid hl0
        clear hl0
        have hsl : 64 * (k + 1) ≤ s.length := by rw [HS.out]; omega
        have hxe : List.drop (k * 64) (List.take ((k + 1) * 64) s) = (s.drop (64 * k)).take 64 := by rw [Nat.mul_comm k, Nat.mul_comm (k + 1)]; exact HX1.out
        have HREST : Hid ((s.drop (64 * k)).drop 64 = s.drop (64 * (k + 1))) := Lib.hid (by rw [List.drop_drop, show 64 * k + 64 = 64 * (k + 1) by omega])
        generalize (s.drop (64 * k)).take 64 = x at *
        obtain ⟨w1, cap, hcv, hby, hb1, hsz1⟩ := conv_bytes Tryz.prog 9 176 5 Tryz.underlying9 Tryz.underlying176 Tryz.underlying5 wr x
        have har := fun W => run_arrayAt Tryz.prog W 121 5 64 (some ⟨wr.heap.size, 0, none⟩) x.length cap Tryz.underlying121 (by rw [HX2.out]; exact Nat.le_refl _)
        have hrange := hby.range 0 64 (by rw [HX2.out]; exact Nat.le_refl _)
        rw [List.drop_zero, List.take_of_length_le (by rw [HX2.out]; exact Nat.le_refl _)] at hrange
        have HRG := Lib.hid hrange
        have HSZ := Lib.hid hsz1
        clear hsz1
        have HB1 := Lib.hid hb1
        have hE1 := HE.out.below hb1
        obtain ⟨_, _, d2, d3, _, df⟩ := hE1.cells
        have HE1 := Lib.hid hE1
        have df2 := df 2
        have df3 := df 3
        clear hrange hb1 HX1 hby c2 c4 cf3 cf4 cf2 hE1 df
        go_wp2_with (first | (refine wpList_load_mid rfl 121 _ rfl wr.heap.size 0 rfl _ _ HRG.out Tryz.underlying121 rfl (sec_len x HX2.out) ?_; rw [u8cells_array]) | (refine wpList_store_row rfl 121 _ _ rfl w1.heap.size (u8row x) rfl rfl 121 _ (heap_alloc_new w1 _) (by rw [u8row_size, HX2.out]; exact sec_size) (by rw [u8row_size, HX2.out]; rfl) (u8row_one x) ?_; rw [World.setRow_alloc_new]))
        have hlow := (HE1.out.loose)
        have hu99 := Tryz.underlying121
        have hi99 := sec_len x HX2.out
        have hd2 : (w1.alloc (.cells (u8row x) 121)).cell? ⟨b, 2, none⟩ = some lk := by
          rw [← d2]
          exact ((Below.refl _ w1).alloc (Nat.le_refl _) _).cell (block_lt_of_cell d2)
        have hf2 : (w1.alloc (.cells (u8row x) 121)).frozen? ⟨b, 2, none⟩ = false := by
          rw [← df2]
          exact ((Below.refl _ w1).alloc (Nat.le_refl _) _).frozen (block_lt_of_cell d2)
        have hrow : (w1.alloc (.cells (u8row x) 121)).rangeAt w1.heap.size 0 (u8cells x) := by
          intro j v hv
          rw [Nat.zero_add, cell_new_row, ← Array.getElem?_toList, u8row_list]
          exact hv
        obtain ⟨i0, hi0, hz0, hz1, hz2⟩ := info_parts put_info3
        have hx64 := HX2.out
        have hwr : IntKind.i64.wrap ((a : Int) + (k : Int)) = (a : Int) + (k : Int) := IntWalk.i64_in _ (by omega)
        have hne2 := HE1.out.lb
        have hnes : lk.ownBlock ≠ some w1.heap.size := fun e => by have := ownsRow_lt hlow e; omega
        have hcount : (E.loose.length + 1) * 72 ≤ 140737488355328 := by rw [HEL.out]; omega
        have hsz2 : (w1.alloc (.cells (u8row x) 121)).heap.size = w1.heap.size + 1 := Array.size_push _
        have hbne : w1.heap.size ≠ b := by have := block_lt_of_cell d2; simp at this; omega
        have hsz2' : w1.heap.size ≤ (w1.alloc (.cells (u8row x) 121)).heap.size := by rw [hsz2]; omega
        have hd3 : (w1.alloc (.cells (u8row x) 121)).cell? ⟨b, 3, none⟩ = some (.int .i64 E.left) := by
          rw [← d3]
          exact ((Below.refl _ w1).alloc (Nat.le_refl _) _).cell (block_lt_of_cell d3)
        have hf3 : (w1.alloc (.cells (u8row x) 121)).frozen? ⟨b, 3, none⟩ = false := by
          rw [← df3]
          exact ((Below.refl _ w1).alloc (Nat.le_refl _) _).frozen (block_lt_of_cell d3)
        have keepA3 := fun ob => keep_S hd3 hf3 hrow ob
        obtain ⟨hl1, hl2⟩ := HE.out.fine.left
        have keepA := fun ob => keep_S hd2 hf2 hrow ob
        have hld : (secLoad (.pointer (some ⟨w1.heap.size, 0, none⟩))).run Tryz.prog (w1.alloc (.cells (u8row x) 121)).drew = .ok (.agg (u8row x)) (w1.alloc (.cells (u8row x) 121)).drew := by
          have := run_loadAt_mid (w1.alloc (.cells (u8row x) 121)).drew w1.heap.size 0 121 (u8cells x) _ (fun j u hj => hrow j u hj) hu99 rfl hi99
          rw [u8cells_array, sec_load] at this
          exact this
        clear hu99 hi99
        go_region_law
          ((refine step_append_lies _ (by rfl) _ _ _ (by rfl) 0 123 i0 _ 65 72 Tryz.underlying70 hi0 hz0 hz1 hz2 (by rfl) (by omega) lk E.loose.length (looseCells E.loose) (by rfl) (((hlow.alloc _).alloc _).drew) ⟨w1.heap.size + 1, 0, none⟩ 1 1 (putRowZ ((a : Int) + (k : Int)) x).toList (by rfl) (putRowZ_len _ _ hx64) (news_new (w1.alloc (.cells (u8row x) 121)) _ _ _ hsz2) (putRowZ_one _ _) (by omega) (by unfold maxLen; omega) hcount (by omega) (w1.heap.size + 2) (by simp) ?_; intro gg cap2 w2 hown1 hgrow hat hlt2; have hc2 := hgrow.cell (keepA _).1 (Ne.symm hne2); have hfz2 := (keep_grown (keepA _) hgrow (Ne.symm hne2) (Ne.symm hnes)).2.1; have hc3 := hgrow.cell (keepA3 _).1 (Ne.symm hne2); have hfz3 := (keep_grown (keepA3 _) hgrow (Ne.symm hne2) (Ne.symm hnes)).2.1))
        all_goals
          clear keepA keepA3 hld hd2 hf2 hd3 hf3 hsz2 hrow hlow d2 d3 df2 df3 c3 hcv har hcount hi0 hz0 hz1 hz2
          go_wp2_with fail
          have hbw : Below w1.heap.size w1 ((w1.alloc (Obj.cells (u8row x) 121)).alloc (Obj.cells (putRowZ (↑a + ↑k) x) 123)).drew := (((Below.refl _ w1).alloc (Nat.le_refl _) _).alloc hsz2' _).drew
          have hmx : (if E.left - 1 < -1 then (-1 : Int) else E.left - 1) = max (E.left - 1) (-1) := by split <;> omega
          rw [hmx]
          obtain ⟨g1, g2, g3⟩ := wrote (a := a + k) (L := max (E.left - 1) (-1)) HE1.out hbw hgrow rfl hown1 (loose_more _ _ _ _) (hat.imp (fun h => h) (fun h => by omega)) (by have := HEN.out; omega) hx64 (by omega)
          refine ⟨⟨rfl, k + 1, _, _, by omega, rfl, g1, HEN.out, ?_, ?_, ?_, ?_⟩, ?_⟩
          · show (E.loose ++ [(a + k, x)]).length = _
            rw [List.length_append, HEL.out]; rfl
          · rw [HW.out, HST.out, if_neg HL.out, HREST.out]
            rfl
          · refine (HU.out.trans (Upd.of_below (F := fun _ => False) HB1.out) (fun _ f => f.elim)).trans g2 (fun i hi => ?_)
            exact HSS.out i hi
          · intro i hi
            have hsz3 := (HU.out.trans (Upd.of_below (F := fun _ => False) HB1.out) (fun _ f => f.elim)).size
            rcases g3 i hi with h | h
            · exact HSS.out i h
            · exact .inr (by omega)
          · show n - ((k : Int) + 1).toNat < n - ((k : Int)).toNat
            omega
    · have hkn : k = n := by omega
      subst hkn
      have HE := Lib.hid hE; have HW := Lib.hid hW; have HU := Lib.hid hU; have HSS := Lib.hid hS
      clear hE hW hU hS hEn hEl c0 c1 c2 c3 c4 cf
      go_wp2_with fail
      rw [Exit.noGoto_ret]
      go_ret
      rw [HW.out, Nat.sub_self]
      exact ⟨rfl, lk, HE.out, HU.out, HSS.out⟩
set_option maxRecDepth 100000 in
set_option maxHeartbeats 400000 in
theorem write_any {w : World} {b : Nat} {D : Dsk} {fp : Nat → Prop} (h : DiskAt w b D fp) (a : Int) (s : List UInt8) (ha : -9223372036854775808 ≤ a ∧ a ≤ 9223372036854775807) (hl : s.length ≤ 1000000000) (hloose : D.loose.length + s.length / 64 ≤ 1000000000) :
    Calls Tryz.prog 74 #[.pointer (some ⟨b, 0, none⟩), .int .i64 a, .string (bs s)] w fun e w' => e = .returned (.int .i64 (D.write a s).2) ∧ ∃ fp', DiskAt w' b (D.write a s).1 fp' ∧ Upd fp w w' ∧ Stays fp fp' w := by
  obtain ⟨m, lv, hI, rfl⟩ := h
  by_cases hd : D.down = true
  · have hu : Hid (D.up = 40) := Lib.hid (by unfold Dsk.up; rw [hd]; rfl)
    have hW : D.write a s = (D, 40) := by unfold Dsk.write; rw [if_pos hd]
    rw [hW]
    have HI := Lib.hid hI
    clear hW hd
    go_enter Tryz.func74, Tryz.ntmps74
    go_wp2_with fail
    go_step3
    go_wp2_with fail
    refine (up_any hI).mono ?_
    rw [hu.out]
    rintro e w1 ⟨rfl, rfl⟩
    go_wp2_with fail
    rw [Exit.noGoto_ret]
    go_ret
    exact ⟨rfl, _, ⟨m, lv, HI.out, rfl⟩, Upd.refl _ _, fun _ h => .inl h⟩
  · have hd' : D.down = false := by simpa using hd
    by_cases hc : s.length % 64 = 0 ∧ D.inside a (s.length / 64 : Nat) = true
    · have hW : D.write a s = Dsk.writes D a.toNat s (s.length / 64) := by unfold Dsk.write; rw [if_neg hd, if_pos hc]
      obtain ⟨h1, h2⟩ := hc
      have h3 := h2
      simp only [Dsk.inside, Bool.and_eq_true, decide_eq_true_eq] at h3
      have e : a = (a.toNat : Int) := by omega
      rw [hW]
      have hE := write_in hI a.toNat s hd' (s.length / 64) (by omega) (by rw [← e]; exact h2) hloose
      rw [← e] at hE
      refine hE.mono ?_
      rintro e w1 ⟨rfl, lv', g1, g2, g3⟩
      exact ⟨rfl, _, ⟨m, lv', g1, rfl⟩, g2, g3⟩
    · have hu : Hid (D.up = 0) := Lib.hid (by unfold Dsk.up; rw [hd']; rfl)
      have hW : D.write a s = (D, 2) := by unfold Dsk.write; rw [if_neg hd, if_neg hc]
      rw [hW]
      have HI := Lib.hid hI
      by_cases hr : (s.length : Int) % 64 = 0
      · have hin : D.inside a (s.length / 64 : Nat) = false := by
          rcases hb : D.inside a (s.length / 64 : Nat) with _ | _
          · rfl
          · exact absurd ⟨by omega, hb⟩ hc
        have HIN := Lib.hid hin
        clear hW hd hd' hc hin
        have hq : ((s.length : Int) / 64) = ((s.length / 64 : Nat) : Int) := by omega
        generalize s.length / 64 = n at *
        have HR := Lib.hid hr
        have HQ := Lib.hid hq
        clear hr hq
        go_enter Tryz.func74, Tryz.ntmps74
        go_wp2_with fail
        go_step3
        go_wp2_with fail
        refine (up_any hI).mono ?_
        rw [hu.out]
        rintro e w1 ⟨rfl, rfl⟩
        have hq := HQ.out
        have hr := HR.out
        go_wp2_with fail
        refine (in_any hI a n (by omega) (by omega) (by omega) (by omega)).mono ?_
        rw [HIN.out]
        rintro e w1 ⟨rfl, rfl⟩
        go_wp2_with fail
        rw [Exit.noGoto_ret]
        go_ret
        exact ⟨rfl, _, ⟨m, lv, HI.out, rfl⟩, Upd.refl _ _, fun _ h => .inl h⟩
      · have HR := Lib.hid hr
        clear hW hd hd' hc hr
        go_enter Tryz.func74, Tryz.ntmps74
        go_wp2_with fail
        go_step3
        go_wp2_with fail
        refine (up_any hI).mono ?_
        rw [hu.out]
        rintro e w1 ⟨rfl, rfl⟩
        have hr := HR.out
        go_wp2_with fail
        rw [Exit.noGoto_ret]
        go_ret
        exact ⟨rfl, _, ⟨m, lv, HI.out, rfl⟩, Upd.refl _ _, fun _ h => .inl h⟩
end Go.Proofs.YtoaihngckcbhiaaGreatDoor
end
