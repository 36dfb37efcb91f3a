/- How a disk lies in memory. -/
import Derived.Test.YtdmbadkpendfhaaGreatDoorHeap
import Derived.Test.YtdmbadkpendfhaaGreatDoorBlk
import Derived.Test.YtdmbadkpendfhaaGreatDoorDiskPlain
import Derived.Test.YtdmbadkpendfhaaGreatDoorReads
import Derived.Test.YtdmbadkpendfhaaGreatDoorBuild
namespace Go.Proofs.YtdmbadkpendfhaaGreatDoor
open Go.RowKit Go.Maps

theorem sec_info : (Tryz.prog.info? 174).map (fun i => (i.zero, i.size)) = some (some (.agg (u8row sec0)), 64) := by kernel_rfl
theorem sec_zero (w : World) : (zeroValue 174).run Tryz.prog w = .ok (.agg (u8row sec0)) w := (zero_of_info sec_info).1 w
theorem sec_size : (Tryz.prog.info? 174).map (·.size) = some 64 := (zero_of_info sec_info).2

/-- The cells of loose writes. -/
@[irreducible] def looseCells (l : List (Nat × List UInt8)) : List Value := l.flatMap fun p => Value.int .i64 (p.1 : Int) :: u8cells p.2
theorem looseCells_snoc (l : List (Nat × List UInt8)) (p : Nat × List UInt8) : looseCells (l ++ [p]) = looseCells l ++ (Value.int .i64 (p.1 : Int) :: u8cells p.2) := by
  unfold looseCells; simp
theorem looseCells_nil : looseCells [] = [] := by unfold looseCells; rfl
theorem looseCells_length (l : List (Nat × List UInt8)) (h : ∀ p ∈ l, p.2.length = 64) : (looseCells l).length = l.length * 65 := by
  induction l with
  | nil => rw [looseCells_nil]; rfl
  | cons p l ih =>
    have e : looseCells (p :: l) = (Value.int .i64 (p.1 : Int) :: u8cells p.2) ++ looseCells l := by unfold looseCells; rfl
    rw [e, List.length_append, ih (fun q hq => h q (List.mem_cons_of_mem _ hq)), List.length_cons, u8cells_length, h p List.mem_cons_self, List.length_cons]
    omega
/-- A cell of the k-th loose write. -/
theorem looseCells_get (l : List (Nat × List UInt8)) (h : ∀ p ∈ l, p.2.length = 64) (k : Nat) (hk : k < l.length) (j : Nat) (hj : j < 65) :
    (looseCells l)[k * 65 + j]? = (Value.int .i64 (l[k].1 : Int) :: u8cells l[k].2)[j]? := by
  induction l generalizing k with
  | nil => simp at hk
  | cons p l ih =>
    have e : looseCells (p :: l) = (Value.int .i64 (p.1 : Int) :: u8cells p.2) ++ looseCells l := by unfold looseCells; rfl
    have hlen : (Value.int .i64 (p.1 : Int) :: u8cells p.2).length = 65 := by rw [List.length_cons, u8cells_length, h p List.mem_cons_self]
    rw [e]
    cases k with
    | zero =>
      rw [Nat.zero_mul, Nat.zero_add, List.getElem?_append_left (by omega)]
      rfl
    | succ k =>
      rw [List.getElem?_append_right (by omega), hlen, show (k + 1) * 65 + j - 65 = k * 65 + j by omega]
      exact ih (fun q hq => h q (List.mem_cons_of_mem _ hq)) k (by simpa using hk)

/-- The cells of one loose write, as a value has them. -/
@[irreducible] def putRow (p : Nat × List UInt8) : Array Value := (Value.int .i64 (p.1 : Int) :: u8cells p.2).toArray
theorem putRow_list (p : Nat × List UInt8) : (putRow p).toList = Value.int .i64 (p.1 : Int) :: u8cells p.2 := by unfold putRow; rfl
theorem putRow_size (p : Nat × List UInt8) (h : p.2.length = 64) : (putRow p).size = 65 := by
  rw [← Array.length_toList, putRow_list, List.length_cons, u8cells_length, h]
theorem putRow_zero (p : Nat × List UInt8) : (putRow p)[0]? = some (.int .i64 (p.1 : Int)) := by
  rw [← Array.getElem?_toList, putRow_list]; rfl
theorem putRow_one (p : Nat × List UInt8) : (putRow p).all (·.oneCell') = true := by
  rw [Array.all_eq_true_iff_forall_mem]
  intro u hu
  have : u ∈ (putRow p).toList := by simpa using hu
  rw [putRow_list] at this
  rcases List.mem_cons.1 this with rfl | h
  · rfl
  · exact u8cells_one _ u h
theorem put_info : (Tryz.prog.info? 176).map (fun i => (i.zero, i.size)) = some (some (.agg Tryz.zeroCells176), 65) := by kernel_rfl
theorem put_size (p : Nat × List UInt8) (h : p.2.length = 64) : (Tryz.prog.info? 176).map (·.size) = some (putRow p).size := by rw [putRow_size p h]; exact (zero_of_info put_info).2
theorem put_zero (p : Nat × List UInt8) (h : p.2.length = 64) : Tryz.zeroCells176.size = (putRow p).size := by rw [putRow_size p h]; kernel_rfl
theorem putRow_sec (w : World) (p : Nat × List UInt8) (T : TypeId) : (w.alloc (.cells (putRow p) T)).rangeAt w.heap.size 1 (u8cells p.2) := by
  intro j v hv
  rw [cell_new_row, ← Array.getElem?_toList, putRow_list, Nat.add_comm 1 j]
  exact hv
theorem sec_len (x : List UInt8) (h : x.length = 64) : (Tryz.prog.info? 174).map (·.size) = some (u8cells x).length := by rw [u8cells_length, h]; exact sec_size
/-- The cells of a loose write at a place that the walk has reckoned. -/
@[irreducible] def putRowZ (i : Int) (x : List UInt8) : Array Value := (Value.int .i64 i :: u8cells x).toArray
theorem putRowZ_eq (a k : Nat) (x : List UInt8) : putRowZ ((a : Int) + (k : Int)) x = putRow (a + k, x) := by unfold putRowZ putRow; rfl
theorem putRowZ_size (i : Int) (x : List UInt8) (h : x.length = 64) : (putRowZ i x).size = 65 := by
  unfold putRowZ
  rw [List.size_toArray, List.length_cons, u8cells_length, h]
theorem put_zeros : Tryz.zeroCells176.size = 65 := by kernel_rfl
theorem put_zval : (Tryz.prog.info? 176).map (·.zero) = some (some (.agg Tryz.zeroCells176)) := by kernel_rfl
theorem put_parts (i : Int) (x : List UInt8) : ((#[(0, .int .i64 i), (1, .agg (u8row x))] : Array (Nat × Value)).toList.flatMap (fun p => p.2.cells.toList)).toArray = putRowZ i x := by
  unfold putRowZ
  simp [Value.cells, u8row_list]
theorem put_parts_len (i : Int) (x : List UInt8) (h : x.length = 64) : ((#[(0, .int .i64 i), (1, .agg (u8row x))] : Array (Nat × Value)).toList.flatMap (fun p => p.2.cells.toList)).length = 65 := by
  have := congrArg Array.size (put_parts i x)
  rw [List.size_toArray, putRowZ_size i x h] at this
  exact this
/-- 'put{i, x}' -/
theorem put_build (W : World) (i : Int) (x : List UInt8) (h : x.length = 64) : (Instr.build 176 #[(0, .int .i64 i), (1, .agg (u8row x))]).run Tryz.prog W = .ok (.agg (putRowZ i x)) W := by
  have := run_build_struct Tryz.prog W 176 _ (.agg Tryz.zeroCells176) [(0, 1), (1, 64)] Tryz.underlying176 put_zval (by kernel_rfl) #[(0, .int .i64 i), (1, .agg (u8row x))] ⟨rfl, by simp [Value.cells, h], trivial⟩ ((put_parts_len i x h).trans put_zeros.symm)
  rw [put_parts] at this
  exact this
/-- 'put{i, x}', as the walk reckons it. -/
theorem put_fold (i : Int) (x : List UInt8) (h : x.length = 64) :
    Array.foldl (fun cs (x : Value × Nat) => cs.setIfInBounds (1 + x.snd) x.fst) (Tryz.zeroCells176.setIfInBounds 0 (Value.int .i64 i)) (u8row x).zipIdx 0 64 = putRowZ i x := by
  have hz : (Tryz.zeroCells176.setIfInBounds 0 (Value.int .i64 i)).size = 65 := by rw [Array.size_setIfInBounds, put_zeros]
  rw [foldl_lay 1 64 (u8row x) _ (by simp [h]) (by rw [hz])]
  have h0 : (Tryz.zeroCells176.setIfInBounds 0 (Value.int .i64 i)).toList.take 1 = [.int .i64 i] := by
    apply List.ext_getElem?
    intro j
    rw [List.getElem?_take]
    by_cases hj : j < 1
    · obtain rfl : j = 0 := by omega
      rw [if_pos hj, Array.getElem?_toList, Array.getElem?_setIfInBounds, if_pos rfl, if_pos (by rw [put_zeros]; decide)]
      rfl
    · rw [if_neg hj, List.getElem?_eq_none (by simp; omega)]
  rw [h0, u8row_list]
  unfold putRowZ
  rfl
/-- '[]put{p}', as the walk reckons it. -/
theorem put_fold2 (Z : Array Value) (i : Int) (x : List UInt8) (h : x.length = 64) (hZ : Z.size = 65) :
    Array.foldl (fun cs (x : Value × Nat) => cs.setIfInBounds x.snd x.fst) Z (putRowZ i x).zipIdx 0 65 = putRowZ i x := foldl_all 65 _ _ (putRowZ_size i x h) hZ
/-- A loose write, where it lies. -/
theorem loose_range {w : World} {base g n cap : Nat} {l : List (Nat × List UInt8)} (h : w.ownsRow base 176 65 (.slice (some ⟨g, 0, none⟩) n cap) l.length (looseCells l)) (hl : ∀ p ∈ l, p.2.length = 64) (k : Nat) (hk : k < l.length) :
    w.rangeAt g (k * 65) (Value.int .i64 (l[k].1 : Int) :: u8cells l[k].2) := by
  intro j v hv
  have hj : j < 65 := by
    have := (List.getElem?_eq_some_iff.1 hv).1
    rw [List.length_cons, u8cells_length, hl _ (List.getElem_mem hk)] at this
    omega
  rw [← looseCells_get l hl k hk j hj] at hv
  have := h.cells (g := g) rfl _ _ hv
  have e : (⟨g, 0, none⟩ : Addr).add (k * 65 + j) = ⟨g, k * 65 + j, none⟩ := by unfold Addr.add; split <;> simp_all
  rw [e] at this
  exact this
theorem put_len (p : Nat × List UInt8) (h : p.2.length = 64) : (Tryz.prog.info? 176).map (·.size) = some (Value.int .i64 (p.1 : Int) :: u8cells p.2).length := by rw [List.length_cons, u8cells_length, h]; exact (zero_of_info put_info).2
theorem put_array (p : Nat × List UInt8) : (Value.int .i64 (p.1 : Int) :: u8cells p.2).toArray = putRow p := by unfold putRow; rfl
theorem put_elem : (Tryz.prog.info? 176).map (·.size) = some 65 := (zero_of_info put_info).2

/-- Block m is a map that has these sectors, but zeros. -/
def SecMap (w : World) (m N : Nat) (f : Nat → List UInt8) : Prop :=
  ∃ kv, IntMap Tryz.prog 3 w m kv ∧ (∀ p ∈ kv, ∃ i : Nat, i < N ∧ p.1 = (i : Int) ∧ p.2 = .agg (u8row (f i))) ∧ ∀ i : Nat, i < N → kvGet kv i = none → f i = sec0

theorem SecMap.lt {w : World} {m N : Nat} {f : Nat → List UInt8} (h : SecMap w m N f) : m < w.heap.size := h.choose_spec.1.lt
theorem SecMap.kept {w w' : World} {m N : Nat} {f : Nat → List UInt8} (h : SecMap w m N f) (e : w'.heap[m]? = w.heap[m]?) : SecMap w' m N f := by
  obtain ⟨kv, h1, h2⟩ := h
  exact ⟨kv, h1.kept e, h2⟩
theorem SecMap.made (w : World) (N : Nat) : SecMap (w.alloc (.map #[] 0)) w.heap.size N (fun _ => sec0) := ⟨[], IntMap.made w, fun p hp => by simp at hp, fun _ _ _ => rfl⟩
theorem wf_nat (i : Nat) (h : i ≤ 16384) : (Lit.int .i64 (i : Int)).wf = true := WalkArith.wf_i64 (by omega)
theorem SecMap.get {w : World} {m N : Nat} {f : Nat → List UInt8} (h : SecMap w m N f) (i : Nat) (hi : i < N) (hN : N ≤ 16384) :
    (Instr.lookup 113 (.map (some m)) (.int .i64 (i : Int)) false).run Tryz.prog w = .ok (.agg (u8row (f i))) w := by
  obtain ⟨kv, h1, h2, h3⟩ := h
  rw [h1.lookup Tryz.underlying3 Tryz.underlying113 (sec_zero w) i (wf_nat i (by omega))]
  cases hg : kvGet kv i with
  | none => rw [h3 i hi hg]; rfl
  | some v =>
    obtain ⟨j, _, e1, e2⟩ := h2 _ (kvGet_mem hg)
    simp at e1 e2
    have e3 : i = j := by omega
    subst e3
    rw [e2]; rfl
theorem nodup_len (N : Nat) : ∀ (l : List Int), l.Nodup → (∀ x ∈ l, ∃ i : Nat, i < N ∧ x = (i : Int)) → l.length ≤ N := by
  induction N with
  | zero =>
    intro l _ h
    cases l with
    | nil => simp
    | cons x l => obtain ⟨i, hi, _⟩ := h x List.mem_cons_self; omega
  | succ N ih =>
    intro l hn h
    by_cases hm : (N : Int) ∈ l
    · have h1 := ih (l.erase (N : Int)) (hn.erase _) (fun x hx => by
        obtain ⟨hne, hx⟩ := (List.Nodup.mem_erase_iff hn).1 hx
        obtain ⟨i, hi, e⟩ := h x hx
        exact ⟨i, by have : i ≠ N := fun e' => hne (by rw [e, e']); omega, e⟩)
      rw [List.length_erase_of_mem hm] at h1
      omega
    · have := ih l hn (fun x hx => by
        obtain ⟨i, hi, e⟩ := h x hx
        exact ⟨i, by have : i ≠ N := fun e' => hm (by rw [← e', ← e]; exact hx); omega, e⟩)
      omega
theorem SecMap.put {w : World} {m N : Nat} {f : Nat → List UInt8} (h : SecMap w m N f) (i : Nat) (hi : i < N) (hN : N ≤ 16384) (x : List UInt8) :
    ∃ w', (Instr.mapUpdate 113 (.map (some m)) (.int .i64 (i : Int)) (.agg (u8row x))).run Tryz.prog w = .ok () w' ∧ SecMap w' m N (fun k => if k = i then x else f k) ∧ w.grownBy w' (some m) := by
  obtain ⟨kv, h1, h2, h3⟩ := h
  have hlen : kv.length ≤ N := by
    have := nodup_len N (kv.map (·.1)) h1.1 (fun y hy => by
      obtain ⟨p, hp, rfl⟩ := List.mem_map.1 hy
      obtain ⟨j, hj, e, _⟩ := h2 p hp
      exact ⟨j, hj, e⟩)
    simpa using this
  obtain ⟨w', hrun, hm, hg⟩ := h1.update Tryz.underlying3 Tryz.underlying113 i (wf_nat i (by omega)) (.agg (u8row x)) (by unfold maxLen; omega)
  refine ⟨w', hrun, ⟨kvPut i (.agg (u8row x)) kv, hm, fun p hp => ?_, fun j hj hg => ?_⟩, hg⟩
  · rcases List.mem_cons.1 hp with rfl | hp
    · exact ⟨i, hi, rfl, by simp⟩
    · obtain ⟨hp1, hp2⟩ := List.mem_filter.1 hp
      obtain ⟨j, hj, e1, e2⟩ := h2 p hp1
      have hne : ¬ j = i := fun e => by simp [e1, e] at hp2
      exact ⟨j, hj, e1, by simp only [if_neg hne]; exact e2⟩
  · by_cases e : j = i
    · subst e; rw [kvGet_put_same] at hg; simp at hg
    · simp only [if_neg e]
      rw [kvGet_put_other (by omega)] at hg
      exact h3 j hj hg

/-- A disk in memory: its struct in block b, its map in block m, its loose writes behind lv. -/
structure DiskIn (w : World) (b m : Nat) (lv : Value) (D : Dsk) : Prop where
  struct : w.heap[b]? = some (.cells #[.int .i64 (D.n : Int), .map (some m), lv, .int .i64 D.left, .bool D.down] 116)
  base : SecMap w m D.n D.base
  loose : w.ownsRow 0 176 65 lv D.loose.length (looseCells D.loose)
  mb : m ≠ b
  lb : lv.ownBlock ≠ some b
  lm : lv.ownBlock ≠ some m
  fine : D.Fine
/-- The blocks that a disk has. -/
def diskBlocks (b m : Nat) (lv : Value) (k : Nat) : Prop := k = b ∨ k = m ∨ lv.ownBlock = some k
/-- A disk, that has these blocks. -/
def DiskAt (w : World) (b : Nat) (D : Dsk) (fp : Nat → Prop) : Prop := ∃ m lv, DiskIn w b m lv D ∧ fp = diskBlocks b m lv

theorem DiskIn.upd {F : Nat → Prop} {w w' : World} {b m : Nat} {lv : Value} {D : Dsk} (h : DiskIn w b m lv D) (hu : Upd F w w') (hF : ∀ k, diskBlocks b m lv k → ¬ F k) : DiskIn w' b m lv D :=
  ⟨by rw [hu.block b (Array.getElem?_eq_some_iff.1 h.struct).1 (hF b (.inl rfl))]; exact h.struct, h.base.kept (hu.block m h.base.lt (hF m (.inr (.inl rfl)))), ownsRow_upd h.loose hu (fun g hg => hF g (.inr (.inr hg))), h.mb, h.lb, h.lm, h.fine⟩
theorem DiskAt.upd {F : Nat → Prop} {w w' : World} {b : Nat} {D : Dsk} {fp : Nat → Prop} (h : DiskAt w b D fp) (hu : Upd F w w') (hF : ∀ k, fp k → ¬ F k) : DiskAt w' b D fp := by
  obtain ⟨m, lv, h1, rfl⟩ := h
  exact ⟨m, lv, h1.upd hu hF, rfl⟩
theorem DiskAt.below {w w' : World} {b : Nat} {D : Dsk} {fp : Nat → Prop} (h : DiskAt w b D fp) (hu : Below w.heap.size w w') : DiskAt w' b D fp := h.upd (Upd.of_below (F := fun _ => False) hu) (fun _ _ f => f)
theorem DiskAt.lt {w : World} {b : Nat} {D : Dsk} {fp : Nat → Prop} (h : DiskAt w b D fp) : ∀ k, fp k → k < w.heap.size := by
  obtain ⟨m, lv, h1, rfl⟩ := h
  rintro k (rfl | rfl | hk)
  · exact (Array.getElem?_eq_some_iff.1 h1.struct).1
  · exact h1.base.lt
  · exact ownsRow_lt h1.loose hk
theorem DiskAt.fine {w : World} {b : Nat} {D : Dsk} {fp : Nat → Prop} (h : DiskAt w b D fp) : D.Fine := by obtain ⟨m, lv, h1, _⟩ := h; exact h1.fine
end Go.Proofs.YtdmbadkpendfhaaGreatDoor
