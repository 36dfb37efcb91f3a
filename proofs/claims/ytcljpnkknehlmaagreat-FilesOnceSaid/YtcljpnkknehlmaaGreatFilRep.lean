/- Files in memory: the map of contents, the struct. -/
import Derived.Test.YtcljpnkknehlmaaGreatStrHeap
import Derived.Test.YtcljpnkknehlmaaGreatWalRep
import Derived.Test.YtcljpnkknehlmaaGreatFilLaw
namespace Go.Proofs.YtcljpnkknehlmaaGreat
open Go.RowKit Go.Maps
open Fil

theorem skGet_iff {kv : List (List UInt8 × Value)} (hn : (kv.map (·.1)).Nodup) {k : List UInt8} {v : Value} : skGet kv k = some v ↔ (k, v) ∈ kv := by
  refine ⟨skGet_mem, fun hm => ?_⟩
  induction kv with
  | nil => simp at hm
  | cons p kv ih =>
    simp only [List.map_cons, List.nodup_cons] at hn
    unfold skGet
    rcases List.mem_cons.1 hm with e | hm
    · subst e; simp
    · have : ¬ p.1 = k := fun e => hn.1 (by rw [e]; exact List.mem_map_of_mem (f := (·.1)) hm)
      rw [List.find?_cons_of_neg (by simpa using this)]
      exact ih hn.2 hm
theorem skGet_perm {kv kv' : List (List UInt8 × Value)} (hn : (kv.map (·.1)).Nodup) (h : kv.Perm kv') (k : List UInt8) : skGet kv k = skGet kv' k := by
  have hn' : (kv'.map (·.1)).Nodup := (h.map (·.1)).nodup_iff.1 hn
  cases h1 : skGet kv k with
  | none =>
    cases h2 : skGet kv' k with
    | none => rfl
    | some v =>
      have := (skGet_iff hn).2 (h.mem_iff.2 ((skGet_iff hn').1 h2))
      rw [h1] at this; cases this
  | some v => exact ((skGet_iff hn').2 (h.mem_iff.1 ((skGet_iff hn).1 h1))).symm
theorem skDel_perm {kv kv' : List (List UInt8 × Value)} (h : kv.Perm kv') (k : List UInt8) : (skDel k kv).Perm (skDel k kv') := h.filter _

/-- The map of files, as pairs. -/
def filKv (F : M) : List (List UInt8 × Value) := F.map fun p => (p.1, .agg #[.string (bs p.2)])
theorem skGet_fil (F : M) (k : List UInt8) : skGet (filKv F) k = (Fil.get F k).map fun s => .agg #[.string (bs s)] := by
  induction F with
  | nil => rfl
  | cons p F ih =>
    unfold skGet Fil.get filKv
    rw [List.map_cons]
    by_cases h : p.1 = k
    · subst h
      simp
    · rw [List.find?_cons_of_neg (by simpa using h), List.find?_cons_of_neg (by simpa using h)]
      exact ih
theorem skDel_fil (F : M) (k : List UInt8) : skDel k (filKv F) = filKv (del k F) := by
  unfold skDel filKv del
  rw [List.filter_map]
  rfl
/-- Block m is a map of these files. -/
def FilMap (w : World) (m : Nat) (F : M) : Prop := Up F ∧ ∃ kv : List (List UInt8 × Value), kv.Perm (filKv F) ∧ StrMap Tryz.prog 9 w m kv
theorem text_info : (Tryz.prog.info? 73).map (fun i => (i.zero, i.size)) = some (some (.agg #[.string ByteArray.empty]), 1) := by kernel_rfl
theorem text_zero' (w : World) : (zeroValue 73).run Tryz.prog w = .ok (.agg #[.string ByteArray.empty]) w := (zero_of_info text_info).1 w
section
variable {w w' : World} {m : Nat} {F : M}
theorem FilMap.lt (h : FilMap w m F) : m < w.heap.size := h.2.choose_spec.2.lt
theorem FilMap.kept (h : FilMap w m F) (e : w'.heap[m]? = w.heap[m]?) : FilMap w' m F := by
  obtain ⟨h1, kv, h2, h3⟩ := h
  exact ⟨h1, kv, h2, h3.kept e⟩
theorem FilMap.upd {P : Nat → Prop} (h : FilMap w m F) (hu : Upd P w w') (hP : ¬ P m) : FilMap w' m F := h.kept (hu.block m h.lt hP)
theorem FilMap.below (h : FilMap w m F) (hb : Below w.heap.size w w') : FilMap w' m F := h.kept (hb.block m h.lt)
theorem FilMap.made (w : World) : FilMap (w.alloc (.map #[] 0)) w.heap.size [] := ⟨Up.nil, [], List.Perm.nil, StrMap.made w⟩
theorem FilMap.is (h : FilMap w m F) : ∃ es clock, w.heap[m]? = some (.map es clock) := by
  obtain ⟨_, kv, _, _, D, ⟨es, clock, hm, _⟩, _⟩ := h
  exact ⟨es, clock, hm⟩
theorem FilMap.noBlk (h : FilMap w m F) {t : TypeId} : ¬ BlkOf w m t := by
  obtain ⟨es, clock, hm⟩ := h.is
  rintro ⟨cs, fr, hb⟩
  rw [hm] at hb
  injection hb with hb
  cases hb
theorem FilMap.nodup {kv : List (List UInt8 × Value)} (h2 : kv.Perm (filKv F)) (h1 : Up F) : (kv.map (·.1)).Nodup := by
  rw [(h2.map (·.1)).nodup_iff]
  unfold filKv
  rw [List.map_map]
  exact h1.nodup
/-- 'm[k]' -/
theorem FilMap.lookup (h : FilMap w m F) (k : List UInt8) (hk : k.length ≤ maxLen) :
    (Instr.lookup 53 (.map (some m)) (.string (bs k)) false).run Tryz.prog w = .ok (.agg #[.string (bs ((Fil.get F k).getD []))]) w := by
  obtain ⟨h1, kv, h2, h3⟩ := h
  rw [h3.lookup Tryz.underlying9 Tryz.underlying53 (text_zero' w) k hk, skGet_perm (FilMap.nodup h2 h1) h2, skGet_fil]
  cases Fil.get F k <;> rfl
/-- 'v, is := m[k]' -/
theorem FilMap.lookup_ok (h : FilMap w m F) (k : List UInt8) (hk : k.length ≤ maxLen) :
    (Instr.lookup 53 (.map (some m)) (.string (bs k)) true).run Tryz.prog w = .ok (.tuple #[.agg #[.string (bs ((Fil.get F k).getD []))], .bool (Fil.get F k).isSome]) w := by
  obtain ⟨h1, kv, h2, h3⟩ := h
  rw [h3.lookup_ok Tryz.underlying9 Tryz.underlying53 (text_zero' w) k hk, skGet_perm (FilMap.nodup h2 h1) h2, skGet_fil]
  cases Fil.get F k <;> rfl
/-- 'm[k] = text{v}' -/
theorem FilMap.update (h : FilMap w m F) (k v : List UInt8) (hk : k.length ≤ maxLen) (hroom : F.length < maxLen) :
    ∃ w', (Instr.mapUpdate 53 (.map (some m)) (.string (bs k)) (.agg #[.string (bs v)])).run Tryz.prog w = .ok () w' ∧ FilMap w' m (put k v F) ∧ w.grownBy w' (some m) := by
  obtain ⟨h1, kv, h2, h3⟩ := h
  obtain ⟨w', hrun, h4, h5⟩ := h3.update Tryz.underlying9 Tryz.underlying53 k hk (.agg #[.string (bs v)]) (by rw [h2.length_eq]; unfold filKv; rw [List.length_map]; exact hroom)
  refine ⟨w', hrun, ⟨h1.put k v, _, ?_, h4⟩, h5⟩
  unfold skPut
  refine (List.Perm.cons _ ((skDel_perm h2 k).trans (by rw [skDel_fil]))).trans ?_
  exact ((put_perm h1 k v).symm.map fun p => (p.1, Value.agg #[.string (bs p.2)]))
/-- 'delete(m, k)' -/
theorem FilMap.delete (h : FilMap w m F) (k : List UInt8) (hk : k.length ≤ maxLen) (ty : TypeId) :
    ∃ w', (Builtin.delete_ #[53, 9] ty #[.map (some m), .string (bs k)]).run Tryz.prog w = .ok (.tuple #[]) w' ∧ FilMap w' m (del k F) ∧ w.grownBy w' (some m) := by
  obtain ⟨h1, kv, h2, h3⟩ := h
  obtain ⟨w', hrun, h4, h5⟩ := h3.delete Tryz.underlying9 Tryz.underlying53 k hk ty
  exact ⟨w', hrun, ⟨h1.del k, _, (skDel_perm h2 k).trans (by rw [skDel_fil]), h4⟩, h5⟩
/-- 'len(m)' -/
theorem FilMap.len (h : FilMap w m F) (ty : TypeId) : (Builtin.len_ #[53] ty #[.map (some m)]).run Tryz.prog w = .ok (.int .i64 (F.length : Int)) w := by
  obtain ⟨h1, kv, h2, _, D, hown, _, hsz, _⟩ := h
  rw [hown.len Tryz.underlying53 ty, hsz, h2.length_eq]
  unfold filKv
  rw [List.length_map]
end

/-- The cells of files. -/
def filRow (F : St) (b m x : Nat) : Array Value := #[.pointer (some ⟨b, 0, none⟩), .int .i64 (F.log : Int), .int .i64 (F.size : Int), .int .i64 (F.area : Int), .map (some m), .pointer (some ⟨x, 0, none⟩), .int .i64 F.fault]
structure FilIn (w : World) (y b m x : Nat) (gv : Value) (F : St) : Prop where
  struct : w.heap[y]? = some (.cells (filRow F b m x) 56)
  map : FilMap w m F.m
  wal : WalIn w x b gv F.w
  fits : F.log ≤ 16384 ∧ F.size ≤ 16384 ∧ 1 ≤ F.size ∧ F.area ≤ 1
def filBlocks (y m x : Nat) (gv : Value) (k : Nat) : Prop := k = y ∨ k = m ∨ walBlocks x gv k
section
variable {w w' : World} {y b m x : Nat} {gv : Value} {F : St}
theorem FilIn.cells (h : FilIn w y b m x gv F) :
    w.cell? ⟨y, 0, none⟩ = some (.pointer (some ⟨b, 0, none⟩)) ∧ w.cell? ⟨y, 1, none⟩ = some (.int .i64 (F.log : Int)) ∧ w.cell? ⟨y, 2, none⟩ = some (.int .i64 (F.size : Int)) ∧ w.cell? ⟨y, 3, none⟩ = some (.int .i64 (F.area : Int)) ∧
    w.cell? ⟨y, 4, none⟩ = some (.map (some m)) ∧ w.cell? ⟨y, 5, none⟩ = some (.pointer (some ⟨x, 0, none⟩)) ∧ w.cell? ⟨y, 6, none⟩ = some (.int .i64 F.fault) ∧ ∀ j, w.frozen? ⟨y, j, none⟩ = false := by
  refine ⟨?_, ?_, ?_, ?_, ?_, ?_, ?_, fun j => frozen_of_row w y j _ _ h.struct⟩ <;> rw [cell_of_row w y _ _ _ _ h.struct] <;> rfl
theorem FilIn.lt (h : FilIn w y b m x gv F) : ∀ k, filBlocks y m x gv k → k < w.heap.size := by
  rintro k (rfl | rfl | hk)
  · exact blk_lt h.struct
  · exact h.map.lt
  · exact h.wal.lt k hk
theorem FilIn.blk (h : FilIn w y b m x gv F) : BlkOf w y 56 := ⟨_, _, h.struct⟩
theorem WalIn.kind (h : WalIn w x b gv F.w) {k : Nat} (hk : walBlocks x gv k) : BlkOf w k 102 ∨ BlkOf w k 36 := by
  rcases hk with rfl | hk
  · exact .inl ⟨_, _, h.struct⟩
  · obtain ⟨cs, h1, _⟩ := h.groups
    exact .inr (ownsRow_blk h1 hk)
theorem FilIn.neY (h : FilIn w y b m x gv F) : y ≠ m ∧ ¬ walBlocks x gv y ∧ ¬ walBlocks x gv m :=
  ⟨fun e => h.map.noBlk (e ▸ h.blk), fun hk => by
    rcases h.wal.kind hk with e | e
    · exact BlkOf.ne h.blk e (by decide) rfl
    · exact BlkOf.ne h.blk e (by decide) rfl, fun hk => by
    rcases h.wal.kind hk with e | e <;> exact h.map.noBlk e⟩
theorem FilIn.upd {P : Nat → Prop} (h : FilIn w y b m x gv F) (hu : Upd P w w') (hP : ∀ k, BlkOf w k 9 → ¬ P k) (hG : ∀ k, filBlocks y m x gv k → ¬ P k) : FilIn w' y b m x gv F :=
  ⟨(hu.block y (blk_lt h.struct) (hG y (.inl rfl))).trans h.struct, h.map.upd hu (hG m (.inr (.inl rfl))), h.wal.upd hu hP (fun k hk => hG k (.inr (.inr hk))), h.fits⟩
theorem FilIn.below (h : FilIn w y b m x gv F) (hb : Below w.heap.size w w') : FilIn w' y b m x gv F := h.upd (Upd.of_below (F := fun _ => False) hb) (fun _ _ f => f) (fun _ _ f => f)
end
/-- A disk has no files in its blocks. -/
theorem DiskAt.noBlk {w : World} {b : Nat} {D : Dsk} {fp : Nat → Prop} (h : DiskAt w b D fp) (k : Nat) (hk : fp k) {t : TypeId} (h1 : t ≠ 50) (h2 : t ≠ 123) : ¬ BlkOf w k t := by
  obtain ⟨m, lv, hI, rfl⟩ := h
  rcases hk with rfl | rfl | hk
  · exact fun hb => BlkOf.ne hb ⟨_, _, hI.struct⟩ h1 rfl
  · obtain ⟨kv, ⟨_, D', ⟨es, clock, hm, _⟩, _⟩, _⟩ := hI.base
    rintro ⟨cs, fr, hb⟩
    rw [hm] at hb
    injection hb with hb
    cases hb
  · exact fun hb => BlkOf.ne hb (ownsRow_blk hI.loose hk) h2 rfl
end Go.Proofs.YtcljpnkknehlmaaGreat
