/- Heap -/
import Derived.Test.YtoaihngckcbhiaaGreatDoorPkBase
import Derived.Maps.OwnSet
namespace Go.Proofs.YtoaihngckcbhiaaGreatDoor
open Go.RowKit Go.Maps
structure Upd (F : Nat → Prop) (w w' : World) : Prop where
  os : w'.os = w.os
  tape : w'.tape = w.tape
  output : w'.output = w.output
  size : w.heap.size ≤ w'.heap.size
  block : ∀ k, k < w.heap.size → ¬ F k → w'.heap[k]? = w.heap[k]?
theorem Upd.refl (F : Nat → Prop) (w : World) : Upd F w w := ⟨rfl, rfl, rfl, Nat.le_refl _, fun _ _ _ => rfl⟩
theorem Upd.of_below {F : Nat → Prop} {w w' : World} (h : Below w.heap.size w w') : Upd F w w' := ⟨h.os, h.tape, h.output, h.size, fun k hk _ => h.block k hk⟩
theorem Upd.trans {F G : Nat → Prop} {a b c : World} (h : Upd F a b) (k : Upd G b c) (hG : ∀ i, G i → F i ∨ a.heap.size ≤ i) : Upd F a c :=
  ⟨k.os.trans h.os, k.tape.trans h.tape, k.output.trans h.output, Nat.le_trans h.size k.size, fun i hi hF => (k.block i (Nat.lt_of_lt_of_le hi h.size) (fun g => by rcases hG i g with f | f; exact hF f; omega)).trans (h.block i hi hF)⟩
theorem Upd.mono {F G : Nat → Prop} {a b : World} (h : Upd F a b) (hG : ∀ i, F i → G i) : Upd G a b := ⟨h.os, h.tape, h.output, h.size, fun i hi hn => h.block i hi (fun f => hn (hG i f))⟩
theorem Upd.of_grownBy {F : Nat → Prop} {w w' : World} {row : Option Nat} (hg : w.grownBy w' row) (hr : ∀ k, row = some k → F k) : Upd F w w' :=
  ⟨hg.os, hg.tape, hg.output, hg.size, fun k hk hF => hg.block k hk (fun e => hF (hr k e.symm))⟩
theorem Upd.alloc {F : Nat → Prop} {a w : World} (h : Upd F a w) (o : Obj) : Upd F a (w.alloc o) :=
  h.trans (G := fun _ => False) (Upd.of_below ((Below.refl _ w).alloc (Nat.le_refl _) o)) (fun _ f => f.elim)
theorem Upd.drew {F : Nat → Prop} {a w : World} (h : Upd F a w) : Upd F a w.drew := ⟨h.os, h.tape, h.output, h.size, h.block⟩
theorem Upd.setCell {F : Nat → Prop} {a w : World} (h : Upd F a w) {p : Addr} (hp : F p.block ∨ a.heap.size ≤ p.block) (v : Value) : Upd F a (w.setCell p v) :=
  h.trans (G := fun k => k = p.block) ⟨rfl, rfl, rfl, by simp [World.setCell], fun k _ hk => Below.heap_setCell _ _ _ _ hk⟩ (fun i e => by rw [e]; exact hp)
theorem below_upd {B : Nat} {F : Nat → Prop} {a w w' : World} (h : Below B a w) (k : Upd F w w') (hF : ∀ i, F i → B ≤ i) (hB : B ≤ w.heap.size) : Below B a w' :=
  h.trans ⟨k.os, k.tape, k.output, k.size, fun i hi => k.block i (by omega) (fun f => by have := hF i f; omega)⟩
theorem Upd.cell {F : Nat → Prop} {w w' : World} (h : Upd F w w') {p : Addr} (hp : p.block < w.heap.size) (hF : ¬ F p.block) : w'.cell? p = w.cell? p := World.cell?_of_block (h.block p.block hp hF)
def kvGet (kv : List (Int × Value)) (i : Int) : Option Value := (kv.find? (fun p => p.1 == i)).map (·.2)
def kvDel (i : Int) (kv : List (Int × Value)) : List (Int × Value) := kv.filter (fun p => !(p.1 == i))
def kvPut (i : Int) (v : Value) (kv : List (Int × Value)) : List (Int × Value) := (i, v) :: kvDel i kv
theorem kvGet_del_other {i j : Int} (h : j ≠ i) (kv : List (Int × Value)) : kvGet (kvDel i kv) j = kvGet kv j := by
  unfold kvGet kvDel
  rw [find_filter_keep]
  intro p hp
  simp at hp ⊢
  omega
theorem kvGet_put_same (i : Int) (v : Value) (kv : List (Int × Value)) : kvGet (kvPut i v kv) i = some v := by simp [kvGet, kvPut]
theorem kvGet_put_other {i j : Int} (h : j ≠ i) (v : Value) (kv : List (Int × Value)) : kvGet (kvPut i v kv) j = kvGet kv j := by
  have h2 : ¬ i = j := fun e => h e.symm
  rw [← kvGet_del_other h kv]
  simp [kvGet, kvPut, h2]
theorem kvDel_length {i : Int} {kv : List (Int × Value)} (hn : (kv.map (·.1)).Nodup) : (kvDel i kv).length + (if (kvGet kv i).isSome then 1 else 0) = kv.length := by
  induction kv with
  | nil => simp [kvDel, kvGet]
  | cons p kv ih =>
    simp only [List.map_cons, List.nodup_cons] at hn
    have ih' := ih hn.2
    by_cases h : p.1 = i
    · have h0 : kvGet kv i = none := by
        unfold kvGet
        rw [Option.map_eq_none_iff, List.find?_eq_none]
        intro q hq
        simp
        intro e
        exact hn.1 (by rw [h, ← e]; exact List.mem_map_of_mem hq)
      rw [h0] at ih'
      have e1 : kvDel i (p :: kv) = kvDel i kv := by simp [kvDel, h]
      have e2 : kvGet (p :: kv) i = some p.2 := by simp [kvGet, h]
      rw [e1, e2]
      simpa using ih'
    · have e1 : kvDel i (p :: kv) = p :: kvDel i kv := by simp [kvDel, h]
      have e2 : kvGet (p :: kv) i = kvGet kv i := by simp [kvGet, h]
      rw [e1, e2]
      simp only [List.length_cons]
      omega
theorem kvDel_nodup {i : Int} {kv : List (Int × Value)} (hn : (kv.map (·.1)).Nodup) : ((kvDel i kv).map (·.1)).Nodup := by
  unfold kvDel
  exact hn.sublist (List.Sublist.map _ List.filter_sublist)
theorem kvPut_nodup {i : Int} {v : Value} {kv : List (Int × Value)} (hn : (kv.map (·.1)).Nodup) : ((kvPut i v kv).map (·.1)).Nodup := by
  simp only [kvPut, List.map_cons, List.nodup_cons]
  refine ⟨?_, kvDel_nodup hn⟩
  intro h
  obtain ⟨p, hp, e⟩ := List.mem_map.1 h
  have := (List.mem_filter.1 hp).2
  simp [e] at this
theorem kvGet_mem {kv : List (Int × Value)} {i : Int} {v : Value} (h : kvGet kv i = some v) : (i, v) ∈ kv := by
  unfold kvGet at h
  obtain ⟨p, hp, rfl⟩ := Option.map_eq_some_iff.1 h
  have h1 := List.find?_some hp
  simp at h1
  subst h1
  exact List.mem_of_find?_eq_some hp
def heldR (v : Value) : Option (DataW Value × List MemPlace) := some (.held v, [])
def IntMap (P : Program) (K : TypeId) (w : World) (m : Nat) (kv : List (Int × Value)) : Prop :=
  (kv.map (·.1)).Nodup ∧ ∃ D : DataW Value, w.ownsMap P K heldR m kv.length D ∧ Tidy D ∧ size D = kv.length ∧ ∀ i z, D.atKey (.int .i64 i) z = (match kvGet kv i with | some v => .held v | none => z)
section
variable {P : Program} {K T E : TypeId} {w : World} {m : Nat} {kv : List (Int × Value)}
theorem IntMap.lt (h : IntMap P K w m kv) : m < w.heap.size := h.2.choose_spec.1.lt
theorem IntMap.made (w : World) : IntMap P K (w.alloc (.map #[] 0)) w.heap.size [] :=
  ⟨by simp, .map [], World.ownsMap_made w P K heldR, tidy_empty, rfl, fun i z => rfl⟩
theorem IntMap.kept {w' : World} (h : IntMap P K w m kv) (e : w'.heap[m]? = w.heap[m]?) : IntMap P K w' m kv := by
  obtain ⟨hn, D, ⟨es, clock, hb, F, hs, hD⟩, rest⟩ := h
  exact ⟨hn, D, ⟨es, clock, e.trans hb, F, hs, hD⟩, rest⟩
theorem has_of_get {D : DataW Value} {kl : Lit} {o : Option Value} (h : ∀ z, D.atKey kl z = (match o with | some v => .held v | none => z)) : has D kl = o.isSome := by
  cases o with
  | none => exact has_false_of_atKey (fun z => h z)
  | some v => exact has_true_of_atKey (fun z => h z)
theorem IntMap.lookup (h : IntMap P K w m kv) (hk : P.underlying K = some (.int .i64)) (ht : P.underlying T = some (.map K E)) {z : Value} (hz : (zeroValue E).run P w = .ok z w) (i : Int) (hw : (Lit.int .i64 i).wf = true) :
    (Instr.lookup T (.map (some m)) (.int .i64 i) false).run P w = .ok ((kvGet kv i).getD z) w := by
  obtain ⟨_, D, hown, _, _, hat⟩ := h
  obtain ⟨v, ps, hrun, hv⟩ := hown.lookup (int_keyed hk) ht hz (zd := .held z) (zp := []) rfl (keyOf_int_mk hk hw)
  have e := hat i (.held z)
  simp only [heldR, Option.some.injEq, Prod.mk.injEq] at hv
  rw [e] at hv
  rw [hrun]
  cases hg : kvGet kv i with
  | none => rw [hg] at hv; simp at hv ⊢; exact hv.1
  | some u => rw [hg] at hv; simp at hv ⊢; exact hv.1
theorem IntMap.update (h : IntMap P K w m kv) (hk : P.underlying K = some (.int .i64)) (ht : P.underlying T = some (.map K E)) (i : Int) (hw : (Lit.int .i64 i).wf = true) (v : Value) (hroom : kv.length < maxLen) :
    ∃ w', (Instr.mapUpdate T (.map (some m)) (.int .i64 i) v).run P w = .ok () w' ∧ IntMap P K w' m (kvPut i v kv) ∧ w.grownBy w' (some m) := by
  obtain ⟨hn, D, hown, ht1, hsz, hat⟩ := h
  obtain ⟨w', hrun, hown', hg⟩ := hown.update (int_keyed hk) ht hroom (key := .int .i64 i) (val := v) (keyOf_int_mk hk hw) (d := .held v) (ps := []) rfl
  have hsize : size (D.put (.int .i64 i) (.held v)) = (kvPut i v kv).length := by
    rw [size_put ht1, has_of_get (hat i), hsz]
    have := kvDel_length (i := i) hn
    simp only [kvPut, List.length_cons]
    cases hgi : (kvGet kv i).isSome <;> simp [hgi] at this ⊢ <;> omega
  refine ⟨w', hrun, ⟨kvPut_nodup hn, _, ?_, ht1.put (show WideAt.IsKeyLit (.int .i64 i) from trivial) _, hsize, fun j z => ?_⟩, hg⟩
  · obtain ⟨es, clock, hb, F, _, hD⟩ := hown'
    refine ⟨es, clock, hb, F, ?_, hD⟩
    rw [← hsize, hD, size_eq, length_sorted]
    simp
  · by_cases e : j = i
    · subst e
      rw [atKey_put_same ht1.isMap (show WideAt.IsKeyLit (.int .i64 j) from trivial), kvGet_put_same]
    · rw [atKey_put_other (fun e' => e (by cases e'; rfl)), kvGet_put_other e]
      exact hat j z
end
end Go.Proofs.YtoaihngckcbhiaaGreatDoor
