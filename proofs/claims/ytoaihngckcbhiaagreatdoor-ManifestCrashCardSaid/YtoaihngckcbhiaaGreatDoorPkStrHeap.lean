/- StrHeap -/
import Derived.Test.YtoaihngckcbhiaaGreatDoorPkHeap
import Derived.StringKeys
namespace Go.Proofs.YtoaihngckcbhiaaGreatDoor
open Go.RowKit Go.Maps Go.WideMaps
theorem strKey_mk {P : Program} {k : TypeId} (hk : P.underlying k = some .string) {x : List UInt8} (hx : x.length ≤ maxLen) : keyOf P k (.string (bs x)) = some (.string x) := by
  have := keyOf_string_mk hk (s := bs x) hx
  simpa using this
def skGet (kv : List (List UInt8 × Value)) (i : List UInt8) : Option Value := (kv.find? (fun p => p.1 == i)).map (·.2)
def skDel (i : List UInt8) (kv : List (List UInt8 × Value)) : List (List UInt8 × Value) := kv.filter (fun p => !(p.1 == i))
def skPut (i : List UInt8) (v : Value) (kv : List (List UInt8 × Value)) : List (List UInt8 × Value) := (i, v) :: skDel i kv
theorem skGet_del_same (i : List UInt8) (kv : List (List UInt8 × Value)) : skGet (skDel i kv) i = none := by
  unfold skGet skDel
  rw [Option.map_eq_none_iff, List.find?_eq_none]
  intro p hp
  have := (List.mem_filter.1 hp).2
  simpa using this
theorem skGet_del_other {i j : List UInt8} (h : j ≠ i) (kv : List (List UInt8 × Value)) : skGet (skDel i kv) j = skGet kv j := by
  unfold skGet skDel
  rw [find_filter_keep]
  intro p hp
  simp at hp ⊢
  intro e
  exact h (hp.symm.trans e)
theorem skGet_put_same (i : List UInt8) (v : Value) (kv : List (List UInt8 × Value)) : skGet (skPut i v kv) i = some v := by simp [skGet, skPut]
theorem skGet_put_other {i j : List UInt8} (h : j ≠ i) (v : Value) (kv : List (List UInt8 × Value)) : skGet (skPut i v kv) j = skGet kv j := by
  have h2 : ¬ i = j := fun e => h e.symm
  rw [← skGet_del_other h kv]
  simp [skGet, skPut, h2]
theorem skDel_length {i : List UInt8} {kv : List (List UInt8 × Value)} (hn : (kv.map (·.1)).Nodup) : (skDel i kv).length + (if (skGet kv i).isSome then 1 else 0) = kv.length := by
  induction kv with
  | nil => simp [skDel, skGet]
  | cons p kv ih =>
    simp only [List.map_cons, List.nodup_cons] at hn
    have ih' := ih hn.2
    by_cases h : p.1 = i
    · have h0 : skGet kv i = none := by
        unfold skGet
        rw [Option.map_eq_none_iff, List.find?_eq_none]
        intro q hq
        simp
        intro e
        exact hn.1 (by rw [h, ← e]; exact List.mem_map_of_mem hq)
      rw [h0] at ih'
      have e1 : skDel i (p :: kv) = skDel i kv := by simp [skDel, h]
      have e2 : skGet (p :: kv) i = some p.2 := by simp [skGet, h]
      rw [e1, e2]
      simpa using ih'
    · have e1 : skDel i (p :: kv) = p :: skDel i kv := by simp [skDel, h]
      have e2 : skGet (p :: kv) i = skGet kv i := by simp [skGet, h]
      rw [e1, e2]
      simp only [List.length_cons]
      omega
theorem skDel_nodup {i : List UInt8} {kv : List (List UInt8 × Value)} (hn : (kv.map (·.1)).Nodup) : ((skDel i kv).map (·.1)).Nodup := by
  unfold skDel
  exact hn.sublist (List.Sublist.map _ List.filter_sublist)
theorem skPut_nodup {i : List UInt8} {v : Value} {kv : List (List UInt8 × Value)} (hn : (kv.map (·.1)).Nodup) : ((skPut i v kv).map (·.1)).Nodup := by
  simp only [skPut, List.map_cons, List.nodup_cons]
  refine ⟨?_, skDel_nodup hn⟩
  intro h
  obtain ⟨p, hp, e⟩ := List.mem_map.1 h
  have := (List.mem_filter.1 hp).2
  simp [e] at this
theorem skGet_mem {kv : List (List UInt8 × Value)} {i : List UInt8} {v : Value} (h : skGet kv i = some v) : (i, v) ∈ kv := by
  unfold skGet at h
  obtain ⟨p, hp, rfl⟩ := Option.map_eq_some_iff.1 h
  have h1 := List.find?_some hp
  simp at h1
  subst h1
  exact List.mem_of_find?_eq_some hp
def StrMap (P : Program) (K : TypeId) (w : World) (m : Nat) (kv : List (List UInt8 × Value)) : Prop :=
  (kv.map (·.1)).Nodup ∧ ∃ D : DataW Value, w.ownsMap P K heldR m kv.length D ∧ Tidy D ∧ size D = kv.length ∧ ∀ i z, D.atKey (.string i) z = (match skGet kv i with | some v => .held v | none => z)
section
variable {P : Program} {K T E : TypeId} {w : World} {m : Nat} {kv : List (List UInt8 × Value)}
theorem StrMap.lt (h : StrMap P K w m kv) : m < w.heap.size := h.2.choose_spec.1.lt
theorem StrMap.made (w : World) : StrMap P K (w.alloc (.map #[] 0)) w.heap.size [] :=
  ⟨by simp, .map [], World.ownsMap_made w P K heldR, tidy_empty, rfl, fun i z => rfl⟩
theorem StrMap.kept {w' : World} (h : StrMap P K w m kv) (e : w'.heap[m]? = w.heap[m]?) : StrMap P K w' m kv := by
  obtain ⟨hn, D, ⟨es, clock, hb, F, hs, hD⟩, rest⟩ := h
  exact ⟨hn, D, ⟨es, clock, e.trans hb, F, hs, hD⟩, rest⟩
theorem StrMap.lookup (h : StrMap P K w m kv) (hk : P.underlying K = some .string) (ht : P.underlying T = some (.map K E)) {z : Value} (hz : (zeroValue E).run P w = .ok z w) (i : List UInt8) (hw : i.length ≤ maxLen) :
    (Instr.lookup T (.map (some m)) (.string (bs i)) false).run P w = .ok ((skGet kv i).getD z) w := by
  obtain ⟨_, D, hown, _, _, hat⟩ := h
  obtain ⟨v, ps, hrun, hv⟩ := hown.lookup (string_keyed hk) ht hz (zd := .held z) (zp := []) rfl (strKey_mk hk hw)
  have e := hat i (.held z)
  simp only [heldR, Option.some.injEq, Prod.mk.injEq] at hv
  rw [e] at hv
  rw [hrun]
  cases hg : skGet kv i with
  | none => rw [hg] at hv; simp at hv ⊢; exact hv.1
  | some u => rw [hg] at hv; simp at hv ⊢; exact hv.1
theorem StrMap.lookup_ok (h : StrMap P K w m kv) (hk : P.underlying K = some .string) (ht : P.underlying T = some (.map K E)) {z : Value} (hz : (zeroValue E).run P w = .ok z w) (i : List UInt8) (hw : i.length ≤ maxLen) :
    (Instr.lookup T (.map (some m)) (.string (bs i)) true).run P w = .ok (.tuple #[(skGet kv i).getD z, .bool (skGet kv i).isSome]) w := by
  obtain ⟨_, D, ⟨es, clock, hb, F, _, rfl⟩, _, _, hat⟩ := h
  rcases Maps.fit_look true (string_keyed hk) ht hz hb F (strKey_mk hk hw) with ⟨hrun, _, h2⟩ | ⟨e0, y, _, _, hrun, hRv, h2, _⟩
  · cases hg : skGet kv i with
    | none => simpa using hrun
    | some u =>
      have := hat i .nil
      rw [h2 .nil, hg] at this
      cases this
  · cases hg : skGet kv i with
    | none =>
      have := hat i .nil
      rw [h2 .nil, hg] at this
      simp only [heldR, Option.some.injEq] at hRv
      rw [← hRv] at this
      cases this
    | some u =>
      have := hat i .nil
      rw [h2 .nil, hg] at this
      simp only [heldR, Option.some.injEq] at hRv
      rw [← hRv] at this
      simp at this
      simpa [this] using hrun
theorem StrMap.update (h : StrMap P K w m kv) (hk : P.underlying K = some .string) (ht : P.underlying T = some (.map K E)) (i : List UInt8) (hw : i.length ≤ maxLen) (v : Value) (hroom : kv.length < maxLen) :
    ∃ w', (Instr.mapUpdate T (.map (some m)) (.string (bs i)) v).run P w = .ok () w' ∧ StrMap P K w' m (skPut i v kv) ∧ w.grownBy w' (some m) := by
  obtain ⟨hn, D, hown, ht1, hsz, hat⟩ := h
  obtain ⟨w', hrun, hown', hg⟩ := hown.update (string_keyed hk) ht hroom (key := .string (bs i)) (val := v) (strKey_mk hk hw) (d := .held v) (ps := []) rfl
  have hsize : size (D.put (.string i) (.held v)) = (skPut i v kv).length := by
    rw [size_put ht1, has_of_get (hat i), hsz]
    have := skDel_length (i := i) hn
    simp only [skPut, List.length_cons]
    cases hgi : (skGet kv i).isSome <;> simp [hgi] at this ⊢ <;> omega
  refine ⟨w', hrun, ⟨skPut_nodup hn, _, ?_, ht1.put (show WideAt.IsKeyLit (.string i) from trivial) _, hsize, fun j z => ?_⟩, hg⟩
  · obtain ⟨es, clock, hb, F, _, hD⟩ := hown'
    refine ⟨es, clock, hb, F, ?_, hD⟩
    rw [← hsize, hD, size_eq, length_sorted]
    simp
  · by_cases e : j = i
    · subst e
      rw [atKey_put_same ht1.isMap (show WideAt.IsKeyLit (.string j) from trivial), skGet_put_same]
    · rw [atKey_put_other (fun e' => e (by cases e'; rfl)), skGet_put_other e]
      exact hat j z
theorem StrMap.delete (h : StrMap P K w m kv) (hk : P.underlying K = some .string) (ht : P.underlying T = some (.map K E)) (i : List UInt8) (hw : i.length ≤ maxLen) (ty : TypeId) :
    ∃ w', (Builtin.delete_ #[T, K] ty #[.map (some m), .string (bs i)]).run P w = .ok (.tuple #[]) w' ∧ StrMap P K w' m (skDel i kv) ∧ w.grownBy w' (some m) := by
  obtain ⟨hn, D, hown, ht1, hsz, hat⟩ := h
  obtain ⟨es, clock, hb, F, hs, hD⟩ := hown
  obtain ⟨es', hrun, F', hle, hdel, _⟩ := Maps.fit_drop (ty := ty) (string_keyed hk) ht hb F (strKey_mk hk hw)
  have hD' : D.del (.string i) = .map ((es'.toList.map (WideElems.rg P K heldR)).foldr DataW.insert []) := by rw [hD, DataW.del_eq, hdel]
  have hsize : size (D.del (.string i)) = (skDel i kv).length := by
    have h1 := size_del (k := .string i) ht1
    rw [has_of_get (hat i), hsz] at h1
    have := skDel_length (i := i) hn
    cases hgi : (skGet kv i).isSome <;> simp [hgi] at this h1 <;> omega
  refine ⟨_, hrun, ⟨skDel_nodup hn, D.del (.string i), ⟨es', clock, ChangeMaps.heap_setBlock_same hb _, F', ?_, hD'⟩, ht1.del _, hsize, fun j z => ?_⟩, ⟨rfl, rfl, rfl, by simp [ChangeMaps.setBlock], fun k _ hk' => ChangeMaps.heap_setBlock_other hb _ (fun e => hk' (by rw [e]))⟩⟩
  · rw [← hsize, hD', size_eq, length_sorted]
    simp
  · by_cases e : j = i
    · subst e
      rw [atKey_del_same, skGet_del_same]
    · rw [atKey_del_other (fun e' => e (by cases e'; rfl)), skGet_del_other e]
      exact hat j z
end
end Go.Proofs.YtoaihngckcbhiaaGreatDoor
