/- The keys of a map of a board's, sorted: maps.Keys, slices.Sorted, by the shelf's contracts. -/
import Derived.Test.YtgmhglcdifhimaaDoorTaskShelf
import Derived.Test.YtgmhglcdifhimaaDoorTaskDel
namespace Go.Proofs.YtgmhglcdifhimaaDoor
open Go.RowKit Go.Maps Go.Sort Go.Shelf
open Tsk

theorem kvGet_isSome (kv : List (Int × Value)) (x : Int) : x ∈ kv.map (·.1) ↔ (kvGet kv x).isSome = true := by
  unfold kvGet
  rw [Option.isSome_map, List.find?_isSome, List.mem_map]
  constructor
  · rintro ⟨p, hp, rfl⟩; exact ⟨p, hp, by simp⟩
  · rintro ⟨p, hp, h⟩; exact ⟨p, hp, by simpa using h⟩
theorem IntMap.keyed {w : World} {m : Nat} {kv : List (Int × Value)} (h : IntMap Tryd.prog 3 w m kv) : ∃ D : DataW Value, w.ownsMap Tryd.prog 3 heldR m kv.length D ∧ Maps.size D = kv.length ∧ (kv.map (·.1)).Perm (intKeys D) := by
  obtain ⟨hn, D, hown, _, hsz, hat⟩ := h
  refine ⟨D, hown, hsz, CollectedI.perm (left := fun _ => false) ⟨hn, fun x => ?_⟩ hown (int_keyed Tryd.underlying3) Tryd.underlying3 (fun _ => rfl)⟩
  rw [has_of_get (hat x), kvGet_isSome]
  simp
theorem sortsA (m : Nat) : AnyZI.SortsIn Tryd.prog sortedA_ren Fence.wide m :=
  ⟨fun blk off cap ss W hH hblk hsz => callsIn_wide.2 (AnyM.slices_Sort_int sortA blk off cap ss W hH hblk hsz),
   fun p cap W => callsIn_wide.2 (AnyM.slices_Sort_int_none sortA p cap W)⟩
theorem mapKeysA (mb : Option Nat) (W : World) : Calls Tryd.prog 60 #[.map mb] W fun e w' => e = .returned (.func (.func 76) #[] #[.pointer (some ⟨W.heap.size, 0, none⟩)]) ∧ w' = W.alloc (.cells #[.map mb] 81) :=
  callsIn_wide.1 (AnyZI.keys_in keysA Fence.wide 5 trivial rfl mb W)
theorem mapKeysB (mb : Option Nat) (W : World) : Calls Tryd.prog 70 #[.map mb] W fun e w' => e = .returned (.func (.func 78) #[] #[.pointer (some ⟨W.heap.size, 0, none⟩)]) ∧ w' = W.alloc (.cells #[.map mb] 109) :=
  callsIn_wide.1 (AnyZI.keys_in keysB Fence.wide 5 trivial rfl mb W)
set_option maxHeartbeats 1000000 in
theorem sortedKeysA {w : World} {m : Nat} {kv : List (Int × Value)} (h : IntMap Tryd.prog 3 w m kv) (hlen : kv.length ≤ 1000000) :
    Calls Tryd.prog 59 #[.func (.func 76) #[] #[.pointer (some ⟨w.heap.size, 0, none⟩)]] (w.alloc (.cells #[.map (some m)] 81)) fun e w' =>
      ∃ v, e = .returned v ∧ w'.ownsRow (w.heap.size + 1) 3 1 v kv.length ((sortI (kv.map (·.1))).map encZ) ∧ Below w.heap.size w w' := by
  obtain ⟨D, hown, hsz, hperm⟩ := h.keyed
  have hbl := hown.lt
  have hseq : SeqGives Fence.wide 2 Tryd.prog 76 #[.pointer (some ⟨w.heap.size, 0, none⟩)] encZ (fun ss => ss.Perm (intKeys D)) (Maps.size D) (w.alloc (.cells #[.map (some m)] 81)) :=
    AnyZI.keys_gives (ρ := keysA_ren) { keysA with } Fence.wide _ trivial rfl (by omega) w.heap.size m kv.length D _ (by simp) (by simp) (by
      obtain ⟨es, clock, hb, Ft, hs, hD⟩ := hown
      exact ⟨es, clock, (Below.heap_alloc _ _ m hbl).trans hb, Ft, hs, hD⟩)
  have cS := AnyZI.sorted_in sortedA Fence.wide 5 trivial trivial trivial trivial rfl (by omega) (sortsA _) (enters_of Tryd.func75 (by kernel_rfl) rfl) 76 #[.pointer (some ⟨w.heap.size, 0, none⟩)] trivial (enters_of Tryd.func76 (by kernel_rfl) rfl) _ _ (by unfold maxLen; omega) (by omega) _ hseq
  refine (callsIn_wide.1 cS).mono ?_
  rintro e w' ⟨v, ss, rfl, hS, hrow, _, hb⟩
  have e1 : ss.length = kv.length := by have := (hS.trans hperm.symm).length_eq; simpa using this
  have e2 : ss.mergeSort (fun x y => decide (x ≤ y)) = sortI (kv.map (·.1)) := sortI_perm_eq (hS.trans hperm.symm)
  rw [e1, e2] at hrow
  exact ⟨v, rfl, by rw [World.size_alloc] at hrow; exact hrow, ((Below.refl _ w).alloc (Nat.le_refl _) _).trans (hb.mono (by rw [World.size_alloc]; omega))⟩
set_option maxHeartbeats 1000000 in
theorem sortedKeysB {w : World} {m : Nat} {kv : List (Int × Value)} (h : IntMap Tryd.prog 3 w m kv) (hlen : kv.length ≤ 1000000) :
    Calls Tryd.prog 59 #[.func (.func 78) #[] #[.pointer (some ⟨w.heap.size, 0, none⟩)]] (w.alloc (.cells #[.map (some m)] 109)) fun e w' =>
      ∃ v, e = .returned v ∧ w'.ownsRow (w.heap.size + 1) 3 1 v kv.length ((sortI (kv.map (·.1))).map encZ) ∧ Below w.heap.size w w' := by
  obtain ⟨D, hown, hsz, hperm⟩ := h.keyed
  have hbl := hown.lt
  have hseq : SeqGives Fence.wide 2 Tryd.prog 78 #[.pointer (some ⟨w.heap.size, 0, none⟩)] encZ (fun ss => ss.Perm (intKeys D)) (Maps.size D) (w.alloc (.cells #[.map (some m)] 109)) :=
    AnyZI.keys_gives (ρ := keysB_ren) { keysB with } Fence.wide _ trivial rfl (by omega) w.heap.size m kv.length D _ (by simp) (by simp) (by
      obtain ⟨es, clock, hb, Ft, hs, hD⟩ := hown
      exact ⟨es, clock, (Below.heap_alloc _ _ m hbl).trans hb, Ft, hs, hD⟩)
  have cS := AnyZI.sorted_in sortedA Fence.wide 5 trivial trivial trivial trivial rfl (by omega) (sortsA _) (enters_of Tryd.func75 (by kernel_rfl) rfl) 78 #[.pointer (some ⟨w.heap.size, 0, none⟩)] trivial (enters_of Tryd.func78 (by kernel_rfl) rfl) _ _ (by unfold maxLen; omega) (by omega) _ hseq
  refine (callsIn_wide.1 cS).mono ?_
  rintro e w' ⟨v, ss, rfl, hS, hrow, _, hb⟩
  have e1 : ss.length = kv.length := by have := (hS.trans hperm.symm).length_eq; simpa using this
  have e2 : ss.mergeSort (fun x y => decide (x ≤ y)) = sortI (kv.map (·.1)) := sortI_perm_eq (hS.trans hperm.symm)
  rw [e1, e2] at hrow
  exact ⟨v, rfl, by rw [World.size_alloc] at hrow; exact hrow, ((Below.refl _ w).alloc (Nat.le_refl _) _).trans (hb.mono (by rw [World.size_alloc]; omega))⟩
end Go.Proofs.YtgmhglcdifhimaaDoor
