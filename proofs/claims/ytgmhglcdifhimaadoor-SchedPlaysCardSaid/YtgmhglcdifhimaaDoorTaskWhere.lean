/- slices.DeleteFunc over a row of numbers of one's own, by what the function value tells; walked. The keys of a map of a board's, sorted: maps.Keys, slices.Sorted, by the shelf's contracts. maslin/task.where at 'map[int]int', walked: the keys of a map that have a value, rising. -/
import Derived.Test.YtgmhglcdifhimaaDoorTaskFind
import Derived.Lib.SliceRun
import Derived.Test.YtgmhglcdifhimaaDoorTaskShelf
namespace Go.Proofs.YtgmhglcdifhimaaDoor
open Go.RowKit Go.Maps
open Tsk

/-- What stands at a round's head: i are kept of the first j. -/
structure DelSt (w wr : World) (g : Nat) (f : Int → Bool) (l : List Int) (i j : Nat) : Prop where
  upd : Upd (fun k => k = g) w wr
  blk : ∃ cur, wr.heap[g]? = some (.cells cur 3 (0, 0)) ∧ l.length ≤ cur.size
  kept : i = ((l.take j).filter (fun x => !f x)).length
  front : ∀ t (h : t < ((l.take j).filter (fun x => !f x)).length), wr.cell? ⟨g, t, none⟩ = some (.int .i64 (((l.take j).filter (fun x => !f x))[t]))
  back : ∀ t, j ≤ t → (h : t < l.length) → wr.cell? ⟨g, t, none⟩ = some (.int .i64 l[t])
  lt : i < j
  le : j ≤ l.length
theorem filter_take_yes {f : Int → Bool} {l : List Int} {j : Nat} (h : j < l.length) (hf : f l[j] = true) : (l.take (j + 1)).filter (fun x => !f x) = (l.take j).filter (fun x => !f x) := by
  rw [List.take_succ_eq_append_getElem h, List.filter_append]
  simp [hf]
theorem filter_take_no {f : Int → Bool} {l : List Int} {j : Nat} (h : j < l.length) (hf : f l[j] = false) : (l.take (j + 1)).filter (fun x => !f x) = (l.take j).filter (fun x => !f x) ++ [l[j]] := by
  rw [List.take_succ_eq_append_getElem h, List.filter_append]
  simp [hf]
section
variable {w wr : World} {g : Nat} {f : Int → Bool} {l : List Int} {i j : Nat}
theorem DelSt.strike (h : DelSt w wr g f l i j) (hj : j < l.length) (hf : f l[j] = true) : DelSt w wr g f l i (j + 1) := by
  have e := filter_take_yes hj hf
  exact ⟨h.upd, h.blk, by rw [e]; exact h.kept, fun t ht => by simp only [e]; exact h.front t (by rw [e] at ht; exact ht), fun t ht hl => h.back t (by omega) hl, by have := h.lt; omega, hj⟩
theorem DelSt.keep (h : DelSt w wr g f l i j) (hj : j < l.length) (hf : f l[j] = false) : DelSt w (wr.setCell ⟨g, i, none⟩ (.int .i64 l[j])) g f l (i + 1) (j + 1) := by
  have e := filter_take_no hj hf
  obtain ⟨cur, hb, hn⟩ := h.blk
  have hlt := h.lt
  have hle := h.le
  have hset := heap_setCell_same wr g i _ _ (.int .i64 l[j]) hb
  have hcell : ∀ t, (wr.setCell ⟨g, i, none⟩ (.int .i64 l[j])).cell? ⟨g, t, none⟩ = if t = i then some (.int .i64 l[j]) else wr.cell? ⟨g, t, none⟩ := fun t => by
    rw [cell_of_row _ g _ _ _ _ hset, cell_of_row _ g _ _ _ _ hb, Array.getElem?_setIfInBounds]
    by_cases e : i = t
    · subst e
      rw [if_pos rfl, if_pos rfl, if_pos (by omega)]
    · rw [if_neg e, if_neg (fun e' => e e'.symm)]
  have hk := h.kept
  refine ⟨h.upd.setCell (p := ⟨g, i, none⟩) (.inl rfl) _, ⟨_, hset, by rw [Array.size_setIfInBounds]; exact hn⟩, by rw [e, List.length_append]; simp; omega, fun t ht => ?_, fun t ht hl => ?_, by omega, hj⟩
  · rw [hcell]
    simp only [e]
    rw [e, List.length_append] at ht
    simp only [List.length_cons, List.length_nil] at ht
    by_cases ht2 : t = i
    · subst ht2
      rw [if_pos rfl, List.getElem_append_right (by omega)]
      simp
    · rw [if_neg ht2, List.getElem_append_left (by omega)]
      exact h.front t (by omega)
  · rw [hcell, if_neg (by omega)]
    exact h.back t (by omega) hl
theorem DelSt.cells (h : DelSt w wr g f l i j) : (∀ t, t < l.length → (wr.cell? ⟨g, t, none⟩).isSome = true) ∧ ∀ t, wr.frozen? ⟨g, t, none⟩ = false := by
  obtain ⟨cur, hb, hn⟩ := h.blk
  refine ⟨fun t ht => ?_, fun t => frozen_of_row wr g t _ _ hb⟩
  rw [cell_of_row wr g _ _ _ _ hb, Array.getElem?_eq_getElem (by omega)]
  rfl
end
theorem delSt_start {w : World} {g : Nat} {f : Int → Bool} {l : List Int} {k : Nat} (hb : ∃ cur, w.heap[g]? = some (.cells cur 3 (0, 0)) ∧ l.length ≤ cur.size) (hl : ∀ t, (h : t < l.length) → w.cell? ⟨g, t, none⟩ = some (.int .i64 l[t])) (hk : k < l.length) (hf : f l[k] = true) (hn : ∀ j (hj : j < k), f (l[j]'(by omega)) = false) : DelSt w w g f l k (k + 1) := by
  have e0 : (l.take k).filter (fun x => !f x) = l.take k := List.filter_eq_self.2 fun x hx => by
    obtain ⟨i, hi, rfl⟩ := List.getElem_of_mem hx
    rw [List.length_take] at hi
    rw [List.getElem_take, hn i (by omega)]
    rfl
  have e := (filter_take_yes hk hf).trans e0
  refine ⟨Upd.refl _ _, hb, by rw [e, List.length_take]; omega, fun t ht => ?_, fun t ht h => hl t h, by omega, hk⟩
  simp only [e]
  rw [e, List.length_take] at ht
  rw [List.getElem_take]
  exact hl t (by omega)
theorem idxI_cases (f : Int → Bool) (l : List Int) : (idxI f l = -1 ∧ l.filter (fun x => !f x) = l) ∨ ∃ k, ∃ hk : k < l.length, idxI f l = (k : Int) ∧ f l[k] = true ∧ ∀ j (hj : j < k), f (l[j]'(by omega)) = false := by
  unfold idxI
  cases h : l.findIdx? f with
  | none =>
    refine .inl ⟨rfl, List.filter_eq_self.2 fun x hx => ?_⟩
    rw [List.findIdx?_eq_none_iff.1 h x hx]; rfl
  | some k =>
    obtain ⟨hk, h1, h2⟩ := List.findIdx?_eq_some_iff_getElem.1 h
    exact .inr ⟨k, hk, rfl, h1, fun j hj => by simpa using h2 j hj⟩
set_option maxRecDepth 100000 in
set_option maxHeartbeats 2000000 in
theorem deletef_any {w : World} {g cap : Nat} {K : World → Prop} {v : Value} {ok : Int → Prop} {f : Int → Bool} {l : List Int} (hb : ∃ cur, w.heap[g]? = some (.cells cur 3 (0, 0)) ∧ l.length ≤ cur.size) (hc : l.length ≤ cap)
    (hl : ∀ t, (h : t < l.length) → w.cell? ⟨g, t, none⟩ = some (.int .i64 l[t])) (hf : FnTells K v ok f) (hK : ∀ W, Upd (fun k => k = g) w W → K W) (hok : ∀ x ∈ l, ok x) (hlen : l.length ≤ 1000000000) :
    Calls Tryd.prog 61 #[.slice (some ⟨g, 0, none⟩) l.length cap, v] w fun e w' =>
      e = .returned (.slice (some ⟨g, 0, none⟩) (l.filter fun x => !f x).length cap) ∧ (∀ t, (h : t < (l.filter fun x => !f x).length) → w'.cell? ⟨g, t, none⟩ = some (.int .i64 ((l.filter fun x => !f x)[t]))) ∧ Upd (fun k => k = g) w w' := by
  have hat : IntsAt w (some ⟨g, 0, none⟩) l := fun i hi => ⟨_, rfl, by rw [add_plain]; exact hl i hi⟩
  have HI := Lib.hid (indexf_any cap hat hf (hK w (Upd.refl _ _)) hok hlen)
  obtain ⟨F, recv, caps, rfl, hent, hcall⟩ := hf
  rcases idxI_cases f l with ⟨e1, e2⟩ | ⟨k0, hk0, e1, e2, e3⟩
  · rw [e1] at HI
    have HL := Lib.hid hl; have HE := Lib.hid e2
    clear hb hl hK hok hat hent hcall e1 e2
    go_enter Tryd.func61, Tryd.ntmps61
    go_wp2_with fail
    refine HI.out.mono ?_
    rintro e w1 ⟨rfl, rfl⟩
    go_wp2_with fail
    go_ret
    refine ⟨by rw [HE.out]; rfl, fun t ht => ?_, Upd.refl _ _⟩
    simp only [HE.out]
    exact HL.out t (by rw [HE.out] at ht; exact ht)
  · rw [e1] at HI
    have HST := Lib.hid (delSt_start hb hl hk0 e2 e3)
    have HC := Lib.hid hcall; have HK := Lib.hid hK; have HOK := Lib.hid hok
    clear hb hl hK hok hat hcall e1 e2 e3
    go_enter Tryd.func61, Tryd.ntmps61
    go_wp2_with fail
    refine HI.out.mono ?_
    rintro e w1 ⟨rfl, rfl⟩
    go_wp2_with fail
    go_loopw [5, 6, 7] (fun i j _ wr => ∃ a b : Nat, i = .int .i64 a ∧ j = .int .i64 b ∧ DelSt w wr g f l a b) (fun _ j _ _ => l.length - (intOf j).toNat)
    case atStart => exact ⟨k0, k0 + 1, rfl, by go_num, HST.out⟩
    case round =>
      clear HST HI
      obtain ⟨i, j, rfl, rfl, hst⟩ := hrel
      have HS := Lib.hid hst
      have hij := hst.lt
      have hjl := hst.le
      by_cases hlt : j < l.length
      · have hx := hst.back j (Nat.le_refl _) hlt
        have hidx := fun W => run_index_slice Tryd.prog 31 3 Tryd.underlying31 1 (by kernel_rfl) ⟨g, 0, none⟩ l.length cap j hlt W
        have hidy := fun W => run_index_slice Tryd.prog 31 3 Tryd.underlying31 1 (by kernel_rfl) ⟨g, 0, none⟩ l.length cap i (by omega) W
        simp only [add_plain, Nat.mul_one] at hidx hidy
        have hfz := hst.cells.2 i
        have hsome := hst.cells.1 i (by omega)
        obtain ⟨oldv, hold⟩ := Option.isSome_iff_exists.1 hsome
        have HCL := Lib.hid (HC.out wr l[j] (HK.out wr hst.upd) (HOK.out _ (List.getElem_mem hlt)))
        have HY := Lib.hid (show f l[j] = true → DelSt w wr g f l i (j + 1) from hst.strike hlt)
        have HN := Lib.hid (show f l[j] = false → DelSt w (wr.setCell ⟨g, i, none⟩ (.int .i64 l[j])) g f l (i + 1) (j + 1) from hst.keep hlt)
        clear hst hsome
        generalize l[j] = x at *
        go_wp2_with fail
        refine HCL.out.mono ?_
        rintro e w1 ⟨rfl, rfl⟩
        generalize f x = s at *
        cases s with
        | true =>
          have HY2 := Lib.hid (HY.out rfl)
          clear HY HN HCL
          go_wp2_with fail
          refine ⟨?_, ?measure⟩
          · repeat apply Exists.intro
            refine ⟨?rel, rfl⟩
            case rel => exact ⟨i, j + 1, rfl, by go_num, HY2.out⟩
          case measure => simp [intOf]; omega
        | false =>
          have HN2 := Lib.hid (HN.out rfl)
          clear HY HN HCL
          go_wp2_with fail
          refine ⟨?_, ?measure⟩
          · repeat apply Exists.intro
            refine ⟨?rel, rfl⟩
            case rel => exact ⟨i + 1, j + 1, by go_num, by go_num, HN2.out⟩
          case measure => simp [intOf]; omega
      · obtain rfl : j = l.length := by omega
        have hcl := fun ty => Lib.run_clear_slice (P := Tryd.prog) wr 31 3 ty (.int .i64 0) Tryd.underlying31 Tryd.zeroValue3 rfl rfl g i (l.length - i) (cap - i) (by omega) (fun t ht => hst.cells.1 (i + t) (by omega)) (fun t _ => hst.cells.2 (i + t))
        have hkept := hst.kept
        rw [List.take_length] at hkept
        have HF := Lib.hid (show ∀ t, (h : t < (l.filter fun x => !f x).length) → wr.cell? ⟨g, t, none⟩ = some (.int .i64 ((l.filter fun x => !f x)[t])) from fun t ht => by
          have h := hst.front
          rw [List.take_length] at h
          exact h t ht)
        have HU := Lib.hid hst.upd
        have HKE := Lib.hid hkept
        clear hst hkept
        go_wp2_with fail
        go_ret
        obtain ⟨h1, h2, h3, h4, h5⟩ := upd_setCells g (List.replicate (l.length - i) (Value.int .i64 0)) i wr
        refine ⟨by rw [← HKE.out]; rfl, fun t ht => ?_, ?_⟩
        · have ht2 : t < i := by rw [HKE.out]; exact ht
          exact (World.cell?_setCells_out g _ i wr ⟨g, t, none⟩ (fun _ _ => .inl ht2)).trans (HF.out t ht)
        · exact HU.out.trans (⟨h2, h3, h4, Nat.le_of_eq h1.symm, fun k _ hk => h5 k hk⟩ : Upd (fun k => k = g) wr _) (fun k hk => .inl hk)
end Go.Proofs.YtgmhglcdifhimaaDoor

namespace Go.Proofs.YtgmhglcdifhimaaDoor
open Go.RowKit Go.Maps Go.Sort Go.Shelf
open Tsk

theorem kvGet_isSome (kv : List (Int × Value)) (x : Int) : x ∈ kv.map (·.1) ↔ (kvGet kv x).isSome = true := by
  unfold kvGet
  rw [Option.isSome_map, List.find?_isSome, List.mem_map]
  constructor
  · rintro ⟨p, hp, rfl⟩; exact ⟨p, hp, by simp⟩
  · rintro ⟨p, hp, h⟩; exact ⟨p, hp, by simpa using h⟩
theorem IntMap.keyed {w : World} {m : Nat} {kv : List (Int × Value)} (h : IntMap Tryd.prog 3 w m kv) : ∃ D : DataW Value, w.ownsMap Tryd.prog 3 heldR m kv.length D ∧ Maps.size D = kv.length ∧ (kv.map (·.1)).Perm (intKeys D) := by
  obtain ⟨hn, D, hown, _, hsz, hat⟩ := h
  refine ⟨D, hown, hsz, CollectedI.perm (left := fun _ => false) ⟨hn, fun x => ?_⟩ hown (int_keyed Tryd.underlying3) Tryd.underlying3 (fun _ => rfl)⟩
  rw [has_of_get (hat x), kvGet_isSome]
  simp
theorem sortsA (m : Nat) : AnyZI.SortsIn Tryd.prog sortedA_ren Fence.wide m :=
  ⟨fun blk off cap ss W hH hblk hsz => callsIn_wide.2 (AnyM.slices_Sort_int sortA blk off cap ss W hH hblk hsz),
   fun p cap W => callsIn_wide.2 (AnyM.slices_Sort_int_none sortA p cap W)⟩
theorem mapKeysA (mb : Option Nat) (W : World) : Calls Tryd.prog 60 #[.map mb] W fun e w' => e = .returned (.func (.func 76) #[] #[.pointer (some ⟨W.heap.size, 0, none⟩)]) ∧ w' = W.alloc (.cells #[.map mb] 81) :=
  callsIn_wide.1 (AnyZI.keys_in keysA Fence.wide 5 trivial rfl mb W)
theorem mapKeysB (mb : Option Nat) (W : World) : Calls Tryd.prog 70 #[.map mb] W fun e w' => e = .returned (.func (.func 78) #[] #[.pointer (some ⟨W.heap.size, 0, none⟩)]) ∧ w' = W.alloc (.cells #[.map mb] 109) :=
  callsIn_wide.1 (AnyZI.keys_in keysB Fence.wide 5 trivial rfl mb W)
set_option maxHeartbeats 1000000 in
theorem sortedKeysA {w : World} {m : Nat} {kv : List (Int × Value)} (h : IntMap Tryd.prog 3 w m kv) (hlen : kv.length ≤ 1000000) :
    Calls Tryd.prog 59 #[.func (.func 76) #[] #[.pointer (some ⟨w.heap.size, 0, none⟩)]] (w.alloc (.cells #[.map (some m)] 81)) fun e w' =>
      ∃ v, e = .returned v ∧ w'.ownsRow (w.heap.size + 1) 3 1 v kv.length ((sortI (kv.map (·.1))).map encZ) ∧ Below w.heap.size w w' := by
  obtain ⟨D, hown, hsz, hperm⟩ := h.keyed
  have hbl := hown.lt
  have hseq : SeqGives Fence.wide 2 Tryd.prog 76 #[.pointer (some ⟨w.heap.size, 0, none⟩)] encZ (fun ss => ss.Perm (intKeys D)) (Maps.size D) (w.alloc (.cells #[.map (some m)] 81)) :=
    AnyZI.keys_gives (ρ := keysA_ren) { keysA with } Fence.wide _ trivial rfl (by omega) w.heap.size m kv.length D _ (by simp) (by simp) (by
      obtain ⟨es, clock, hb, Ft, hs, hD⟩ := hown
      exact ⟨es, clock, (Below.heap_alloc _ _ m hbl).trans hb, Ft, hs, hD⟩)
  have cS := AnyZI.sorted_in sortedA Fence.wide 5 trivial trivial trivial trivial rfl (by omega) (sortsA _) (enters_of Tryd.func75 (by kernel_rfl) rfl) 76 #[.pointer (some ⟨w.heap.size, 0, none⟩)] trivial (enters_of Tryd.func76 (by kernel_rfl) rfl) _ _ (by unfold maxLen; omega) (by omega) _ hseq
  refine (callsIn_wide.1 cS).mono ?_
  rintro e w' ⟨v, ss, rfl, hS, hrow, _, hb⟩
  have e1 : ss.length = kv.length := by have := (hS.trans hperm.symm).length_eq; simpa using this
  have e2 : ss.mergeSort (fun x y => decide (x ≤ y)) = sortI (kv.map (·.1)) := sortI_perm_eq (hS.trans hperm.symm)
  rw [e1, e2] at hrow
  exact ⟨v, rfl, by rw [World.size_alloc] at hrow; exact hrow, ((Below.refl _ w).alloc (Nat.le_refl _) _).trans (hb.mono (by rw [World.size_alloc]; omega))⟩
set_option maxHeartbeats 1000000 in
theorem sortedKeysB {w : World} {m : Nat} {kv : List (Int × Value)} (h : IntMap Tryd.prog 3 w m kv) (hlen : kv.length ≤ 1000000) :
    Calls Tryd.prog 59 #[.func (.func 78) #[] #[.pointer (some ⟨w.heap.size, 0, none⟩)]] (w.alloc (.cells #[.map (some m)] 109)) fun e w' =>
      ∃ v, e = .returned v ∧ w'.ownsRow (w.heap.size + 1) 3 1 v kv.length ((sortI (kv.map (·.1))).map encZ) ∧ Below w.heap.size w w' := by
  obtain ⟨D, hown, hsz, hperm⟩ := h.keyed
  have hbl := hown.lt
  have hseq : SeqGives Fence.wide 2 Tryd.prog 78 #[.pointer (some ⟨w.heap.size, 0, none⟩)] encZ (fun ss => ss.Perm (intKeys D)) (Maps.size D) (w.alloc (.cells #[.map (some m)] 109)) :=
    AnyZI.keys_gives (ρ := keysB_ren) { keysB with } Fence.wide _ trivial rfl (by omega) w.heap.size m kv.length D _ (by simp) (by simp) (by
      obtain ⟨es, clock, hb, Ft, hs, hD⟩ := hown
      exact ⟨es, clock, (Below.heap_alloc _ _ m hbl).trans hb, Ft, hs, hD⟩)
  have cS := AnyZI.sorted_in sortedA Fence.wide 5 trivial trivial trivial trivial rfl (by omega) (sortsA _) (enters_of Tryd.func75 (by kernel_rfl) rfl) 78 #[.pointer (some ⟨w.heap.size, 0, none⟩)] trivial (enters_of Tryd.func78 (by kernel_rfl) rfl) _ _ (by unfold maxLen; omega) (by omega) _ hseq
  refine (callsIn_wide.1 cS).mono ?_
  rintro e w' ⟨v, ss, rfl, hS, hrow, _, hb⟩
  have e1 : ss.length = kv.length := by have := (hS.trans hperm.symm).length_eq; simpa using this
  have e2 : ss.mergeSort (fun x y => decide (x ≤ y)) = sortI (kv.map (·.1)) := sortI_perm_eq (hS.trans hperm.symm)
  rw [e1, e2] at hrow
  exact ⟨v, rfl, by rw [World.size_alloc] at hrow; exact hrow, ((Below.refl _ w).alloc (Nat.le_refl _) _).trans (hb.mono (by rw [World.size_alloc]; omega))⟩
end Go.Proofs.YtgmhglcdifhimaaDoor

namespace Go.Proofs.YtgmhglcdifhimaaDoor
open Go.RowKit Go.Maps Go.Sort
open Tsk

set_option maxRecDepth 100000 in
theorem deletef_nil (v : Value) (w : World) : Calls Tryd.prog 61 #[.slice none 0 0, v] w fun e w' => e = .returned (.slice none 0 0) ∧ w = w' := by
  have HI : Hid (Calls Tryd.prog 77 #[.slice none 0 0, v] w fun e w' => e = .returned (.int .i64 (-1)) ∧ w = w') := Lib.hid (by
    go_enter Tryd.func77, Tryd.ntmps77
    go_wp2_with fail
    go_loopw [5, 8] (fun _ i wr => i = .int .i64 0 ∧ w = wr) (fun _ _ _ => 0)
    case atStart => exact ⟨rfl, rfl⟩
    case round =>
      obtain ⟨rfl, rfl⟩ := hrel
      go_wp2_with fail
      go_ret
      exact ⟨rfl, rfl⟩)
  go_enter Tryd.func61, Tryd.ntmps61
  go_wp2_with fail
  refine HI.out.mono ?_
  rintro e w1 ⟨rfl, rfl⟩
  go_wp2_with fail
  go_ret
  exact ⟨rfl, rfl⟩
/-- DeleteFunc of a row of one's own. -/
theorem deletef_row {w : World} {base : Nat} {s : Value} {K : World → Prop} {v : Value} {ok : Int → Prop} {f : Int → Bool} {l : List Int} (h : w.ownsRow base 3 1 s l.length (l.map encZ)) (hf : FnTells K v ok f) (hK : ∀ W, Upd (fun k => s.ownBlock = some k) w W → K W) (hok : ∀ x ∈ l, ok x) (hlen : l.length ≤ 1000000000) :
    Calls Tryd.prog 61 #[s, v] w fun e w' => ∃ q cap, e = .returned (.slice q (l.filter fun x => !f x).length cap) ∧ IntsAt w' q (l.filter fun x => !f x) ∧ Upd (fun k => s.ownBlock = some k) w w' ∧ ∀ p, q = some p → s.ownBlock = some p.block := by
  rcases h.2 with ⟨e1, e2⟩ | ⟨g, cap, cur, e1, _, hg, h1, _, h3, h4⟩
  · subst e1
    obtain rfl : l = [] := List.length_eq_zero_iff.1 e2
    refine (deletef_nil v w).mono ?_
    rintro e w' ⟨rfl, rfl⟩
    exact ⟨none, 0, rfl, fun i hi => by simp at hi, Upd.refl _ _, fun p e => by cases e⟩
  · subst e1
    have hl : ∀ t, (ht : t < l.length) → w.cell? ⟨g, t, none⟩ = some (.int .i64 l[t]) := fun t ht => by
      have := h.cells (g := g) rfl t (.int .i64 l[t]) (by rw [List.getElem?_map, List.getElem?_eq_getElem ht]; rfl)
      rwa [add_plain] at this
    have hob : ∀ k, (Value.slice (some ⟨g, 0, none⟩) l.length cap).ownBlock = some k ↔ k = g := fun k => by simp [Value.ownBlock]; exact eq_comm
    refine (deletef_any (cap := cap) ⟨cur, hg, by omega⟩ h1 hl hf (fun W hu => hK W (hu.mono fun k hk => (hob k).2 hk)) hok hlen).mono ?_
    rintro e w' ⟨rfl, h5, h6⟩
    exact ⟨_, cap, rfl, fun i hi => ⟨_, rfl, by rw [add_plain]; exact h5 i hi⟩, h6.mono fun k hk => (hob k).2 hk, fun p e => by cases e; rfl⟩
theorem IntMap.key_wf {w : World} {m : Nat} {kv : List (Int × Value)} (h : IntMap Tryd.prog 3 w m kv) (x : Int) (hx : x ∈ kv.map (·.1)) : (Lit.int .i64 x).wf = true := by
  obtain ⟨D, hown, _, hp⟩ := h.keyed
  exact intKeys_wf hown Tryd.underlying3 x (hp.mem_iff.1 hx)
theorem int_zero (W : World) : (zeroValue 3).run Tryd.prog W = .ok (.int .i64 0) W := (zero_of_info (show (Tryd.prog.info? 3).map (fun i => (i.zero, i.size)) = some (some (.int .i64 0), 1) by kernel_rfl)).1 W
set_option maxRecDepth 100000 in
theorem whereA_fn {W : World} {B0 B1 m : Nat} {t : Int} {kv : List (Int × Value)} {g : Int → Int} (h0 : W.cell? ⟨B0, 0, none⟩ = some (.map (some m))) (h1 : W.cell? ⟨B1, 0, none⟩ = some (.int .i64 t)) (hm : IntMap Tryd.prog 3 W m kv) (hg : ∀ x ∈ kv.map (·.1), kvGet kv x = some (.int .i64 (g x))) (x : Int) (hx : x ∈ kv.map (·.1)) :
    Calls Tryd.prog 62 #[.int .i64 x, .pointer (some ⟨B0, 0, none⟩), .pointer (some ⟨B1, 0, none⟩)] W fun e W' => e = .returned (.bool (g x != t)) ∧ W = W' := by
  have hl := hm.lookup Tryd.underlying3 Tryd.underlying81 (z := .int .i64 0) (int_zero W) x (hm.key_wf x hx)
  rw [hg x hx] at hl
  simp only [Option.getD_some] at hl
  clear hm hg hx
  generalize g x = y at *
  go_enter Tryd.func62, Tryd.ntmps62
  go_wp2_with fail
  go_ret
  exact ⟨rfl, rfl⟩
set_option maxRecDepth 100000 in
set_option maxHeartbeats 1000000 in
theorem whereA_any {w : World} {m : Nat} {kv : List (Int × Value)} {g : Int → Int} (t : Int) (hm : IntMap Tryd.prog 3 w m kv) (hg : ∀ x ∈ kv.map (·.1), kvGet kv x = some (.int .i64 (g x))) (hlen : kv.length ≤ 1000000) :
    Calls Tryd.prog 39 #[.map (some m), .int .i64 t] w fun e w' => ∃ q cap, e = .returned (.slice q ((sortI (kv.map (·.1))).filter fun x => !(g x != t)).length cap) ∧ IntsAt w' q ((sortI (kv.map (·.1))).filter fun x => !(g x != t)) ∧ Below w.heap.size w w' ∧ ∀ p, q = some p → w.heap.size ≤ p.block := by
  have hmlt := hm.lt
  have hb2 : Below w.heap.size w ((w.alloc (.cells #[.map (some m)] 81)).alloc (.cells #[.int .i64 t] 3)) := ((Below.refl _ _).alloc (Nat.le_refl _) _).alloc (by simp) _
  have HB2 := Lib.hid hb2
  have hm2 := hm.kept (hb2.block m hmlt)
  have HK := Lib.hid (mapKeysA (some m) ((w.alloc (.cells #[.map (some m)] 81)).alloc (.cells #[.int .i64 t] 3)))
  have hs := sortedKeysA hm2 hlen
  simp only [World.size_alloc] at hs
  have HS := Lib.hid hs
  have c0 : ((w.alloc (.cells #[.map (some m)] 81)).alloc (.cells #[.int .i64 t] 3)).cell? ⟨w.heap.size, 0, none⟩ = some (.map (some m)) := by simp
  have c1 : ((w.alloc (.cells #[.map (some m)] 81)).alloc (.cells #[.int .i64 t] 3)).cell? ⟨w.heap.size + 1, 0, none⟩ = some (.int .i64 t) := by simp
  have HC0 := Lib.hid c0; have HC1 := Lib.hid c1
  have HM := Lib.hid hm2; have HG := Lib.hid hg
  have HLT := Lib.hid hmlt
  clear hm hm2 hg hb2 hmlt c0 c1 hs
  go_enter Tryd.func39, Tryd.ntmps39
  go_wp2_with fail
  refine HK.out.mono ?_
  rintro e w3 ⟨rfl, rfl⟩
  go_wp2_with fail
  refine HS.out.mono ?_
  rintro e w4 ⟨v, rfl, hrow, hb4⟩
  have hll : (sortI (kv.map (·.1))).length = kv.length := by rw [(sortI_perm _).length_eq, List.length_map]
  rw [← hll] at hrow
  have hbase : ∀ k, v.ownBlock = some k → w.heap.size + 1 + 1 + 1 ≤ k := fun k hk => by
    rcases hrow.2 with ⟨e1, _⟩ | ⟨g', cap, cur, e1, hb, _⟩
    · subst e1; simp [Value.ownBlock] at hk
    · subst e1; simp [Value.ownBlock] at hk; omega
  have hB4 : Below w.heap.size w w4 := HB2.out.trans (hb4.mono (by omega))
  have k0 := ((hb4.cell (p := ⟨w.heap.size, 0, none⟩) (by show w.heap.size < _; omega)).trans HC0.out)
  have k1 := ((hb4.cell (p := ⟨w.heap.size + 1, 0, none⟩) (by show w.heap.size + 1 < _; omega)).trans HC1.out)
  have hm4 : IntMap Tryd.prog 3 w4 m kv := HM.out.kept (hb4.block m (by have := HLT.out; omega))
  have hlt4 := hB4.size
  have hsz4 : w.heap.size + 1 + 1 ≤ w4.heap.size := by have := hb4.size; simp only [World.size_alloc] at this; exact this
  have hdel := deletef_row (K := fun W => W.cell? ⟨w.heap.size, 0, none⟩ = some (.map (some m)) ∧ W.cell? ⟨w.heap.size + 1, 0, none⟩ = some (.int .i64 t) ∧ IntMap Tryd.prog 3 W m kv) (ok := fun x => x ∈ kv.map (·.1)) (f := fun x => g x != t) (v := .func (.func 62) #[] #[.pointer (some ⟨w.heap.size, 0, none⟩), .pointer (some ⟨w.heap.size + 1, 0, none⟩)]) hrow
    ⟨_, _, _, rfl, enters_of Tryd.func62 (by kernel_rfl) rfl, fun W x hK hx => whereA_fn hK.1 hK.2.1 hK.2.2 HG.out x hx⟩
    (fun W hu => ⟨(hu.cell (p := ⟨w.heap.size, 0, none⟩) (by show w.heap.size < _; omega) (fun e => by have : w.heap.size + 1 + 1 + 1 ≤ w.heap.size := hbase _ e; omega)).trans k0, (hu.cell (p := ⟨w.heap.size + 1, 0, none⟩) (by show w.heap.size + 1 < _; omega) (fun e => by have : w.heap.size + 1 + 1 + 1 ≤ w.heap.size + 1 := hbase _ e; omega)).trans k1, hm4.upd hu (fun e => by have := hbase _ e; have := HLT.out; omega)⟩)
    (fun x hx => (sortI_perm _).mem_iff.1 hx) (by rw [hll]; omega)
  have HD := Lib.hid hdel
  have HB4 := Lib.hid hB4
  have HBS := Lib.hid hbase
  clear hrow hb4 hll hbase hB4 k0 k1 hm4 hdel hsz4
  go_wp2_with fail
  refine HD.out.mono ?_
  rintro e w5 ⟨q, cap, rfl, hat, hu, hq⟩
  have HAT := Lib.hid hat; have HU := Lib.hid hu; have HQ := Lib.hid hq
  clear hat hu hq
  go_wp2_with fail
  go_ret
  exact ⟨q, cap, rfl, HAT.out, below_upd HB4.out HU.out (fun k hk => by have := HBS.out k hk; omega) HB4.out.size, fun p e => by have := HBS.out _ (HQ.out p e); omega⟩
end Go.Proofs.YtgmhglcdifhimaaDoor
