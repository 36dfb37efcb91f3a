/- slices.DeleteFunc over a row of numbers of one's own, by what the function value tells; walked. -/
import Derived.Test.YtgmhglcdifhimaaDoorTaskFind
import Derived.Lib.SliceRun
namespace Go.Proofs.YtgmhglcdifhimaaDoor
open Go.RowKit Go.Maps
open Tsk

/-- What stands at a round's head: i are kept of the first j. -/
structure DelSt (w wr : World) (g : Nat) (f : Int → Bool) (l : List Int) (i j : Nat) : Prop where
  upd : Upd (fun k => k = g) w wr
  blk : ∃ cur, wr.heap[g]? = some (.cells cur 3 (0, 0)) ∧ l.length ≤ cur.size
  kept : i = ((l.take j).filter (fun x => !f x)).length
  front : ∀ t (h : t < ((l.take j).filter (fun x => !f x)).length), wr.cell? ⟨g, t, none⟩ = some (.int .i64 (((l.take j).filter (fun x => !f x))[t]))
  back : ∀ t, j ≤ t → (h : t < l.length) → wr.cell? ⟨g, t, none⟩ = some (.int .i64 l[t])
  lt : i < j
  le : j ≤ l.length
theorem filter_take_yes {f : Int → Bool} {l : List Int} {j : Nat} (h : j < l.length) (hf : f l[j] = true) : (l.take (j + 1)).filter (fun x => !f x) = (l.take j).filter (fun x => !f x) := by
  rw [List.take_succ_eq_append_getElem h, List.filter_append]
  simp [hf]
theorem filter_take_no {f : Int → Bool} {l : List Int} {j : Nat} (h : j < l.length) (hf : f l[j] = false) : (l.take (j + 1)).filter (fun x => !f x) = (l.take j).filter (fun x => !f x) ++ [l[j]] := by
  rw [List.take_succ_eq_append_getElem h, List.filter_append]
  simp [hf]
section
variable {w wr : World} {g : Nat} {f : Int → Bool} {l : List Int} {i j : Nat}
theorem DelSt.strike (h : DelSt w wr g f l i j) (hj : j < l.length) (hf : f l[j] = true) : DelSt w wr g f l i (j + 1) := by
  have e := filter_take_yes hj hf
  exact ⟨h.upd, h.blk, by rw [e]; exact h.kept, fun t ht => by simp only [e]; exact h.front t (by rw [e] at ht; exact ht), fun t ht hl => h.back t (by omega) hl, by have := h.lt; omega, hj⟩
theorem DelSt.keep (h : DelSt w wr g f l i j) (hj : j < l.length) (hf : f l[j] = false) : DelSt w (wr.setCell ⟨g, i, none⟩ (.int .i64 l[j])) g f l (i + 1) (j + 1) := by
  have e := filter_take_no hj hf
  obtain ⟨cur, hb, hn⟩ := h.blk
  have hlt := h.lt
  have hle := h.le
  have hset := heap_setCell_same wr g i _ _ (.int .i64 l[j]) hb
  have hcell : ∀ t, (wr.setCell ⟨g, i, none⟩ (.int .i64 l[j])).cell? ⟨g, t, none⟩ = if t = i then some (.int .i64 l[j]) else wr.cell? ⟨g, t, none⟩ := fun t => by
    rw [cell_of_row _ g _ _ _ _ hset, cell_of_row _ g _ _ _ _ hb, Array.getElem?_setIfInBounds]
    by_cases e : i = t
    · subst e
      rw [if_pos rfl, if_pos rfl, if_pos (by omega)]
    · rw [if_neg e, if_neg (fun e' => e e'.symm)]
  have hk := h.kept
  refine ⟨h.upd.setCell (p := ⟨g, i, none⟩) (.inl rfl) _, ⟨_, hset, by rw [Array.size_setIfInBounds]; exact hn⟩, by rw [e, List.length_append]; simp; omega, fun t ht => ?_, fun t ht hl => ?_, by omega, hj⟩
  · rw [hcell]
    simp only [e]
    rw [e, List.length_append] at ht
    simp only [List.length_cons, List.length_nil] at ht
    by_cases ht2 : t = i
    · subst ht2
      rw [if_pos rfl, List.getElem_append_right (by omega)]
      simp
    · rw [if_neg ht2, List.getElem_append_left (by omega)]
      exact h.front t (by omega)
  · rw [hcell, if_neg (by omega)]
    exact h.back t (by omega) hl
theorem DelSt.cells (h : DelSt w wr g f l i j) : (∀ t, t < l.length → (wr.cell? ⟨g, t, none⟩).isSome = true) ∧ ∀ t, wr.frozen? ⟨g, t, none⟩ = false := by
  obtain ⟨cur, hb, hn⟩ := h.blk
  refine ⟨fun t ht => ?_, fun t => frozen_of_row wr g t _ _ hb⟩
  rw [cell_of_row wr g _ _ _ _ hb, Array.getElem?_eq_getElem (by omega)]
  rfl
end
theorem delSt_start {w : World} {g : Nat} {f : Int → Bool} {l : List Int} {k : Nat} (hb : ∃ cur, w.heap[g]? = some (.cells cur 3 (0, 0)) ∧ l.length ≤ cur.size) (hl : ∀ t, (h : t < l.length) → w.cell? ⟨g, t, none⟩ = some (.int .i64 l[t])) (hk : k < l.length) (hf : f l[k] = true) (hn : ∀ j (hj : j < k), f (l[j]'(by omega)) = false) : DelSt w w g f l k (k + 1) := by
  have e0 : (l.take k).filter (fun x => !f x) = l.take k := List.filter_eq_self.2 fun x hx => by
    obtain ⟨i, hi, rfl⟩ := List.getElem_of_mem hx
    rw [List.length_take] at hi
    rw [List.getElem_take, hn i (by omega)]
    rfl
  have e := (filter_take_yes hk hf).trans e0
  refine ⟨Upd.refl _ _, hb, by rw [e, List.length_take]; omega, fun t ht => ?_, fun t ht h => hl t h, by omega, hk⟩
  simp only [e]
  rw [e, List.length_take] at ht
  rw [List.getElem_take]
  exact hl t (by omega)
theorem idxI_cases (f : Int → Bool) (l : List Int) : (idxI f l = -1 ∧ l.filter (fun x => !f x) = l) ∨ ∃ k, ∃ hk : k < l.length, idxI f l = (k : Int) ∧ f l[k] = true ∧ ∀ j (hj : j < k), f (l[j]'(by omega)) = false := by
  unfold idxI
  cases h : l.findIdx? f with
  | none =>
    refine .inl ⟨rfl, List.filter_eq_self.2 fun x hx => ?_⟩
    rw [List.findIdx?_eq_none_iff.1 h x hx]; rfl
  | some k =>
    obtain ⟨hk, h1, h2⟩ := List.findIdx?_eq_some_iff_getElem.1 h
    exact .inr ⟨k, hk, rfl, h1, fun j hj => by simpa using h2 j hj⟩
set_option maxRecDepth 100000 in
set_option maxHeartbeats 2000000 in
theorem deletef_any {w : World} {g cap : Nat} {K : World → Prop} {v : Value} {ok : Int → Prop} {f : Int → Bool} {l : List Int} (hb : ∃ cur, w.heap[g]? = some (.cells cur 3 (0, 0)) ∧ l.length ≤ cur.size) (hc : l.length ≤ cap)
    (hl : ∀ t, (h : t < l.length) → w.cell? ⟨g, t, none⟩ = some (.int .i64 l[t])) (hf : FnTells K v ok f) (hK : ∀ W, Upd (fun k => k = g) w W → K W) (hok : ∀ x ∈ l, ok x) (hlen : l.length ≤ 1000000000) :
    Calls Tryd.prog 61 #[.slice (some ⟨g, 0, none⟩) l.length cap, v] w fun e w' =>
      e = .returned (.slice (some ⟨g, 0, none⟩) (l.filter fun x => !f x).length cap) ∧ (∀ t, (h : t < (l.filter fun x => !f x).length) → w'.cell? ⟨g, t, none⟩ = some (.int .i64 ((l.filter fun x => !f x)[t]))) ∧ Upd (fun k => k = g) w w' := by
  have hat : IntsAt w (some ⟨g, 0, none⟩) l := fun i hi => ⟨_, rfl, by rw [add_plain]; exact hl i hi⟩
  have HI := Lib.hid (indexf_any cap hat hf (hK w (Upd.refl _ _)) hok hlen)
  obtain ⟨F, recv, caps, rfl, hent, hcall⟩ := hf
  rcases idxI_cases f l with ⟨e1, e2⟩ | ⟨k0, hk0, e1, e2, e3⟩
  · rw [e1] at HI
    have HL := Lib.hid hl; have HE := Lib.hid e2
    clear hb hl hK hok hat hent hcall e1 e2
    go_enter Tryd.func61, Tryd.ntmps61
    go_wp2_with fail
    refine HI.out.mono ?_
    rintro e w1 ⟨rfl, rfl⟩
    go_wp2_with fail
    go_ret
    refine ⟨by rw [HE.out]; rfl, fun t ht => ?_, Upd.refl _ _⟩
    simp only [HE.out]
    exact HL.out t (by rw [HE.out] at ht; exact ht)
  · rw [e1] at HI
    have HST := Lib.hid (delSt_start hb hl hk0 e2 e3)
    have HC := Lib.hid hcall; have HK := Lib.hid hK; have HOK := Lib.hid hok
    clear hb hl hK hok hat hcall e1 e2 e3
    go_enter Tryd.func61, Tryd.ntmps61
    go_wp2_with fail
    refine HI.out.mono ?_
    rintro e w1 ⟨rfl, rfl⟩
    go_wp2_with fail
    go_loopw [5, 6, 7] (fun i j _ wr => ∃ a b : Nat, i = .int .i64 a ∧ j = .int .i64 b ∧ DelSt w wr g f l a b) (fun _ j _ _ => l.length - (intOf j).toNat)
    case atStart => exact ⟨k0, k0 + 1, rfl, by go_num, HST.out⟩
    case round =>
      clear HST HI
      obtain ⟨i, j, rfl, rfl, hst⟩ := hrel
      have HS := Lib.hid hst
      have hij := hst.lt
      have hjl := hst.le
      by_cases hlt : j < l.length
      · have hx := hst.back j (Nat.le_refl _) hlt
        have hidx := fun W => run_index_slice Tryd.prog 31 3 Tryd.underlying31 1 (by kernel_rfl) ⟨g, 0, none⟩ l.length cap j hlt W
        have hidy := fun W => run_index_slice Tryd.prog 31 3 Tryd.underlying31 1 (by kernel_rfl) ⟨g, 0, none⟩ l.length cap i (by omega) W
        simp only [add_plain, Nat.mul_one] at hidx hidy
        have hfz := hst.cells.2 i
        have hsome := hst.cells.1 i (by omega)
        obtain ⟨oldv, hold⟩ := Option.isSome_iff_exists.1 hsome
        have HCL := Lib.hid (HC.out wr l[j] (HK.out wr hst.upd) (HOK.out _ (List.getElem_mem hlt)))
        have HY := Lib.hid (show f l[j] = true → DelSt w wr g f l i (j + 1) from hst.strike hlt)
        have HN := Lib.hid (show f l[j] = false → DelSt w (wr.setCell ⟨g, i, none⟩ (.int .i64 l[j])) g f l (i + 1) (j + 1) from hst.keep hlt)
        clear hst hsome
        generalize l[j] = x at *
        go_wp2_with fail
        refine HCL.out.mono ?_
        rintro e w1 ⟨rfl, rfl⟩
        generalize f x = s at *
        cases s with
        | true =>
          have HY2 := Lib.hid (HY.out rfl)
          clear HY HN HCL
          go_wp2_with fail
          refine ⟨?_, ?measure⟩
          · repeat apply Exists.intro
            refine ⟨?rel, rfl⟩
            case rel => exact ⟨i, j + 1, rfl, by go_num, HY2.out⟩
          case measure => simp [intOf]; omega
        | false =>
          have HN2 := Lib.hid (HN.out rfl)
          clear HY HN HCL
          go_wp2_with fail
          refine ⟨?_, ?measure⟩
          · repeat apply Exists.intro
            refine ⟨?rel, rfl⟩
            case rel => exact ⟨i + 1, j + 1, by go_num, by go_num, HN2.out⟩
          case measure => simp [intOf]; omega
      · obtain rfl : j = l.length := by omega
        have hcl := fun ty => Lib.run_clear_slice (P := Tryd.prog) wr 31 3 ty (.int .i64 0) Tryd.underlying31 Tryd.zeroValue3 rfl rfl g i (l.length - i) (cap - i) (by omega) (fun t ht => hst.cells.1 (i + t) (by omega)) (fun t _ => hst.cells.2 (i + t))
        have hkept := hst.kept
        rw [List.take_length] at hkept
        have HF := Lib.hid (show ∀ t, (h : t < (l.filter fun x => !f x).length) → wr.cell? ⟨g, t, none⟩ = some (.int .i64 ((l.filter fun x => !f x)[t])) from fun t ht => by
          have h := hst.front
          rw [List.take_length] at h
          exact h t ht)
        have HU := Lib.hid hst.upd
        have HKE := Lib.hid hkept
        clear hst hkept
        go_wp2_with fail
        go_ret
        obtain ⟨h1, h2, h3, h4, h5⟩ := upd_setCells g (List.replicate (l.length - i) (Value.int .i64 0)) i wr
        refine ⟨by rw [← HKE.out]; rfl, fun t ht => ?_, ?_⟩
        · have ht2 : t < i := by rw [HKE.out]; exact ht
          exact (World.cell?_setCells_out g _ i wr ⟨g, t, none⟩ (fun _ _ => .inl ht2)).trans (HF.out t ht)
        · exact HU.out.trans (⟨h2, h3, h4, Nat.le_of_eq h1.symm, fun k _ hk => h5 k hk⟩ : Upd (fun k => k = g) wr _) (fun k hk => .inl hk)
end Go.Proofs.YtgmhglcdifhimaaDoor
