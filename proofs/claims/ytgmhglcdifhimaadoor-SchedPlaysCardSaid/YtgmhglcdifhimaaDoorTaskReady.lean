/- maslin/task.where at 'map[int]uint8', Ready, Done: walked. -/
import Derived.Test.YtgmhglcdifhimaaDoorTaskOps
import Derived.Carry
namespace Go.Proofs.YtgmhglcdifhimaaDoor
open Go.RowKit Go.Maps Go.Sort
open Tsk

theorem u8_zero (W : World) : (zeroValue 5).run Tryd.prog W = .ok (.int .u8 0) W := (zero_of_info (show (Tryd.prog.info? 5).map (fun i => (i.zero, i.size)) = some (some (.int .u8 0), 1) by kernel_rfl)).1 W
set_option maxRecDepth 100000 in
theorem whereB_fn {W : World} {B0 B1 m : Nat} {t : Int} {kv : List (Int × Value)} {g : Int → Int} (h0 : W.cell? ⟨B0, 0, none⟩ = some (.map (some m))) (h1 : W.cell? ⟨B1, 0, none⟩ = some (.int .u8 t)) (hm : IntMap Tryd.prog 3 W m kv) (hg : ∀ x ∈ kv.map (·.1), kvGet kv x = some (.int .u8 (g x))) (x : Int) (hx : x ∈ kv.map (·.1)) :
    Calls Tryd.prog 71 #[.int .i64 x, .pointer (some ⟨B0, 0, none⟩), .pointer (some ⟨B1, 0, none⟩)] W fun e W' => e = .returned (.bool (g x != t)) ∧ W = W' := by
  have hl := hm.lookup Tryd.underlying3 Tryd.underlying109 (z := .int .u8 0) (u8_zero W) x (hm.key_wf x hx)
  rw [hg x hx] at hl
  simp only [Option.getD_some] at hl
  clear hm hg hx
  generalize g x = y at *
  go_enter Tryd.func71, Tryd.ntmps71
  go_wp2_with fail
  go_ret
  exact ⟨rfl, rfl⟩
set_option maxRecDepth 100000 in
set_option maxHeartbeats 1000000 in
theorem whereB_any {w : World} {m : Nat} {kv : List (Int × Value)} {g : Int → Int} (t : Int) (hm : IntMap Tryd.prog 3 w m kv) (hg : ∀ x ∈ kv.map (·.1), kvGet kv x = some (.int .u8 (g x))) (hlen : kv.length ≤ 1000000) :
    Calls Tryd.prog 54 #[.map (some m), .int .u8 t] w fun e w' => ∃ q cap, e = .returned (.slice q ((sortI (kv.map (·.1))).filter fun x => !(g x != t)).length cap) ∧ IntsAt w' q ((sortI (kv.map (·.1))).filter fun x => !(g x != t)) ∧ Below w.heap.size w w' ∧ ∀ p, q = some p → w.heap.size ≤ p.block := by
  have hmlt := hm.lt
  have hb2 : Below w.heap.size w ((w.alloc (.cells #[.map (some m)] 109)).alloc (.cells #[.int .u8 t] 5)) := ((Below.refl _ _).alloc (Nat.le_refl _) _).alloc (by simp) _
  have HB2 := Lib.hid hb2
  have hm2 := hm.kept (hb2.block m hmlt)
  have HK := Lib.hid (mapKeysB (some m) ((w.alloc (.cells #[.map (some m)] 109)).alloc (.cells #[.int .u8 t] 5)))
  have hs := sortedKeysB hm2 hlen
  simp only [World.size_alloc] at hs
  have HS := Lib.hid hs
  have c0 : ((w.alloc (.cells #[.map (some m)] 109)).alloc (.cells #[.int .u8 t] 5)).cell? ⟨w.heap.size, 0, none⟩ = some (.map (some m)) := by simp
  have c1 : ((w.alloc (.cells #[.map (some m)] 109)).alloc (.cells #[.int .u8 t] 5)).cell? ⟨w.heap.size + 1, 0, none⟩ = some (.int .u8 t) := by simp
  have HC0 := Lib.hid c0; have HC1 := Lib.hid c1
  have HM := Lib.hid hm2; have HG := Lib.hid hg
  have HLT := Lib.hid hmlt
  clear hm hm2 hg hb2 hmlt c0 c1 hs
  go_enter Tryd.func54, Tryd.ntmps54
  go_wp2_with fail
  refine HK.out.mono ?_
  rintro e w3 ⟨rfl, rfl⟩
  go_wp2_with fail
  refine HS.out.mono ?_
  rintro e w4 ⟨v, rfl, hrow, hb4⟩
  have hll : (sortI (kv.map (·.1))).length = kv.length := by rw [(sortI_perm _).length_eq, List.length_map]
  rw [← hll] at hrow
  have hbase : ∀ k, v.ownBlock = some k → w.heap.size + 1 + 1 + 1 ≤ k := fun k hk => by
    rcases hrow.2 with ⟨e1, _⟩ | ⟨g', cap, cur, e1, hb, _⟩
    · subst e1; simp [Value.ownBlock] at hk
    · subst e1; simp [Value.ownBlock] at hk; omega
  have hB4 : Below w.heap.size w w4 := HB2.out.trans (hb4.mono (by omega))
  have k0 := ((hb4.cell (p := ⟨w.heap.size, 0, none⟩) (by show w.heap.size < _; omega)).trans HC0.out)
  have k1 := ((hb4.cell (p := ⟨w.heap.size + 1, 0, none⟩) (by show w.heap.size + 1 < _; omega)).trans HC1.out)
  have hm4 : IntMap Tryd.prog 3 w4 m kv := HM.out.kept (hb4.block m (by have := HLT.out; omega))
  have hlt4 := hB4.size
  have hsz4 : w.heap.size + 1 + 1 ≤ w4.heap.size := by have := hb4.size; simp only [World.size_alloc] at this; exact this
  have hdel := deletef_row (K := fun W => W.cell? ⟨w.heap.size, 0, none⟩ = some (.map (some m)) ∧ W.cell? ⟨w.heap.size + 1, 0, none⟩ = some (.int .u8 t) ∧ IntMap Tryd.prog 3 W m kv) (ok := fun x => x ∈ kv.map (·.1)) (f := fun x => g x != t) (v := .func (.func 71) #[] #[.pointer (some ⟨w.heap.size, 0, none⟩), .pointer (some ⟨w.heap.size + 1, 0, none⟩)]) hrow
    ⟨_, _, _, rfl, enters_of Tryd.func71 (by kernel_rfl) rfl, fun W x hK hx => whereB_fn hK.1 hK.2.1 hK.2.2 HG.out x hx⟩
    (fun W hu => ⟨(hu.cell (p := ⟨w.heap.size, 0, none⟩) (by show w.heap.size < _; omega) (fun e => by have : w.heap.size + 1 + 1 + 1 ≤ w.heap.size := hbase _ e; omega)).trans k0, (hu.cell (p := ⟨w.heap.size + 1, 0, none⟩) (by show w.heap.size + 1 < _; omega) (fun e => by have : w.heap.size + 1 + 1 + 1 ≤ w.heap.size + 1 := hbase _ e; omega)).trans k1, hm4.upd hu (fun e => by have := hbase _ e; have := HLT.out; omega)⟩)
    (fun x hx => (sortI_perm _).mem_iff.1 hx) (by rw [hll]; omega)
  have HD := Lib.hid hdel
  have HB4 := Lib.hid hB4
  have HBS := Lib.hid hbase
  clear hrow hb4 hll hbase hB4 k0 k1 hm4 hdel hsz4
  go_wp2_with fail
  refine HD.out.mono ?_
  rintro e w5 ⟨q, cap, rfl, hat, hu, hq⟩
  have HAT := Lib.hid hat; have HU := Lib.hid hu; have HQ := Lib.hid hq
  clear hat hu hq
  go_wp2_with fail
  go_ret
  exact ⟨q, cap, rfl, HAT.out, below_upd HB4.out HU.out (fun k hk => by have := HBS.out k hk; omega) HB4.out.size, fun p e => by have := HBS.out _ (HQ.out p e); omega⟩

/-- The states as they are gathered. -/
def statesKv (b : Board) (k : Nat) : List (Int × Value) := ((List.range k).map fun (t : Nat) => ((t : Int), Value.int .u8 (b.state t))).reverse
theorem statesKv_keys (b : Board) (k : Nat) (x : Int) : x ∈ (statesKv b k).map (·.1) ↔ ∃ t : Nat, t < k ∧ x = (t : Int) := by
  unfold statesKv
  rw [List.map_reverse, List.mem_reverse, List.map_map, List.mem_map]
  constructor
  · rintro ⟨t, ht, rfl⟩; exact ⟨t, List.mem_range.1 ht, rfl⟩
  · rintro ⟨t, ht, rfl⟩; exact ⟨t, List.mem_range.2 ht, rfl⟩
theorem statesKv_succ (b : Board) (k : Nat) : kvPut (k : Int) (.int .u8 (b.state k)) (statesKv b k) = statesKv b (k + 1) := by
  have e : kvDel (k : Int) (statesKv b k) = statesKv b k := List.filter_eq_self.2 fun q hq => by
    obtain ⟨t, ht, e⟩ := (statesKv_keys b k q.1).1 (List.mem_map_of_mem hq)
    rw [e]
    have : ¬ ((t : Int) = (k : Int)) := by omega
    simpa using this
  unfold kvPut
  rw [e]
  unfold statesKv
  rw [List.range_succ, List.map_append, List.reverse_append]
  rfl
theorem statesKv_nodup (b : Board) (k : Nat) : ((statesKv b k).map (·.1)).Nodup := by
  induction k with
  | zero => exact List.nodup_nil
  | succ k ih =>
    rw [← statesKv_succ]
    exact kvPut_nodup ih
theorem statesKv_get (b : Board) (k t : Nat) (ht : t < k) : kvGet (statesKv b k) (t : Int) = some (.int .u8 (b.state t)) := by
  induction k with
  | zero => omega
  | succ k ih =>
    rw [← statesKv_succ]
    by_cases e : t = k
    · subst e; exact kvGet_put_same _ _ _
    · rw [kvGet_put_other (by omega)]
      exact ih (by omega)
theorem statesKv_length (b : Board) (k : Nat) : (statesKv b k).length = k := by simp [statesKv]
theorem ready_eq (b : Board) : ((sortI ((statesKv b b.l.length).map (·.1))).filter fun x => !(b.state x.toNat != 1)) = numsI b.ready := by
  have e : sortI ((statesKv b b.l.length).map (·.1)) = numsI (List.range b.l.length) := by
    refine sorted_eq (sortI_sorted _) ?_ ((sortI_perm _).trans ?_)
    · unfold numsI
      rw [List.pairwise_map]
      exact List.pairwise_le_range.imp (fun h => by omega)
    · unfold statesKv numsI
      rw [List.map_reverse, List.map_map]
      exact List.reverse_perm _
  rw [e]
  unfold Board.ready numsI
  rw [List.filter_map]
  congr 1
  refine List.filter_congr fun t _ => ?_
  show (!(b.state ((t : Int).toNat) != 1)) = _
  rw [Int.toNat_natCast]
  simp [bne]
section
variable {w w' : World} {p m : Nat} {lv : Value} {nvs : List Value} {b : Board} {k : Nat}
set_option maxRecDepth 100000 in
theorem ready_nil (w : World) : Calls Tryd.prog 32 #[.pointer none] w fun e w' => e = .returned (.slice none 0 0) ∧ w = w' := by
  go_enter Tryd.func32, Tryd.ntmps32
  go_wp2_with fail
  go_ret
  exact ⟨rfl, rfl⟩
set_option maxRecDepth 100000 in
set_option maxHeartbeats 1000000 in
theorem ready_any (h : BoardIn w p m lv nvs b) (hF : b.Fine k) (hk : k ≤ 1000000) :
    Calls Tryd.prog 32 #[.pointer (some ⟨p, 0, none⟩)] w fun e w' => ∃ q cap, e = .returned (.slice q b.ready.length cap) ∧ IntsAt w' q (numsI b.ready) ∧ Below w.heap.size w w' ∧ ∀ p, q = some p → w.heap.size ≤ p.block := by
  have HB := Lib.hid h
  have HF := Lib.hid hF
  have hlen := hF.len
  have c0 : (w.alloc (.map #[] 0)).cell? ⟨p, 0, none⟩ = some lv := (h.below ((Below.refl _ _).alloc (Nat.le_refl _) _)).cells.1
  obtain ⟨q, cap, rfl⟩ := h.slice
  have hmm := @run_makeMap Tryd.prog
  have hmf : ∀ (fn : Fn) (first cap : Array Value) (w : World), (Instr.makeFunc fn first cap).run Tryd.prog w = .ok (.func fn first cap) w := fun _ _ _ _ => rfl
  clear h hF
  go_enter Tryd.func32, Tryd.ntmps32
  go_wp2_with fail
  go_loopw [5, 16] (fun _ i wr => ∃ k : Nat, k ≤ b.l.length ∧ i = .int .i64 k ∧ IntMap Tryd.prog 3 wr w.heap.size (statesKv b k) ∧ Below w.heap.size w wr) (fun _ i _ => b.l.length - (intOf i).toNat)
  case atStart => exact ⟨0, Nat.zero_le _, rfl, IntMap.made w, (Below.refl _ _).alloc (Nat.le_refl _) _⟩
  case round =>
    obtain ⟨j, hj, rfl, hm, hb⟩ := hrel
    by_cases hlt : j < b.l.length
    · have HS := Lib.hid (stateX_in (HB.out.below hb) HF.out hk j hlt)
      have HM := Lib.hid hm; have HBL := Lib.hid hb
      clear hm hb c0
      go_wp2_with fail
      refine HS.out.mono ?_
      rintro e w1 ⟨rfl, hb1⟩
      obtain ⟨w2, hrun, hm2, hg2⟩ := (HM.out.kept (hb1.block _ HM.out.lt)).update Tryd.underlying3 Tryd.underlying109 (j : Int) (WalkArith.wf_i64 (by omega)) (.int .u8 (b.state j)) (by rw [statesKv_length]; unfold maxLen; omega)
      rw [statesKv_succ] at hm2
      have HM2 := Lib.hid hm2; have HG2 := Lib.hid hg2; have HB1 := Lib.hid hb1
      clear hm2 hg2 hb1
      generalize b.state j = s at *
      go_wp2_with fail
      go_roundw
      case rel => exact ⟨j + 1, by omega, by go_num, HM2.out, (HBL.out.trans (HB1.out.mono HBL.out.size)).grown HG2.out (by have := HBL.out.size; have := HB1.out.size; omega) (fun k e => by cases e; exact Nat.le_refl _)⟩
      case measure => simp [intOf]; omega
    · obtain rfl : j = b.l.length := by omega
      have hw := whereB_any (g := fun x => b.state x.toNat) 1 hm (fun x hx => by
        obtain ⟨t, ht, rfl⟩ := (statesKv_keys b _ x).1 hx
        rw [statesKv_get b _ t ht, Int.toNat_natCast]) (by rw [statesKv_length]; omega)
      rw [ready_eq] at hw
      have HW := Lib.hid hw
      have HBL := Lib.hid hb
      clear hw hm hb c0
      go_wp2_with fail
      refine HW.out.mono ?_
      rintro e w2 ⟨q2, cap2, rfl, hat, hb2, hq⟩
      have HAT := Lib.hid hat; have HB2 := Lib.hid hb2; have HQ := Lib.hid hq
      clear hat hb2 hq
      go_wp2_with fail
      go_ret
      exact ⟨q2, cap2, by unfold numsI; rw [List.length_map]; rfl, HAT.out, HBL.out.trans (HB2.out.mono HBL.out.size), fun p e => by have := HQ.out p e; have := HBL.out.size; omega⟩
set_option maxRecDepth 100000 in
theorem done1_any (v : Value) (i : Bool) (s : List UInt8) (f : Int) (w : World) :
    Calls Tryd.prog 57 #[.agg #[v, .bool i, .string (bs s), .int .i64 f]] w fun e w' => e = .returned (.bool (!i)) ∧ Below w.heap.size w w' := by
  go_enter Tryd.func57, Tryd.ntmps57
  go_wp2_with fail
  go_ret
  exact ⟨rfl, (Below.refl _ _).alloc (Nat.le_refl _) _⟩
/-- The first that is not done, or below 0. -/
def FirstOpen (b : Board) (w : World) (e : Ending) (w' : World) : Prop := ∃ i : Int, e = .returned (.int .i64 i) ∧ decide (0 ≤ i) = !b.done ∧ Below w.heap.size w w'
set_option maxRecDepth 100000 in
set_option maxHeartbeats 1000000 in
theorem indexd_any (h : BoardIn w p m lv nvs b) (hlen : b.l.length ≤ 4096) :
    Calls Tryd.prog 73 #[lv, .func (.func 57) #[] #[]] w (FirstOpen b w) := by
  obtain ⟨q, cap, rfl⟩ := h.slice
  have HB := Lib.hid h
  clear h
  go_enter Tryd.func73, Tryd.ntmps73
  go_wp2_with fail
  go_loopw [5, 8] (fun _ i wr => ∃ k : Nat, k ≤ b.l.length ∧ i = .int .i64 k ∧ Below w.heap.size w wr ∧ ∀ j, (h : j < k) → (h' : j < b.l.length) → b.l[j].is = true) (fun _ i _ => b.l.length - (intOf i).toNat)
  case atStart => exact ⟨0, Nat.zero_le _, rfl, Below.refl _ _, fun j hj => by omega⟩
  case round =>
    obtain ⟨j, hj, rfl, hb, hall⟩ := hrel
    by_cases hlt : j < b.l.length
    · have hB := HB.out.below hb
      obtain ⟨g, cap', hg', hix, c0, c1, c2, c3, cf⟩ := hB.index j hlt
      obtain ⟨nv, hnv⟩ : ∃ nv, nvs[j]? = some nv := ⟨_, List.getElem?_eq_getElem (by rw [hB.nlen]; exact hlt)⟩
      rw [hnv] at c0
      have HBL := Lib.hid hb
      have HNO := Lib.hid (show b.l[j].is = false → (false : Bool) = b.done from fun h => by
        unfold Board.done
        refine (List.all_eq_false.2 ⟨_, List.getElem_mem hlt, by rw [h]; decide⟩).symm)
      have HNX := Lib.hid (show b.l[j].is = true → ∀ i, (h : i < j + 1) → (h' : i < b.l.length) → b.l[i].is = true from fun h i hi h' => by
        by_cases e : i = j
        · subst e; exact h
        · exact hall i (by omega) h')
      clear hB hall hb cf hg' hnv
      generalize b.l[j].is = s, b.l[j].value = vv, b.l[j].fails = ff at *
      go_wp2_with fail
      refine (done1_any _ _ _ _ _).mono ?_
      rintro e w1 ⟨rfl, hb1⟩
      have HB1 := Lib.hid hb1
      clear hb1
      cases s with
      | false =>
        have HD := Lib.hid (HNO.out rfl)
        clear HNO HNX
        go_wp2_with fail
        go_ret
        exact ⟨(j : Int), rfl, by rw [← HD.out]; simp, HBL.out.trans (HB1.out.mono HBL.out.size)⟩
      | true =>
        have HN := Lib.hid (HNX.out rfl)
        clear HNO HNX
        go_wp2_with fail
        go_roundw
        case rel => exact ⟨j + 1, by omega, by go_num, HBL.out.trans (HB1.out.mono HBL.out.size), HN.out⟩
        case measure => simp [intOf]; omega
    · obtain rfl : j = b.l.length := by omega
      have HD := Lib.hid (show b.done = true from List.all_eq_true.2 fun x hx => by
        obtain ⟨i, hi, rfl⟩ := List.getElem_of_mem hx
        exact hall i hi hi)
      have HBL := Lib.hid hb
      clear hall hb
      go_wp2_with fail
      go_ret
      exact ⟨-1, rfl, by rw [HD.out]; rfl, HBL.out⟩
set_option maxRecDepth 100000 in
theorem containsd_any (h : BoardIn w p m lv nvs b) (hlen : b.l.length ≤ 4096) :
    Calls Tryd.prog 56 #[lv, .func (.func 57) #[] #[]] w fun e w' => e = .returned (.bool (!b.done)) ∧ Below w.heap.size w w' := by
  have HI := Lib.hid (indexd_any h hlen)
  obtain ⟨q, cap, rfl⟩ := h.slice
  clear h
  go_enter Tryd.func56, Tryd.ntmps56
  go_wp2_with fail
  refine HI.out.mono ?_
  rintro e w1 ⟨i, rfl, hi, hb⟩
  have HE := Lib.hid hi; have HBL := Lib.hid hb
  clear hi hb HI
  go_wp2_with fail
  go_ret
  exact ⟨by rw [← HE.out]; rfl, HBL.out⟩
set_option maxRecDepth 100000 in
theorem done_any (h : BoardIn w p m lv nvs b) (hlen : b.l.length ≤ 4096) :
    Calls Tryd.prog 34 #[.pointer (some ⟨p, 0, none⟩)] w fun e w' => e = .returned (.bool b.done) ∧ Below w.heap.size w w' := by
  have HI := Lib.hid (containsd_any h hlen)
  have d0 := h.cells.1
  obtain ⟨q, cap, rfl⟩ := h.slice
  clear h
  go_enter Tryd.func34, Tryd.ntmps34
  go_wp2_with fail
  refine HI.out.mono ?_
  rintro e w1 ⟨rfl, hb⟩
  have HBL := Lib.hid hb
  clear hb HI
  go_wp2_with fail
  go_ret
  exact ⟨by simp, HBL.out⟩
set_option maxRecDepth 100000 in
theorem done_nil (w : World) : Calls Tryd.prog 34 #[.pointer none] w fun e w' => e = .returned (.bool false) ∧ w = w' := by
  go_enter Tryd.func34, Tryd.ntmps34
  go_wp2_with fail
  go_ret
  exact ⟨rfl, rfl⟩
end
end Go.Proofs.YtgmhglcdifhimaaDoor
