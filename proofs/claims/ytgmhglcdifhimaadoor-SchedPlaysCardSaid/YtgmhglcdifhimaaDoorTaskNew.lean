/- maslin/task: New, walked. -/
import Derived.Test.YtgmhglcdifhimaaDoorTaskClone
import Derived.Deep.AppendLies
namespace Go.Proofs.YtgmhglcdifhimaaDoor
open Go.RowKit Go.Maps Go.Sort
open Tsk

/-- What a task may need. -/
def OkRow (t : Nat) (l : List Int) : Prop := (∀ n ∈ l, 0 ≤ n ∧ n < (t : Int)) ∧ l.Nodup
def OkNeeds (L : List (List Int)) : Prop := ∀ t, (h : t < L.length) → OkRow t L[t]
def MayB (L : List (List Int)) (r : Int) : Prop := L.length ≤ 4096 ∧ 0 ≤ r ∧ r ≤ 8 ∧ OkNeeds L
def natsL (L : List (List Int)) : List (List Nat) := L.map fun l => l.map Int.toNat
theorem OkRow.nats {t : Nat} {l : List Int} (h : OkRow t l) : numsI (l.map Int.toNat) = l := by
  unfold numsI
  rw [List.map_map]
  conv => rhs; rw [← List.map_id l]
  refine List.map_congr_left fun n hn => ?_
  have := (h.1 n hn).1
  show ((n.toNat : Nat) : Int) = n
  omega
theorem nodup_le : ∀ (t : Nat) (l : List Nat), l.Nodup → (∀ n ∈ l, n < t) → l.length ≤ t
  | 0, l, _, h => by
    cases l with
    | nil => exact Nat.le_refl _
    | cons x l => have := h x List.mem_cons_self; omega
  | t + 1, l, hn, h => by
    have := nodup_le t (l.erase t) (hn.erase t) (fun n hm => by
      have h1 := hn.mem_erase_iff.1 hm
      have := h n h1.2
      omega)
    rw [List.length_erase] at this
    split at this <;> omega
theorem OkRow.slim {t : Nat} {l : List Int} (h : OkRow t l) (ht : t ≤ 4096) : l.length ≤ 4096 := by
  have h1 : (l.map Int.toNat).Nodup := by
    rw [List.nodup_iff_pairwise_ne, List.pairwise_map]
    have := List.nodup_iff_pairwise_ne.1 h.2
    refine List.Pairwise.imp_of_mem ?_ this
    intro a b ha hb hne e
    have := (h.1 a ha).1; have := (h.1 b hb).1
    omega
  have := nodup_le t _ h1 (fun n hn => by
    obtain ⟨x, hx, rfl⟩ := List.mem_map.1 hn
    have := h.1 x hx
    omega)
  simp at this
  omega
/-- Numbers seen. -/
def seenKv (l : List Int) : List (Int × Value) := (l.map fun n => (n, Value.int .i64 1)).reverse
theorem seenKv_keys (l : List Int) (x : Int) : (kvGet (seenKv l) x) = if x ∈ l then some (.int .i64 1) else none := by
  unfold kvGet seenKv
  by_cases h : x ∈ l
  · rw [if_pos h]
    cases hf : (l.map fun n => (n, Value.int .i64 1)).reverse.find? (fun p => p.1 == x) with
    | none =>
      rw [List.find?_eq_none] at hf
      exact absurd (hf (x, .int .i64 1) (List.mem_reverse.2 (List.mem_map.2 ⟨x, h, rfl⟩))) (by simp)
    | some q =>
      have hm := List.mem_reverse.1 (List.mem_of_find?_eq_some hf)
      obtain ⟨n, _, rfl⟩ := List.mem_map.1 hm
      rfl
  · rw [if_neg h, Option.map_eq_none_iff, List.find?_eq_none]
    intro q hq
    obtain ⟨n, hn, rfl⟩ := List.mem_map.1 (List.mem_reverse.1 hq)
    simp only [beq_iff_eq]
    exact fun e => h (e ▸ hn)
theorem seenKv_snoc (l : List Int) (x : Int) (h : x ∉ l) : kvPut x (.int .i64 1) (seenKv l) = seenKv (l ++ [x]) := by
  have e : kvDel x (seenKv l) = seenKv l := List.filter_eq_self.2 fun q hq => by
    unfold seenKv at hq
    obtain ⟨n, hn, rfl⟩ := List.mem_map.1 (List.mem_reverse.1 hq)
    have : ¬ (n = x) := fun e => h (e ▸ hn)
    simpa using this
  unfold kvPut
  rw [e]
  unfold seenKv
  rw [List.map_append, List.reverse_append]
  rfl
theorem okRow_snoc {t : Nat} {l : List Int} {x : Int} (h : OkRow t l) (h0 : 0 ≤ x) (h1 : x < (t : Int)) (hx : x ∉ l) : OkRow t (l ++ [x]) := by
  refine ⟨fun n hn => ?_, ?_⟩
  · rcases List.mem_append.1 hn with hn | hn
    · exact h.1 n hn
    · simp at hn; subst hn; exact ⟨h0, h1⟩
  · rw [List.nodup_append]
    exact ⟨h.2, by simp, fun a ha b hb => by simp at hb; subst hb; exact fun e => hx (e ▸ ha)⟩
theorem okRow_no {t k : Nat} {l : List Int} (hk : k < l.length) (h : l[k] < 0 ∨ (t : Int) ≤ l[k] ∨ l[k] ∈ l.take k) : ¬ OkRow t l := fun ho => by
  have hb := ho.1 _ (List.getElem_mem hk)
  rcases h with h | h | h
  · omega
  · omega
  · obtain ⟨i, hi, e⟩ := List.getElem_of_mem h
    rw [List.length_take] at hi
    rw [List.getElem_take] at e
    exact List.pairwise_iff_getElem.1 (List.nodup_iff_pairwise_ne.1 ho.2) i k (by omega) hk (by omega) e
section
variable {w w' w1 w2 : World} {p m : Nat} {lv : Value} {nvs : List Value} {b : Board} {k : Nat}
theorem allCells_snoc : ∀ (nvs : List Value) (l : List Task) (_ : nvs.length = l.length) (v : Value) (x : Task), allCells (nvs ++ [v]) (l ++ [x]) = allCells nvs l ++ oneCells v x
  | [], [], _, v, x => by rw [List.nil_append, List.nil_append, allCells_cons, allCells_nil]; simp
  | [], _ :: _, h, _, _ => by simp at h
  | _ :: _, [], h, _, _ => by simp at h
  | u :: nvs, y :: l, h, v, x => by
    rw [List.cons_append, List.cons_append, allCells_cons, allCells_cons, allCells_snoc nvs l (by simpa using h), List.append_assoc]
/-- A board has one task more. -/
theorem BoardIn.push {W : World} (h : BoardIn w p m lv nvs b) (hb : Below w.heap.size w W) {nv : Value} {ns : List Nat} (hn : NumsOk W nv ns) (hgrow : W.grownBy w2 lv.ownBlock) {gg cap n : Nat} (hlen : n = b.l.length + 1)
    (hown : w2.ownsRow 0 87 4 (.slice (some ⟨gg, 0, none⟩) n cap) n (allCells nvs b.l ++ oneCells nv ⟨ns, false, [], 0⟩)) :
    BoardIn (w2.setCell ⟨p, 0, none⟩ (.slice (some ⟨gg, 0, none⟩) n cap)) p m (.slice (some ⟨gg, 0, none⟩) n cap) (nvs ++ [nv]) { b with l := b.l ++ [⟨ns, false, [], 0⟩] } := by
  subst hlen
  have hB := h.below hb
  have u2 : Upd (fun k => lv.ownBlock = some k) W w2 := Upd.of_grownBy (F := fun k => lv.ownBlock = some k) hgrow (fun k e => e)
  have hbp : BlkOf W p 83 := ⟨_, _, hB.struct⟩
  have hone : ∀ g, lv.ownBlock = some g → BlkOf W g 87 := fun g hg => ownsRow_blk hB.row hg
  have hu : Upd (fun k => k = p) w2 (w2.setCell ⟨p, 0, none⟩ (.slice (some ⟨gg, 0, none⟩) (b.l.length + 1) cap)) := (Upd.refl (fun k => k = p) w2).setCell (p := ⟨p, 0, none⟩) (.inl rfl) _
  have hs2 : w2.heap[p]? = some (.cells #[lv, .map (some m), .int .i64 (b.retries : Int), .int .i64 (match b.failed with | some t => (t : Int) | none => -1)] 83) :=
    (u2.block p (blk_lt hB.struct) (fun e => BlkOf.ne (hone p e) hbp (by decide) rfl)).trans hB.struct
  have hbp2 : BlkOf w2 p 83 := ⟨_, _, hs2⟩
  refine ⟨?_, (hB.at_.upd u2 (fun e => hB.at_.notCells (hone m e))).upd hu (fun e => (hB.at_.upd u2 (fun e => hB.at_.notCells (hone m e))).notCells (e ▸ hbp2)), ?_, ?_, fun i hi hi' => ?_⟩
  · rw [heap_setCell_same w2 p 0 _ _ (.slice (some ⟨gg, 0, none⟩) (b.l.length + 1) cap) hs2]
    rfl
  · rw [allCells_snoc nvs b.l h.nlen]
    rw [show ({ b with l := b.l ++ [⟨ns, false, [], 0⟩] } : Board).l.length = b.l.length + 1 from by simp]
    exact ownsRow_upd hown hu (fun g hg e => BlkOf.ne (e ▸ hbp2 : BlkOf w2 g 83) (ownsRow_blk hown hg) (by decide) rfl)
  · simp [h.nlen]
  · have hup : ∀ {v : Value} {l : List Nat}, NumsOk W v l → NumsOk (w2.setCell ⟨p, 0, none⟩ (.slice (some ⟨gg, 0, none⟩) (b.l.length + 1) cap)) v l := fun hv => (hv.upd u2 (fun k hk e => BlkOf.ne (hone k e) hk (by decide) rfl)).upd hu (fun k hk e => BlkOf.ne (e ▸ hbp2 : BlkOf w2 k 83) hk (by decide) rfl)
    by_cases hi2 : i < b.l.length
    · have hi3 : i < nvs.length := by rw [h.nlen]; exact hi2
      simp only [List.getElem_append_left hi2, List.getElem_append_left hi3]
      exact hup (hB.needs i hi2 hi3)
    · have e : i = b.l.length := by simp at hi; omega
      subst e
      have e3 : (nvs ++ [nv])[b.l.length]'hi' = nv := by
        rw [List.getElem_append_right (by rw [h.nlen]; exact Nat.le_refl _)]
        simp
      simp only [e3, List.getElem_append_right (Nat.le_refl _), Nat.sub_self, List.getElem_cons_zero]
      exact hup hn
end
theorem one_info : (Tryd.prog.info? 87).map (fun i => (i.zero, i.size, i.bytes)) = some (some (.agg #[.slice none 0 0, .bool false, .string ByteArray.empty, .int .i64 0]), 4, 56) := by kernel_rfl
theorem lt_alloc {n : Nat} {w : World} (h : n < w.heap.size) (o : Obj) : n < (w.alloc o).heap.size := by rw [World.size_alloc]; exact Nat.lt_succ_of_lt h
theorem new_one (q : Option Addr) (n c : Nat) : ∀ u ∈ [Value.slice q n c, .bool false, .string ⟨#[]⟩, .int .i64 0], u.oneCell' = true := by
  intro u hu
  simp at hu
  rcases hu with rfl | rfl | rfl | rfl <;> rfl
theorem take_snocI (l : List Int) (k : Nat) (h : k < l.length) : l.take (k + 1) = l.take k ++ [l[k]] := List.take_succ_eq_append_getElem h
theorem natsL_take (L : List (List Int)) (k : Nat) (h : k < L.length) : natsL (L.take (k + 1)) = natsL (L.take k) ++ [L[k].map Int.toNat] := by
  unfold natsL
  rw [List.take_succ_eq_append_getElem h, List.map_append]
  rfl
theorem new_snoc (N : List (List Nat)) (ns : List Nat) (r : Nat) : Board.new (N ++ [ns]) r = { Board.new N r with l := (Board.new N r).l ++ [⟨ns, false, [], 0⟩] } := by
  unfold Board.new
  simp
/-- What New makes. -/
def Made (w : World) (N : List (List Nat)) (r : Nat) (e : Ending) (w' : World) : Prop := ∃ p m lv nvs, e = .returned (.tuple #[.pointer (some ⟨p, 0, none⟩), .int .i64 0]) ∧ BoardIn w' p m lv nvs (Board.new N r) ∧ Below w.heap.size w w' ∧ ∀ k, boardBlocks p m lv k → w.heap.size ≤ k
set_option maxRecDepth 100000 in
theorem new_early (a : Option Addr) (cap : Nat) (L : List (List Int)) (r : Int) (w : World) (hlen : L.length ≤ maxLen) (h : 4096 < L.length ∨ r < 0 ∨ 8 < r) :
    Calls Tryd.prog 37 #[.slice a L.length cap, .int .i64 r] w fun e w' => e = .returned (.tuple #[.pointer none, .int .i64 2]) ∧ Below w.heap.size w w' := by
  unfold maxLen at hlen
  by_cases h1 : 4096 < L.length
  · clear h
    go_enter Tryd.func37, Tryd.ntmps37
    go_wp2_with fail
    go_ret2
    exact ⟨rfl, Below.refl _ _⟩
  · by_cases h2 : r < 0
    · clear h
      go_enter Tryd.func37, Tryd.ntmps37
      go_wp2_with fail
      go_ret2
      exact ⟨rfl, Below.refl _ _⟩
    · have h3 : 8 < r := by omega
      clear h
      go_enter Tryd.func37, Tryd.ntmps37
      go_wp2_with fail
      go_ret2
      exact ⟨rfl, Below.refl _ _⟩
def NewPost (w : World) (L : List (List Int)) (r : Int) (e : Ending) (w' : World) : Prop :=
  (OkNeeds L → Made w (natsL L) r.toNat e w') ∧ (¬ OkNeeds L → e = .returned (.tuple #[.pointer none, .int .i64 2]) ∧ Below w.heap.size w w')
theorem NumsOk.of_clone {w w1 : World} {v : Value} {l : List Int} {t : Nat} (h : IntsNew w w1 v l) (ho : OkRow t l) : NumsOk w1 v (l.map Int.toNat) :=
  NumsOk.of_row (base := 0) (by rw [ho.nats, List.length_map]; exact h.row)
theorem board_made (w : World) (r : Nat) : BoardIn ((w.alloc (.map #[] 0)).alloc (.cells #[.slice none 0 0, .map (some w.heap.size), .int .i64 (r : Int), .int .i64 (-1)] 83)) (w.heap.size + 1) w.heap.size (.slice none 0 0) [] (Board.new (natsL []) r) := by
  have h1 := heap_alloc_new (w.alloc (.map #[] 0)) (.cells #[.slice none 0 0, .map (some w.heap.size), .int .i64 (r : Int), .int .i64 (-1)] 83)
  rw [World.size_alloc] at h1
  refine ⟨h1, ?_, ?_, rfl, fun i hi => absurd hi (Nat.not_lt_zero i)⟩
  · exact (IntMap.made w).upd (Upd.of_below (F := fun _ => False) ((Below.refl _ _).alloc (Nat.le_refl _) _)) (fun f => f)
  · show World.ownsRow _ 0 _ 4 (.slice none 0 0) 0 (allCells [] [])
    rw [allCells_nil]
    exact World.ownsRow_nil _ _ _ _
theorem newPost_no {w w' : World} {L : List (List Int)} {r : Int} {e : Ending} {j : Nat} (hj : j < L.length) (h : ¬ OkRow j L[j]) (he : e = .returned (.tuple #[.pointer none, .int .i64 2])) (hb : Below w.heap.size w w') : NewPost w L r e w' :=
  ⟨fun ho => absurd (ho j hj) h, fun _ => ⟨he, hb⟩⟩
set_option maxRecDepth 100000 in
set_option maxHeartbeats 4000000 in
theorem new_in (a : Option Addr) (cap : Nat) (L : List (List Int)) (r : Nat) (w : World) (hL : NeedsAt w a L) (hlen : L.length ≤ 4096) (hr : r ≤ 8) :
    Calls Tryd.prog 37 #[.slice a L.length cap, .int .i64 (r : Int)] w (NewPost w L r) := by
  obtain ⟨i0, hi0, hz0, hz1, hz2⟩ := info_parts one_info
  have HL := Lib.hid hL
  have hmm := @run_makeMap Tryd.prog
  clear hL
  go_enter Tryd.func37, Tryd.ntmps37
  go_wp2_with fail
  go_loopw [29] (fun i wr => ∃ (j : Nat) (lv : Value) (nvs : List Value), j ≤ L.length ∧ i = .int .i64 j ∧ BoardIn wr (w.heap.size + 1) w.heap.size lv nvs (Board.new (natsL (L.take j)) r) ∧ Below w.heap.size w wr ∧ (∀ g, lv.ownBlock = some g → w.heap.size ≤ g) ∧ ∀ i, (h : i < j) → (h' : i < L.length) → OkRow i L[i]) (fun i _ => L.length - (intOf i).toNat)
  case atStart => exact ⟨0, .slice none 0 0, [], Nat.zero_le _, rfl, board_made w r, ((Below.refl _ _).alloc (Nat.le_refl _) _).alloc (by simp) _, fun g e => by simp [Value.ownBlock] at e, fun i hi => by omega⟩
  case round =>
    obtain ⟨j, lv, nvs, hj, rfl, hB, hb, hnew, hok⟩ := hrel
    by_cases hlt : j < L.length
    · obtain ⟨q, hidx, v, hq, hin⟩ := (HL.out.below hb).index cap j hlt
      obtain ⟨⟨na, ncap, rfl, hna, hnc⟩, hnl, hnw⟩ := hin
      have HB := Lib.hid hB; have HBL := Lib.hid hb; have HNEW := Lib.hid hnew; have HOK := Lib.hid hok
      have HPNO := Lib.hid (fun e w' => newPost_no (w := w) (w' := w') (r := (r : Int)) (e := e) hlt)
      have HTK := Lib.hid (natsL_take L j hlt)
      have HOKN := Lib.hid (show OkRow j L[j] → ∀ i, (h : i < j + 1) → (h' : i < L.length) → OkRow i L[i] from fun h i hi h' => by
        by_cases e : i = j
        · subst e; exact h
        · exact hok i (by omega) h')
      generalize L[j] = l at *
      have HNA := Lib.hid hna; have HNW := Lib.hid hnw
      clear hB hb hnew hok hna hnc hnw
      go_wp2_with fail
      obtain ⟨w0, hw0⟩ : ∃ w0, w0 = wr := ⟨_, rfl⟩
      subst hw0
      go_loopw [37] (fun i wi => ∃ k : Nat, k ≤ l.length ∧ i = .int .i64 k ∧ IntMap Tryd.prog 3 wi w0.heap.size (seenKv (l.take k)) ∧ Below w0.heap.size w0 wi ∧ OkRow j (l.take k)) (fun i _ => l.length - (intOf i).toNat)
      case atStart => exact ⟨0, Nat.zero_le _, rfl, IntMap.made w0, (Below.refl _ _).alloc (Nat.le_refl _) _, fun n hn => by simp at hn, by simp⟩
      case round =>
        obtain ⟨k, hk, rfl, hm, hbi, hrow⟩ := hrel
        have HM := Lib.hid hm; have HBI := Lib.hid hbi; have HROW := Lib.hid hrow
        clear hm hbi hrow hidx hq
        by_cases hkl : k < l.length
        · obtain ⟨qx, hix, hcx⟩ := (HNA.out.below' HBI.out).index ncap k hkl
          have hxw := HNW.out _ (List.getElem_mem hkl)
          have HNO := Lib.hid (okRow_no (t := j) hkl)
          have HTX := Lib.hid (take_snocI l k hkl)
          generalize l[k] = x at *
          by_cases hx0 : x < 0
          · have HN := Lib.hid (HNO.out (.inl hx0))
            go_wp2_with fail
            go_ret2
            exact HPNO.out _ _ HN.out rfl (HBL.out.trans (HBI.out.mono HBL.out.size))
          · by_cases hxj : (j : Int) ≤ x
            · have HN := Lib.hid (HNO.out (.inr (.inl hxj)))
              go_wp2_with fail
              go_ret2
              exact HPNO.out _ _ HN.out rfl (HBL.out.trans (HBI.out.mono HBL.out.size))
            · have hlook := HM.out.lookup Tryd.underlying3 Tryd.underlying81 (z := .int .i64 0) (int_zero wr) x hxw
              rw [seenKv_keys] at hlook
              by_cases hmem : x ∈ l.take k
              · have HN := Lib.hid (HNO.out (.inr (.inr hmem)))
                rw [if_pos hmem, Option.getD_some] at hlook
                clear hmem
                go_wp2_with fail
                go_ret2
                exact HPNO.out _ _ HN.out rfl (HBL.out.trans (HBI.out.mono HBL.out.size))
              · have HMEM := Lib.hid hmem
                rw [if_neg hmem, Option.getD_none] at hlook
                obtain ⟨w2, hrun, hm2, hg2⟩ := HM.out.update Tryd.underlying3 Tryd.underlying81 x hxw (.int .i64 1) (by unfold seenKv maxLen; simp; omega)
                rw [seenKv_snoc _ _ hmem, ← HTX.out] at hm2
                have HM2 := Lib.hid hm2; have HG2 := Lib.hid hg2
                clear hmem hm2 hg2
                have hxj' : x < (j : Int) := by omega
                go_wp2_with fail
                go_roundw
                case rel => exact ⟨k + 1, by omega, by go_num, HM2.out, HBI.out.grown HG2.out HBI.out.size (fun k e => by cases e; exact Nat.le_refl _), by rw [HTX.out]; exact okRow_snoc HROW.out (by omega) hxj' HMEM.out⟩
                case measure => simp [intOf]; omega
        · obtain rfl : k = l.length := by omega
          have hrow := HROW.out
          rw [List.take_length] at hrow
          have HROWF := Lib.hid hrow
          clear hrow HROW HM
          have hslim := HROWF.out.slim (by omega : j ≤ 4096)
          have hBI := HB.out.below HBI.out
          have c0 : wr.cell? ⟨w.heap.size + 1, 0, none⟩ = some lv := hBI.cells.1
          have cf0 : wr.frozen? ⟨w.heap.size + 1, 0, none⟩ = false := hBI.cells.2.2.2.2 0
          have hlt0 : w.heap.size + 1 < wr.heap.size := blk_lt hBI.struct
          have hne : lv.ownBlock ≠ some (w.heap.size + 1) := fun e => BlkOf.ne (ownsRow_blk hBI.row e) ⟨_, _, hBI.struct⟩ (by decide) rfl
          have hln : (Board.new (natsL (L.take j)) r).l.length = j := by unfold Board.new natsL; simp; omega
          have hrow0 := hBI.row
          have hnl0 := hBI.nlen
          rw [hln] at hrow0 hnl0
          have HBI2 := Lib.hid hBI; have HLN := Lib.hid hln
          have HROW0 := Lib.hid hrow0
          have HNL0 := Lib.hid hnl0
          have HNAw := Lib.hid (HNA.out.below' HBI.out)
          clear hBI hrow0 hln hnl0
          go_wp2_with fail
          go_region_law
            (first
              | (go_simp; go_at_call 58; refine (intclone_any _ na ncap l (IntsAt.below' HNAw.out (Below.refl _ _).drew) (by omega)).mono ?_; rintro e w1 ⟨v', rfl, hin1⟩; obtain ⟨qa, cc, rfl⟩ := slice_len hin1.row; have hb1 := hin1.below; have hown1 : w1.ownsRow 0 87 4 lv j (allCells nvs (Board.new (natsL (L.take j)) r).l) := row_below HROW0.out.drew hb1; have hlt1 : w.heap.size + 1 < w1.heap.size := Nat.lt_of_lt_of_le hlt0 hb1.size; have c1 := (hb1.cell (p := ⟨w.heap.size + 1, 0, none⟩) hlt0).trans c0; have cf1 := (hb1.frozen (p := ⟨w.heap.size + 1, 0, none⟩) hlt0).trans cf0; go_wp2_with fail)
              | ((refine step_append_lies _ (by rfl) _ _ _ (by rfl) 0 87 i0 _ 4 56 Tryd.underlying80 hi0 hz0 hz1 hz2 (by rfl) (by omega) lv j (allCells nvs (Board.new (natsL (L.take j)) r).l) (by rfl) (hown1.alloc _) ⟨w1.heap.size, 0, none⟩ 1 1 [.slice qa l.length cc, .bool false, .string ⟨#[]⟩, .int .i64 0] (by rfl) (by rfl) (World.news_of_block (cs := #[.slice qa l.length cc, .bool false, .string ⟨#[]⟩, .int .i64 0]) (t := 87) (fr := (0, 0)) (heap_alloc_new w1 _)) (new_one _ _ _) (by omega) (by unfold maxLen; omega) (by omega) (by omega) (w1.heap.size + 1) (by simp) ?_; intro gg cap2 w2 hown2 hgrow hat hlt2; have hfz2 := (hgrow.frozen_far ⟨w.heap.size + 1, 0, none⟩ (lt_alloc hlt1 _) (Ne.symm hne)).trans ((((Below.refl w1.heap.size w1).alloc (Nat.le_refl _) (Obj.cells #[.slice qa l.length cc, .bool false, .string ⟨#[]⟩, .int .i64 0] 87)).frozen (p := ⟨w.heap.size + 1, 0, none⟩) hlt1).trans cf1); have hc2 := (hgrow.cell_far ⟨w.heap.size + 1, 0, none⟩ (lt_alloc hlt1 _) (Ne.symm hne)).trans ((((Below.refl w1.heap.size w1).alloc (Nat.le_refl _) (Obj.cells #[.slice qa l.length cc, .bool false, .string ⟨#[]⟩, .int .i64 0] 87)).cell (p := ⟨w.heap.size + 1, 0, none⟩) hlt1).trans c1))))
          all_goals
            have h0 : Below wr.heap.size wr w1 := ((Below.refl _ wr).drew).trans (hb1.mono (Nat.le_refl _))
            have h1 := h0.alloc h0.size (Obj.cells #[.slice qa l.length cc, .bool false, .string ⟨#[]⟩, .int .i64 0] 87)
            have hsz : w.heap.size ≤ wr.heap.size := by omega
            have h3 : Below w.heap.size w w2 := ((HBL.out.trans (HBI.out.mono HBL.out.size)).trans (h1.mono hsz)).grown hgrow (by rw [World.size_alloc]; omega) (fun k e => HNEW.out k e)
            have hnum := (NumsOk.of_clone hin1 HROWF.out).below ((Below.refl _ w1).alloc (Nat.le_refl _) (Obj.cells #[.slice qa l.length cc, .bool false, .string ⟨#[]⟩, .int .i64 0] 87))
            have hpush := HBI2.out.push h1 hnum hgrow (gg := gg) (cap := cap2) (n := j + 1) (by rw [HLN.out]) hown2
            rw [← new_snoc, ← HTK.out] at hpush
            have H3 := Lib.hid h3; have H4 := Lib.hid hpush; have HH := Lib.hid (HOKN.out HROWF.out); have HAT := Lib.hid hat
            have hl1 := hb1.size
            have HL1 := Lib.hid (show wr.heap.size ≤ w1.heap.size from hl1)
            clear h0 h1 h3 hnum hpush hown2 hgrow hb1 hown1 hin1 hat hl1
            go_wp2_with fail
            go_roundw
            case rel =>
              refine ⟨j + 1, .slice (some ⟨gg, 0, none⟩) (j + 1) cap2, nvs ++ [.slice qa l.length cc], by omega, by go_num, H4.out, H3.out.setCell (p := ⟨w.heap.size + 1, 0, none⟩) (by show w.heap.size ≤ w.heap.size + 1; omega) _, fun g e => ?_, HH.out⟩
              simp [Value.ownBlock] at e
              subst e
              rcases HAT.out with hat | hat
              · exact HNEW.out _ hat
              · have := HL1.out; omega
            case measure => simp [intOf]; omega
    · obtain rfl : j = L.length := by omega
      rw [List.take_length] at hB
      have HB := Lib.hid hB; have HBL := Lib.hid hb; have HNEW := Lib.hid hnew; have HOK := Lib.hid hok
      clear hB hb hnew hok
      go_wp2_with fail
      go_ret2
      refine ⟨fun _ => ⟨w.heap.size + 1, w.heap.size, lv, nvs, rfl, HB.out, HBL.out, ?_⟩, fun h => absurd (fun t ht => HOK.out t ht ht) h⟩
      rintro k (rfl | rfl | hk)
      · omega
      · exact Nat.le_refl _
      · exact HNEW.out k hk
theorem new_yes (a : Option Addr) (cap : Nat) (L : List (List Int)) (r : Int) (w : World) (hL : NeedsAt w a L) (h : MayB L r) :
    Calls Tryd.prog 37 #[.slice a L.length cap, .int .i64 r] w (Made w (natsL L) r.toNat) := by
  obtain ⟨h1, h2, h3, h4⟩ := h
  obtain ⟨r, rfl⟩ : ∃ n : Nat, r = (n : Int) := ⟨r.toNat, by omega⟩
  exact (new_in a cap L r w hL h1 (by omega)).mono fun e w' h => h.1 h4
theorem new_no (a : Option Addr) (cap : Nat) (L : List (List Int)) (r : Int) (w : World) (hL : NeedsAt w a L) (hlen : L.length ≤ maxLen) (h : ¬ MayB L r) :
    Calls Tryd.prog 37 #[.slice a L.length cap, .int .i64 r] w fun e w' => e = .returned (.tuple #[.pointer none, .int .i64 2]) ∧ Below w.heap.size w w' := by
  by_cases h1 : 4096 < L.length ∨ r < 0 ∨ 8 < r
  · exact new_early a cap L r w hlen h1
  · obtain ⟨r, rfl⟩ : ∃ n : Nat, r = (n : Int) := ⟨r.toNat, by omega⟩
    exact (new_in a cap L r w hL (by omega) (by omega)).mono fun e w' hp => hp.2 fun h4 => h ⟨by omega, by omega, by omega, h4⟩
theorem new_fine {L : List (List Int)} {r : Int} (h : MayB L r) : (Board.new (natsL L) r.toNat).Fine 0 := by
  obtain ⟨h1, h2, h3, h4⟩ := h
  have hget : ∀ (t : Nat) (x : Task), (Board.new (natsL L) r.toNat).l[t]? = some x → ∃ (ht : t < L.length), x = ⟨L[t].map Int.toNat, false, [], 0⟩ := fun t x hx => by
    unfold Board.new natsL at hx
    simp only [List.getElem?_map] at hx
    by_cases ht : t < L.length
    · rw [List.getElem?_eq_getElem ht] at hx
      simp at hx
      exact ⟨ht, hx.symm⟩
    · rw [List.getElem?_eq_none (by omega)] at hx
      cases hx
  have hmem : ∀ x ∈ (Board.new (natsL L) r.toNat).l, ∃ (t : Nat) (ht : t < L.length), x = ⟨L[t].map Int.toNat, false, [], 0⟩ := fun x hx => by
    obtain ⟨t, ht, rfl⟩ := List.getElem_of_mem hx
    obtain ⟨h5, h6⟩ := hget t _ (List.getElem?_eq_getElem ht)
    exact ⟨t, h5, h6⟩
  refine ⟨by unfold Board.new natsL; simp; omega, by show r.toNat ≤ 8; omega, fun t x hx n hn => ?_, fun x hx => ?_, List.nodup_nil, fun p hp => (by cases hp), Nat.le_refl _, fun t ht => (by cases ht), fun x hx => ?_⟩
  · obtain ⟨ht, rfl⟩ := hget t x hx
    obtain ⟨y, hy, rfl⟩ := List.mem_map.1 hn
    have := (h4 t ht).1 y hy
    omega
  · obtain ⟨t, ht, rfl⟩ := hmem x hx
    exact Nat.le_refl _
  · obtain ⟨t, ht, rfl⟩ := hmem x hx
    have := (h4 t ht).slim (by omega)
    simp; omega
end Go.Proofs.YtgmhglcdifhimaaDoor
