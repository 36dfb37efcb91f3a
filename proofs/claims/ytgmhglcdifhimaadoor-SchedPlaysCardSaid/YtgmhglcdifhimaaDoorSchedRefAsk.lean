/- The document's master (maslinref31): Next, Values, walked. -/
import Derived.Test.YtgmhglcdifhimaaDoorSchedRef
import Derived.Test.YtgmhglcdifhimaaDoorSchedValues
import Derived.Test.YtgmhglcdifhimaaDoorSchedEndsLaw
namespace Go.Proofs.YtgmhglcdifhimaaDoor
open Go.RowKit Go.Maps Go.Sort
open Tsk

section
variable {w w' w1 w2 : World} {R r k sb : Nat} {vv : Value} {M : Sch.Master}
theorem RMast.rat (h : RMast w R r vv M) (hF : M.b.Fine k) (hk : k ≤ 1000000) (x : Int) : Calls Tryd.prog 48 #[.pointer (some ⟨r, 0, none⟩), .int .i64 x] w fun e w' => e = .returned (.tuple #[.int .i64 (((M.b.at_ x).getD 0 : Nat) : Int), .bool (M.b.at_ x).isSome]) ∧ w = w' := by
  obtain ⟨lv, tv, nvs, hB⟩ := h.board
  exact rat_any hB hF hk x
theorem RMast.rready (h : RMast w R r vv M) (hF : M.b.Fine k) (hk : k ≤ 1000000) : Calls Tryd.prog 33 #[.pointer (some ⟨r, 0, none⟩)] w (IntsPost w (numsI M.b.ready)) := by
  obtain ⟨lv, tv, nvs, hB⟩ := h.board
  exact rready_any hB hF hk
theorem RMast.rover (h : RMast w R r vv M) : w.cell? ⟨r, 3, none⟩ = some (.int .i64 (match M.b.failed with | some t => (t : Int) | none => -1)) := by
  obtain ⟨lv, tv, nvs, hB⟩ := h.board
  exact hB.cells.2.2.2.1
/-- The first one of a row of whom something is so. -/
theorem whoL_sub (l : List Bool) (b : Board) : whoL l (busyF b) = (whoL l fun _ => true).filter fun (i : Nat) => (b.at_ (i : Int)).isSome := by
  unfold whoL whoTo
  rw [List.filter_filter]
  congr 1
  funext i
  unfold busyF
  cases l.getD i false <;> simp
theorem next_found {l : List Nat} (h : whoL M.lives (fun _ => true) = l) {j : Nat} (hj : j < l.length) (hn : ∀ i (h : i < l.length), i < j → M.b.at_ (l[i] : Int) = none) {t : Nat} (ha : M.b.at_ (l[j] : Int) = some t) : M.next = (⟨2, l[j], 0⟩, true) := by
  have hb : ∃ rest, whoL M.lives (busyF M.b) = l[j] :: rest := by
    rw [whoL_sub, h]
    have e : l = l.take j ++ l[j] :: l.drop (j + 1) := by rw [List.getElem_cons_drop, List.take_append_drop]
    have e1 : (l.take j).filter (fun (i : Nat) => (M.b.at_ (i : Int)).isSome) = [] := by
      rw [List.filter_eq_nil_iff]
      intro x hx
      obtain ⟨i, hi, rfl⟩ := List.getElem_of_mem hx
      have hi2 : i < j := by simp at hi; omega
      rw [List.getElem_take, hn i (by omega) hi2]
      decide
    refine ⟨(l.drop (j + 1)).filter (fun (i : Nat) => (M.b.at_ (i : Int)).isSome), ?_⟩
    conv => lhs; rw [e]
    rw [List.filter_append, e1, List.nil_append, List.filter_cons_of_pos (by rw [ha]; rfl)]
  obtain ⟨rest, hr⟩ := hb
  unfold Sch.Master.next
  rw [hr]
theorem next_rest {l : List Nat} (h : whoL M.lives (fun _ => true) = l) (hn : ∀ i (h : i < l.length), M.b.at_ (l[i] : Int) = none) : M.next = match l with
    | j :: _ => if decide (0 < M.b.ready.length) && !M.b.failed.isSome then (⟨0, j, 0⟩, true) else (⟨0, 0, 0⟩, false)
    | [] => (⟨0, 0, 0⟩, false) := by
  have hb : whoL M.lives (busyF M.b) = [] := by
    rw [whoL_sub, h, List.filter_eq_nil_iff]
    intro x hx
    obtain ⟨i, hi, rfl⟩ := List.getElem_of_mem hx
    rw [hn i hi]
    decide
  unfold Sch.Master.next
  rw [hb, h]
  cases l <;> rfl
set_option maxRecDepth 100000 in
set_option maxHeartbeats 8000000 in
theorem rnext_any (h : RMast w R r vv M) (hF : M.b.Fine k) (hk : k ≤ 1000000) (hl : M.lives.length ≤ 16) :
    Calls Tryd.prog 28 #[.pointer (some ⟨R, 0, none⟩)] w fun e w' => e = .returned (pickOut M.next) ∧ Below w.heap.size w w' := by
  have hb : Below w.heap.size w (w.alloc (.cells #[.int .u8 0, .int .i64 0, .int .i64 0] 46)) := (Below.refl _ _).alloc (Nat.le_refl _) _
  have hpk := RowAt.made w #[.int .u8 0, .int .i64 0, .int .i64 0] 46
  have HM := Lib.hid (h.below hb); have HF := Lib.hid hF; have HB := Lib.hid hb; have HE := Lib.hid (show RowAt _ w.heap.size 46 [.int .u8 0, .int .i64 0, .int .i64 0] from hpk)
  have HA := Lib.hid (ralive_any (h.below hb) hF hk hl false)
  obtain ⟨l, hwl⟩ : ∃ l, whoL M.lives (fun _ => true) = l := ⟨_, rfl⟩
  rw [show whoL M.lives (aliveF M.b false) = l from hwl] at HA
  have hll : (numsI l).length ≤ 16 := by rw [numsI_len, ← hwl]; exact Nat.le_trans (whoTo_len _ _ _) hl
  have HFO := Lib.hid (fun j hj hn t ha => next_found (M := M) hwl (j := j) hj hn (t := t) ha)
  have HRE := Lib.hid (fun hn => next_rest (M := M) hwl hn)
  clear h hF hb hpk
  go_enter Tryd.func28, Tryd.ntmps28
  go_wp2_with fail
  generalize hsb : w.heap.size = sb at *
  generalize w.alloc (.cells #[.int .u8 0, .int .i64 0, .int .i64 0] 46) = wi at *
  refine HA.out.mono ?_
  rintro e w2 ⟨q, cap, rfl, hi, hb2, _⟩
  have HI := Lib.hid hi
  have hs := HB.out.size
  rw [hsb] at hs
  have HB2 := Lib.hid (HB.out.trans (hb2.mono hs))
  have HM2 := Lib.hid (HM.out.below hb2); have HE2 := Lib.hid (HE.out.below hb2)
  clear hi hb2 HA HM HE hs
  go_wp2_with fail
  go_loopw [5] (fun i wr => ∃ j : Nat, j ≤ (numsI l).length ∧ i = .int .i64 j ∧ Below w2.heap.size w2 wr ∧ ∀ i (h : i < l.length), i < j → M.b.at_ (l[i] : Int) = none) (fun i _ => (numsI l).length - (intOf i).toNat)
  case atStart => exact ⟨0, Nat.zero_le _, rfl, Below.refl _ _, fun i _ hi => by omega⟩
  case round =>
    obtain ⟨j, hj, rfl, hb, hno⟩ := hrel
    have HBL := Lib.hid hb; have HNO := Lib.hid hno
    have HMr := Lib.hid (HM2.out.below hb)
    have HEr := Lib.hid (HE2.out.below hb)
    clear hno
    by_cases hlt : j < (numsI l).length
    · have hjl : j < l.length := by rw [numsI_len] at hlt; exact hlt
      obtain ⟨qa, hix, hc⟩ := (show IntsAt wr q (numsI l) from fun i hi => by
        obtain ⟨p, hp, hc⟩ := HI.out i hi
        exact ⟨p, hp, (hb.cell (block_lt_of_cell hc)).trans hc⟩).index cap j hlt
      rw [numsI_get hlt hjl] at hc
      have HFO2 := Lib.hid (HFO.out j hjl (fun i h hi => HNO.out i h hi))
      have HNN := Lib.hid (show M.b.at_ (l[j] : Int) = none → ∀ i (h : i < l.length), i < j + 1 → M.b.at_ (l[i] : Int) = none from fun h0 i h hi => by
        by_cases e : i = j
        · subst e; exact h0
        · exact HNO.out i h (by omega))
      have HB3 := Lib.hid (show Below w2.heap.size w2 wr.drew from hb.trans ((Below.refl _ _).drew))
      have HM3 := Lib.hid (HMr.out.below ((Below.refl _ _).drew))
      have HE3 := Lib.hid (HEr.out.below ((Below.refl _ _).drew))
      have HA := Lib.hid (HM3.out.rat HF.out hk (l[j] : Int))
      have k0 : wr.drew.cell? ⟨R, 0, none⟩ = some (.pointer (some ⟨r, 0, none⟩)) := HM3.out.cells.1
      have hc : wr.drew.cell? qa = some (.int .i64 (l[j] : Int)) := hc
      have HC := Lib.hid hc
      clear hb HMr HEr HNO
      generalize hxj : l[j] = xj at *
      generalize M.b.at_ (xj : Int) = ao at *
      generalize (numsI l).length = nl at *
      go_wp2_with fail
      go_region_held3 (fun V => V.cell? ⟨R, 0, none⟩ = some (.pointer (some ⟨r, 0, none⟩)) ∧ V.cell? qa = some (.int .i64 (xj : Int)))
        (exact ⟨k0, hc⟩)
        (first | (go_at_call 48; refine HA.out.mono ?_; rintro e wb ⟨rfl, rfl⟩))
      clear HA k0
      generalize wr.drew = wd at *
      cases ao with
      | none =>
        have HN2 := Lib.hid (HNN.out rfl)
        clear HNN HFO2 hc HC
        go_wp2_with fail
        go_roundw
        case rel => exact ⟨j + 1, by omega, by go_num, HB3.out, HN2.out⟩
        case measure => simp [intOf]; omega
      | some t =>
        have HN3 := Lib.hid (show M.next = (⟨2, xj, 0⟩, true) from HFO2.out t rfl)
        clear HNN HFO2
        have k0 := HE3.out.free 0; have k1 := HE3.out.free 1; have k2 := HE3.out.free 2
        have c0 := HE3.out.cell 0 (by simp); have c1 := HE3.out.cell 1 (by simp); have c2 := HE3.out.cell 2 (by simp)
        go_wp2_with fail
        have HE5 := Lib.hid (((HE3.out.set 0 (.int .u8 2)).set 1 (.int .i64 (xj : Int))).set 2 (.int .i64 0))
        (try simp only [Exit.inBlock, Exit.then])
        refine bodyPost_ret (pick_out rfl _ _ sb _ _ _ rfl HE5.out) rfl ?_
        have hs2 := HB2.out.size
        rw [hsb] at *
        have HB5 := HB2.out.trans (HB3.out.mono hs2)
        exact ⟨by rw [HN3.out]; rfl, ((HB5.setCell (p := ⟨sb, 0, none⟩) (Nat.le_refl sb) _).setCell (p := ⟨sb, 1, none⟩) (Nat.le_refl sb) _).setCell (p := ⟨sb, 2, none⟩) (Nat.le_refl sb) _⟩
    · obtain rfl : j = (numsI l).length := by omega
      have HN := Lib.hid (HRE.out (fun i h => HNO.out i h (by rw [numsI_len]; exact h)))
      have hs2 := HB2.out.size
      rw [hsb] at hs2
      have HB3 := Lib.hid (HB2.out.trans (hb.mono hs2))
      have HI3 := Lib.hid (show IntsAt wr q (numsI l) from fun i hi => by
        obtain ⟨p, hp, hc⟩ := HI.out i hi
        exact ⟨p, hp, (hb.cell (block_lt_of_cell hc)).trans hc⟩)
      clear hb hs2 HNO HI HM2 HE2 HBL HFO HRE
      cases l with
      | nil =>
        have HN2 := Lib.hid (show M.next = (⟨0, 0, 0⟩, false) from HN.out)
        rw [show (numsI ([] : List Nat)).length = 0 from rfl] at *
        clear HN HI3
        have k0 := HEr.out.free 0; have k1 := HEr.out.free 1; have k2 := HEr.out.free 2
        have c0 := HEr.out.cell 0 (by simp); have c1 := HEr.out.cell 1 (by simp); have c2 := HEr.out.cell 2 (by simp)
        go_wp2_with fail
        have HE5 := Lib.hid (((HEr.out.set 0 (.int .u8 0)).set 1 (.int .i64 0)).set 2 (.int .i64 0))
        (try simp only [Exit.inBlock, Exit.then])
        refine bodyPost_ret (pick_out rfl _ _ sb _ _ _ rfl HE5.out) rfl ?_
        rw [hsb]
        exact ⟨by rw [HN2.out]; rfl, ((HB3.out.setCell (p := ⟨sb, 0, none⟩) (Nat.le_refl sb) _).setCell (p := ⟨sb, 1, none⟩) (Nat.le_refl sb) _).setCell (p := ⟨sb, 2, none⟩) (Nat.le_refl sb) _⟩
      | cons j0 rest =>
        obtain ⟨qq, hix, hc⟩ := HI3.out.index cap 0 (by simp [numsI])
        replace hix : ∀ W, (Instr.indexAt 31 (.slice q (numsI (j0 :: rest)).length cap) (.int .i64 0)).run Tryd.prog W = .ok (.pointer (some qq)) W := hix
        have HC := Lib.hid (show wr.cell? qq = some (.int .i64 (j0 : Int)) from hc)
        have hgt : 0 < (numsI (j0 :: rest)).length := by simp [numsI]
        have hgt2 : (((numsI (j0 :: rest)).length : Int) == 0) = false := by simp [numsI]; omega
        have HN2 := Lib.hid (show M.next = if decide (0 < M.b.ready.length) && !M.b.failed.isSome then (⟨0, j0, 0⟩, true) else (⟨0, 0, 0⟩, false) from HN.out)
        clear hc HN HI3
        generalize (numsI (j0 :: rest)).length = nb at *
        have m0 := HMr.out.cells.1
        have HR := Lib.hid (HMr.out.rready HF.out hk)
        go_wp2_with fail
        refine HR.out.mono ?_
        rintro e w4 ⟨q4, cap4, rfl, _, hb4, _⟩
        have hs4 := HB3.out.size
        rw [hsb] at hs4
        have HB4 := Lib.hid (HB3.out.trans (hb4.mono hs4))
        have HE4 := Lib.hid (HEr.out.below hb4)
        have HM4 := Lib.hid (HMr.out.below hb4)
        have hc : w4.cell? qq = some (.int .i64 (j0 : Int)) := (hb4.cell (block_lt_of_cell HC.out)).trans HC.out
        clear hs4 hb4 HEr HMr HC HR m0
        have m0 := HM4.out.cells.1
        have mF := HM4.out.rover
        rw [numsI_len]
        generalize M.b.ready.length = nr at *
        cases nr with
        | zero =>
          have HN3 := Lib.hid (show M.next = (⟨0, 0, 0⟩, false) from HN2.out)
          clear HN2 mF
          have k0 := HE4.out.free 0; have k1 := HE4.out.free 1; have k2 := HE4.out.free 2
          have c0 := HE4.out.cell 0 (by simp); have c1 := HE4.out.cell 1 (by simp); have c2 := HE4.out.cell 2 (by simp)
          go_wp2_with fail
          have HE5 := Lib.hid (((HE4.out.set 0 (.int .u8 0)).set 1 (.int .i64 0)).set 2 (.int .i64 0))
          (try simp only [Exit.inBlock, Exit.then])
          refine bodyPost_ret (pick_out rfl _ _ sb _ _ _ rfl HE5.out) rfl ?_
          rw [hsb]
          exact ⟨by rw [HN3.out]; rfl, ((HB4.out.setCell (p := ⟨sb, 0, none⟩) (Nat.le_refl sb) _).setCell (p := ⟨sb, 1, none⟩) (Nat.le_refl sb) _).setCell (p := ⟨sb, 2, none⟩) (Nat.le_refl sb) _⟩
        | succ nr =>
          have hnr : ((nr : Int) + 1 == 0) = false := by simp; omega
          generalize M.b.failed = fo at *
          cases fo with
          | some f =>
            have HN3 := Lib.hid (show M.next = (⟨0, 0, 0⟩, false) from by rw [HN2.out]; simp)
            clear HN2
            have k0 := HE4.out.free 0; have k1 := HE4.out.free 1; have k2 := HE4.out.free 2
            have c0 := HE4.out.cell 0 (by simp); have c1 := HE4.out.cell 1 (by simp); have c2 := HE4.out.cell 2 (by simp)
            go_wp2_with fail
            have HE5 := Lib.hid (((HE4.out.set 0 (.int .u8 0)).set 1 (.int .i64 0)).set 2 (.int .i64 0))
            (try simp only [Exit.inBlock, Exit.then])
            refine bodyPost_ret (pick_out rfl _ _ sb _ _ _ rfl HE5.out) rfl ?_
            rw [hsb]
            exact ⟨by rw [HN3.out]; rfl, ((HB4.out.setCell (p := ⟨sb, 0, none⟩) (Nat.le_refl sb) _).setCell (p := ⟨sb, 1, none⟩) (Nat.le_refl sb) _).setCell (p := ⟨sb, 2, none⟩) (Nat.le_refl sb) _⟩
          | none =>
            have HN3 := Lib.hid (show M.next = (⟨0, j0, 0⟩, true) from by rw [HN2.out]; simp)
            clear HN2
            have k0 := HE4.out.free 0; have k1 := HE4.out.free 1; have k2 := HE4.out.free 2
            have c0 := HE4.out.cell 0 (by simp); have c1 := HE4.out.cell 1 (by simp); have c2 := HE4.out.cell 2 (by simp)
            go_wp2_with fail
            have HE5 := Lib.hid (((HE4.out.set 0 (.int .u8 0)).set 1 (.int .i64 (j0 : Int))).set 2 (.int .i64 0))
            (try simp only [Exit.inBlock, Exit.then])
            refine bodyPost_ret (pick_out rfl _ _ sb _ _ _ rfl HE5.out) rfl ?_
            rw [hsb]
            exact ⟨by rw [HN3.out]; rfl, ((HB4.out.setCell (p := ⟨sb, 0, none⟩) (Nat.le_refl sb) _).setCell (p := ⟨sb, 1, none⟩) (Nat.le_refl sb) _).setCell (p := ⟨sb, 2, none⟩) (Nat.le_refl sb) _⟩
theorem RMast.rdone (h : RMast w R r vv M) (hF : M.b.Fine k) : Calls Tryd.prog 35 #[.pointer (some ⟨r, 0, none⟩)] w fun e w' => e = .returned (.bool M.b.done) ∧ w = w' := by
  obtain ⟨lv, tv, nvs, hB⟩ := h.board
  exact rdone_any hB hF
set_option maxRecDepth 100000 in
theorem rvalues_no (h : RMast w R r vv M) (hF : M.b.Fine k) (hd : M.b.done = false) : Calls Tryd.prog 29 #[.pointer (some ⟨R, 0, none⟩)] w fun e w' => e = .returned (.tuple #[.slice none 0 0, .bool false]) ∧ Below w.heap.size w w' := by
  obtain ⟨c0, _, _⟩ := h.cells
  have HD := h.rdone hF
  rw [hd] at HD
  have HD := Lib.hid HD
  clear h
  go_enter Tryd.func29, Tryd.ntmps29
  go_wp2_with fail
  refine HD.out.mono ?_
  rintro e w1 ⟨rfl, rfl⟩
  go_wp2_with fail
  go_ret2
  exact ⟨rfl, Below.refl _ _⟩
set_option maxRecDepth 100000 in
set_option maxHeartbeats 4000000 in
theorem rvalues_yes (h : RMast w R r vv M) (hF : M.b.Fine k) (hd : M.b.done = true) : Calls Tryd.prog 29 #[.pointer (some ⟨R, 0, none⟩)] w (StrsPost w (M.b.l.map (·.value))) := by
  obtain ⟨i0, hi0, hz0, hz1, hz2⟩ := info_parts string_info
  obtain ⟨c0, _, _⟩ := h.cells
  have hlen := hF.len
  have HDN := h.rdone hF
  rw [hd] at HDN
  have HDN := Lib.hid HDN
  have HM := Lib.hid h
  obtain ⟨lv, tv, nvs, hB⟩ := h.board
  have HB := Lib.hid hB
  obtain ⟨ql, cl, evl⟩ := slice_len hB.row
  have HEL := Lib.hid evl
  obtain ⟨vs, hvs⟩ : ∃ vs, M.b.l.map (·.value) = vs := ⟨_, rfl⟩
  rw [hvs]
  have HL := Lib.hid (show M.b.l.length = vs.length from by rw [← hvs]; simp)
  have HV := Lib.hid (show ∀ j (h1 : j < M.b.l.length) (h2 : j < vs.length), M.b.l[j].value = vs[j] from fun j h1 h2 => by subst hvs; simp)
  have hln : vs.length ≤ 4096 := by rw [← HL.out]; exact hlen
  clear h hvs hd hlen hF hB evl
  go_enter Tryd.func29, Tryd.ntmps29
  go_wp2_with fail
  refine HDN.out.mono ?_
  rintro e w1 ⟨rfl, rfl⟩
  clear HDN
  go_wp2_with fail
  go_loopw [4, 5] (fun v i wr => ∃ j : Nat, j ≤ vs.length ∧ i = .int .i64 j ∧ Below w.heap.size w wr ∧ wr.ownsRow w.heap.size 9 1 v j (strRow (vs.take j))) (fun _ i _ => vs.length - (intOf i).toNat)
  case atStart => exact ⟨0, Nat.zero_le _, rfl, Below.refl _ _, World.ownsRow_nil _ _ _ _⟩
  case round =>
    obtain ⟨j, hj, rfl, hb, hrow⟩ := hrel
    have HBL := Lib.hid hb; have HROW := Lib.hid hrow
    obtain ⟨qo, co, rfl⟩ := slice_len hrow
    have c0 : wr.cell? ⟨R, 0, none⟩ = some (.pointer (some ⟨r, 0, none⟩)) := (HM.out.below hb).cells.1
    have l0 : wr.cell? ⟨r, 0, none⟩ = some lv := (HB.out.below hb).cells.1
    rw [HEL.out, HL.out] at l0
    clear hrow
    by_cases hlt : j < vs.length
    · have hjl : j < M.b.l.length := by rw [HL.out]; exact hlt
      obtain ⟨g, cap, hg', hix, -, -, d2, -, -⟩ := (HB.out.below hb).index j hjl
      rw [HV.out j hjl hlt] at d2
      rw [HEL.out, HL.out] at hix
      have HSN := Lib.hid (strRow_snoc vs j hlt)
      have htl : (strRow (vs.take j)).length = j := by unfold strRow; simp; omega
      have hs1 : w.heap.size ≤ wr.heap.size := hb.size
      generalize vs[j] = x at *
      generalize strRow (vs.take j) = out at *
      clear hb hg' hjl
      go_wp2_with (at_builtin; refine wpList_append_lies _ rfl _ _ _ rfl w.heap.size 9 i0 _ 1 16 Tryd.underlying48 hi0 hz0 hz1 hz2 rfl (by omega) (.slice qo j co) j out rfl (HROW.out.alloc _) ⟨wr.heap.size, 0, none⟩ 1 1 [.string (bs x)] rfl rfl (World.news_of_block (cs := #[.string (bs x)]) (t := 9) (fr := (0, 0)) (heap_alloc_new wr _)) (fun u hu => by simp at hu; subst hu; rfl) (by omega) (by unfold maxLen; omega) (by omega) (by simp; omega) (wr.heap.size + 1) (by simp) ?_; intro gg cap2 w2 hown2 hgrow hat hlt2; have HOWN2 := Lib.hid hown2; have HGROW := Lib.hid hgrow; clear hown2 hgrow hat hlt2)
      go_roundw
      case rel =>
        refine ⟨j + 1, by omega, by go_num, ((HBL.out.alloc hs1 _).grown HGROW.out (by simp; omega) (fun i e => row_base HROW.out e)), ?_⟩
        rw [HSN.out]
        exact HOWN2.out
      case measure => simp [intOf]; omega
    · obtain rfl : j = vs.length := by omega
      have hrow := HROW.out
      rw [List.take_length] at hrow
      obtain ⟨ia, ic, ie, iat⟩ := strs_of_row rfl hrow
      injection ie with ie1 ie0 ie2
      subst ie1; subst ie2
      have HIA := Lib.hid iat
      clear iat ie0 hrow hb
      go_wp2_with fail
      go_ret2
      exact ⟨qo, co, rfl, HIA.out, HBL.out⟩
end
end Go.Proofs.YtgmhglcdifhimaaDoor
