/- maslin/sched: Values; maslinref01.Same, walked. -/
import Derived.Test.YtgmhglcdifhimaaDoorSchedAsk
namespace Go.Proofs.YtgmhglcdifhimaaDoor
open Go.RowKit Go.Maps Go.Sort
open Tsk

def strRow (l : List (List UInt8)) : List Value := l.map fun s => .string (bs s)
theorem strRow_snoc (l : List (List UInt8)) (j : Nat) (h : j < l.length) : strRow (l.take (j + 1)) = strRow (l.take j) ++ [.string (bs l[j])] := by
  unfold strRow
  rw [List.take_succ_eq_append_getElem h, List.map_append]
  rfl
theorem strs_of_row {w : World} {v : Value} {l : List (List UInt8)} {base n : Nat} (hn : n = l.length) (h : w.ownsRow base 9 1 v n (strRow l)) : ∃ a cap, v = .slice a n cap ∧ StrsAt w a l := by
  rcases h.2 with ⟨e1, e2⟩ | ⟨g, cap, cur, e1, _, hg, _⟩
  · exact ⟨none, 0, by rw [e1, e2], fun i hi => by omega⟩
  · subst e1
    refine ⟨_, cap, rfl, fun i hi => ⟨_, rfl, ?_, ?_⟩⟩
    · exact blk_lt hg
    · exact h.cells (g := g) rfl i (.string (bs l[i])) (by unfold strRow; rw [List.getElem?_map, List.getElem?_eq_getElem hi]; rfl)
theorem string_info : (Tryd.prog.info? 9).map (fun i => (i.zero, i.size, i.bytes)) = some (some (.string ByteArray.empty), 1, 16) := by kernel_rfl
def StrsPost (w : World) (l : List (List UInt8)) (e : Ending) (w' : World) : Prop := ∃ q cap, e = .returned (.tuple #[.slice q l.length cap, .bool true]) ∧ StrsAt w' q l ∧ Below w.heap.size w w'
section
variable {w0 w w' : World} {P p m g : Nat} {lv vv : Value} {nvs : List Value} {M M' : Sch.Master} {k : Nat}
set_option maxRecDepth 100000 in
theorem values_nil (w : World) : Calls Tryd.prog 18 #[.pointer none] w fun e w' => e = .returned (.tuple #[.slice none 0 0, .bool false]) ∧ w = w' := by
  go_enter Tryd.func18, Tryd.ntmps18
  go_wp2_with fail
  go_ret2
  exact ⟨rfl, rfl⟩
set_option maxRecDepth 100000 in
theorem values_no (h : MastIn w P p m lv nvs vv M) (hlen : M.b.l.length ≤ 4096) (hd : M.b.done = false) : Calls Tryd.prog 18 #[.pointer (some ⟨P, 0, none⟩)] w fun e w' => e = .returned (.tuple #[.slice none 0 0, .bool false]) ∧ Below w.heap.size w w' := by
  obtain ⟨c0, _, _⟩ := h.cells
  have HD := done_any h.board hlen
  rw [hd] at HD
  have HD := Lib.hid HD
  clear h
  go_enter Tryd.func18, Tryd.ntmps18
  go_wp2_with fail
  refine HD.out.mono ?_
  rintro e w1 ⟨rfl, hb⟩
  have HB := Lib.hid hb
  clear hb
  go_wp2_with fail
  go_ret2
  exact ⟨rfl, HB.out⟩
set_option maxRecDepth 100000 in
set_option maxHeartbeats 4000000 in
theorem values_yes (h : MastIn w P p m lv nvs vv M) (hlen : M.b.l.length ≤ 4096) (hd : M.b.done = true) : Calls Tryd.prog 18 #[.pointer (some ⟨P, 0, none⟩)] w (StrsPost w (M.b.l.map (·.value))) := by
  obtain ⟨i0, hi0, hz0, hz1, hz2⟩ := info_parts string_info
  obtain ⟨c0, _, c2⟩ := h.cells
  have HDN := done_any h.board hlen
  rw [hd] at HDN
  have HDN := Lib.hid HDN
  have HM := Lib.hid h
  have HALL := Lib.hid (fun (j : Nat) (hj : j < M.b.l.length) => List.all_eq_true.1 hd _ (List.getElem_mem hj))
  obtain ⟨vs, hvs⟩ : ∃ vs, M.b.l.map (·.value) = vs := ⟨_, rfl⟩
  rw [hvs]
  have HL := Lib.hid (show M.b.l.length = vs.length from by rw [← hvs]; simp)
  have HV := Lib.hid (show ∀ j (h1 : j < M.b.l.length) (h2 : j < vs.length), M.b.l[j].value = vs[j] from fun j h1 h2 => by subst hvs; simp)
  have hln : vs.length ≤ 4096 := by rw [← HL.out]; exact hlen
  rw [HL.out] at c2
  clear h hvs hd hlen
  go_enter Tryd.func18, Tryd.ntmps18
  go_wp2_with fail
  refine HDN.out.mono ?_
  rintro e w1 ⟨rfl, hb⟩
  have HB1 := Lib.hid hb
  have HM1 := Lib.hid (HM.out.below hb)
  have c2 := HM1.out.cells.2.2
  rw [HL.out] at c2
  have hs0 : w.heap.size ≤ w1.heap.size := hb.size
  clear hb c0
  go_wp2_with fail
  go_loopw [2, 23] (fun v i wr => ∃ j : Nat, j ≤ vs.length ∧ i = .int .i64 j ∧ Below w1.heap.size w1 wr ∧ wr.ownsRow w1.heap.size 9 1 v j (strRow (vs.take j))) (fun _ i _ => vs.length - (intOf i).toNat)
  case atStart => exact ⟨0, Nat.zero_le _, rfl, Below.refl _ _, World.ownsRow_nil _ _ _ _⟩
  case round =>
    obtain ⟨j, hj, rfl, hb, hrow⟩ := hrel
    have HBL := Lib.hid hb; have HROW := Lib.hid hrow
    obtain ⟨qo, co, rfl⟩ := slice_len hrow
    clear hrow
    by_cases hlt : j < vs.length
    · have hjl : j < M.b.l.length := by rw [HL.out]; exact hlt
      have hmr := HM1.out.below hb
      have c0 := hmr.cells.1
      have HVA := value_in hmr.board j hjl
      rw [HALL.out j hjl, HV.out j hjl hlt] at HVA
      have HVA := Lib.hid HVA
      have HSN := Lib.hid (strRow_snoc vs j hlt)
      have htl : (strRow (vs.take j)).length = j := by unfold strRow; simp; omega
      have hs1 : w1.heap.size ≤ wr.heap.size := hb.size
      generalize vs[j] = x at *
      generalize strRow (vs.take j) = out at *
      clear hb hmr hjl c2
      go_wp2_with fail
      refine HVA.out.mono ?_
      rintro e wb ⟨rfl, rfl⟩
      clear HVA
      go_wp2_with (at_builtin; refine wpList_append_lies _ rfl _ _ _ rfl w1.heap.size 9 i0 _ 1 16 Tryd.underlying48 hi0 hz0 hz1 hz2 rfl (by omega) (.slice qo j co) j out rfl (HROW.out.alloc _) ⟨wr.heap.size, 0, none⟩ 1 1 [.string (bs x)] rfl rfl (World.news_of_block (cs := #[.string (bs x)]) (t := 9) (fr := (0, 0)) (heap_alloc_new wr _)) (fun u hu => by simp at hu; subst hu; rfl) (by omega) (by unfold maxLen; omega) (by omega) (by simp; omega) (wr.heap.size + 1) (by simp) ?_; intro gg cap2 w2 hown2 hgrow hat hlt2; have HOWN2 := Lib.hid hown2; have HGROW := Lib.hid hgrow; clear hown2 hgrow hat hlt2)
      go_roundw
      case rel =>
        refine ⟨j + 1, by omega, by go_num, ((HBL.out.alloc hs1 _).grown HGROW.out (by simp; omega) (fun i e => row_base HROW.out e)), ?_⟩
        rw [HSN.out]
        exact HOWN2.out
      case measure => simp [intOf]; omega
    · obtain rfl : j = vs.length := by omega
      have hrow := HROW.out
      rw [List.take_length] at hrow
      obtain ⟨ia, ic, ie, iat⟩ := strs_of_row rfl hrow
      injection ie with ie1 ie0 ie2
      subst ie1; subst ie2
      have HIA := Lib.hid iat
      clear iat ie0 hrow hb
      go_wp2_with fail
      go_ret2
      exact ⟨qo, co, rfl, HIA.out, HB1.out.trans (HBL.out.mono hs0)⟩
set_option maxRecDepth 100000 in
set_option maxHeartbeats 1000000 in
theorem same01_any (a c : Option Addr) (cap cap' : Nat) (l m : List (List UInt8)) (w : World) (ha : StrsAt w a l) (hc : StrsAt w c m) (hl : l.length ≤ 1000000000) (hm : m.length ≤ 1000000000) :
    Calls Tryd.prog 20 #[.slice a l.length cap, .slice c m.length cap'] w fun e w' => e = .returned (.bool (decide (l = m))) ∧ Below w.heap.size w w' := by
  by_cases hlen : l.length = m.length
  · have HA := Lib.hid ha; have HC := Lib.hid hc
    have hlb : (l.length != m.length) = false := by simpa using hlen
    have HLEN := Lib.hid hlen
    have hle : m.length ≤ l.length := by omega
    have hge : l.length ≤ m.length := by omega
    clear ha hc hlen
    go_enter Tryd.func20, Tryd.ntmps20
    go_wp2_with fail
    go_loopw [5] (fun i wr => ∃ k : Nat, k ≤ l.length ∧ i = .int .i64 k ∧ Below w.heap.size w wr ∧ l.take k = m.take k) (fun i _ => l.length - (intOf i).toNat)
    case atStart => exact ⟨0, Nat.zero_le _, rfl, Below.refl _ _, by simp⟩
    case round =>
      obtain ⟨k, hk, rfl, hb, htk⟩ := hrel
      have HB := Lib.hid hb; have HTK := Lib.hid htk
      clear hb htk
      by_cases hlt : k < l.length
      · have hlt2 : k < m.length := by omega
        obtain ⟨q1, hi1, hc1, _⟩ := (HA.out.below HB.out).index Tryd.prog 48 9 Tryd.underlying48 (by kernel_rfl) cap k hlt
        obtain ⟨q2, hi2, hc2, _⟩ := (HC.out.below HB.out).index Tryd.prog 48 9 Tryd.underlying48 (by kernel_rfl) cap' k hlt2
        have HEQ := Lib.hid (show l[k] = m[k] → l.take (k + 1) = m.take (k + 1) from fun h => by rw [List.take_succ_eq_append_getElem hlt, List.take_succ_eq_append_getElem hlt2, HTK.out, h])
        have HNE := Lib.hid (show ¬ l[k] = m[k] → ¬ l = m from fun h e => h (by subst e; rfl))
        generalize l[k] = x, m[k] = y at *
        have hd1 := HB.out.drew
        by_cases hxy : x = y
        · have HE := Lib.hid (HEQ.out hxy)
          subst hxy
          clear HEQ HNE
          go_wp2_with fail
          go_region
          go_wp2_with fail
          go_roundw
          case rel => exact ⟨k + 1, by omega, by go_num, HB.out.drew, HE.out⟩
          case measure => simp [intOf]; omega
        · have hb1 : (x == y) = false := by simp [hxy]
          have hb2 : (x != y) = true := by simp [hxy]
          have HE := Lib.hid (HNE.out hxy)
          clear hxy HEQ HNE
          go_wp2_with fail
          go_region
          go_wp2_with fail
          go_ret
          exact ⟨by rw [decide_eq_false HE.out]; rfl, HB.out.drew⟩
      · obtain rfl : k = l.length := by omega
        have HE := Lib.hid (show l = m from by
          have h := HTK.out
          rw [List.take_length, HLEN.out, List.take_length] at h
          exact h)
        go_wp2_with fail
        go_ret
        exact ⟨by rw [decide_eq_true HE.out]; rfl, HB.out⟩
  · have HNE := Lib.hid (show ¬ l = m from fun e => hlen (by rw [e]))
    have hlb : (l.length != m.length) = true := by simpa using hlen
    clear ha hc hlen
    go_enter Tryd.func20, Tryd.ntmps20
    go_wp2_with fail
    go_ret
    exact ⟨by rw [decide_eq_false HNE.out]; rfl, Below.refl _ _⟩
end
end Go.Proofs.YtgmhglcdifhimaaDoor
