/- maslinref30: May, New, walked. -/
import Derived.Test.YtgmhglcdifhimaaDoorTaskRefO
import Derived.Deep.AppendLies
namespace Go.Proofs.YtgmhglcdifhimaaDoor
open Go.RowKit Go.Maps Go.Sort
open Tsk

/-- Whether tasks may be. -/
def MayPost (w : World) (L : List (List Int)) (r : Int) (e : Ending) (w' : World) : Prop := ∃ v : Bool, e = .returned (.bool v) ∧ (v = true ↔ MayB L r) ∧ Below w.heap.size w w'
theorem mayPost_no {w w' : World} {L : List (List Int)} {r : Int} {e : Ending} (h : ¬ MayB L r) (he : e = .returned (.bool false)) (hb : Below w.heap.size w w') : MayPost w L r e w' := ⟨false, he, ⟨fun h => (by cases h), fun h2 => absurd h2 h⟩, hb⟩
theorem mayPost_yes {w w' : World} {L : List (List Int)} {r : Int} {e : Ending} (h : MayB L r) (he : e = .returned (.bool true)) (hb : Below w.heap.size w w') : MayPost w L r e w' := ⟨true, he, ⟨fun _ => h, fun _ => rfl⟩, hb⟩
set_option maxRecDepth 100000 in
set_option maxHeartbeats 8000000 in
theorem rmay30_any (a : Option Addr) (cap : Nat) (L : List (List Int)) (r : Int) (w : World) (hL : NeedsAt w a L) (hlen : L.length ≤ 1000) (hrows : ∀ l ∈ L, l.length ≤ 1000) :
    Calls Tryd.prog 46 #[.slice a L.length cap, .int .i64 r] w (MayPost w L r) := by
  by_cases h2 : r < 0
  · have HNO := Lib.hid (show ¬ MayB L r from fun h => by have := h.2.1; omega)
    go_enter Tryd.func46, Tryd.ntmps46
    go_wp2_with fail
    go_ret
    exact mayPost_no HNO.out rfl (Below.refl _ _)
  by_cases h3 : 8 < r
  · have HNO := Lib.hid (show ¬ MayB L r from fun h => by have := h.2.2.1; omega)
    go_enter Tryd.func46, Tryd.ntmps46
    go_wp2_with fail
    go_ret
    exact mayPost_no HNO.out rfl (Below.refl _ _)
  have HL := Lib.hid hL; have HR := Lib.hid hrows
  clear hL hrows
  go_enter Tryd.func46, Tryd.ntmps46
  go_wp2_with fail
  go_loopw [5] (fun i wr => ∃ j : Nat, j ≤ L.length ∧ i = .int .i64 j ∧ Below w.heap.size w wr ∧ ∀ t, t < j → (h : t < L.length) → OkRow t L[t]) (fun i _ => L.length - (intOf i).toNat)
  case atStart => exact ⟨0, Nat.zero_le _, rfl, Below.refl _ _, fun t ht => by omega⟩
  case round =>
    obtain ⟨j, hj, rfl, hb, hall⟩ := hrel
    have HALL := Lib.hid hall; have HB := Lib.hid hb
    clear hall hb
    by_cases hlt : j < L.length
    · have HIX := Lib.hid (fun (V : World) (hb : Below w.heap.size w V) => (HL.out.below hb).index cap j hlt)
      have hl3 := HR.out _ (List.getElem_mem hlt)
      have HNX := Lib.hid (show OkRow j L[j] → ∀ t, t < j + 1 → (h : t < L.length) → OkRow t L[t] from fun h t ht h' => by
        by_cases e : t = j
        · subst e; exact h
        · exact HALL.out t (by omega) h')
      have HBAD := Lib.hid (show ¬ OkRow j L[j] → ¬ MayB L r from fun h hm => h (hm.2.2.2 j hlt))
      generalize L[j] = l at *
      go_wp2_with fail
      go_loopw [6] (fun i wr => ∃ k : Nat, k ≤ l.length ∧ i = .int .i64 k ∧ Below w.heap.size w wr ∧ OkRow j (l.take k)) (fun i _ => l.length - (intOf i).toNat)
      case atStart => exact ⟨0, Nat.zero_le _, rfl, HB.out, fun n hn => by simp at hn, by simp⟩
      case round =>
        clear HB
        obtain ⟨k, hk, rfl, hb, hrow⟩ := hrel
        have HB := Lib.hid hb; have HROW := Lib.hid hrow
        obtain ⟨q, hix, v, hq, ⟨na, ncap, rfl, hna, _⟩, _, _⟩ := HIX.out _ hb
        have HNA := Lib.hid hna
        clear hb hrow hna
        by_cases hkl : k < l.length
        · obtain ⟨qx, hixx, hcx⟩ := HNA.out.index ncap k hkl
          have HNO := Lib.hid (okRow_no (t := j) hkl)
          have HTX := Lib.hid (take_snocI l k hkl)
          have HDUP := Lib.hid (show ∀ n, n < k → (h : n < l.length) → l[n] = l[k] → l[k] ∈ l.take k from fun n hn h e => by
            rw [← e]
            exact List.mem_take_iff_getElem.2 ⟨n, by omega, rfl⟩)
          have HMEM := Lib.hid (show (∀ n, n < k → (h : n < l.length) → l[n] ≠ l[k]) → l[k] ∉ l.take k from fun h hm => by
            obtain ⟨i, hi, e⟩ := List.getElem_of_mem hm
            rw [List.length_take] at hi
            rw [List.getElem_take] at e
            exact h i (by omega) (by omega) e)
          obtain ⟨x, hx⟩ : ∃ x, l[k] = x := ⟨_, rfl⟩
          rw [hx] at hcx HNO HTX HDUP HMEM
          clear hx
          by_cases hx0 : x < 0
          · have HN := Lib.hid (HBAD.out (HNO.out (.inl hx0)))
            go_wp2_with fail
            go_ret
            exact mayPost_no HN.out rfl HB.out
          · by_cases hxj : (j : Int) ≤ x
            · have HN := Lib.hid (HBAD.out (HNO.out (.inr (.inl hxj))))
              go_wp2_with fail
              go_ret
              exact mayPost_no HN.out rfl HB.out
            · have hxj' : x < (j : Int) := by omega
              have hx0' : 0 ≤ x := by omega
              obtain ⟨w0, hw0⟩ : ∃ w0, w0 = wr := ⟨_, rfl⟩
              subst hw0
              go_wp2_with fail
              go_loopw [7] (fun i wx => ∃ n : Nat, n ≤ k ∧ i = .int .i64 n ∧ Below w0.heap.size w0 wx ∧ ∀ n', n' < n → (h : n' < l.length) → l[n'] ≠ x) (fun i _ => k - (intOf i).toNat)
              case atStart => exact ⟨0, Nat.zero_le _, rfl, Below.refl _ _, fun n' hn => by omega⟩
              case round =>
                obtain ⟨n, hn, rfl, hbx, hne⟩ := hrel
                have HBX := Lib.hid hbx; have HNE := Lib.hid hne
                by_cases hlt3 : n < k
                · have hnl : n < l.length := by omega
                  obtain ⟨qn, hixn, hcn⟩ := (HNA.out.below' hbx).index ncap n hnl
                  have hq2 := (hbx.cell (block_lt_of_cell hq)).trans hq
                  have hcx2 := (hbx.cell (block_lt_of_cell hcx)).trans hcx
                  have HD := Lib.hid (show l[n] = x → ¬ MayB L r from fun e => HBAD.out (HNO.out (.inr (.inr (HDUP.out n hlt3 hnl e)))))
                  have HX2 := Lib.hid (show l[n] ≠ x → ∀ n', n' < n + 1 → (h : n' < l.length) → l[n'] ≠ x from fun h n' hn' h' => by
                    by_cases e : n' = n
                    · subst e; exact h
                    · exact HNE.out n' (by omega) h')
                  generalize l[n] = y at *
                  clear hbx hne hnl
                  by_cases hyx : y = x
                  · have hb1 : (y == x) = true := by simpa using hyx
                    have HN := Lib.hid (HD.out hyx)
                    clear hyx HD HX2
                    go_wp2_with fail
                    go_region
                    go_wp2_with fail
                    go_ret
                    exact mayPost_no HN.out rfl (HB.out.trans (HBX.out.drew.mono HB.out.size))
                  · have hb1 : (y == x) = false := by simpa using hyx
                    have HN := Lib.hid (HX2.out hyx)
                    clear hyx HD HX2
                    go_wp2_with fail
                    go_region
                    go_wp2_with fail
                    go_roundw
                    case rel => exact ⟨n + 1, by omega, by go_num, HBX.out.drew, HN.out⟩
                    case measure => simp [intOf]; omega
                · obtain rfl : n = k := by omega
                  have HRW := Lib.hid (show OkRow j (l.take (n + 1)) by rw [HTX.out]; exact okRow_snoc HROW.out hx0' hxj' (HMEM.out hne))
                  clear hbx hne
                  go_wp2_with fail
                  go_roundw
                  case rel => exact ⟨n + 1, by omega, by go_num, HB.out.trans (HBX.out.mono HB.out.size), HRW.out⟩
                  case measure => simp [intOf]; omega
        · obtain rfl : k = l.length := by omega
          have hrow := HROW.out
          rw [List.take_length] at hrow
          have HNN := Lib.hid (HNX.out hrow)
          clear hrow
          go_wp2_with fail
          go_roundw
          case rel => exact ⟨j + 1, by omega, by go_num, HB.out, HNN.out⟩
          case measure => simp [intOf]; omega
    · obtain rfl : j = L.length := by omega
      have HM := Lib.hid (show MayB L r from ⟨by omega, by omega, by omega, fun t ht => HALL.out t ht ht⟩)
      go_wp2_with fail
      go_ret
      exact mayPost_yes HM.out rfl HB.out
section
variable {w w' w1 w2 : World} {r : Nat} {lv tv : Value} {nvs : List Value} {b : Board} {k : Nat}
/-- The document's board has one task more. -/
theorem RefB.push {W : World} (h : RefB w r lv tv nvs b) (hb : Below w.heap.size w W) {nv : Value} {ns : List Nat} (hn : NumsOk W nv ns) (hgrow : W.grownBy w2 lv.ownBlock) {gg cap n : Nat} (hlen : n = b.l.length + 1)
    (hown : w2.ownsRow 0 108 4 (.slice (some ⟨gg, 0, none⟩) n cap) n (allCells nvs b.l ++ oneCells nv ⟨ns, false, [], 0⟩)) :
    RefB (w2.setCell ⟨r, 0, none⟩ (.slice (some ⟨gg, 0, none⟩) n cap)) r (.slice (some ⟨gg, 0, none⟩) n cap) tv (nvs ++ [nv]) { b with l := b.l ++ [⟨ns, false, [], 0⟩] } := by
  subst hlen
  have hB := h.below hb
  have u2 : Upd (fun k => lv.ownBlock = some k) W w2 := Upd.of_grownBy (F := fun k => lv.ownBlock = some k) hgrow (fun k e => e)
  have hone : ∀ g, lv.ownBlock = some g → BlkOf W g 108 := fun g hg => ownsRow_blk hB.row hg
  have hu : Upd (fun k => k = r) w2 (w2.setCell ⟨r, 0, none⟩ (.slice (some ⟨gg, 0, none⟩) (b.l.length + 1) cap)) := (Upd.refl (fun k => k = r) w2).setCell (p := ⟨r, 0, none⟩) (.inl rfl) _
  have hs2 : w2.heap[r]? = some (.cells #[lv, tv, .int .i64 (b.retries : Int), .int .i64 (match b.failed with | some t => (t : Int) | none => -1)] 106) :=
    (u2.block r (blk_lt hB.struct) (fun e => hB.notR (hone r e) (by decide) rfl)).trans hB.struct
  have hbr2 : BlkOf w2 r 106 := ⟨_, _, hs2⟩
  have hnr : ∀ {g : Nat} {t : TypeId}, BlkOf w2 g t → t ≠ 106 → g ≠ r := fun hb ht e => BlkOf.ne (e ▸ hb) hbr2 ht rfl
  have htr2 := ownsRow_upd hB.tries u2 (fun g hg e => BlkOf.ne (hone g e) (ownsRow_blk hB.tries hg) (by decide) rfl)
  refine ⟨?_, ?_, ownsRow_upd htr2 hu (fun g hg => hnr (ownsRow_blk htr2 hg) (by decide)), ?_, fun i hi hi' => ?_⟩
  · rw [heap_setCell_same w2 r 0 _ _ (.slice (some ⟨gg, 0, none⟩) (b.l.length + 1) cap) hs2]
    rfl
  · rw [allCells_snoc nvs b.l h.nlen]
    rw [show ({ b with l := b.l ++ [⟨ns, false, [], 0⟩] } : Board).l.length = b.l.length + 1 from by simp]
    exact ownsRow_upd hown hu (fun g hg => hnr (ownsRow_blk hown hg) (by decide))
  · simp [h.nlen]
  · have hup : ∀ {v : Value} {l : List Nat}, NumsOk W v l → NumsOk (w2.setCell ⟨r, 0, none⟩ (.slice (some ⟨gg, 0, none⟩) (b.l.length + 1) cap)) v l := fun hv => by
      have h1 := hv.upd u2 (fun k hk e => BlkOf.ne (hone k e) hk (by decide) rfl)
      exact h1.upd hu (fun k hk => hnr hk (by decide))
    by_cases hi2 : i < b.l.length
    · have hi3 : i < nvs.length := by rw [h.nlen]; exact hi2
      simp only [List.getElem_append_left hi2, List.getElem_append_left hi3]
      exact hup (hB.needs i hi2 hi3)
    · have e : i = b.l.length := by simp at hi; omega
      subst e
      have e3 : (nvs ++ [nv])[b.l.length]'hi' = nv := by
        rw [List.getElem_append_right (by rw [h.nlen]; exact Nat.le_refl _)]
        simp
      simp only [e3, List.getElem_append_right (Nat.le_refl _), Nat.sub_self, List.getElem_cons_zero]
      exact hup hn
theorem ref_made (w : World) (r : Nat) : RefB (w.alloc (.cells #[.slice none 0 0, .slice none 0 0, .int .i64 (r : Int), .int .i64 (-1)] 106)) w.heap.size (.slice none 0 0) (.slice none 0 0) [] (Board.new (natsL []) r) := by
  refine ⟨heap_alloc_new w _, ?_, ?_, rfl, fun i hi => absurd hi (Nat.not_lt_zero i)⟩
  · show World.ownsRow _ 0 _ 4 (.slice none 0 0) 0 (allCells [] [])
    rw [allCells_nil]
    exact World.ownsRow_nil _ _ _ _
  · show World.ownsRow _ 0 _ 2 (.slice none 0 0) 0 (tryCells [])
    rw [tryCells_nil]
    exact World.ownsRow_nil _ _ _ _
end
def RefMade (w : World) (b : Board) (e : Ending) (w' : World) : Prop := ∃ r, e = .returned (.pointer (some ⟨r, 0, none⟩)) ∧ TRefAt w' r b ∧ Below w.heap.size w w' ∧ w.heap.size ≤ r
set_option maxRecDepth 100000 in
set_option maxHeartbeats 8000000 in
theorem rnew30_any (a : Option Addr) (cap : Nat) (L : List (List Int)) (r : Nat) (w : World) (hL : NeedsAt w a L) (hlen : L.length ≤ 4096) (hok : OkNeeds L) :
    Calls Tryd.prog 47 #[.slice a L.length cap, .int .i64 (r : Int)] w (RefMade w (Board.new (natsL L) r)) := by
  obtain ⟨i0, hi0, hz0, hz1, hz2⟩ := info_parts rtask_info
  have HL := Lib.hid hL; have HOK := Lib.hid hok
  clear hL hok
  go_enter Tryd.func47, Tryd.ntmps47
  go_wp2_with fail
  go_loopw [6] (fun i wr => ∃ (j : Nat) (lv : Value) (nvs : List Value), j ≤ L.length ∧ i = .int .i64 j ∧ RefB wr w.heap.size lv (.slice none 0 0) nvs (Board.new (natsL (L.take j)) r) ∧ Below w.heap.size w wr ∧ (∀ g, lv.ownBlock = some g → w.heap.size ≤ g)) (fun i _ => L.length - (intOf i).toNat)
  case atStart => exact ⟨0, .slice none 0 0, [], Nat.zero_le _, rfl, ref_made w r, (Below.refl _ _).alloc (Nat.le_refl _) _, fun g e => by simp [Value.ownBlock] at e⟩
  case round =>
    obtain ⟨j, lv, nvs, hj, rfl, hB, hb, hnew⟩ := hrel
    have HB := Lib.hid hB; have HBL := Lib.hid hb; have HNEW := Lib.hid hnew
    by_cases hlt : j < L.length
    · obtain ⟨q, hidx, v, hq, hin⟩ := (HL.out.below hb).index cap j hlt
      obtain ⟨⟨na, ncap, rfl, hna, hnc⟩, _, _⟩ := hin
      have HTK := Lib.hid (natsL_take L j hlt)
      have HROWF := Lib.hid (HOK.out j hlt)
      have hslim := HROWF.out.slim (by omega : j ≤ 4096)
      generalize L[j] = l at *
      have HNA := Lib.hid hna; have HNC := Lib.hid hnc
      have c0 : wr.cell? ⟨w.heap.size, 0, none⟩ = some lv := hB.cells.1
      have cf0 : wr.frozen? ⟨w.heap.size, 0, none⟩ = false := hB.cells.2.2.2.2 0
      have hlt0 : w.heap.size < wr.heap.size := blk_lt hB.struct
      have hne : lv.ownBlock ≠ some w.heap.size := fun e => hB.notR (ownsRow_blk hB.row e) (by decide) rfl
      have hln : (Board.new (natsL (L.take j)) r).l.length = j := by unfold Board.new natsL; simp; omega
      have hrow0 := hB.row
      rw [hln] at hrow0
      have HLN := Lib.hid hln
      have HROW0 := Lib.hid hrow0
      clear hB hb hnew hna hnc hrow0 hln
      go_wp2_with fail
      go_region_law
        (first
          | ((refine step_copy_ints (by rfl) _ _ (by rfl) (by rfl) na ncap l (by rfl) (IntsAt.below' HNA.out (Below.refl _ _).drew) HNC.out (by omega) ?_; intro v' w1 hin1; obtain ⟨qa, cc, rfl⟩ := slice_len hin1.row; have hb1 := hin1.below; have hown1 : w1.ownsRow 0 108 4 lv j (allCells nvs (Board.new (natsL (L.take j)) r).l) := row_below HROW0.out.drew hb1; have hlt1 : w.heap.size < w1.heap.size := Nat.lt_of_lt_of_le hlt0 hb1.size; have c1 := (hb1.cell (p := ⟨w.heap.size, 0, none⟩) hlt0).trans c0; have cf1 := (hb1.frozen (p := ⟨w.heap.size, 0, none⟩) hlt0).trans cf0))
          | ((refine step_append_lies _ (by rfl) _ _ _ (by rfl) 0 108 i0 _ 4 56 Tryd.underlying103 hi0 hz0 hz1 hz2 (by rfl) (by omega) lv j (allCells nvs (Board.new (natsL (L.take j)) r).l) (by rfl) (hown1.alloc _) ⟨w1.heap.size, 0, none⟩ 1 1 [.slice qa l.length cc, .bool false, .string ⟨#[]⟩, .int .i64 0] (by rfl) (by rfl) (World.news_of_block (cs := #[.slice qa l.length cc, .bool false, .string ⟨#[]⟩, .int .i64 0]) (t := 108) (fr := (0, 0)) (heap_alloc_new w1 _)) (new_one _ _ _) (by omega) (by unfold maxLen; omega) (by omega) (by omega) (w1.heap.size + 1) (by simp) ?_; intro gg cap2 w2 hown2 hgrow hat hlt2; have hfz2 := (hgrow.frozen_far ⟨w.heap.size, 0, none⟩ (lt_alloc hlt1 _) (Ne.symm hne)).trans ((((Below.refl w1.heap.size w1).alloc (Nat.le_refl _) (Obj.cells #[.slice qa l.length cc, .bool false, .string ⟨#[]⟩, .int .i64 0] 108)).frozen (p := ⟨w.heap.size, 0, none⟩) hlt1).trans cf1); have hc2 := (hgrow.cell_far ⟨w.heap.size, 0, none⟩ (lt_alloc hlt1 _) (Ne.symm hne)).trans ((((Below.refl w1.heap.size w1).alloc (Nat.le_refl _) (Obj.cells #[.slice qa l.length cc, .bool false, .string ⟨#[]⟩, .int .i64 0] 108)).cell (p := ⟨w.heap.size, 0, none⟩) hlt1).trans c1)))
          | fail "X")
      all_goals
        have h0 : Below wr.heap.size wr w1 := ((Below.refl _ wr).drew).trans (hb1.mono (Nat.le_refl _))
        have h1 := h0.alloc h0.size (Obj.cells #[.slice qa l.length cc, .bool false, .string ⟨#[]⟩, .int .i64 0] 108)
        have hsz : w.heap.size ≤ wr.heap.size := by omega
        have h3 : Below w.heap.size w w2 := (HBL.out.trans (h1.mono hsz)).grown hgrow (by rw [World.size_alloc]; omega) (fun k e => HNEW.out k e)
        have hnum := (NumsOk.of_clone hin1 HROWF.out).below ((Below.refl _ w1).alloc (Nat.le_refl _) (Obj.cells #[.slice qa l.length cc, .bool false, .string ⟨#[]⟩, .int .i64 0] 108))
        have hpush := HB.out.push h1 hnum hgrow (gg := gg) (cap := cap2) (n := j + 1) (by rw [HLN.out]) hown2
        rw [← new_snoc, ← HTK.out] at hpush
        have H3 := Lib.hid h3; have H4 := Lib.hid hpush; have HAT := Lib.hid hat
        have HL1 := Lib.hid (show wr.heap.size ≤ w1.heap.size from hb1.size)
        clear h0 h1 h3 hnum hpush hown2 hgrow hb1 hown1 hin1 hat
        go_wp2_with fail
        go_roundw
        case rel =>
          refine ⟨j + 1, .slice (some ⟨gg, 0, none⟩) (j + 1) cap2, nvs ++ [.slice qa l.length cc], by omega, by go_num, H4.out, H3.out.setCell (p := ⟨w.heap.size, 0, none⟩) (Nat.le_refl _) _, fun g e => ?_⟩
          simp [Value.ownBlock] at e
          subst e
          rcases HAT.out with hat | hat
          · exact HNEW.out _ hat
          · have := HL1.out; omega
        case measure => simp [intOf]; omega
    · obtain rfl : j = L.length := by omega
      rw [List.take_length] at HB
      clear hB hb hnew
      go_wp2_with fail
      go_ret
      exact ⟨w.heap.size, rfl, ⟨_, _, _, HB.out⟩, HBL.out, Nat.le_refl _⟩
end Go.Proofs.YtgmhglcdifhimaaDoor
