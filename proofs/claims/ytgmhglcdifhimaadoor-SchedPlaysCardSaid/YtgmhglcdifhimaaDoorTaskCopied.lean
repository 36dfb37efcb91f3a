/- maslinlaw30.Copied, walked. -/
import Derived.Test.YtgmhglcdifhimaaDoorTaskHead
import Derived.Deep.AppendLies
namespace Go.Proofs.YtgmhglcdifhimaaDoor
open Go.RowKit Go.Maps Go.Sort
open Tsk

/-- Rows of numbers of one's own. -/
structure RowsOwn (w : World) (base : Nat) (v : Value) (cs : List Value) (L : List (List Int)) : Prop where
  row : w.ownsRow base 31 1 v L.length cs
  len : cs.length = L.length
  one : ∀ u ∈ cs, u.oneCell' = true
  rows : ∀ i (h : i < L.length) (h' : i < cs.length), w.ownsRow base 3 1 cs[i] L[i].length (L[i].map encZ)
theorem RowsOwn.needs {w : World} {base : Nat} {v : Value} {cs : List Value} {L : List (List Int)} (h : RowsOwn w base v cs L) (hw : ∀ l ∈ L, l.length ≤ 140737488355328 ∧ ∀ x ∈ l, (Lit.int .i64 x).wf = true) : ∃ a cap, v = .slice a L.length cap ∧ NeedsAt w a L := by
  obtain ⟨a, cap, rfl⟩ := slice_len h.row
  refine ⟨a, cap, rfl, fun i hi => ?_⟩
  rcases h.row.2 with ⟨e1, e2⟩ | ⟨g, cap', cur, e1, _⟩
  · omega
  · injection e1 with e1 _ _
    subst e1
    have hi2 : i < cs.length := by rw [h.len]; exact hi
    refine ⟨_, cs[i], rfl, h.row.cells (g := g) rfl i _ (List.getElem?_eq_getElem hi2), ints_of_row (h.rows i hi hi2), (hw _ (List.getElem_mem hi)).1, (hw _ (List.getElem_mem hi)).2⟩
theorem int_nums_ne : 3 ≠ 31 := by decide
/-- One row more. -/
theorem RowsOwn.push {w w1 w2 : World} {base : Nat} {v v' lv : Value} {cs : List Value} {L : List (List Int)} {l : List Int} {n : Nat} (h : RowsOwn w base v cs L) (hl : w1.ownsRow base 3 1 lv l.length (l.map encZ)) (ho : lv.oneCell' = true) (hb : Below w.heap.size w w1) (hgrow : w1.grownBy w2 v.ownBlock) (hn : n = L.length + 1)
    (hown : w2.ownsRow base 31 1 v' n (cs ++ [lv])) : RowsOwn w2 base v' (cs ++ [lv]) (L ++ [l]) := by
  subst hn
  have u2 : Upd (fun k => v.ownBlock = some k) w1 w2 := Upd.of_grownBy (F := fun k => v.ownBlock = some k) hgrow (fun k e => e)
  have hv1 := row_below h.row hb
  have hblk : ∀ g, v.ownBlock = some g → BlkOf w1 g 31 := fun g hg => ownsRow_blk hv1 hg
  have hkeep : ∀ {u : Value} {k : List Int}, w1.ownsRow base 3 1 u k.length (k.map encZ) → w2.ownsRow base 3 1 u k.length (k.map encZ) := fun hu => ownsRow_upd hu u2 (fun g hg e => BlkOf.ne (hblk g e) (ownsRow_blk hu hg) (by decide) rfl)
  refine ⟨by rw [show (L ++ [l]).length = L.length + 1 from by simp]; exact hown, by simp [h.len], fun u hu => ?_, fun i hi hi' => ?_⟩
  · rcases List.mem_append.1 hu with hu | hu
    · exact h.one u hu
    · simp at hu; subst hu; exact ho
  · by_cases hi2 : i < L.length
    · have hi3 : i < cs.length := by rw [h.len]; exact hi2
      simp only [List.getElem_append_left hi2, List.getElem_append_left hi3]
      exact hkeep (row_below (h.rows i hi2 hi3) hb)
    · have e : i = L.length := by simp at hi; omega
      subst e
      have e3 : (cs ++ [lv])[L.length]'hi' = lv := by
        rw [List.getElem_append_right (by rw [h.len]; exact Nat.le_refl _)]
        simp [h.len]
      have e4 : (L ++ [l])[L.length]'hi = l := by rw [List.getElem_append_right (Nat.le_refl _)]; simp
      simp only [e3, e4]
      exact hkeep hl
theorem row_one {w : World} {base e s : Nat} {v : Value} {n : Nat} {xs : List Value} (h : w.ownsRow base e s v n xs) : v.oneCell' = true := by
  obtain ⟨q, cap, rfl⟩ := slice_len h
  rfl
theorem nums_info : (Tryd.prog.info? 31).map (fun i => (i.zero, i.size, i.bytes)) = some (some (.slice none 0 0), 1, 24) := by kernel_rfl
def CopiedT (w : World) (L : List (List Int)) (e : Ending) (w' : World) : Prop := ∃ q cap, e = .returned (.slice q L.length cap) ∧ NeedsAt w' q L ∧ Below w.heap.size w w'
set_option maxRecDepth 100000 in
set_option maxHeartbeats 2000000 in
theorem copied30_any (a : Option Addr) (cap : Nat) (L : List (List Int)) (w : World) (hL : NeedsAt w a L) (hlen : L.length ≤ 1000) (hrows : ∀ l ∈ L, l.length ≤ 1000) :
    Calls Tryd.prog 10 #[.slice a L.length cap] w (CopiedT w L) := by
  obtain ⟨i0, hi0, hz0, hz1, hz2⟩ := info_parts nums_info
  have HL := Lib.hid hL; have HR := Lib.hid hrows
  clear hL hrows
  go_enter Tryd.func10, Tryd.ntmps10
  go_wp2_with fail
  go_loopw [3, 4] (fun v i wr => ∃ (k : Nat) (cs : List Value), k ≤ L.length ∧ i = .int .i64 k ∧ RowsOwn wr 0 v cs (L.take k) ∧ (∀ g, v.ownBlock = some g → w.heap.size ≤ g) ∧ Below w.heap.size w wr) (fun _ i _ => L.length - (intOf i).toNat)
  case atStart => exact ⟨0, [], Nat.zero_le _, rfl, ⟨World.ownsRow_nil _ _ _ _, rfl, fun u hu => (by cases hu), fun i hi => by simp at hi⟩, fun g e => by simp [Value.ownBlock] at e, Below.refl _ _⟩
  case round =>
    obtain ⟨k, cs, hk, rfl, hrow, hnew, hb⟩ := hrel
    by_cases hlt : k < L.length
    · obtain ⟨q, hix, v, hc, ⟨na, ncap, rfl, hna, hnc⟩, hl2, hwf⟩ := (HL.out.below hb).index cap k hlt
      have hl3 := HR.out _ (List.getElem_mem hlt)
      have HT := Lib.hid (List.take_succ_eq_append_getElem hlt)
      have HROW := Lib.hid hrow; have HNEW := Lib.hid hnew; have HB := Lib.hid hb; have HNA := Lib.hid hna; have HNC := Lib.hid hnc
      have HTL := Lib.hid (show (L.take k).length = k by simp; omega)
      generalize L[k] = l at *
      clear hrow hnew hb hna hnc hwf
      have hrow0 := HROW.out.row
      rw [HTL.out] at hrow0
      have HROW0 := Lib.hid hrow0
      clear hrow0
      go_wp2_with (first
        | (at_builtin; refine wpList_copy_ints rfl _ _ rfl rfl na ncap l rfl HNA.out HNC.out (by omega) ?_; intro v1 w1 hin; obtain ⟨qa, cc, rfl⟩ := slice_len hin.row; have HIN := Lib.hid hin; clear hin)
        | (at_builtin; refine wpList_append_lies _ rfl _ _ _ rfl 0 31 i0 _ 1 24 Tryd.underlying22 hi0 hz0 hz1 hz2 rfl (by omega) u3 k cs rfl ((row_below HROW0.out HIN.out.below).alloc _) ⟨w1.heap.size, 0, none⟩ 1 1 [.slice qa l.length cc] rfl rfl (World.news_of_block (cs := #[.slice qa l.length cc]) (t := 31) (fr := (0, 0)) (heap_alloc_new w1 _)) (fun u hu => by simp at hu; subst hu; rfl) (by omega) (by unfold maxLen; omega) (by omega) (by omega) (w1.heap.size + 1) (by simp) ?_; intro gg cap2 w2 hown2 hgrow hat hlt2; have HOWN2 := Lib.hid hown2; have HGROW := Lib.hid hgrow; have HAT := Lib.hid hat; clear hown2 hgrow hat))
      have hbl : Below wr.heap.size wr (w1.alloc (Obj.cells #[.slice qa l.length cc] 31)) := HIN.out.below.alloc HIN.out.below.size _
      have hw1 := HIN.out.below.size
      have hwr := HB.out.size
      go_roundw
      case rel =>
        refine ⟨k + 1, cs ++ [.slice qa l.length cc], by omega, by go_num, ?_, fun g e => ?_, ((HB.out.trans (hbl.mono hwr)).grown HGROW.out (by rw [World.size_alloc]; omega) (fun g e => HNEW.out g e))⟩
        · rw [HT.out]
          exact HROW.out.push (HIN.out.row.alloc _) rfl hbl HGROW.out (by rw [HTL.out]) HOWN2.out
        · simp [Value.ownBlock] at e
          subst e
          rcases HAT.out with h | h
          · exact HNEW.out _ h
          · omega
      case measure => simp [intOf]; omega
    · obtain rfl : k = L.length := by omega
      rw [List.take_length] at hrow
      have HROW := Lib.hid hrow; have HB := Lib.hid hb
      obtain ⟨qq, cc, rfl⟩ := slice_len hrow.row
      clear hrow hnew hb
      have HWF := Lib.hid (show ∀ l ∈ L, l.length ≤ 140737488355328 ∧ ∀ x ∈ l, (Lit.int .i64 x).wf = true from fun l hl => by
        obtain ⟨i, hi, rfl⟩ := List.getElem_of_mem hl
        obtain ⟨_, _, _, _, h2⟩ := HL.out i hi
        exact ⟨h2.len, h2.all⟩)
      go_wp2_with fail
      go_ret
      obtain ⟨q, c, e, hn⟩ := HROW.out.needs HWF.out
      exact ⟨q, c, by rw [← e]; rfl, hn, HB.out⟩
end Go.Proofs.YtgmhglcdifhimaaDoor
