/- maslinref05: Room, Same, walked. -/
import Derived.Test.YthbdflmckfgleaaRefWalOps
namespace Go.Proofs.Ythbdflmckfgleaa
open Go.RowKit Go.Maps
open Wal

theorem rwalRoom_any {w : World} {x b : Nat} {gv : Value} {L : WLog} (h : RWalIn w x b gv L) : Calls Try.prog 83 #[.pointer (some ⟨x, 0, none⟩)] w fun e w' => e = .returned (.int .i64 ((L.n - 1 - L.used : Nat) : Int)) ∧ Below w.heap.size w w' := by
  obtain ⟨c0, c1, c2, c3, c4, c5, c6, cf⟩ := h.cells
  have g1 := h.used
  have g2 := h.n
  have hv : ((L.n - 1 - L.used : Nat) : Int) = (L.n : Int) - 1 - (L.used : Int) := by omega
  have HV := Lib.hid hv
  have e1 : IntKind.i64.wrap ((L.n : Int) - 1) = (L.n : Int) - 1 := IntWalk.i64_in _ (by omega)
  have e2 : IntKind.i64.wrap ((L.n : Int) - 1 - (L.used : Int)) = (L.n : Int) - 1 - (L.used : Int) := IntWalk.i64_in _ (by omega)
  clear h hv
  go_enter Try.func83, Try.ntmps83
  go_wp2_with fail
  go_quiet (fail)
  go_wp2_with fail
  go_ret
  rw [HV.out]
  exact ⟨rfl, below_drawn _ _⟩

/-- A group, of groups. -/
theorem GroupsAt.index {w : World} {q : Option Addr} {n cap : Nat} {L : List (List (List UInt8))} (h : GroupsAt w (.slice q n cap) L) (k : Nat) (hk : k < L.length) :
    ∃ g a c, q = some ⟨g, 0, Option.none⟩ ∧ w.cell? ⟨g, k, Option.none⟩ = some (.slice a L[k].length c) ∧ TextsAt w a L[k] := by
  obtain ⟨cs, h1, h2, h3, h4⟩ := h
  have hck : k < cs.length := by rw [h2]; exact hk
  obtain ⟨a, c, e, ht⟩ := (h4 k hk hck).texts
  rcases h1.2 with ⟨e1, e2⟩ | ⟨g, cap', cur, e1, _⟩
  · omega
  · injection e1 with e1 _ _
    subst e1
    have := h1.cells (g := g) rfl k cs[k] (List.getElem?_eq_getElem hck)
    rw [add_plain, e] at this
    exact ⟨g, a, c, rfl, this, ht⟩
theorem GroupsAt.slice {w : World} {v : Value} {L : List (List (List UInt8))} (h : GroupsAt w v L) : ∃ q cap, v = .slice q L.length cap := by
  obtain ⟨cs, h1, _⟩ := h
  exact slice_len h1
theorem take_eq_step {α : Type} {l m : List α} {k : Nat} (hl : k < l.length) (hm : k < m.length) (h : l.take k = m.take k) (he : l[k] = m[k]) : l.take (k + 1) = m.take (k + 1) := by
  rw [List.take_succ_eq_append_getElem hl, List.take_succ_eq_append_getElem hm, h, he]

set_option maxRecDepth 100000 in
set_option maxHeartbeats 1000000 in
theorem rsame5_any (L M : List (List (List UInt8))) (v v' : Value) (w : World) (hl : GroupsAt w v L) (hm : GroupsAt w v' M) (h1 : L.length ≤ 1000000000) (h2 : M.length ≤ 1000000000) (ha : ∀ l ∈ L, l.length ≤ maxLen) (hb : ∀ l ∈ M, l.length ≤ maxLen) :
    Calls Try.prog 52 #[v, v'] w fun e w' => e = .returned (.bool (decide (L = M))) ∧ Below w.heap.size w w' := by
  obtain ⟨q, cap, rfl⟩ := hl.slice
  obtain ⟨q', cap', rfl⟩ := hm.slice
  by_cases hlen : L.length = M.length
  · have HL := Lib.hid hl; have HM := Lib.hid hm; have HLEN := Lib.hid hlen; have HA := Lib.hid ha; have HBB := Lib.hid hb
    have hbe : ((L.length : Int) == (M.length : Int)) = true := by simp [hlen]
    have hbn : ((L.length : Int) != (M.length : Int)) = false := by simp [hlen]
    clear hl hm hlen ha hb
    go_enter Try.func52, Try.ntmps52
    go_wp2_with fail
    go_loopw [5] (fun i wr => ∃ k : Nat, k ≤ L.length ∧ i = .int .i64 k ∧ L.take k = M.take k ∧ Below w.heap.size w wr) (fun i _ => L.length - (intOf i).toNat)
    case atStart => exact ⟨0, by omega, rfl, rfl, Below.refl _ _⟩
    case round =>
      obtain ⟨k, hk, rfl, ht, hb⟩ := hrel
      have HT := Lib.hid ht; have HB := Lib.hid hb
      clear ht
      by_cases hlt : k < L.length
      · have hltm : k < M.length := by rw [← HLEN.out]; exact hlt
        obtain ⟨g, a, c, eq1, hc, htx⟩ := HL.out.index k hlt
        obtain ⟨g', a', c', eq2, hc', htx'⟩ := HM.out.index k hltm
        have hcw := (hb.cell (block_lt_of_cell hc)).trans hc
        have hcw' := (hb.cell (block_lt_of_cell hc')).trans hc'
        subst eq1; subst eq2
        have HTX := Lib.hid (htx.below hb)
        have HTX' := Lib.hid (htx'.below hb)
        have hll : L[k].length ≤ maxLen := HA.out _ (List.getElem_mem hlt)
        have hlm : M[k].length ≤ maxLen := HBB.out _ (List.getElem_mem hltm)
        have hstep : L[k] = M[k] → L.take (k + 1) = M.take (k + 1) := take_eq_step hlt hltm HT.out
        have hne : L[k] ≠ M[k] → L ≠ M := fun h e => h (by subst e; rfl)
        have HST := Lib.hid hstep; have HNE := Lib.hid hne
        have HLL := Lib.hid (And.intro hll hlm)
        clear hb hc hc' htx htx' hstep hne hll hlm
        generalize L[k] = x at *
        generalize M[k] = y at *
        have hsm := fun (V : World) (hb : Below wr.heap.size wr V) => rsame_any x y a a' c c' V (HTX.out.below hb) (HTX'.out.below hb) HLL.out.1 HLL.out.2
        have HSM := Lib.hid hsm
        clear hsm
        go_wp2_with fail
        go_region_held3 (fun V => V.cell? ⟨g, k, none⟩ = some (.slice a x.length c) ∧ V.cell? ⟨g', k, none⟩ = some (.slice a' y.length c'))
          (first | exact ⟨hcw, hcw'⟩ | exact ⟨(HB1.out.cell (block_lt_of_cell hcw)).trans hcw, (HB1.out.cell (block_lt_of_cell hcw')).trans hcw'⟩)
          (first
            | (go_at_call 92; refine (HSM.out _ (Below.refl _ _).drew).mono ?_; rintro e wa ⟨rfl, hba⟩; have HB1 := Lib.hid ((Below.refl wr.heap.size wr).drew.trans hba); clear hba))
        by_cases hxy : x = y
        · have hd : decide (x = y) = true := by simp [hxy]
          have HR := Lib.hid (HST.out hxy)
          rw [hd]
          clear hxy hd hcw hcw'
          go_wp2_with fail
          go_roundw
          case rel => exact ⟨k + 1, by omega, by go_num, HR.out, HB.out.trans (HB1.out.mono HB.out.size)⟩
          case measure => simp [intOf]; omega
        · have hd : decide (x = y) = false := by simp [hxy]
          have HR := Lib.hid (show decide (L = M) = false by simpa using HNE.out hxy)
          rw [hd]
          clear hxy hd hcw hcw'
          go_wp2_with fail
          go_ret
          rw [HR.out]
          exact ⟨rfl, HB.out.trans (HB1.out.mono HB.out.size)⟩
      · obtain rfl : k = L.length := by omega
        have HR := Lib.hid (show decide (L = M) = true by
          have h := HT.out
          rw [List.take_of_length_le (Nat.le_refl _), List.take_of_length_le (by rw [HLEN.out]; exact Nat.le_refl _)] at h
          simpa using h)
        clear hb
        go_wp2_with fail
        go_ret
        rw [HR.out]
        exact ⟨rfl, HB.out⟩
  · have hbe : ((L.length : Int) == (M.length : Int)) = false := by simp; omega
    have hbn : ((L.length : Int) != (M.length : Int)) = true := by simp; omega
    have HR := Lib.hid (show decide (L = M) = false by simp; exact fun e => hlen (by rw [e]))
    clear hl hm hlen
    go_enter Try.func52, Try.ntmps52
    go_wp2_with fail
    go_ret
    rw [HR.out]
    exact ⟨rfl, Below.refl _ _⟩
end Go.Proofs.Ythbdflmckfgleaa
