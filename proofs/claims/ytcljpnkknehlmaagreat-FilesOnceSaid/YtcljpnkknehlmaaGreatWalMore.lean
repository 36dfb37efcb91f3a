/- maslin/wal: Need, Groups, Gen, Room, Fault, check, copied, walked. -/
import Derived.Test.YtcljpnkknehlmaaGreatWalOpen
import Derived.Test.YtcljpnkknehlmaaGreatDiskCopy
import Derived.Test.YtcljpnkknehlmaaGreatWalLaw
namespace Go.Proofs.YtcljpnkknehlmaaGreat
open Go.RowKit Go.Maps
open Wal

theorem eql_strs (w : World) (p : Option Addr) (n c : Nat) : (binOp .eql 36 (.slice p n c) (.slice none 0 0)).run Tryz.prog w = .ok (.bool p.isNone) w := by
  have h : ∀ d, (Op.equalIn (d + 1) 36 (.slice p n c) (.slice none 0 0)).run Tryz.prog w = .ok p.isNone w := fun d => by
    cases p <;> simp [Op.equalIn, run_underlying Tryz.underlying36]
  simp only [binOp]
  simp [show Op.equal 36 (.slice p n c) (.slice none 0 0) = Op.equalIn (9999 + 1) 36 (.slice p n c) (.slice none 0 0) from rfl, h 9999]
theorem empty_strs (w : World) : (w.alloc (.cells #[] 9)).ownsRow 0 9 1 (.slice (some ⟨w.heap.size, 0, none⟩) 0 0) 0 [] :=
  ⟨rfl, .inr ⟨w.heap.size, 0, #[], rfl, Nat.zero_le _, heap_alloc_new w _, Nat.le_refl _, Nat.zero_le _, rfl, rfl⟩⟩
theorem str_info3 : (Tryz.prog.info? 9).map (fun i => (i.zero, i.size, i.bytes)) = some (some (.string ByteArray.empty), 1, 16) := by kernel_rfl
theorem strCells_nil : strCells [] = [] := by unfold strCells; rfl

/-- What a copy of texts is. -/
def CopyPost (w : World) (l : List (List UInt8)) (e : Ending) (w' : World) : Prop :=
  ∃ v', e = .returned v' ∧ w'.ownsRow 0 9 1 v' l.length (strCells l) ∧ Below w.heap.size w w' ∧ ∀ g, v'.ownBlock = some g → w.heap.size ≤ g
set_option maxRecDepth 100000 in
set_option maxHeartbeats 1000000 in
theorem strclone_any (w : World) (a : Option Addr) (cap : Nat) (l : List (List UInt8)) (h : TextsAt w a l) (hlen : l.length ≤ 1000000000) :
    Calls Tryz.prog 64 #[.slice a l.length cap] w fun e w' => CopyPost w l e w' := by
  have hq := fun w => eql_strs w a l.length cap
  cases a with
  | none =>
    have e : l = [] := by
      cases l with
      | nil => rfl
      | cons x l => obtain ⟨p, hp, _⟩ := h 0 (by simp); cases hp
    subst e
    have hq0 := fun w => eql_strs w none 0 cap
    clear h hq
    go_enter Tryz.func64, Tryz.ntmps64
    go_wp2_with fail
    go_ret
    refine ⟨_, rfl, ?_, Below.refl _ _, fun g e => by simp [Value.ownBlock] at e⟩
    rw [strCells_nil]
    exact World.ownsRow_nil _ _ _ _
  | some p =>
    have hc : ∀ j u, (strCells l)[j]? = some u → w.cell? (p.add j) = some u := fun j u hj => by
      have hjl : j < l.length := by
        have := (List.getElem?_eq_some_iff.1 hj).1
        rwa [strCells_length] at this
      obtain ⟨p', hp', hcell⟩ := h j hjl
      cases hp'
      rw [strCells_get l j hjl] at hj
      rw [hcell, ← hj]
    have HC := Lib.hid hc
    have hll := strCells_length l
    have HLL := Lib.hid hll
    obtain ⟨i0, hi0, hz0, hz1, hz2⟩ := info_parts str_info3
    have hsz := World.size_alloc w (.cells #[] 9)
    clear h hc hll
    go_enter Tryz.func64, Tryz.ntmps64
    go_wp2_with (at_builtin; refine wpList_append_own_at _ rfl _ _ _ rfl 0 9 i0 _ 1 16 Tryz.underlying36 hi0 hz0 hz1 hz2 rfl (by omega) _ 0 [] rfl (empty_strs w) p l.length cap (strCells l) rfl (by rw [HLL.out]; omega) (fun j u hj => (((Below.refl w.heap.size w).alloc (Nat.le_refl _) _).cell (block_lt_of_cell (HC.out j u hj))).trans (HC.out j u hj)) (strCells_one l) (by unfold maxLen; omega) (by omega) (Nat.zero_le _) ?_; intro v' w1 hown hgrow _ hat)
    go_ret
    refine ⟨v', rfl, by rw [Nat.zero_add, List.nil_append] at hown; exact hown, ((Below.refl w.heap.size w).alloc (Nat.le_refl _) _).grown hgrow (by omega) (fun k e => by have e' : some w.heap.size = some k := e; have := Option.some.inj e'; omega), fun k hk => ?_⟩
    rcases hat with hat | hat
    · rw [hat] at hk
      have e' : some w.heap.size = some k := hk
      have := Option.some.inj e'
      omega
    · rw [hat] at hk
      have := Option.some.inj hk
      omega

/-- One more group, of groups that nobody else has. -/
theorem GroupsAt.pushed {w w1 w2 : World} {gv lv v' : Value} {L : List (List (List UInt8))} {l : List (List UInt8)} {cs : List Value} {n : Nat} (hn : n = L.length) (h : w.ownsRow 0 36 1 gv n cs) (hl : RowOk w lv l)
    (hcl : cs.length = L.length) (hc1 : ∀ u ∈ cs, u.oneCell' = true) (hcr : ∀ i (h : i < L.length) (h' : i < cs.length), RowOk w cs[i] L[i])
    (hb : Below w.heap.size w w1) (hgrow : w1.grownBy w2 gv.ownBlock) (hown : w2.ownsRow 0 36 1 v' (n + 1) (cs ++ [lv])) :
    GroupsAt w2 v' (L ++ [l]) := by
  subst hn
  have u1 : Upd (fun k => gv.ownBlock = some k) w w2 := (Upd.of_below hb).trans (Upd.of_grownBy (F := fun k => gv.ownBlock = some k) hgrow (fun k e => e)) (fun k hk => .inl hk)
  have hgb : ∀ k, BlkOf w k 9 → ¬ gv.ownBlock = some k := fun k hk e => BlkOf.ne hk (ownsRow_blk h e) (by decide) rfl
  refine ⟨cs ++ [lv], by rw [List.length_append]; exact hown, by simp [hcl], fun u hu => ?_, fun i hi hi' => ?_⟩
  · rcases List.mem_append.1 hu with hu | hu
    · exact hc1 u hu
    · rw [List.mem_singleton] at hu; subst hu; exact hl.one
  · by_cases hlt : i < L.length
    · rw [List.getElem_append_left (by omega), List.getElem_append_left hlt]
      exact (hcr i hlt (by omega)).upd u1 hgb
    · have hi2 := hi
      rw [List.length_append, List.length_singleton] at hi2
      have e : i = L.length := by omega
      rw [List.getElem_append_right (by omega), List.getElem_append_right (by omega)]
      simp only [List.getElem_singleton]
      exact hl.upd u1 hgb

/-- What a copy of groups is. -/
def CopiedPost (w : World) (L : List (List (List UInt8))) (e : Ending) (w' : World) : Prop :=
  ∃ v', e = .returned v' ∧ GroupsAt w' v' L ∧ Below w.heap.size w w' ∧ ∀ g, v'.ownBlock = some g → w.heap.size ≤ g
set_option maxRecDepth 100000 in
set_option maxHeartbeats 1000000 in
theorem copied_any (w : World) (gv : Value) (L : List (List (List UInt8))) (h : GroupsAt w gv L) (hlen : L.length ≤ 1000000) (hall : ∀ l ∈ L, l.length ≤ 1000000000) :
    Calls Tryz.prog 49 #[gv] w fun e w' => CopiedPost w L e w' := by
  obtain ⟨cs, h1, h2, h3, h4⟩ := h
  obtain ⟨qg, cg, rfl⟩ := slice_len h1
  have hcell : ∀ k, (hk : k < L.length) → ∃ g, qg = some ⟨g, 0, none⟩ ∧ ∀ v, cs[k]? = some v → w.cell? ⟨g, k, none⟩ = some v := fun k hk => by
    rcases h1.2 with ⟨e1, e2⟩ | ⟨g, cap, cur, e1, _⟩
    · omega
    · injection e1 with e1 e2 e3
      subst e1
      refine ⟨g, rfl, fun v hv => ?_⟩
      have := h1.cells (g := g) rfl k v hv
      rwa [add_plain] at this
  have HCELL := Lib.hid hcell
  have H1 := Lib.hid h1; have H2 := Lib.hid h2; have H3 := Lib.hid h3; have H4 := Lib.hid h4; have HALL := Lib.hid hall
  clear hcell h1 h2 h3 h4 hall
  go_enter Tryz.func49, Tryz.ntmps49
  go_wp2_with fail
  go_loopw [2, 7] (fun ov i wr => ∃ (k : Nat), k ≤ L.length ∧ i = .int .i64 k ∧ GroupsAt wr ov (L.take k) ∧ Below w.heap.size w wr ∧ ∀ g, ov.ownBlock = some g → w.heap.size ≤ g) (fun _ i _ => L.length - (intOf i).toNat)
  case atStart => exact ⟨0, Nat.zero_le _, rfl, GroupsAt.none _, Below.refl _ _, fun g e => by simp [Value.ownBlock] at e⟩
  case round =>
    obtain ⟨k, hk, rfl, hg, hb, hn⟩ := hrel
    have HB := Lib.hid hb; have HN := Lib.hid hn
    by_cases hlt : k < L.length
    · obtain ⟨g, rfl, hc⟩ := HCELL.out k hlt
      have hck : k < cs.length := by rw [H2.out]; exact hlt
      have hrow := H4.out k hlt hck
      have hc := hc cs[k] (List.getElem?_eq_getElem hck)
      have hc' : wr.cell? ⟨g, k, none⟩ = some cs[k] := (hb.cell (block_lt_of_cell hc)).trans hc
      have hrow' : RowOk wr cs[k] L[k] := hrow.upd (Upd.of_below (F := fun _ => False) hb) (fun _ _ f => f)
      obtain ⟨ar, cr, er, htx⟩ := hrow'.texts
      rw [er] at hc'
      have HTX := Lib.hid htx
      obtain ⟨cs', g1, g2, g3, g4⟩ := hg
      have htk : (L.take k).length = k := by rw [List.length_take]; omega
      rw [htk] at g1
      have G1 := Lib.hid g1; have G2 := Lib.hid g2; have G3 := Lib.hid g3; have G4 := Lib.hid g4
      obtain ⟨qo, co, rfl⟩ := slice_len g1
      have hlk : L[k].length ≤ 1000000000 := HALL.out _ (List.getElem_mem hlt)
      have HTK := Lib.hid htk
      have HTS : Hid (L.take (k + 1) = L.take k ++ [L[k]]) := Lib.hid (List.take_succ_eq_append_getElem hlt)
      generalize L[k] = l at *
      obtain ⟨i0, hi0, hz0, hz1, hz2⟩ := info_parts rows_info
      clear hb hn hc hrow hrow' htx g1 g2 g3 g4 htk er
      go_wp2_with fail
      refine (strclone_any wr ar cr l HTX.out hlk).mono ?_
      rintro e w1 ⟨lv, rfl, hown1, hb1, hn1⟩
      have HB1 := Lib.hid (HB.out.trans (hb1.mono HB.out.size))
      have HR1 := Lib.hid (RowOk.of_row hown1)
      obtain ⟨ql, cl, rfl⟩ := slice_len hown1
      have u1 := Upd.of_below (F := fun _ => False) hb1
      have G1' := Lib.hid (ownsRow_upd G1.out u1 (fun _ _ f => f))
      have G4' := Lib.hid (fun i (h : i < (L.take k).length) (h' : i < cs'.length) => (G4.out i h h').upd u1 (fun _ _ f => f))
      clear hown1 hb1 hn1 u1
      go_wp2_with (
        at_builtin
        refine wpList_append_own_at _ rfl _ _ _ rfl 0 36 i0 _ 1 24 Tryz.underlying63 hi0 hz0 hz1 hz2 rfl (by omega) (.slice qo k co) k cs' rfl (G1'.out.alloc _) ⟨w1.heap.size, 0, none⟩ 1 1 [.slice ql l.length cl] rfl rfl (World.news_of_block (cs := #[.slice ql l.length cl]) (t := 36) (fr := (0, 0)) (heap_alloc_new w1 _)) (fun u hu => by rw [List.mem_singleton] at hu; subst hu; exact HR1.out.one) (by unfold maxLen; omega) (by omega) (Nat.zero_le _) ?_
        intro v' w2 hown hgrow _ hat
        have HG2 := Lib.hid (GroupsAt.pushed HTK.out.symm G1'.out HR1.out G2.out G3.out G4'.out ((Below.refl w1.heap.size w1).alloc (Nat.le_refl _) _) hgrow hown)
        have HB2 := Lib.hid ((HB1.out.alloc HB1.out.size _).grown hgrow (Nat.le_trans HB1.out.size (by rw [World.size_alloc]; omega)) HN.out)
        have HN2 := Lib.hid (show ∀ g, v'.ownBlock = some g → w.heap.size ≤ g from fun g hg => by
          rcases hat with hat | hat
          · rw [hat] at hg; exact HN.out g hg
          · rw [hat] at hg
            have := Option.some.inj hg
            rw [World.size_alloc] at this
            have := HB1.out.size
            omega)
        clear hown hgrow hat)
      go_roundw
      case rel => exact ⟨k + 1, by omega, by go_num, by rw [HTS.out]; exact HG2.out, HB2.out, HN2.out⟩
      case measure => simp [intOf]; omega
    · obtain rfl : k = L.length := by omega
      have HG := Lib.hid hg
      clear hg hb hn
      go_wp2_with fail
      go_ret
      exact ⟨_, rfl, by have := HG.out; rwa [List.take_of_length_le (Nat.le_refl _)] at this, HB.out, HN.out⟩

section
variable {w : World} {x b : Nat} {gv : Value} {L : WLog}
theorem walGen_any (h : WalIn w x b gv L) : Calls Tryz.prog 19 #[.pointer (some ⟨x, 0, none⟩)] w fun e w' => e = .returned (.int .u64 (L.gen : Int)) ∧ w = w' := by
  obtain ⟨c0, c1, c2, c3, c4, c5, c6, cf⟩ := h.cells
  clear h
  go_enter Tryz.func19, Tryz.ntmps19
  go_wp2_with fail
  go_ret
  exact ⟨rfl, rfl⟩
theorem walCheck_any (h : WalIn w x b gv L) : Calls Tryz.prog 50 #[.pointer (some ⟨x, 0, none⟩)] w fun e w' => e = .returned (.int .i64 L.fault) ∧ w = w' := by
  obtain ⟨c0, c1, c2, c3, c4, c5, c6, cf⟩ := h.cells
  clear h
  go_enter Tryz.func50, Tryz.ntmps50
  go_wp2_with fail
  go_ret
  exact ⟨rfl, rfl⟩
theorem walRoom_any (h : WalIn w x b gv L) : Calls Tryz.prog 31 #[.pointer (some ⟨x, 0, none⟩)] w fun e w' => e = .returned (.int .i64 ((L.n - 1 - L.used : Nat) : Int)) ∧ Below w.heap.size w w' := by
  obtain ⟨c0, c1, c2, c3, c4, c5, c6, cf⟩ := h.cells
  have g1 := h.used
  have g2 := h.n
  have hv : ((L.n - 1 - L.used : Nat) : Int) = (L.n : Int) - 1 - (L.used : Int) := by omega
  have HV := Lib.hid hv
  have e1 : IntKind.i64.wrap ((L.n : Int) - 1) = (L.n : Int) - 1 := IntWalk.i64_in _ (by omega)
  have e2 : IntKind.i64.wrap ((L.n : Int) - 1 - (L.used : Int)) = (L.n : Int) - 1 - (L.used : Int) := IntWalk.i64_in _ (by omega)
  clear h hv
  go_enter Tryz.func31, Tryz.ntmps31
  go_wp2_with fail
  go_quiet (fail)
  go_wp2_with fail
  go_ret
  rw [HV.out]
  exact ⟨rfl, below_drawn _ _⟩
theorem walGroups_any (h : WalIn w x b gv L) (hlen : L.groups.length ≤ 1000000) (hall : ∀ l ∈ L.groups, l.length ≤ 1000000000) : Calls Tryz.prog 20 #[.pointer (some ⟨x, 0, none⟩)] w fun e w' => CopiedPost w L.groups e w' := by
  obtain ⟨c0, c1, c2, c3, c4, c5, c6, cf⟩ := h.cells
  have HG := Lib.hid h.groups
  clear h
  go_enter Tryz.func20, Tryz.ntmps20
  go_wp2_with fail
  refine (copied_any w gv L.groups HG.out hlen hall).mono ?_
  rintro e w1 ⟨v', rfl, g1, g2, g3⟩
  have G := Lib.hid (And.intro g1 (And.intro g2 g3))
  clear g1 g2 g3
  go_wp2_with fail
  go_ret
  exact ⟨v', rfl, G.out.1, G.out.2.1, G.out.2.2⟩
end
theorem groupV_length (l : List (List UInt8)) : (groupV l).1.length ≤ rowLen l + 68 := by
  unfold groupV
  cases h : groupE l with
  | none => simp
  | some s =>
    obtain ⟨a, ha, rfl⟩ := groupE_some h
    have h1 := rowE_length ha
    have h2 := pad_length (Crc.le 4 a.length ++ a)
    rw [List.length_append, Crc.le_length] at h2
    show (pad _).length ≤ _
    omega
set_option maxRecDepth 100000 in
theorem walNeed_any (l : List (List UInt8)) (a : Option Addr) (cap : Nat) (w : World) (hl : TextsAt w a l) (hlen : l.length ≤ maxLen) (hsum : rowLen l ≤ 10000000) :
    Calls Tryz.prog 30 #[.slice a l.length cap] w fun e w' => e = .returned (.tuple #[.int .i64 (((groupV l).1.length / 64 : Nat) : Int), .int .i64 (groupV l).2]) ∧ Below w.heap.size w w' := by
  have HL := Lib.hid hl; have HLEN := Lib.hid hlen
  clear hl hlen
  go_enter Tryz.func30, Tryz.ntmps30
  go_wp2_with fail
  obtain ⟨r1, r2, hr⟩ : ∃ r1 r2, groupV l = (r1, r2) := ⟨_, _, rfl⟩
  have hgl2 : r1.length ≤ 10000068 := by have := groupV_length l; rw [hr] at this; have h2 : r1.length ≤ rowLen l + 68 := this; omega
  have HR := Lib.hid hr
  clear hr
  refine (group_any l a cap w HL.out HLEN.out hsum).mono ?_
  rw [HR.out]
  rintro e w1 ⟨rfl, hb⟩
  have HB := Lib.hid hb
  clear hb
  have hv : ((r1.length / 64 : Nat) : Int) = (r1.length : Int) / 64 := by omega
  have HV := Lib.hid hv
  clear hv
  go_wp2_with fail
  go_ret2
  rw [HR.out]
  refine ⟨?_, HB.out⟩
  show _ = Ending.returned (.tuple #[.int .i64 ((r1.length / 64 : Nat) : Int), .int .i64 r2])
  rw [HV.out]
  rfl
end Go.Proofs.YtcljpnkknehlmaaGreat
