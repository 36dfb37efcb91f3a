/- Disk.Write, walked. -/
import Derived.Test.YtcljpnkknehlmaaGreatDiskRead
import Derived.Deep.RegionHeld3
import Derived.Deep.RegionLaw
import Derived.Deep.AppendLies
namespace Go.Proofs.YtcljpnkknehlmaaGreat
open Go.RowKit Go.Maps

theorem chunk (s : List UInt8) (k : Nat) (h : 64 * (k + 1) ≤ s.length) : (s.take (64 * (k + 1))).drop (64 * k) = (s.drop (64 * k)).take 64 ∧ ((s.drop (64 * k)).take 64).length = 64 := by
  refine ⟨?_, by rw [List.length_take, List.length_drop]; omega⟩
  rw [List.drop_take, show 64 * (k + 1) - 64 * k = 64 by omega]

theorem put_info3 : (Tryz.prog.info? 123).map (fun i => (i.zero, i.size, i.bytes)) = some (some (.agg Tryz.zeroCells123), 65, 72) := by kernel_rfl
theorem news_new (w : World) (C : Array Value) (T : TypeId) (N : Nat) (hN : w.heap.size = N) : ∀ j u, C.toList[j]? = some u → (w.alloc (.cells C T)).drew.cell? ((⟨N, 0, none⟩ : Addr).add j) = some u := by
  subst hN
  intro j u h
  have e : (⟨w.heap.size, 0, none⟩ : Addr).add j = ⟨w.heap.size, j, none⟩ := by unfold Addr.add; split <;> simp_all
  rw [e]
  show (w.alloc (.cells C T)).cell? _ = _
  rw [cell_new_row, ← Array.getElem?_toList]
  exact h
theorem putRowZ_one (i : Int) (x : List UInt8) : ∀ u ∈ (putRowZ i x).toList, u.oneCell' = true := by
  unfold putRowZ
  intro u hu
  rcases List.mem_cons.1 hu with rfl | h
  · rfl
  · exact u8cells_one _ u h
theorem putRowZ_len (i : Int) (x : List UInt8) (h : x.length = 64) : (putRowZ i x).toList.length = 1 * 65 := by rw [Array.length_toList, putRowZ_size i x h]
theorem rangeAt_grown {w w' : World} {row : Option Nat} (hg : w.grownBy w' row) {b o : Nat} {cs : List Value} (h : w.rangeAt b o cs) (hne : some b ≠ row) : w'.rangeAt b o cs := fun j v hv => hg.cell (h j v hv) hne

theorem keep_S {w : World} {a : Addr} {v : Value} {b2 o : Nat} {cs : List Value} (h1 : w.cell? a = some v) (h0 : w.frozen? a = false) (h2 : w.rangeAt b2 o cs) (ob : Obj) : (w.alloc ob).drew.cell? a = some v ∧ (w.alloc ob).drew.frozen? a = false ∧ (w.alloc ob).drew.rangeAt b2 o cs := by
  have hb := (Below.refl w.heap.size w).alloc (Nat.le_refl _) ob
  refine ⟨(hb.cell (block_lt_of_cell h1)).trans h1, (hb.frozen (block_lt_of_cell h1)).trans h0, fun j u hj => ?_⟩
  have := h2 j u hj
  exact (hb.cell (block_lt_of_cell this)).trans this
theorem keep_grown {w w' : World} {a : Addr} {v : Value} {b2 o : Nat} {cs : List Value} (h : w.cell? a = some v ∧ w.frozen? a = false ∧ w.rangeAt b2 o cs) {row : Option Nat} (hg : w.grownBy w' row) (hne : some a.block ≠ row) (hne2 : some b2 ≠ row) : w'.cell? a = some v ∧ w'.frozen? a = false ∧ w'.rangeAt b2 o cs :=
  ⟨hg.cell h.1 hne, (hg.frozen_far a (block_lt_of_cell h.1) hne).trans h.2.1, rangeAt_grown hg h.2.2 hne2⟩
theorem keep_set {w : World} {a : Addr} {b2 o : Nat} {cs : List Value} (h : w.frozen? a = false ∧ w.rangeAt b2 o cs) (v : Value) (hne : b2 ≠ a.block) : (w.setCell a v).frozen? a = false ∧ (w.setCell a v).rangeAt b2 o cs := by
  refine ⟨by rw [World.frozen?_setCell]; exact h.1, fun j u hj => ?_⟩
  rw [World.cell?_setCell_far _ _ _ _ (Ne.symm hne)]
  exact h.2 j u hj
/-- One loose write more. -/
theorem wrote {w1 W w2 : World} {b m : Nat} {lk : Value} {E : Dsk} (h : DiskIn w1 b m lk E) (hW : Below w1.heap.size w1 W) (hgrow : W.grownBy w2 lk.ownBlock) {gg cap a : Nat} {x : List UInt8} {L : Int} {C : List Value} {N : Nat} (hN : E.loose.length + 1 = N)
    (hown : w2.ownsRow 0 123 65 (.slice (some ⟨gg, 0, none⟩) N cap) N C) (hC : C = looseCells (E.loose ++ [(a, x)])) (hat : lk.ownBlock = some gg ∨ w1.heap.size ≤ gg) (ha : a < E.n) (hx : x.length = 64) (hL : -1 ≤ L ∧ L ≤ 9223372036854775807) :
    DiskIn ((w2.setCell ⟨b, 2, none⟩ (.slice (some ⟨gg, 0, none⟩) N cap)).setCell ⟨b, 3, none⟩ (.int .i64 L)) b m (.slice (some ⟨gg, 0, none⟩) N cap) { E with loose := E.loose ++ [(a, x)], left := L } ∧
    Upd (diskBlocks b m lk) w1 ((w2.setCell ⟨b, 2, none⟩ (.slice (some ⟨gg, 0, none⟩) N cap)).setCell ⟨b, 3, none⟩ (.int .i64 L)) ∧ Stays (diskBlocks b m lk) (diskBlocks b m (.slice (some ⟨gg, 0, none⟩) N cap)) w1 := by
  subst hC; subst hN
  have hb : b < w1.heap.size := (Array.getElem?_eq_some_iff.1 h.struct).1
  have hm : m < w1.heap.size := h.base.lt
  have u1 : Upd (diskBlocks b m lk) w1 w2 := (Upd.of_below hW).trans (Upd.of_grownBy (F := fun k => lk.ownBlock = some k) hgrow (fun k e => e)) (fun k hk => .inl (.inr (.inr hk)))
  have u2 : Upd (fun k => lk.ownBlock = some k) w1 w2 := (Upd.of_below hW).trans (Upd.of_grownBy (F := fun k => lk.ownBlock = some k) hgrow (fun k e => e)) (fun k hk => .inl hk)
  have hgb : gg ≠ b := fun e => by
    rcases hat with hat | hat
    · exact h.lb (by rw [hat, e])
    · omega
  have hgm : gg ≠ m := fun e => by
    rcases hat with hat | hat
    · exact h.lm (by rw [hat, e])
    · omega
  have hs : w2.heap[b]? = some (.cells #[.int .i64 (E.n : Int), .map (some m), lk, .int .i64 E.left, .bool E.down] 50) := by
    rw [u2.block b hb h.lb]; exact h.struct
  have hF : Dsk.Fine { E with loose := E.loose ++ [(a, x)], left := L } := by
    refine ⟨h.fine.n1, h.fine.n2, h.fine.base, fun p hp => ?_, hL⟩
    rcases List.mem_append.1 hp with hp | hp
    · exact h.fine.loose p hp
    · simp at hp; subst hp; exact ⟨ha, hx⟩
  have hv : ∀ (v v' : Value), Upd (fun k => k = b) w2 ((w2.setCell ⟨b, 2, none⟩ v).setCell ⟨b, 3, none⟩ v') := fun v v' => ((Upd.refl (fun k => k = b) w2).setCell (p := ⟨b, 2, none⟩) (.inl rfl) v).setCell (p := ⟨b, 3, none⟩) (.inl rfl) v'
  refine ⟨⟨?_, ?_, ?_, h.mb, fun e => hgb (by simpa [Value.ownBlock] using e), fun e => hgm (by simpa [Value.ownBlock] using e), hF⟩, ?_, ?_⟩
  · have e1 := heap_setCell_same w2 b 2 _ _ (.slice (some ⟨gg, 0, none⟩) (E.loose.length + 1 : Nat) cap) hs
    have e2 := heap_setCell_same _ b 3 _ _ (.int .i64 L) e1
    exact e2
  · refine (h.base.kept (u2.block m hm h.lm)).kept ((hv _ _).block m (Nat.lt_of_lt_of_le hm u2.size) h.mb)
  · have e : (E.loose ++ [(a, x)]).length = E.loose.length + 1 := by simp
    show World.ownsRow _ 0 _ 65 _ (E.loose ++ [(a, x)]).length _
    rw [e]
    exact ownsRow_upd hown (hv _ _) (fun g hg e => hgb (by simp [Value.ownBlock] at hg; omega))
  · exact (u1.setCell (p := ⟨b, 2, none⟩) (.inl (.inl rfl)) _).setCell (p := ⟨b, 3, none⟩) (.inl (.inl rfl)) _
  · rintro k (rfl | rfl | hk)
    · exact .inl (.inl rfl)
    · exact .inl (.inr (.inl rfl))
    · simp [Value.ownBlock] at hk
      subst hk
      rcases hat with hat | hat
      · exact .inl (.inr (.inr hat))
      · exact .inr hat
theorem loose_more (l : List (Nat × List UInt8)) (a k : Nat) (x : List UInt8) : looseCells l ++ (putRowZ ((a : Int) + (k : Int)) x).toList = looseCells (l ++ [(a + k, x)]) := by
  rw [looseCells_snoc, putRowZ_eq, putRow_list]
/-- A sector is loaded: named, so that the walk does not open it cell by cell. -/
def secLoad (p : Value) : Sem Value := Instr.loadAt 121 p
theorem sec_load (p : Value) : Instr.loadAt 121 p = secLoad p := rfl
attribute [local go_sem ↓] sec_load
attribute [local simp] u8cells_array put_fold putRowZ_size put_fold2

set_option maxRecDepth 100000 in
set_option maxHeartbeats 2000000 in
theorem write_in {w : World} {b m : Nat} {lv : Value} {D : Dsk} (h : DiskIn w b m lv D) (a : Nat) (s : List UInt8) (hd : D.down = false) (n : Nat) (hs : s.length = 64 * n) (hi : D.inside a n = true) (hloose : D.loose.length + n ≤ 1000000000) :
    Calls Tryz.prog 53 #[.pointer (some ⟨b, 0, none⟩), .int .i64 a, .string (bs s)] w fun e w' => e = .returned (.int .i64 (Dsk.writes D a s n).2) ∧ ∃ lv', DiskIn w' b m lv' (Dsk.writes D a s n).1 ∧ Upd (diskBlocks b m lv) w w' ∧ Stays (diskBlocks b m lv) (diskBlocks b m lv') w := by
  have hu : Hid (D.up = 0) := Lib.hid (by unfold Dsk.up; rw [hd]; rfl)
  have HI := Lib.hid hi
  have hN := h.fine.n2
  have hin : a + n ≤ D.n := by
    simp [Dsk.inside] at hi
    omega
  clear hd hi
  have HS := Lib.hid hs
  have hq : ((s.length : Int) / 64) = (n : Int) := by omega
  have hr : (s.length : Int) % 64 = 0 := by omega
  have HD := Lib.hid h
  clear hs
  have HQ := Lib.hid hq
  have HR := Lib.hid hr
  clear hq hr
  go_enter Tryz.func53, Tryz.ntmps53
  go_wp2_with fail
  go_step3
  go_wp2_with fail
  refine (up_any h).mono ?_
  rw [hu.out]
  rintro e w1 ⟨rfl, rfl⟩
  have hq := HQ.out
  have hr := HR.out
  go_wp2_with fail
  refine (in_any h a n (by omega) (by omega) (by omega) (by omega)).mono ?_
  rw [HI.out]
  rintro e w1 ⟨rfl, rfl⟩
  clear h hq hr
  go_wp2_with fail
  go_step3
  go_wp2_with fail
  go_loopw [6, 31] (fun e i wr => e = .int .i64 0 ∧ ∃ (k : Nat) (lk : Value) (E : Dsk), k ≤ n ∧ i = .int .i64 k ∧ DiskIn wr b m lk E ∧ E.n = D.n ∧ E.loose.length = D.loose.length + k ∧ Dsk.writes D a s n = Dsk.writes E (a + k) (s.drop (64 * k)) (n - k) ∧ Upd (diskBlocks b m lv) w wr ∧ Stays (diskBlocks b m lv) (diskBlocks b m lk) w) (fun _ i _ => n - (intOf i).toNat)
  case atStart => exact ⟨rfl, 0, lv, D, by omega, rfl, HD.out, rfl, rfl, by rw [Nat.mul_zero, List.drop_zero]; rfl, Upd.refl _ _, fun _ h => .inl h⟩
  case round =>
    obtain ⟨rfl, k, lk, E, hk, rfl, hE, hEn, hEl, hW, hU, hS⟩ := hrel
    obtain ⟨c0, c1, c2, c3, c4, cf⟩ := hE.cells
    by_cases hlt : k < n
    · obtain ⟨hx1, hx2⟩ := chunk s k (by rw [HS.out]; omega)
      have hstep : Dsk.writes E (a + k) (s.drop (64 * k)) (n - k) = if E.left = 0 then ({ E with down := true }, 40) else Dsk.writes { E with loose := E.loose ++ [(a + k, (s.drop (64 * k)).take 64)], left := max (E.left - 1) (-1) } (a + k + 1) ((s.drop (64 * k)).drop 64) (n - (k + 1)) := by
        rw [show n - k = (n - (k + 1)) + 1 by omega]; rfl
      have HST := Lib.hid hstep
      have HE := Lib.hid hE; have HEN := Lib.hid hEn; have HEL := Lib.hid hEl; have HW := Lib.hid hW; have HU := Lib.hid hU; have HSS := Lib.hid hS
      have HX1 := Lib.hid hx1; have HX2 := Lib.hid hx2
      have cf3 := cf 3; have cf4 := cf 4; have cf2 := cf 2
      clear hstep hE hEn hEl hW hU hS hx1 hx2 cf c0 c1
      by_cases hl0 : E.left = 0
      · have hb0 : (E.left == 0) = true := by simp [hl0]
        have HL := Lib.hid hl0
        clear hl0
        go_wp2_with fail
        rw [Exit.noGoto_ret]
        go_ret
        have hfine : Dsk.Fine { E with down := true } := ⟨HE.out.fine.n1, HE.out.fine.n2, HE.out.fine.base, HE.out.fine.loose, HE.out.fine.left⟩
        refine ⟨by rw [HW.out, HST.out, if_pos HL.out]; rfl, lk, ?_, HU.out.setCell (p := ⟨b, 4, none⟩) (.inl (.inl rfl)) _, HSS.out⟩
        rw [HW.out, HST.out, if_pos HL.out]
        exact HE.out.set (D' := { E with down := true }) 4 _ rfl rfl rfl rfl hfine
      · have hb0 : (E.left == 0) = false := by simp [hl0]
        have HL := Lib.hid hl0
        clear hl0
        have hsl : 64 * (k + 1) ≤ s.length := by rw [HS.out]; omega
        have hxe : List.drop (k * 64) (List.take ((k + 1) * 64) s) = (s.drop (64 * k)).take 64 := by rw [Nat.mul_comm k, Nat.mul_comm (k + 1)]; exact HX1.out
        have HREST : Hid ((s.drop (64 * k)).drop 64 = s.drop (64 * (k + 1))) := Lib.hid (by rw [List.drop_drop, show 64 * k + 64 = 64 * (k + 1) by omega])
        generalize (s.drop (64 * k)).take 64 = x at *
        obtain ⟨w1, cap, hcv, hby, hb1, hsz1⟩ := conv_bytes Tryz.prog 9 44 5 Tryz.underlying9 Tryz.underlying44 Tryz.underlying5 wr x
        have har := fun W => run_arrayAt Tryz.prog W 121 5 64 (some ⟨wr.heap.size, 0, none⟩) x.length cap Tryz.underlying121 (by rw [HX2.out]; exact Nat.le_refl _)
        have hrange := hby.range 0 64 (by rw [HX2.out]; exact Nat.le_refl _)
        rw [List.drop_zero, List.take_of_length_le (by rw [HX2.out]; exact Nat.le_refl _)] at hrange
        have HRG := Lib.hid hrange
        have HSZ := Lib.hid hsz1
        clear hsz1
        have HB1 := Lib.hid hb1
        have hE1 := HE.out.below hb1
        obtain ⟨_, _, d2, d3, _, df⟩ := hE1.cells
        have HE1 := Lib.hid hE1
        have df2 := df 2
        have df3 := df 3
        clear hrange hb1 HX1 hby c2 c4 cf3 cf4 cf2 hE1 df
        go_wp2_with (first | (refine wpList_load_mid rfl 121 _ rfl wr.heap.size 0 rfl _ _ HRG.out Tryz.underlying121 rfl (sec_len x HX2.out) ?_; rw [u8cells_array]) | (refine wpList_store_row rfl 121 _ _ rfl w1.heap.size (u8row x) rfl rfl 121 _ (heap_alloc_new w1 _) (by rw [u8row_size, HX2.out]; exact sec_size) (by rw [u8row_size, HX2.out]; rfl) (u8row_one x) ?_; rw [World.setRow_alloc_new]))
        have hlow := (HE1.out.loose)
        have hu99 := Tryz.underlying121
        have hi99 := sec_len x HX2.out
        have hd2 : (w1.alloc (.cells (u8row x) 121)).cell? ⟨b, 2, none⟩ = some lk := by
          rw [← d2]
          exact ((Below.refl _ w1).alloc (Nat.le_refl _) _).cell (block_lt_of_cell d2)
        have hf2 : (w1.alloc (.cells (u8row x) 121)).frozen? ⟨b, 2, none⟩ = false := by
          rw [← df2]
          exact ((Below.refl _ w1).alloc (Nat.le_refl _) _).frozen (block_lt_of_cell d2)
        have hrow : (w1.alloc (.cells (u8row x) 121)).rangeAt w1.heap.size 0 (u8cells x) := by
          intro j v hv
          rw [Nat.zero_add, cell_new_row, ← Array.getElem?_toList, u8row_list]
          exact hv
        obtain ⟨i0, hi0, hz0, hz1, hz2⟩ := info_parts put_info3
        have hx64 := HX2.out
        have hwr : IntKind.i64.wrap ((a : Int) + (k : Int)) = (a : Int) + (k : Int) := IntWalk.i64_in _ (by omega)
        have hne2 := HE1.out.lb
        have hnes : lk.ownBlock ≠ some w1.heap.size := fun e => by have := ownsRow_lt hlow e; omega
        have hcount : (E.loose.length + 1) * 72 ≤ 140737488355328 := by rw [HEL.out]; omega
        have hsz2 : (w1.alloc (.cells (u8row x) 121)).heap.size = w1.heap.size + 1 := Array.size_push _
        have hbne : w1.heap.size ≠ b := by have := block_lt_of_cell d2; simp at this; omega
        have hsz2' : w1.heap.size ≤ (w1.alloc (.cells (u8row x) 121)).heap.size := by rw [hsz2]; omega
        have hd3 : (w1.alloc (.cells (u8row x) 121)).cell? ⟨b, 3, none⟩ = some (.int .i64 E.left) := by
          rw [← d3]
          exact ((Below.refl _ w1).alloc (Nat.le_refl _) _).cell (block_lt_of_cell d3)
        have hf3 : (w1.alloc (.cells (u8row x) 121)).frozen? ⟨b, 3, none⟩ = false := by
          rw [← df3]
          exact ((Below.refl _ w1).alloc (Nat.le_refl _) _).frozen (block_lt_of_cell d3)
        have keepA3 := fun ob => keep_S hd3 hf3 hrow ob
        obtain ⟨hl1, hl2⟩ := HE.out.fine.left
        have keepA := fun ob => keep_S hd2 hf2 hrow ob
        have hld : (secLoad (.pointer (some ⟨w1.heap.size, 0, none⟩))).run Tryz.prog (w1.alloc (.cells (u8row x) 121)).drew = .ok (.agg (u8row x)) (w1.alloc (.cells (u8row x) 121)).drew := by
          have := run_loadAt_mid (w1.alloc (.cells (u8row x) 121)).drew w1.heap.size 0 121 (u8cells x) _ (fun j u hj => hrow j u hj) hu99 rfl hi99
          rw [u8cells_array, sec_load] at this
          exact this
        clear hu99 hi99
        go_region_law
          ((refine step_append_lies _ (by rfl) _ _ _ (by rfl) 0 123 i0 _ 65 72 Tryz.underlying48 hi0 hz0 hz1 hz2 (by rfl) (by omega) lk E.loose.length (looseCells E.loose) (by rfl) (((hlow.alloc _).alloc _).drew) ⟨w1.heap.size + 1, 0, none⟩ 1 1 (putRowZ ((a : Int) + (k : Int)) x).toList (by rfl) (putRowZ_len _ _ hx64) (news_new (w1.alloc (.cells (u8row x) 121)) _ _ _ hsz2) (putRowZ_one _ _) (by omega) (by unfold maxLen; omega) hcount (by omega) (w1.heap.size + 2) (by simp) ?_; intro gg cap2 w2 hown1 hgrow hat hlt2; have hc2 := hgrow.cell (keepA _).1 (Ne.symm hne2); have hfz2 := (keep_grown (keepA _) hgrow (Ne.symm hne2) (Ne.symm hnes)).2.1; have hc3 := hgrow.cell (keepA3 _).1 (Ne.symm hne2); have hfz3 := (keep_grown (keepA3 _) hgrow (Ne.symm hne2) (Ne.symm hnes)).2.1))
        all_goals
          clear keepA keepA3 hld hd2 hf2 hd3 hf3 hsz2 hrow hlow d2 d3 df2 df3 c3 hcv har hcount hi0 hz0 hz1 hz2
          go_wp2_with fail
          have hbw : Below w1.heap.size w1 ((w1.alloc (Obj.cells (u8row x) 121)).alloc (Obj.cells (putRowZ (↑a + ↑k) x) 123)).drew := (((Below.refl _ w1).alloc (Nat.le_refl _) _).alloc hsz2' _).drew
          have hmx : (if E.left - 1 < -1 then (-1 : Int) else E.left - 1) = max (E.left - 1) (-1) := by split <;> omega
          rw [hmx]
          obtain ⟨g1, g2, g3⟩ := wrote (a := a + k) (L := max (E.left - 1) (-1)) HE1.out hbw hgrow rfl hown1 (loose_more _ _ _ _) (hat.imp (fun h => h) (fun h => by omega)) (by have := HEN.out; omega) hx64 (by omega)
          refine ⟨⟨rfl, k + 1, _, _, by omega, rfl, g1, HEN.out, ?_, ?_, ?_, ?_⟩, ?_⟩
          · show (E.loose ++ [(a + k, x)]).length = _
            rw [List.length_append, HEL.out]; rfl
          · rw [HW.out, HST.out, if_neg HL.out, HREST.out]
            rfl
          · refine (HU.out.trans (Upd.of_below (F := fun _ => False) HB1.out) (fun _ f => f.elim)).trans g2 (fun i hi => ?_)
            exact HSS.out i hi
          · intro i hi
            have hsz3 := (HU.out.trans (Upd.of_below (F := fun _ => False) HB1.out) (fun _ f => f.elim)).size
            rcases g3 i hi with h | h
            · exact HSS.out i h
            · exact .inr (by omega)
          · show n - ((k : Int) + 1).toNat < n - ((k : Int)).toNat
            omega
    · have hkn : k = n := by omega
      subst hkn
      have HE := Lib.hid hE; have HW := Lib.hid hW; have HU := Lib.hid hU; have HSS := Lib.hid hS
      clear hE hW hU hS hEn hEl c0 c1 c2 c3 c4 cf
      go_wp2_with fail
      rw [Exit.noGoto_ret]
      go_ret
      rw [HW.out, Nat.sub_self]
      exact ⟨rfl, lk, HE.out, HU.out, HSS.out⟩

set_option maxRecDepth 100000 in
set_option maxHeartbeats 400000 in
theorem write_any {w : World} {b : Nat} {D : Dsk} {fp : Nat → Prop} (h : DiskAt w b D fp) (a : Int) (s : List UInt8) (ha : -9223372036854775808 ≤ a ∧ a ≤ 9223372036854775807) (hl : s.length ≤ 1000000000) (hloose : D.loose.length + s.length / 64 ≤ 1000000000) :
    Calls Tryz.prog 53 #[.pointer (some ⟨b, 0, none⟩), .int .i64 a, .string (bs s)] w fun e w' => e = .returned (.int .i64 (D.write a s).2) ∧ ∃ fp', DiskAt w' b (D.write a s).1 fp' ∧ Upd fp w w' ∧ Stays fp fp' w := by
  obtain ⟨m, lv, hI, rfl⟩ := h
  by_cases hd : D.down = true
  · have hu : Hid (D.up = 40) := Lib.hid (by unfold Dsk.up; rw [hd]; rfl)
    have hW : D.write a s = (D, 40) := by unfold Dsk.write; rw [if_pos hd]
    rw [hW]
    have HI := Lib.hid hI
    clear hW hd
    go_enter Tryz.func53, Tryz.ntmps53
    go_wp2_with fail
    go_step3
    go_wp2_with fail
    refine (up_any hI).mono ?_
    rw [hu.out]
    rintro e w1 ⟨rfl, rfl⟩
    go_wp2_with fail
    rw [Exit.noGoto_ret]
    go_ret
    exact ⟨rfl, _, ⟨m, lv, HI.out, rfl⟩, Upd.refl _ _, fun _ h => .inl h⟩
  · have hd' : D.down = false := by simpa using hd
    by_cases hc : s.length % 64 = 0 ∧ D.inside a (s.length / 64 : Nat) = true
    · have hW : D.write a s = Dsk.writes D a.toNat s (s.length / 64) := by unfold Dsk.write; rw [if_neg hd, if_pos hc]
      obtain ⟨h1, h2⟩ := hc
      have h3 := h2
      simp only [Dsk.inside, Bool.and_eq_true, decide_eq_true_eq] at h3
      have e : a = (a.toNat : Int) := by omega
      rw [hW]
      have hE := write_in hI a.toNat s hd' (s.length / 64) (by omega) (by rw [← e]; exact h2) hloose
      rw [← e] at hE
      refine hE.mono ?_
      rintro e w1 ⟨rfl, lv', g1, g2, g3⟩
      exact ⟨rfl, _, ⟨m, lv', g1, rfl⟩, g2, g3⟩
    · have hu : Hid (D.up = 0) := Lib.hid (by unfold Dsk.up; rw [hd']; rfl)
      have hW : D.write a s = (D, 2) := by unfold Dsk.write; rw [if_neg hd, if_neg hc]
      rw [hW]
      have HI := Lib.hid hI
      by_cases hr : (s.length : Int) % 64 = 0
      · have hin : D.inside a (s.length / 64 : Nat) = false := by
          rcases hb : D.inside a (s.length / 64 : Nat) with _ | _
          · rfl
          · exact absurd ⟨by omega, hb⟩ hc
        have HIN := Lib.hid hin
        clear hW hd hd' hc hin
        have hq : ((s.length : Int) / 64) = ((s.length / 64 : Nat) : Int) := by omega
        generalize s.length / 64 = n at *
        have HR := Lib.hid hr
        have HQ := Lib.hid hq
        clear hr hq
        go_enter Tryz.func53, Tryz.ntmps53
        go_wp2_with fail
        go_step3
        go_wp2_with fail
        refine (up_any hI).mono ?_
        rw [hu.out]
        rintro e w1 ⟨rfl, rfl⟩
        have hq := HQ.out
        have hr := HR.out
        go_wp2_with fail
        refine (in_any hI a n (by omega) (by omega) (by omega) (by omega)).mono ?_
        rw [HIN.out]
        rintro e w1 ⟨rfl, rfl⟩
        go_wp2_with fail
        rw [Exit.noGoto_ret]
        go_ret
        exact ⟨rfl, _, ⟨m, lv, HI.out, rfl⟩, Upd.refl _ _, fun _ h => .inl h⟩
      · have HR := Lib.hid hr
        clear hW hd hd' hc hr
        go_enter Tryz.func53, Tryz.ntmps53
        go_wp2_with fail
        go_step3
        go_wp2_with fail
        refine (up_any hI).mono ?_
        rw [hu.out]
        rintro e w1 ⟨rfl, rfl⟩
        have hr := HR.out
        go_wp2_with fail
        rw [Exit.noGoto_ret]
        go_ret
        exact ⟨rfl, _, ⟨m, lv, HI.out, rfl⟩, Upd.refl _ _, fun _ h => .inl h⟩
end Go.Proofs.YtcljpnkknehlmaaGreat
