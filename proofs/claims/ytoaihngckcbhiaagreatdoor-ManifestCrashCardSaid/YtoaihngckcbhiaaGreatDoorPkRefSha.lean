/- RefSha RefBlk RefSum -/
import Derived.Test.YtoaihngckcbhiaaGreatDoorPkSha2
import Derived.Laws.MakeOwn
section
namespace Go.Proofs.YtoaihngckcbhiaaGreatDoor
open Go.RowKit
open Sha
set_option maxRecDepth 100000 in
theorem rrot_any (x : Int) (n : Nat) (h0 : 0 < n) (hn : n < 32) (w : World) :
    Calls Tryz.prog 175 #[.int .u32 x, .int .i64 n] w fun e w' => e = .returned (.int .u32 (rot x n)) ∧ w' = w := by
  have h1 : (n : Int) < 32 := by omega
  have h2 : (0 : Int) < n := by omega
  go_enter Tryz.func175, Tryz.ntmps175
  go_wp2_with fail
  go_ret
  exact ⟨rfl, rfl⟩
theorem rrotI_any (x : Int) (n : Int) (h0 : 0 < n) (hn : n < 32) (w : World) :
    Calls Tryz.prog 175 #[.int .u32 x, .int .i64 n] w fun e w' => e = .returned (.int .u32 (rot x n.toNat)) ∧ w' = w := by
  obtain ⟨m, rfl⟩ := Int.eq_ofNat_of_zero_le (Int.le_of_lt h0)
  exact rrot_any x m (by omega) (by omega) w
theorem u32_made (w : World) : (Instr.makeSlice 189 (.int .i64 64) (.int .i64 64)).run Tryz.prog w = .ok (.slice (some ⟨w.heap.size, 0, none⟩) 64 64) (w.alloc (.cells (u32row (zeros 64)) 167)) := by
  have hinfo : (Tryz.prog.info? 167).map (fun i => (i.zero, i.size, i.bytes)) = some (some (.int .u32 0), 1, 4) := by kernel_rfl
  obtain ⟨i0, hi, hz0, hz1, hz2⟩ := info_parts hinfo
  have hrun := run_make (P := Tryz.prog) w 189 167 i0 _ Tryz.underlying189 hi hz0 .i64 .i64 64 64 (by omega) (Int.le_refl _) (by rw [hz2]; omega) (by omega)
  rw [hz1] at hrun
  have e : madeCells (Value.int .u32 0).cells ((64 : Int).toNat * 1) = u32row (zeros 64) := by unfold u32row zeros; kernel_rfl
  rw [e] at hrun
  exact hrun
theorem u32_index {cap g : Nat} (n k : Nat) (hk : k < n) (W : World) : (Instr.indexAt 189 (.slice (some ⟨g, 0, none⟩) n cap) (.int .i64 (k : Int))).run Tryz.prog W = .ok (.pointer (some ⟨g, k, none⟩)) W := by
  have h := run_index_slice Tryz.prog 189 167 Tryz.underlying189 1 (by kernel_rfl) ⟨g, 0, none⟩ n cap k hk W
  rw [add_plain, Nat.mul_one] at h
  exact h
set_option maxRecDepth 100000 in
set_option maxHeartbeats 400000 in
theorem schedule_any (b : List UInt8) (hb : b.length = 64) (w : World) :
    Calls Tryz.prog 174 #[.string (bs b)] w fun e w' => ∃ g, e = .returned (.slice (some ⟨g, 0, none⟩) 64 64) ∧ w.heap.size ≤ g ∧ w'.heap[g]? = some (.cells (u32row (wsTo b 48)) 167) ∧ Below w.heap.size w w' := by
  have hmk := u32_made w
  go_enter Tryz.func174, Tryz.ntmps174
  go_wp2_with fail
  go_loopw [4] (fun i wr => ∃ k : Nat, k ≤ 16 ∧ i = .int .i64 k ∧ Below w.heap.size w wr ∧ wr.heap[w.heap.size]? = some (.cells (u32row (firstTo b k)) 167)) (fun i _ => 16 - (intOf i).toNat)
  case atStart => exact ⟨0, by omega, rfl, (Below.refl _ _).alloc (Nat.le_refl _) _, heap_alloc_new _ _⟩
  case round =>
    obtain ⟨k, hk, rfl, hbw, hrow⟩ := hrel
    have HB := Lib.hid hbw; have HR := Lib.hid hrow
    by_cases hlt : k < 16
    · have hcell : wr.cell? ⟨w.heap.size, k, none⟩ = some (.int .u32 ((firstTo b k)[k]'(by rw [firstTo_length _ _ (by omega)]; omega))) := by
        rw [cell_of_row _ _ _ _ _ _ hrow, u32row_get _ _ (by rw [firstTo_length _ _ (by omega)]; omega)]
      have hfz := frozen_of_row _ _ k _ _ hrow
      generalize (firstTo b k)[k]'(by rw [firstTo_length _ _ (by omega)]; omega) = x0 at hcell
      have i1 := run_idx b (4 * k) (by omega) (4 * (k : Int)) (by omega)
      have i2 := run_idx b (4 * k + 1) (by omega) (4 * (k : Int) + 1) (by omega)
      have i3 := run_idx b (4 * k + 2) (by omega) (4 * (k : Int) + 2) (by omega)
      have i4 := run_idx b (4 * k + 3) (by omega) (4 * (k : Int) + 3) (by omega)
      have hix := fun W => u32_index (g := w.heap.size) (cap := 64) 64 k (by omega) W
      clear hbw hrow
      go_wp2_with fail
      go_region
      go_wp2_with fail
      go_roundw
      case rel => exact ⟨k + 1, by omega, by go_num, ((HB.out.setCell (p := ⟨w.heap.size, k, none⟩) (Nat.le_refl _) _).drew), by
        have h := heap_setCell_same wr w.heap.size k _ _ (.int .u32 (be b k)) HR.out
        rw [u32row_set, firstTo_set b k (by omega)] at h
        exact h⟩
      case measure => simp [intOf]; omega
    · obtain rfl : k = 16 := by omega
      clear hbw hrow
      go_wp2_with fail
      go_loopw [5] (fun i wr => ∃ k : Nat, k ≤ 48 ∧ i = .int .i64 ((16 + k : Nat) : Int) ∧ Below w.heap.size w wr ∧ wr.heap[w.heap.size]? = some (.cells (u32row (wsTo b k ++ zeros (48 - k))) 167)) (fun i _ => 64 - (intOf i).toNat)
      case atStart => exact ⟨0, by omega, rfl, HB.out, HR.out⟩
      case round =>
        clear HB HR
        obtain ⟨k, hk, rfl, hbw, hrow⟩ := hrel
        have HB := Lib.hid hbw; have HR := Lib.hid hrow
        clear hbw hrow
        by_cases hlt : k < 48
        · have hlen := wsTo_length b k
          have KP := Lib.hid (fun (V : World) (h : V.heap[w.heap.size]? = some (.cells (u32row (wsTo b k ++ zeros (48 - k))) 167)) => (show (∀ j, j < 16 + k → V.cell? ⟨w.heap.size, j, none⟩ = some (.int .u32 ((wsTo b k).getD j 0))) ∧ (∃ v0, V.cell? ⟨w.heap.size, 16 + k, none⟩ = some v0) ∧ V.frozen? ⟨w.heap.size, 16 + k, none⟩ = false from by
            have hl : (wsTo b k ++ zeros (48 - k)).length = 64 := by rw [List.length_append, hlen]; unfold zeros; simp; omega
            refine ⟨fun j hj => ?_, ⟨_, (cell_of_row _ _ _ _ _ _ h).trans (u32row_get _ _ (by omega))⟩, frozen_of_row _ _ _ _ _ h⟩
            rw [cell_of_row _ _ _ _ _ _ h, u32row_get _ _ (by omega), List.getElem_append_left (by omega), List.getD_eq_getElem?_getD, List.getElem?_eq_getElem (by omega)]; rfl))
          have HST := Lib.hid (show (wsTo b k ++ zeros (48 - k)).set (16 + k) (nextW (wsTo b k) (16 + k)) = wsTo b (k + 1) ++ zeros (48 - (k + 1)) from by
            have e := list_set_step (wsTo b k) (48 - (k + 1)) (nextW (wsTo b k) (16 + k))
            rw [hlen, show 48 - (k + 1) + 1 = 48 - k by omega] at e
            exact e)
          unfold nextW at HST
          obtain ⟨t, ht⟩ : ∃ t, 16 + k = t := ⟨_, rfl⟩
          obtain ⟨j16, h16⟩ : ∃ j, t - 16 = j := ⟨_, rfl⟩
          obtain ⟨j15, h15⟩ : ∃ j, t - 15 = j := ⟨_, rfl⟩
          obtain ⟨j7, h7⟩ : ∃ j, t - 7 = j := ⟨_, rfl⟩
          obtain ⟨j2, h2⟩ : ∃ j, t - 2 = j := ⟨_, rfl⟩
          rw [ht] at KP HST ⊢
          rw [h16, h15, h7, h2] at HST
          have e16 : (t : Int) - 16 = (j16 : Int) := by omega
          have e15 : (t : Int) - 15 = (j15 : Int) := by omega
          have e7 : (t : Int) - 7 = (j7 : Int) := by omega
          have e2 : (t : Int) - 2 = (j2 : Int) := by omega
          have b0 : (t : Int) < 64 := by omega
          have HLE := Lib.hid (show t + 1 = 16 + (k + 1) ∧ k < 48 from by omega)
          obtain ⟨hc, ⟨v0, hcz⟩, hfz⟩ := KP.out _ HR.out
          have c16 := hc j16 (by omega)
          have c15 := hc j15 (by omega)
          have c7 := hc j7 (by omega)
          have c2 := hc j2 (by omega)
          have x16i := fun W => u32_index (g := w.heap.size) (cap := 64) 64 j16 (by omega) W
          have x15i := fun W => u32_index (g := w.heap.size) (cap := 64) 64 j15 (by omega) W
          have x7i := fun W => u32_index (g := w.heap.size) (cap := 64) 64 j7 (by omega) W
          have x2i := fun W => u32_index (g := w.heap.size) (cap := 64) 64 j2 (by omega) W
          have xti := fun W => u32_index (g := w.heap.size) (cap := 64) 64 t (by omega) W
          have x16k := x16i; have x15k := x15i; have x7k := x7i; have x2k := x2i
          rw [← e16] at x16k
          rw [← e15] at x15k
          rw [← e7] at x7k
          rw [← e2] at x2k
          have b16 : (j16 : Int) < 64 := by omega
          have b15 : (j15 : Int) < 64 := by omega
          have b7 : (j7 : Int) < 64 := by omega
          have b2 : (j2 : Int) < 64 := by omega
          have w16 : IntKind.i64.wrap (j16 : Int) = (j16 : Int) := by rw [IntKind.wrap]; simp [IntKind.bits, IntKind.signed]; omega
          have w15 : IntKind.i64.wrap (j15 : Int) = (j15 : Int) := by rw [IntKind.wrap]; simp [IntKind.bits, IntKind.signed]; omega
          have w7 : IntKind.i64.wrap (j7 : Int) = (j7 : Int) := by rw [IntKind.wrap]; simp [IntKind.bits, IntKind.signed]; omega
          have w2 : IntKind.i64.wrap (j2 : Int) = (j2 : Int) := by rw [IntKind.wrap]; simp [IntKind.bits, IntKind.signed]; omega
          clear hc hlen ht h16 h15 h7 h2 hlt hk
          obtain ⟨x16, hx16⟩ : ∃ x, (wsTo b k).getD j16 0 = x := ⟨_, rfl⟩
          obtain ⟨x15, hx15⟩ : ∃ x, (wsTo b k).getD j15 0 = x := ⟨_, rfl⟩
          obtain ⟨x7, hx7⟩ : ∃ x, (wsTo b k).getD j7 0 = x := ⟨_, rfl⟩
          obtain ⟨x2, hx2⟩ : ∃ x, (wsTo b k).getD j2 0 = x := ⟨_, rfl⟩
          rw [hx15] at c15 HST
          rw [hx2] at c2 HST
          rw [hx16] at c16 HST
          rw [hx7] at c7 HST
          clear hx16 hx15 hx7 hx2
          go_wp2_with fail
          go_region_held3 (fun V => V.cell? ⟨w.heap.size, j15, none⟩ = some (.int .u32 x15)) (go_keep)
            (first | (go_at_call 175; refine (rrotI_any x15 _ (by decide) (by decide) _).mono ?_; rintro e wA ⟨rfl, rfl⟩))
          go_wp2_with fail
          go_region_held3 (fun V => V.cell? ⟨w.heap.size, j2, none⟩ = some (.int .u32 x2)) (go_keep)
            (first | (go_at_call 175; refine (rrotI_any x2 _ (by decide) (by decide) _).mono ?_; rintro e wA ⟨rfl, rfl⟩))
          go_wp2_with fail
          go_region
          go_wp2_with fail
          refine ⟨?_, ?measure⟩
          · repeat apply Exists.intro
            refine ⟨?rel, rfl⟩
            case rel =>
              refine ⟨k + 1, by have := HLE.out; omega, by have := HLE.out.1; go_num, ?_, ?_⟩
              · exact (((HB.out.setCell (p := ⟨w.heap.size, t, none⟩) (Nat.le_refl _) _).drew).drew).drew
              · have h := heap_setCell_same wr w.heap.size t _ _ (.int .u32 ((sig x2 17 19 10 + x7 + sig x15 7 18 3 + x16) % 4294967296)) HR.out
                have e2 : (wsTo b k ++ zeros (48 - k)).set t ((sig x2 17 19 10 + x7 + sig x15 7 18 3 + x16) % 4294967296) = wsTo b (k + 1) ++ zeros (48 - (k + 1)) := by
                  rw [show (sig x2 17 19 10 + x7 + sig x15 7 18 3 + x16) % 4294967296 = (((x16 + sig x15 7 18 3) % 4294967296 + x7) % 4294967296 + sig x2 17 19 10) % 4294967296 by omega]
                  exact HST.out
                rw [u32row_set, e2] at h
                exact h
          show 64 - ((t : Int) + 1).toNat < 64 - (t : Int).toNat
          omega
        · obtain rfl : k = 48 := by omega
          clear hlt
          go_wp2_with fail
          go_ret
          have h := HR.out
          rw [show 48 - 48 = 0 from rfl, show zeros 0 = [] from rfl, List.append_nil] at h
          exact ⟨w.heap.size, rfl, Nat.le_refl _, h, HB.out⟩
end Go.Proofs.YtoaihngckcbhiaaGreatDoor
end
section
namespace Go.Proofs.YtoaihngckcbhiaaGreatDoor
open Go.RowKit Go.Maps
open Sha
def WordsAt (w : World) (g : Nat) (l : List Int) : Prop := ∀ i, i < l.length → w.cell? ⟨g, i, none⟩ = some (.int .u32 (l.getD i 0))
theorem WordsAt.below {w w' : World} {g : Nat} {l : List Int} (h : WordsAt w g l) (hb : Below w.heap.size w w') : WordsAt w' g l := fun i hi => by
  have := h i hi
  exact (hb.cell (block_lt_of_cell this)).trans this
theorem words_row {w : World} {g : Nat} {l : List Int} {t : TypeId} (h : w.heap[g]? = some (.cells (u32row l) t)) : WordsAt w g l := fun i hi => by
  rw [cell_of_row _ _ _ _ _ _ h, u32row_get _ _ hi, List.getD_eq_getElem?_getD, List.getElem?_eq_getElem hi]
  rfl
theorem u32_info3 : (Tryz.prog.info? 167).map (fun i => (i.zero, i.size, i.bytes)) = some (some (.int .u32 0), 1, 4) := by kernel_rfl
def wcells (l : List Int) : List Value := l.map fun x => .int .u32 x
theorem words_own {w : World} {base g n cap : Nat} {l : List Int} (h : w.ownsRow base 167 1 (.slice (some ⟨g, 0, none⟩) n cap) n (wcells l)) : WordsAt w g l := fun i hi => by
  have hc := h.cells (g := g) rfl
  have := hc i (.int .u32 l[i]) (by unfold wcells; rw [List.getElem?_map, List.getElem?_eq_getElem hi]; rfl)
  rw [add_plain] at this
  rw [this, List.getD_eq_getElem?_getD, List.getElem?_eq_getElem hi]
  rfl
theorem row_low' {w : World} {base : Nat} {e : TypeId} {size : Nat} {v : Value} {n : Nat} {xs : List Value} (h : w.ownsRow base e size v n xs) {b : Nat} (hb : v.ownBlock = some b) : base ≤ b := by
  rcases h.2 with ⟨rfl, _⟩ | ⟨g, cap, cur, rfl, hbb, _⟩
  · simp [Value.ownBlock] at hb
  · simp [Value.ownBlock] at hb
    omega
theorem sumTo_take (h V : List Int) (k : Nat) (hk : k < 8) : (sumTo h V 8).take (k + 1) = (sumTo h V 8).take k ++ [(h.getD k 0 + V.getD k 0) % 4294967296] := by
  have hl : k < (sumTo h V 8).length := by rw [sumTo_length]; exact hk
  rw [List.take_succ_eq_append_getElem hl]
  have := sumTo_get h V 8 k hk
  rw [if_pos hk, List.getD_eq_getElem?_getD, List.getElem?_eq_getElem hl, Option.getD_some] at this
  rw [this]
theorem t1_mod (a s c k w : Int) : ((a + s + c + k) % 4294967296 + w) % 4294967296 = ((((a + s) % 4294967296 + c) % 4294967296 + k) % 4294967296 + w) % 4294967296 := by omega
theorem wrap32 (x : Int) : IntKind.u32.wrap x = x % 4294967296 := by simp [IntKind.wrap, IntKind.bits, IntKind.signed]
set_option maxRecDepth 100000 in
set_option maxHeartbeats 4000000 in
theorem rblock_any {w : World} {gh gk ch' ck' : Nat} {h : List Int} (b : List UInt8) (hb : b.length = 64) (hh : h.length = 8) (H : WordsAt w gh h) (K : WordsAt w gk kTab) :
    Calls Tryz.prog 154 #[.slice (some ⟨gh, 0, none⟩) 8 ch', .slice (some ⟨gk, 0, none⟩) 64 ck', .string (bs b)] w fun e w' => ∃ g c, e = .returned (.slice (some ⟨g, 0, none⟩) 8 c) ∧ w.heap.size ≤ g ∧ WordsAt w' g (blockS h b) ∧ Below w.heap.size w w' := by
  obtain ⟨i0, hi0, hz0, hz1, hz2⟩ := info_parts u32_info3
  have HH := Lib.hid H; have HK := Lib.hid K
  clear H K
  go_enter Tryz.func154, Tryz.ntmps154
  go_wp2_with fail
  refine (schedule_any b hb _).mono ?_
  rintro e w1 ⟨gw, rfl, hgw, hw, hb1⟩
  have HW := Lib.hid (words_row hw)
  have HB1 := Lib.hid hb1
  have HH1 := Lib.hid (HH.out.below hb1)
  clear hw hb1
  have hnews : ∀ j u, (wcells h)[j]? = some u → w1.cell? ((⟨gh, 0, none⟩ : Addr).add j) = some u := fun j u hu => by
    have hj : j < h.length := by
      have := (List.getElem?_eq_some_iff.1 hu).1
      simpa [wcells] using this
    rw [add_plain, HH1.out j hj]
    unfold wcells at hu
    rw [List.getElem?_map, List.getElem?_eq_getElem hj] at hu
    rw [List.getD_eq_getElem?_getD, List.getElem?_eq_getElem hj]
    exact hu
  go_wp2_with (at_builtin; refine wpList_append_own_at w1 rfl _ _ 189 rfl w1.heap.size 167 i0 _ 1 4 Tryz.underlying189 hi0 hz0 hz1 hz2 rfl (by decide) (.slice none 0 0) 0 [] rfl (World.ownsRow_nil _ _ _ _) ⟨gh, 0, none⟩ 8 ch' (wcells h) rfl (by simp [wcells, hh]) hnews (by intro u hu; unfold wcells at hu; obtain ⟨x, _, rfl⟩ := List.mem_map.1 hu; rfl) (by unfold maxLen; omega) (by omega) (Nat.le_refl _) ?_; intro v2 w2 ho2 hg2 _ _; rw [List.nil_append, Nat.zero_add] at ho2; obtain ⟨g2, cap2, rfl⟩ := ownsRow_succ ho2; have HV2 := Lib.hid (words_own ho2); have HB2 := Lib.hid ((Below.refl _ w1).grown hg2 (Nat.le_refl _) (fun j e => by cases e)); clear ho2 hg2)
  have HW2 := Lib.hid (HW.out.below HB2.out)
  have HH2 := Lib.hid (HH1.out.below HB2.out)
  have HK2 := Lib.hid ((HK.out.below HB1.out).below HB2.out)
  have HA2 := Lib.hid (HB1.out.trans (HB2.out.mono HB1.out.size))
  have hrl := fun t => rounds_length (W := wsTo b 48) hh t
  clear hnews HW HH1 HB1 HB2 HH HK
  go_loopw [8, 9] (fun v i wr => ∃ (t gv cv : Nat), t ≤ 64 ∧ i = .int .i64 (t : Int) ∧ v = .slice (some ⟨gv, 0, none⟩) 8 cv ∧ WordsAt wr gv (rounds (wsTo b 48) h t) ∧ Below w2.heap.size w2 wr)
    (fun _ i _ => 64 - (intOf i).toNat)
  case atStart => exact ⟨0, g2, cap2, by omega, rfl, rfl, HV2.out, Below.refl _ _⟩
  case round =>
    obtain ⟨t, gv, cv', ht, rfl, rfl, hv, hb2⟩ := hrel
    have HV := Lib.hid hv; have HB := Lib.hid hb2
    clear HV2
    by_cases hlt : t < 64
    · have hl := hrl t
      obtain ⟨V, hVe⟩ : ∃ V, rounds (wsTo b 48) h t = V := ⟨_, rfl⟩
      rw [hVe] at hv hl
      have hRt := Lib.hid (show rounds (wsTo b 48) h (t + 1) = turn V (kTab.getD t 0) ((wsTo b 48).getD t 0) by show turn (rounds (wsTo b 48) h t) _ _ = _; rw [hVe])
      have c0 := hv 0 (by omega); have c1 := hv 1 (by omega); have c2 := hv 2 (by omega); have c3 := hv 3 (by omega); have c4 := hv 4 (by omega); have c5 := hv 5 (by omega); have c6 := hv 6 (by omega); have c7 := hv 7 (by omega)
      have ck := (HK2.out.below hb2) t (by show t < 64; exact hlt)
      have cw := (HW2.out.below hb2) t (by rw [wsTo_length]; omega)
      unfold turn t1 t2 at hRt
      obtain ⟨x0, hx0⟩ : ∃ x, V.getD 0 0 = x := ⟨_, rfl⟩
      obtain ⟨x1, hx1⟩ : ∃ x, V.getD 1 0 = x := ⟨_, rfl⟩
      obtain ⟨x2, hx2⟩ : ∃ x, V.getD 2 0 = x := ⟨_, rfl⟩
      obtain ⟨x3, hx3⟩ : ∃ x, V.getD 3 0 = x := ⟨_, rfl⟩
      obtain ⟨x4, hx4⟩ : ∃ x, V.getD 4 0 = x := ⟨_, rfl⟩
      obtain ⟨x5, hx5⟩ : ∃ x, V.getD 5 0 = x := ⟨_, rfl⟩
      obtain ⟨x6, hx6⟩ : ∃ x, V.getD 6 0 = x := ⟨_, rfl⟩
      obtain ⟨x7, hx7⟩ : ∃ x, V.getD 7 0 = x := ⟨_, rfl⟩
      obtain ⟨xk, hxk⟩ : ∃ x, kTab.getD t 0 = x := ⟨_, rfl⟩
      obtain ⟨xw, hxw⟩ : ∃ x, (wsTo b 48).getD t 0 = x := ⟨_, rfl⟩
      rw [hx0, hx1, hx2, hx3, hx4, hx5, hx6, hx7, hxk, hxw] at hRt
      rw [hx0] at c0; rw [hx1] at c1; rw [hx2] at c2; rw [hx3] at c3; rw [hx4] at c4; rw [hx5] at c5; rw [hx6] at c6; rw [hx7] at c7; rw [hxk] at ck; rw [hxw] at cw
      have i0 := fun W => u32_index (g := gv) (cap := cv') 8 0 (by omega) W
      have i1 := fun W => u32_index (g := gv) (cap := cv') 8 1 (by omega) W
      have i2 := fun W => u32_index (g := gv) (cap := cv') 8 2 (by omega) W
      have i3 := fun W => u32_index (g := gv) (cap := cv') 8 3 (by omega) W
      have i4 := fun W => u32_index (g := gv) (cap := cv') 8 4 (by omega) W
      have i5 := fun W => u32_index (g := gv) (cap := cv') 8 5 (by omega) W
      have i6 := fun W => u32_index (g := gv) (cap := cv') 8 6 (by omega) W
      have i7 := fun W => u32_index (g := gv) (cap := cv') 8 7 (by omega) W
      have ik := fun W => u32_index (g := gk) (cap := ck') 64 t hlt W
      have iw := fun W => u32_index (g := gw) (cap := 64) 64 t hlt W
      have hti : (t : Int) < 64 := by omega
      clear hv hVe hx0 hx1 hx2 hx3 hx4 hx5 hx6 hx7 hxk hxw hl HV hrl
      go_wp2_with fail
      go_region_held3 (fun V => V.cell? ⟨gv, 4, none⟩ = some (.int .u32 x4)) (go_keep)
        (first | (go_at_call 175; refine (rrotI_any x4 _ (by decide) (by decide) _).mono ?_; rintro e wA ⟨rfl, rfl⟩))
      go_wp2_with fail
      go_region_held3 (fun V => V.cell? ⟨gv, 0, none⟩ = some (.int .u32 x0)) (go_keep)
        (first | (go_at_call 175; refine (rrotI_any x0 _ (by decide) (by decide) _).mono ?_; rintro e wA ⟨rfl, rfl⟩))
      go_wp2_with fail
      go_region_held3 (fun V => V.cell? ⟨gv, 4, none⟩ = some (.int .u32 x4) ∧ V.cell? ⟨gv, 5, none⟩ = some (.int .u32 x5) ∧ V.cell? ⟨gv, 6, none⟩ = some (.int .u32 x6) ∧ V.cell? ⟨gv, 7, none⟩ = some (.int .u32 x7) ∧ V.cell? ⟨gk, t, none⟩ = some (.int .u32 xk) ∧ V.cell? ⟨gw, t, none⟩ = some (.int .u32 xw)) (go_keep) (fail)
      simp only [wrap32, show (if IntKind.u32.signed = true then (-1 : Int) else IntKind.u32.max) = IntKind.u32.max from rfl]
      obtain ⟨T1, hT1⟩ : ∃ T1, ((((x7 + bits .xor .u32 (bits .xor .u32 (rot x4 6) (rot x4 11)) (rot x4 25)) % 4294967296 + bits .xor .u32 (bits .and .u32 x4 x5) (bits .and .u32 (bits .xor .u32 IntKind.u32.max x4) x6)) % 4294967296 + xk) % 4294967296 + xw) % 4294967296 = T1 := ⟨_, rfl⟩
      rw [hT1]
      have HT1 := Lib.hid hT1
      clear hT1 c7 ck cw ik iw i7
      go_wp2_with fail
      go_region_held3 (fun V => V.cell? ⟨gv, 0, none⟩ = some (.int .u32 x0) ∧ V.cell? ⟨gv, 1, none⟩ = some (.int .u32 x1) ∧ V.cell? ⟨gv, 2, none⟩ = some (.int .u32 x2)) (go_keep) (fail)
      simp only [wrap32]
      obtain ⟨T2, hT2⟩ : ∃ T2, (bits .xor .u32 (bits .xor .u32 (rot x0 2) (rot x0 13)) (rot x0 22) + bits .xor .u32 (bits .xor .u32 (bits .and .u32 x0 x1) (bits .and .u32 x0 x2)) (bits .and .u32 x1 x2)) % 4294967296 = T2 := ⟨_, rfl⟩
      rw [hT2]
      have HT2 := Lib.hid hT2
      clear hT2
      go_wp2_with fail
      go_region_held3 (fun V => V.cell? ⟨gv, 0, none⟩ = some (.int .u32 x0) ∧ V.cell? ⟨gv, 1, none⟩ = some (.int .u32 x1) ∧ V.cell? ⟨gv, 2, none⟩ = some (.int .u32 x2) ∧ V.cell? ⟨gv, 3, none⟩ = some (.int .u32 x3) ∧ V.cell? ⟨gv, 4, none⟩ = some (.int .u32 x4) ∧ V.cell? ⟨gv, 5, none⟩ = some (.int .u32 x5) ∧ V.cell? ⟨gv, 6, none⟩ = some (.int .u32 x6)) (go_keep) (fail)
      simp only [wrap32]
      have hrt := hRt.out
      rw [t1_mod, HT1.out, HT2.out] at hrt
      have HRT := Lib.hid hrt
      clear hrt c0 c1 c2 c3 c4 c5 c6 i0 i1 i2 i3 i4 i5 i6
      go_wp2_with fail
      go_roundw
      case rel =>
        refine ⟨t + 1, wr.heap.size, 8, by omega, by go_num, rfl, ?_, ?_⟩
        · rw [HRT.out]
          refine words_row (t := 167) ?_
          rw [← u32row8]
          exact heap_alloc_new wr _
        · exact (((((HB.out.alloc HB.out.size _).drew).drew).drew).drew).drew
      case measure => simp [intOf]; omega
    · obtain rfl : t = 64 := by omega
      clear hv hb2
      have hVl := hrl 64
      obtain ⟨V, hVe⟩ : ∃ V, rounds (wsTo b 48) h 64 = V := ⟨_, rfl⟩
      rw [hVe] at HV hVl
      have HVE := Lib.hid hVe
      clear hVe hrl
      have hH := HH2.out.below HB.out
      have HHR := Lib.hid hH
      have HHB := Lib.hid HB.out
      clear hH
      go_wp2_with fail
      obtain ⟨R, hR⟩ : ∃ R, wr.heap.size = R := ⟨_, rfl⟩
      have hRL : w2.heap.size ≤ R := by rw [← hR]; exact HB.out.size
      have HKH := Lib.hid (fun (W : World) (hW : Below R wr W) => (show WordsAt W gh h ∧ WordsAt W gv V from by rw [← hR] at hW; exact ⟨HHR.out.below hW, HV.out.below hW⟩))
      go_loopw [14, 15] (fun o i wo => ∃ (k : Nat), k ≤ 8 ∧ i = .int .i64 (k : Int) ∧ wo.ownsRow R 167 1 o k (wcells ((sumTo h V 8).take k)) ∧ Below w2.heap.size w2 wo ∧ Below R wr wo ∧ R ≤ wo.heap.size)
        (fun _ i _ => 8 - (intOf i).toNat)
      case atStart => exact ⟨0, by omega, rfl, World.ownsRow_nil _ _ _ _, HB.out, Below.refl _ _, by omega⟩
      case round =>
        obtain ⟨k, hk, rfl, hown, hbo, hbr, hRs⟩ := hrel
        obtain ⟨oq, ocap, rfl⟩ := slice_len hown
        have HO := Lib.hid hown; have HBO := Lib.hid hbo; have HBR := Lib.hid hbr
        by_cases hlt : k < 8
        · have ch := (HKH.out _ hbr).1 k (by omega)
          have cv := (HKH.out _ hbr).2 k (by omega)
          have ih := fun W => u32_index (g := gh) (cap := ch') 8 k hlt W
          have iv := fun W => u32_index (g := gv) (cap := cv') 8 k hlt W
          obtain ⟨xh, hxh⟩ : ∃ x, h.getD k 0 = x := ⟨_, rfl⟩
          obtain ⟨xv, hxv⟩ : ∃ x, V.getD k 0 = x := ⟨_, rfl⟩
          rw [hxh] at ch
          rw [hxv] at cv
          have HX := Lib.hid (And.intro hxh hxv)
          have hki : (k : Int) < 8 := by omega
          have hso := hbo.size
          clear hown hbo hbr hxh hxv
          go_wp2_with fail
          go_region_law
            ((refine step_append_lies _ (by rfl) _ _ _ (by rfl) R 167 i0 _ 1 4 Tryz.underlying189 hi0 hz0 hz1 hz2 (by rfl) (by omega) (.slice oq k ocap) k (wcells ((sumTo h V 8).take k)) (by rfl) ((HO.out.alloc _).drew) ⟨wr.heap.size, 0, none⟩ 1 1 [.int .u32 (IntKind.u32.wrap (xh + xv))] (by rfl) (by rfl) (World.news_of_block (cs := #[.int .u32 (IntKind.u32.wrap (xh + xv))]) (t := 167) (fr := (0, 0)) (heap_alloc_new wr _)) (by intro u hu; simp at hu; subst hu; rfl) (by omega) (by unfold maxLen; omega) (by omega) (by rw [show ((wr.alloc _).drew).heap.size = wr.heap.size + 1 from World.size_alloc _ _]; omega) (wr.heap.size + 1) (by simp) ?_; intro gg cap3 w3 hown3 hgrow hat hlt3))
          all_goals
            have HW3 := Lib.hid ((((HBO.out.alloc HBO.out.size (.cells #[.int .u32 (IntKind.u32.wrap (xh + xv))] 167)).drew)).grown hgrow (Nat.le_trans hRL (Nat.le_trans hRs (Nat.le_of_lt (by rw [show ((wr.alloc (.cells #[.int .u32 (IntKind.u32.wrap (xh + xv))] 167)).drew).heap.size = wr.heap.size + 1 from World.size_alloc _ _]; omega)))) (fun j hj => Nat.le_trans hRL (row_low' HO.out hj)))
            have HR3 := Lib.hid ((((HBR.out.alloc hRs (.cells #[.int .u32 (IntKind.u32.wrap (xh + xv))] 167)).drew)).grown hgrow (Nat.le_trans hRs (Nat.le_of_lt (by rw [show ((wr.alloc (.cells #[.int .u32 (IntKind.u32.wrap (xh + xv))] 167)).drew).heap.size = wr.heap.size + 1 from World.size_alloc _ _]; omega))) (fun j hj => row_low' HO.out hj))
            have HO3 := Lib.hid hown3
            have hs3 := hgrow.size
            rw [show ((wr.alloc (.cells #[.int .u32 (IntKind.u32.wrap (xh + xv))] 167)).drew).heap.size = wr.heap.size + 1 from World.size_alloc _ _] at hs3
            clear hown3 hgrow hat ch cv
            go_wp2_with fail
            go_roundw
            case rel =>
              repeat apply Exists.intro
              refine ⟨?rel2, rfl⟩
              case rel2 =>
                refine ⟨k + 1, by omega, by go_num, ?_, HW3.out, HR3.out, by omega⟩
                rw [sumTo_take h V k hlt, HX.out.1, HX.out.2, show wcells ((sumTo h V 8).take k ++ [(xh + xv) % 4294967296]) = wcells ((sumTo h V 8).take k) ++ [.int .u32 ((xh + xv) % 4294967296)] by unfold wcells; rw [List.map_append]; rfl, ← wrap32]
                exact HO3.out
            case measure => first | (simp [intOf]; done) | (simp [intOf]; omega)
        · obtain rfl : k = 8 := by omega
          go_wp2_with fail
          go_ret
          obtain ⟨gq, gcap, e1, hbq, _⟩ : ∃ gq gcap, (Value.slice oq 8 ocap) = .slice (some ⟨gq, 0, none⟩) 8 gcap ∧ R ≤ gq ∧ True := by
            rcases hown.2 with ⟨e0, e1⟩ | ⟨g, cap, cur, e0, hb, _⟩
            · cases e1
            · exact ⟨g, cap, e0, hb, trivial⟩
          injection e1 with e1 _ e2
          subst e1 e2
          refine ⟨gq, ocap, rfl, by have := HA2.out.size; omega, ?_, HA2.out.trans (hbo.mono HA2.out.size)⟩
          have e3 : (sumTo h V 8).take 8 = blockS h b := by
            rw [List.take_of_length_le (by rw [sumTo_length]; exact Nat.le_refl 8), ← HVE.out]
            rfl
          rw [e3] at hown
          exact words_own hown
end Go.Proofs.YtoaihngckcbhiaaGreatDoor
end
section
namespace Go.Proofs.YtoaihngckcbhiaaGreatDoor.Sha
open Go.RowKit
theorem feed_append (h : List Int) (a b : List UInt8) (m : Nat) (ha : a.length = 64 * m) : ∀ k, feed h (a ++ b) (m + k) = feed (feed h a m) b k := by
  have h0 : ∀ j, j ≤ m → feed h (a ++ b) j = feed h a j := by
    intro j
    induction j with
    | zero => intro _; rfl
    | succ j ih =>
      intro hj
      show blockS (feed h (a ++ b) j) (((a ++ b).drop (64 * j)).take 64) = blockS (feed h a j) ((a.drop (64 * j)).take 64)
      rw [ih (by omega), List.drop_append_of_le_length (by omega), List.take_append_of_le_length (by rw [List.length_drop]; omega)]
  intro k
  induction k with
  | zero => exact h0 m (Nat.le_refl _)
  | succ k ih =>
    show blockS (feed h (a ++ b) (m + k)) (((a ++ b).drop (64 * (m + k))).take 64) = blockS (feed (feed h a m) b k) ((b.drop (64 * k)).take 64)
    rw [ih, show 64 * (m + k) = a.length + 64 * k by rw [ha]; omega, List.drop_append]
    congr 2
    rw [List.drop_of_length_le (by omega), List.nil_append, show a.length + 64 * k - a.length = 64 * k by omega]
def padR (s : List UInt8) : List UInt8 := (s ++ [128]) ++ List.replicate (zf (s.length + 1)) 0 ++ be8 (8 * s.length) 8
theorem padR_split (s : List UInt8) : padR s = s.take (64 * (s.length / 64)) ++ padS (leftOf s) s.length := by
  have e : zf ((leftOf s).length + 1) = zf (s.length + 1) := by
    unfold leftOf zf
    rw [List.length_drop]
    omega
  unfold padR padS
  rw [e]
  unfold leftOf
  simp only [← List.append_assoc]
  rw [List.take_append_drop]
theorem be8_length (v j : Nat) : (be8 v j).length = j := by unfold be8; simp
theorem padR_length (s : List UInt8) : (padR s).length = s.length + 1 + zf (s.length + 1) + 8 := by
  unfold padR
  simp [be8_length]
  omega
theorem padR_blocks (s : List UInt8) : ∃ k, (padR s).length = 64 * k ∧ feed hash0 (padR s) k = fedAll (fedAll hash0 s) (padS (leftOf s) s.length) := by
  have hl := padR_length s
  have hz := zf_end (s.length + 1)
  obtain ⟨k, hk⟩ : ∃ k, (padR s).length = 64 * k := ⟨(padR s).length / 64, by rw [hl]; omega⟩
  have ht : (s.take (64 * (s.length / 64))).length = 64 * (s.length / 64) := by rw [List.length_take]; omega
  have hp : (padS (leftOf s) s.length).length = 64 * (k - s.length / 64) := by
    have := congrArg List.length (padR_split s)
    rw [List.length_append, ht, hk] at this
    omega
  have hm : s.length / 64 ≤ k := by
    have := congrArg List.length (padR_split s)
    rw [List.length_append, ht, hk] at this
    omega
  refine ⟨k, hk, ?_⟩
  have h1 := feed_append hash0 (s.take (64 * (s.length / 64))) (padS (leftOf s) s.length) (s.length / 64) ht (k - s.length / 64)
  rw [← padR_split, show s.length / 64 + (k - s.length / 64) = k by omega] at h1
  rw [h1]
  unfold fedAll
  rw [hp, Nat.mul_div_cancel_left _ (by decide)]
  congr 1
  have h2 := feed_append hash0 (s.take (64 * (s.length / 64))) (s.drop (64 * (s.length / 64))) (s.length / 64) ht 0
  rw [List.take_append_drop] at h2
  exact h2.symm
theorem sumR (s : List UInt8) (k : Nat) (h : feed hash0 (padR s) k = fedAll (fedAll hash0 s) (padS (leftOf s) s.length)) : outB (feed hash0 (padR s) k) 8 = shaS s := by
  rw [h]; rfl
theorem feed_length (h : List Int) (s : List UInt8) (hh : h.length = 8) : ∀ k, (feed h s k).length = 8
  | 0 => hh
  | _ + 1 => blockS_length _ _
end Go.Proofs.YtoaihngckcbhiaaGreatDoor.Sha
namespace Go.Proofs.YtoaihngckcbhiaaGreatDoor
open Go.RowKit Go.Maps
open Sha
set_option maxRecDepth 100000 in
set_option maxHeartbeats 4000000 in
theorem told_any (w : World) :
    Calls Tryz.prog 126 #[] w fun e w' => ∃ g gh, e = .returned (.tuple #[.slice (some ⟨g, 0, none⟩) 64 64, .slice (some ⟨gh, 0, none⟩) 8 8]) ∧ WordsAt w' g kTab ∧ WordsAt w' gh hash0 ∧ Below w.heap.size w w' := by
  have HC := Lib.hid kTab_cells
  go_enter Tryz.func126, Tryz.ntmps126
  go_wp2_with fail
  rw [HC.out]
  go_ret2
  refine ⟨w.heap.size, w.heap.size + 1, rfl, (words_row (t := 167) (heap_alloc_new _ _)).below ((Below.refl _ _).alloc (Nat.le_refl _) _), words_row (t := 167) ?_, ((Below.refl _ _).alloc (Nat.le_refl _) _).alloc ((Below.refl _ _).alloc (Nat.le_refl _) (.cells (u32row kTab) 167)).size _⟩
  rw [u32row8]
  have h := heap_alloc_new (w.alloc (.cells (u32row kTab) 167)) (.cells (u32row hash0) 167)
  rw [World.size_alloc] at h
  exact h
def PadR (l : List UInt8) (m : Nat) (v : Value) : Prop := ∃ j, j ≤ m ∧ v = .string (bs (l ++ List.replicate j 0))
def stSize (v : Value) : Nat := match v with | .string s => s.size | _ => 0
set_option maxRecDepth 100000 in
set_option maxHeartbeats 1000000 in
theorem rpad_any (s : List UInt8) (w : World) (hs : s.length ≤ 100000000) :
    Calls Tryz.prog 153 #[.string (bs s)] w fun e w' => e = .returned (.string (bs (padR s))) ∧ Below w.heap.size w w' := by
  have hb8 : ({ data := #[128] } : ByteArray) = bs [128] := rfl
  have hwm : IntKind.u64.wrap ((s.length : Int) * 8) = (s.length : Int) * 8 := IntWalk.u64_in _ (by omega)
  have hwl : IntKind.u64.wrap (s.length : Int) = (s.length : Int) := IntWalk.u64_in _ (by omega)
  go_enter Tryz.func153, Tryz.ntmps153
  go_wp2_with fail
  obtain ⟨l, hl⟩ : ∃ l, s ++ [128] = l := ⟨_, rfl⟩
  have hll : l.length = s.length + 1 := by rw [← hl]; simp
  obtain ⟨m, hm⟩ : ∃ m, zf (s.length + 1) = m := ⟨_, rfl⟩
  have hme : ∀ j, j < m → (l.length + j) % 64 ≠ 56 := fun j hj => by rw [hll]; exact zf_not _ _ (by omega)
  have hmz : (l.length + m) % 64 = 56 := by rw [hll, ← hm]; exact zf_end _
  have hmb : m < 64 := by rw [← hm]; exact zf_lt _
  have HME := Lib.hid hme; have HMZ := Lib.hid hmz
  have HP := Lib.hid (show padR s = (l ++ List.replicate m 0) ++ be8 (8 * s.length) 8 by unfold padR; rw [hl, hm])
  have HLL := Lib.hid hll
  rw [hl]
  clear hme hmz hl hm hll hb8 hwm hwl
  go_loop [0] (fun v => PadR l m v) (fun v => l.length + m - stSize v)
  case atStart => exact ⟨0, Nat.zero_le _, by simp⟩
  case round =>
    obtain ⟨j, hj, rfl⟩ := hrel
    have htl : (l ++ List.replicate j (0 : UInt8)).length = l.length + j := by simp
    have hnx : l ++ List.replicate j (0 : UInt8) ++ [0] = l ++ List.replicate (j + 1) 0 := by rw [List.append_assoc, ← List.replicate_succ']
    have HTL := Lib.hid htl; have HNX := Lib.hid hnx
    have hlb := HLL.out
    by_cases hlt : j < m
    · have hne := HME.out j hlt
      rw [← htl] at hne
      have htb : (l ++ List.replicate j (0 : UInt8)).length ≤ 100000100 := by rw [htl]; omega
      clear htl hnx hlb
      generalize l ++ List.replicate j (0 : UInt8) = t at *
      have hb1 : ((t.length : Int) % 64 == 56) = false := by rw [beq_eq_false_iff_ne]; omega
      have hb2 : ((t.length : Int) % 64 != 56) = true := by rw [bne_iff_ne]; omega
      have hz : ({ data := #[0] } : ByteArray) = bs [0] := rfl
      clear hne
      go_wp2_with fail
      go_round
      case rel => exact ⟨j + 1, hlt, by rw [HNX.out]⟩
      case measure =>
        have h1 : stSize (.string (bs t)) = l.length + j := HTL.out
        have h2 : stSize (.string (bs (t ++ [0]))) = l.length + j + 1 := by show (t ++ [0]).length = _; rw [List.length_append, HTL.out]; rfl
        rw [h1, h2]; omega
    · obtain rfl : j = m := by omega
      have hz := HMZ.out
      rw [← htl] at hz
      have htb : (l ++ List.replicate j (0 : UInt8)).length ≤ 100000100 := by rw [htl]; omega
      clear htl hnx hlb
      generalize l ++ List.replicate j (0 : UInt8) = t at *
      have hb1 : ((t.length : Int) % 64 == 56) = true := by rw [beq_iff_eq]; omega
      have hb2 : ((t.length : Int) % 64 != 56) = false := by rw [bne_eq_false_iff_eq]; omega
      clear hz HNX HTL
      go_wp2_with fail
      have HSN := Lib.hid (show ((s.length : Int) * 8) = ((8 * s.length : Nat) : Int) by omega)
      rw [HSN.out]
      obtain ⟨v, hv⟩ : ∃ v, 8 * s.length = v := ⟨_, rfl⟩
      have hvb : v ≤ 800000000 := by omega
      rw [hv] at HP ⊢
      clear hv HSN
      go_loopw [0, 4] (fun a i wr => ∃ k : Nat, k ≤ 8 ∧ i = .int .i64 (7 - (k : Int)) ∧ a = .string (bs (t ++ be8 v k)) ∧ Below w.heap.size w wr) (fun _ i _ => (intOf i + 1).toNat)
      case atStart => exact ⟨0, by omega, rfl, by rw [show be8 v 0 = [] from rfl, List.append_nil], Below.refl _ _⟩
      case round =>
        obtain ⟨k, hk, rfl, rfl, hbw⟩ := hrel
        have HB := Lib.hid hbw
        by_cases hlt : k < 8
        · obtain ⟨e, he⟩ : ∃ e : Nat, 56 - 8 * k = e := ⟨_, rfl⟩
          obtain ⟨q, hq⟩ : ∃ q : Nat, 7 - k = q := ⟨_, rfl⟩
          have hqi : 7 - (k : Int) = (q : Int) := by omega
          have hei : 8 * (q : Int) = (e : Int) := by omega
          have hsucc := be8_succ v k
          rw [he] at hsucc
          have he56 : (e : Int) ≤ 56 := by omega
          have hqb : (q : Int) ≤ 7 := by omega
          have hwe : IntKind.u64.wrap (e : Int) = (e : Int) := IntWalk.u64_in _ (by omega)
          have hxv : ((UInt8.ofNat (v / 2 ^ e)).toNat : Int) = (v : Int) / 2 ^ e % 256 := by
            rw [u8_ofNat, Int.natCast_emod, Int.natCast_ediv, Int.natCast_pow]
            rfl
          have hcv := run_byte_bs Tryz.prog wr 176 5 9 5 Tryz.underlying176 Tryz.underlying5 Tryz.underlying9 ((v : Int) / 2 ^ e % 256) (UInt8.ofNat (v / 2 ^ e)) hxv
          have hbl : (t ++ be8 v k).length ≤ 100000200 := by rw [List.length_append, be8_length]; omega
          have HSC := Lib.hid (show t ++ be8 v k ++ [UInt8.ofNat (v / 2 ^ e)] = t ++ be8 v (k + 1) by rw [hsucc, List.append_assoc])
          have HQ := Lib.hid (And.intro hq hlt)
          rw [hqi]
          clear hsucc he hqi hq hlt hk hxv hbw
          generalize t ++ be8 v k = u at *
          generalize UInt8.ofNat (v / 2 ^ e) = x at *
          go_wp2_with fail
          go_roundw
          case rel =>
            refine ⟨k + 1, HQ.out.2, ?_, by rw [HSC.out], HB.out.alloc HB.out.size _⟩
            have := HQ.out
            show Value.int .i64 ((q : Int) - 1) = _
            congr 1
            omega
          case measure => have := HQ.out; first | (simp [intOf]; done) | (simp [intOf]; omega)
        · obtain rfl : k = 8 := by omega
          clear hlt hk hbw
          go_wp2_with fail
          go_ret
          exact ⟨by rw [HP.out]; rfl, HB.out⟩
end Go.Proofs.YtoaihngckcbhiaaGreatDoor
namespace Go.Proofs.YtoaihngckcbhiaaGreatDoor
open Go.RowKit Go.Maps
open Sha
theorem u8_info3 : (Tryz.prog.info? 5).map (fun i => (i.zero, i.size, i.bytes)) = some (some (.int .u8 0), 1, 1) := by kernel_rfl
theorem wrap8 (x : Int) : IntKind.u8.wrap x = x % 256 := by simp [IntKind.wrap, IntKind.bits, IntKind.signed]
theorem w4_cells (x : Int) : u8cells (w4 x) = [.int .u8 (x / 16777216 % 256), .int .u8 (x / 65536 % 256), .int .u8 (x / 256 % 256), .int .u8 (x % 256)] := by
  have hb : ∀ y : Int, ((UInt8.ofNat (y % 256).toNat).toNat : Int) = y % 256 := fun y => by rw [u8_ofNat]; omega
  unfold w4
  simp only [u8cells_cons, u8cells_nil, hb]
theorem bytes_own {w : World} {base g n cap : Nat} {l : List UInt8} (_ : l.length = n) (h : w.ownsRow base 5 1 (.slice (some ⟨g, 0, none⟩) n cap) n (u8cells l)) (i : Nat) (hi : i < l.length) : w.cell? ⟨g, i, none⟩ = some (.int .u8 (l[i].toNat : Int)) := by
  have hc := h.cells (g := g) rfl
  have := hc i (.int .u8 (l[i].toNat : Int)) (u8cells_get l i hi)
  rwa [add_plain] at this
set_option maxRecDepth 100000 in
set_option maxHeartbeats 4000000 in
theorem rsha_in {w : World} {gh gk : Nat} (s : List UInt8) (hs : s.length ≤ 10000000) (K : WordsAt w gk kTab) (H : WordsAt w gh hash0) :
    Calls Tryz.prog 127 #[.string (bs s), .slice (some ⟨gk, 0, none⟩) 64 64, .slice (some ⟨gh, 0, none⟩) 8 8] w fun e w' => e = .returned (.string (bs (shaS s))) ∧ Below w.heap.size w w' := by
  obtain ⟨k, hk, hf⟩ := padR_blocks s
  have HSR := Lib.hid (sumR s k hf)
  have hkb : k ≤ 1000000 := by
    have h1 := padR_length s
    have h2 := zf_lt (s.length + 1)
    omega
  have HPAD := Lib.hid (rpad_any s w (by omega))
  obtain ⟨P, hP⟩ : ∃ P, padR s = P := ⟨_, rfl⟩
  rw [hP] at hk HSR HPAD
  have HK := Lib.hid K; have HH := Lib.hid H
  have HFL := Lib.hid (feed_length hash0 P rfl)
  obtain ⟨i0, hi0, hz0, hz1, hz2⟩ := info_parts u8_info3
  clear hf hP K H
  go_enter Tryz.func127, Tryz.ntmps127
  go_wp2_with fail
  refine HPAD.out.mono ?_
  rintro e w1 ⟨rfl, hb1⟩
  have HB1 := Lib.hid hb1
  have HK1 := Lib.hid (HK.out.below hb1)
  have HH1 := Lib.hid (HH.out.below hb1)
  clear hb1 HK HH
  go_wp2_with fail
  go_loopw [2, 7] (fun hv i wr => ∃ (j g c : Nat), j ≤ k ∧ i = .int .i64 (64 * (j : Int)) ∧ hv = .slice (some ⟨g, 0, none⟩) 8 c ∧ WordsAt wr g (feed hash0 P j) ∧ Below w1.heap.size w1 wr) (fun _ i _ => 64 * k - (intOf i).toNat)
  case atStart => exact ⟨0, gh, 8, by omega, rfl, rfl, HH1.out, Below.refl _ _⟩
  case round =>
    obtain ⟨j, g, c, hj, rfl, rfl, hw, hb⟩ := hrel
    have HW := Lib.hid hw; have HB := Lib.hid hb
    clear hw hb
    by_cases hlt : j < k
    · have hcut : ∀ W, (Instr.slice 9 (.string (bs P)) (some (.int .i64 (64 * (j : Int)))) (some (.int .i64 (64 * (j : Int) + 64))) none).run Tryz.prog W = .ok (.string (bs ((P.drop (64 * j)).take 64))) W := fun W => by
        have := run_cut Tryz.prog W 9 Tryz.underlying9 P (64 * j) (64 * j + 64) (by omega) (by omega)
        rw [show ((64 * j : Nat) : Int) = 64 * (j : Int) by omega, show ((64 * j + 64 : Nat) : Int) = 64 * (j : Int) + 64 by omega] at this
        rw [this, List.drop_take, show 64 * j + 64 - 64 * j = 64 by omega]
      have hbl : ((P.drop (64 * j)).take 64).length = 64 := by rw [List.length_take, List.length_drop]; omega
      have HBK := Lib.hid (rblock_any (w := wr) (gh := g) (gk := gk) (ch' := c) (ck' := 64) ((P.drop (64 * j)).take 64) hbl (HFL.out j) HW.out (HK1.out.below HB.out))
      have HFE := Lib.hid (show feed hash0 P (j + 1) = blockS (feed hash0 P j) ((P.drop (64 * j)).take 64) from rfl)
      have hlP : 64 * (j : Int) < (P.length : Int) := by omega
      clear hbl
      generalize (P.drop (64 * j)).take 64 = X at *
      go_wp2_with fail
      refine HBK.out.mono ?_
      rintro e w2 ⟨g2, c2, rfl, _, hw2, hb2⟩
      have HW2 := Lib.hid hw2
      have HB2 := Lib.hid (HB.out.trans (hb2.mono HB.out.size))
      clear hw2 hb2
      go_wp2_with fail
      go_roundw
      case rel => exact ⟨j + 1, g2, c2, by omega, by first | (congr 1; done) | (congr 1; omega), rfl, by rw [HFE.out]; exact HW2.out, HB2.out⟩
      case measure => first | (simp [intOf]; done) | (simp [intOf]; omega)
    · obtain rfl : j = k := by omega
      have hlP : ¬ 64 * (j : Int) < (P.length : Int) := by omega
      obtain ⟨F, hF⟩ : ∃ F, feed hash0 P j = F := ⟨_, rfl⟩
      have hFl : F.length = 8 := by rw [← hF]; exact HFL.out j
      rw [hF] at HW HSR
      clear hF
      have HA := Lib.hid (HB1.out.trans (HB.out.mono HB1.out.size))
      go_wp2_with fail
      have HFl := Lib.hid hFl
      clear hFl hlP hlt hk
      obtain ⟨R, hR⟩ : ∃ R, wr.heap.size = R := ⟨_, rfl⟩
      have HWW := Lib.hid (fun (W : World) (hW : Below R wr W) => (show WordsAt W g F from by rw [← hR] at hW; exact HW.out.below hW))
      have HRW := Lib.hid (fun (W : World) (hW : Below R wr W) => (show Below w.heap.size w W from by rw [← hR] at hW; exact HA.out.trans (hW.mono HA.out.size)))
      go_loopw [8, 9] (fun o i wo => ∃ (t n : Nat), t ≤ 8 ∧ n = 4 * t ∧ i = .int .i64 (t : Int) ∧ wo.ownsRow R 5 1 o n (u8cells (outB F t)) ∧ Below R wr wo ∧ R ≤ wo.heap.size) (fun _ i _ => 8 - (intOf i).toNat)
      case atStart => exact ⟨0, 0, by omega, rfl, rfl, by rw [show outB F 0 = [] from rfl, u8cells_nil]; exact World.ownsRow_nil _ _ _ _, Below.refl _ _, by omega⟩
      case round =>
        obtain ⟨t, n, ht, hn, rfl, hown, hbo, hso⟩ := hrel
        obtain ⟨oq, ocap, rfl⟩ := slice_len hown
        have HO := Lib.hid hown; have HBO := Lib.hid hbo
        by_cases hlt : t < 8
        · have ch := (HWW.out _ hbo) t (by rw [HFl.out]; exact hlt)
          have ih := fun W => u32_index (g := g) (cap := c) 8 t hlt W
          have HOS := Lib.hid (outB_succ F t)
          obtain ⟨x, hx⟩ : ∃ x, F.getD t 0 = x := ⟨_, rfl⟩
          rw [hx] at ch HOS
          have hti : (t : Int) < 8 := by omega
          have HN := Lib.hid (And.intro hn hlt)
          have hnb : n ≤ 32 := by omega
          clear hown hbo hx hn hlt ht
          go_wp2_with fail
          go_region_law
            ((refine step_append_lies _ (by rfl) _ _ _ (by rfl) R 5 i0 _ 1 1 Tryz.underlying176 hi0 hz0 hz1 hz2 (by rfl) (by omega) (.slice oq n ocap) n (u8cells (outB F t)) (by rfl) ((HO.out.alloc _).drew) ⟨wr.heap.size, 0, none⟩ 4 4 [.int .u8 (IntKind.u8.wrap (x / 16777216)), .int .u8 (IntKind.u8.wrap (x / 65536)), .int .u8 (IntKind.u8.wrap (x / 256)), .int .u8 (IntKind.u8.wrap x)] (by rfl) (by rfl) (World.news_of_block (cs := #[.int .u8 (IntKind.u8.wrap (x / 16777216)), .int .u8 (IntKind.u8.wrap (x / 65536)), .int .u8 (IntKind.u8.wrap (x / 256)), .int .u8 (IntKind.u8.wrap x)]) (t := 5) (fr := (0, 0)) (heap_alloc_new wr _)) (by intro u hu; simp at hu; rcases hu with rfl | rfl | rfl | rfl <;> rfl) (by omega) (by unfold maxLen; omega) (by omega) (by rw [show ((wr.alloc _).drew).heap.size = wr.heap.size + 1 from World.size_alloc _ _]; omega) (wr.heap.size + 1) (by simp) ?_; intro gg cap3 w3 hown3 hgrow hat hlt3))
          all_goals
            have HW3 := Lib.hid ((((HBO.out.alloc hso (.cells #[.int .u8 (IntKind.u8.wrap (x / 16777216)), .int .u8 (IntKind.u8.wrap (x / 65536)), .int .u8 (IntKind.u8.wrap (x / 256)), .int .u8 (IntKind.u8.wrap x)] 5)).drew)).grown hgrow (Nat.le_trans hso (Nat.le_of_lt (by rw [show ((wr.alloc (.cells #[.int .u8 (IntKind.u8.wrap (x / 16777216)), .int .u8 (IntKind.u8.wrap (x / 65536)), .int .u8 (IntKind.u8.wrap (x / 256)), .int .u8 (IntKind.u8.wrap x)] 5)).drew).heap.size = wr.heap.size + 1 from World.size_alloc _ _]; omega))) (fun j hj => row_low' HO.out hj))
            have HO3 := Lib.hid hown3
            have HS3 := Lib.hid (show R ≤ w3.heap.size from by have := hgrow.size; rw [show ((wr.alloc (.cells #[.int .u8 (IntKind.u8.wrap (x / 16777216)), .int .u8 (IntKind.u8.wrap (x / 65536)), .int .u8 (IntKind.u8.wrap (x / 256)), .int .u8 (IntKind.u8.wrap x)] 5)).drew).heap.size = wr.heap.size + 1 from World.size_alloc _ _] at this; omega)
            clear hown3 hgrow hat ch
            go_wp2_with fail
            go_roundw
            case rel =>
              refine ⟨t + 1, n + 4, HN.out.2, by have := HN.out.1; omega, by go_num, ?_, HW3.out, HS3.out⟩
              rw [HOS.out, u8cells_append, w4_cells]
              simp only [← wrap8]
              exact HO3.out
            case measure => have := HN.out.2; first | (simp [intOf]; done) | (simp [intOf]; omega)
        · obtain rfl : t = 8 := by omega
          have hn32 : n = 32 := by omega
          subst hn32
          obtain ⟨gq, e1⟩ : ∃ gq, oq = some ⟨gq, 0, none⟩ := by
            rcases hown.2 with ⟨e0, e1⟩ | ⟨g, cap, cur, e0, hb, _⟩
            · cases e1
            · injection e0 with e0; exact ⟨g, e0⟩
          subst e1
          have hol : (outB F 8).length = 32 := outB_length F 8
          have hcv := run_bytes_bs Tryz.prog wr 176 5 9 Tryz.underlying176 Tryz.underlying5 Tryz.underlying9 gq 0 32 ocap (outB F 8) hol (fun i hi => by rw [Nat.zero_add]; exact bytes_own hol hown i hi)
          rw [HSR.out] at hcv
          clear hown hbo hol
          go_wp2_with fail
          go_ret
          exact ⟨rfl, HRW.out _ HBO.out⟩
set_option maxRecDepth 100000 in
theorem rsha_any (s : List UInt8) (hs : s.length ≤ 10000000) (w : World) :
    Calls Tryz.prog 80 #[.string (bs s)] w fun e w' => e = .returned (.string (bs (shaS s))) ∧ Below w.heap.size w w' := by
  go_enter Tryz.func80, Tryz.ntmps80
  go_wp2_with fail
  refine (told_any _).mono ?_
  rintro e w1 ⟨g, gh, rfl, hk, hh, hb⟩
  have HK := Lib.hid hk; have HH := Lib.hid hh; have HB := Lib.hid hb
  clear hk hh hb
  go_wp2_with fail
  refine (rsha_in s hs HK.out HH.out).mono ?_
  rintro e w2 ⟨rfl, hb2⟩
  have HB2 := Lib.hid (HB.out.trans (hb2.mono HB.out.size))
  clear hb2
  go_wp2_with fail
  go_ret
  exact ⟨rfl, HB2.out⟩
end Go.Proofs.YtoaihngckcbhiaaGreatDoor
end
