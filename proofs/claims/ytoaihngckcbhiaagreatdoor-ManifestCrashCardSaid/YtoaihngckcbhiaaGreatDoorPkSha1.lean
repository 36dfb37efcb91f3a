/- Sha1 -/
import Derived.Test.YtoaihngckcbhiaaGreatDoorPkOct
import Derived.Test.YtoaihngckcbhiaaGreatDoorPkBlk
import Derived.BigQuiet
import Derived.Laws.CopyRow
import Derived.BigRegion
import Derived.Deep.RegionHeld3
import Derived.Test.YtoaihngckcbhiaaGreatDoorPkBase
import Derived.OrdersHeld
import Derived.RegionTactic
namespace Go.Proofs.YtoaihngckcbhiaaGreatDoor.Sha
open Go.RowKit
def rot (x : Int) (n : Nat) : Int := bits .or .u32 (x / 2 ^ n) (x * 2 ^ (32 - n) % 4294967296)
@[irreducible] def u32row (l : List Int) : Array Value := (l.map fun x => Value.int .u32 x).toArray
@[simp] theorem u32row_size (l : List Int) : (u32row l).size = l.length := by unfold u32row; simp
theorem u32row_get (l : List Int) (i : Nat) (h : i < l.length) : (u32row l)[i]? = some (.int .u32 l[i]) := by
  unfold u32row
  rw [List.getElem?_toArray, List.getElem?_map, List.getElem?_eq_getElem h]; rfl
theorem u32row_set (l : List Int) (i : Nat) (x : Int) : (u32row l).setIfInBounds i (.int .u32 x) = u32row (l.set i x) := by
  unfold u32row
  rw [List.map_set, List.setIfInBounds_toArray]
theorem u32row_one (l : List Int) : (u32row l).all (·.oneCell') = true := by
  unfold u32row
  rw [Array.all_eq_true]
  intro i hi
  simp at hi ⊢
  rfl
def zeros (n : Nat) : List Int := List.replicate n 0
def be (b : List UInt8) (t : Nat) : Int :=
  bits .or .u32 (bits .or .u32 (bits .or .u32 ((b[4 * t]?.getD 0).toNat % 4294967296 * 16777216 % 4294967296) ((b[4 * t + 1]?.getD 0).toNat % 4294967296 * 65536 % 4294967296)) ((b[4 * t + 2]?.getD 0).toNat % 4294967296 * 256 % 4294967296)) ((b[4 * t + 3]?.getD 0).toNat % 4294967296)
def sig (x : Int) (i j k : Nat) : Int := bits .xor .u32 (bits .xor .u32 (rot x i) (rot x j)) (x / 2 ^ k)
def nextW (l : List Int) (t : Nat) : Int :=
  (((l.getD (t - 16) 0 + sig (l.getD (t - 15) 0) 7 18 3) % 4294967296 + l.getD (t - 7) 0) % 4294967296 + sig (l.getD (t - 2) 0) 17 19 10) % 4294967296
def wsTo (b : List UInt8) : Nat → List Int
  | 0 => (List.range 16).map (be b)
  | k + 1 => wsTo b k ++ [nextW (wsTo b k) (16 + k)]
theorem wsTo_length (b : List UInt8) : ∀ k, (wsTo b k).length = 16 + k
  | 0 => by simp [wsTo]
  | k + 1 => by simp [wsTo, wsTo_length b k]; omega
end Go.Proofs.YtoaihngckcbhiaaGreatDoor.Sha
namespace Go.Proofs.YtoaihngckcbhiaaGreatDoor
open Go.RowKit
open Sha
set_option maxRecDepth 100000 in
theorem rot_any (x : Int) (n : Nat) (h0 : 0 < n) (hn : n < 32) (w : World) :
    Calls Tryz.prog 160 #[.int .u32 x, .int .i64 n] w fun e w' => e = .returned (.int .u32 (rot x n)) ∧ Below w.heap.size w w' := by
  have h1 : (n : Int) < 32 := by omega
  have h2 : (0 : Int) < n := by omega
  go_enter Tryz.func160, Tryz.ntmps160
  go_wp2_with fail
  go_quiet (fail)
  go_wp2_with fail
  go_ret
  exact ⟨rfl, below_drawn _ _⟩
theorem zero64 : (#[Value.int IntKind.u32 0, Value.int IntKind.u32 0, Value.int IntKind.u32 0, Value.int IntKind.u32 0, Value.int IntKind.u32 0, Value.int IntKind.u32 0, Value.int IntKind.u32 0, Value.int IntKind.u32 0, Value.int IntKind.u32 0, Value.int IntKind.u32 0, Value.int IntKind.u32 0, Value.int IntKind.u32 0, Value.int IntKind.u32 0, Value.int IntKind.u32 0, Value.int IntKind.u32 0, Value.int IntKind.u32 0, Value.int IntKind.u32 0, Value.int IntKind.u32 0, Value.int IntKind.u32 0, Value.int IntKind.u32 0, Value.int IntKind.u32 0, Value.int IntKind.u32 0, Value.int IntKind.u32 0, Value.int IntKind.u32 0, Value.int IntKind.u32 0, Value.int IntKind.u32 0, Value.int IntKind.u32 0, Value.int IntKind.u32 0, Value.int IntKind.u32 0, Value.int IntKind.u32 0, Value.int IntKind.u32 0, Value.int IntKind.u32 0, Value.int IntKind.u32 0, Value.int IntKind.u32 0, Value.int IntKind.u32 0, Value.int IntKind.u32 0, Value.int IntKind.u32 0, Value.int IntKind.u32 0, Value.int IntKind.u32 0, Value.int IntKind.u32 0, Value.int IntKind.u32 0, Value.int IntKind.u32 0, Value.int IntKind.u32 0, Value.int IntKind.u32 0, Value.int IntKind.u32 0, Value.int IntKind.u32 0, Value.int IntKind.u32 0, Value.int IntKind.u32 0, Value.int IntKind.u32 0, Value.int IntKind.u32 0, Value.int IntKind.u32 0, Value.int IntKind.u32 0, Value.int IntKind.u32 0, Value.int IntKind.u32 0, Value.int IntKind.u32 0, Value.int IntKind.u32 0, Value.int IntKind.u32 0, Value.int IntKind.u32 0, Value.int IntKind.u32 0, Value.int IntKind.u32 0, Value.int IntKind.u32 0, Value.int IntKind.u32 0, Value.int IntKind.u32 0, Value.int IntKind.u32 0] : Array Value) = u32row (zeros 64) := by
  unfold u32row zeros
  rfl
theorem w64_info : (Tryz.prog.info? 217).map (·.size) = some 64 := by kernel_rfl
theorem w64_size (l : List Int) (h : l.length = 64) : (Tryz.prog.info? 217).map (·.size) = some (u32row l).size := by rw [u32row_size, h]; exact w64_info
def firstTo (b : List UInt8) (k : Nat) : List Int := (List.range k).map (be b) ++ zeros (64 - k)
theorem firstTo_length (b : List UInt8) (k : Nat) (h : k ≤ 64) : (firstTo b k).length = 64 := by unfold firstTo zeros; simp; omega
theorem list_set_step (l : List Int) (z : Nat) (x : Int) : (l ++ zeros (z + 1)).set l.length x = (l ++ [x]) ++ zeros z := by
  unfold zeros
  rw [List.set_append_right _ _ (Nat.le_refl _), Nat.sub_self, List.replicate_succ, List.set_cons_zero, List.append_assoc]
  rfl
theorem firstTo_set (b : List UInt8) (k : Nat) (h : k < 64) : (firstTo b k).set k (be b k) = firstTo b (k + 1) := by
  unfold firstTo
  have e := list_set_step ((List.range k).map (be b)) (64 - (k + 1)) (be b k)
  rw [List.length_map, List.length_range, show 64 - (k + 1) + 1 = 64 - k by omega] at e
  rw [e, List.range_succ, List.map_append]
  rfl
theorem run_idx (b : List UInt8) (j : Nat) (hj : j < b.length) (i : Int) (hi : i = (j : Int)) (W : World) : (Instr.index 9 (.string (bs b)) (.int .i64 i)).run Tryz.prog W = .ok (.int .u8 ((b.getD j 0).toNat : Int)) W := by
  subst hi
  rw [run_index_string (P := Tryz.prog) (w := W) 9 (bs b) .i64 _ Tryz.underlying9, dif_pos ⟨by omega, by rw [bs_size]; omega⟩]
  simp [List.getD_eq_getElem?_getD, hj]
set_option maxRecDepth 100000 in
set_option maxHeartbeats 4000000 in
theorem words_any (b : List UInt8) (hb : b.length = 64) (w : World) :
    Calls Tryz.prog 158 #[.string (bs b)] w fun e w' => e = .returned (.agg (u32row (wsTo b 48))) ∧ Below w.heap.size w w' := by
  go_enter Tryz.func158, Tryz.ntmps158
  go_wp2_with fail
  rw [zero64]
  go_loopw [7] (fun i wr => ∃ k : Nat, k ≤ 16 ∧ i = .int .i64 k ∧ Below w.heap.size w wr ∧ wr.heap[w.heap.size]? = some (.cells (u32row (firstTo b k)) 217)) (fun i _ => 16 - (intOf i).toNat)
  case atStart => exact ⟨0, by omega, rfl, (Below.refl _ _).alloc (Nat.le_refl _) _, heap_alloc_new _ _⟩
  case round =>
    obtain ⟨k, hk, rfl, hbw, hrow⟩ := hrel
    have HB := Lib.hid hbw; have HR := Lib.hid hrow
    by_cases hlt : k < 16
    · have hcell : wr.cell? ⟨w.heap.size, k, none⟩ = some (.int .u32 ((firstTo b k)[k]'(by rw [firstTo_length _ _ (by omega)]; omega))) := by
        rw [cell_of_row _ _ _ _ _ _ hrow, u32row_get _ _ (by rw [firstTo_length _ _ (by omega)]; omega)]
      have hfz := frozen_of_row _ _ k _ _ hrow
      generalize (firstTo b k)[k]'(by rw [firstTo_length _ _ (by omega)]; omega) = x0 at hcell
      have i1 := run_idx b (4 * k) (by omega) (4 * (k : Int)) (by omega)
      have i2 := run_idx b (4 * k + 1) (by omega) (4 * (k : Int) + 1) (by omega)
      have i3 := run_idx b (4 * k + 2) (by omega) (4 * (k : Int) + 2) (by omega)
      have i4 := run_idx b (4 * k + 3) (by omega) (4 * (k : Int) + 3) (by omega)
      clear hbw hrow
      go_wp2_with fail
      go_region
      go_wp2_with fail
      go_roundw
      case rel => exact ⟨k + 1, by omega, by go_num, ((HB.out.setCell (p := ⟨w.heap.size, k, none⟩) (Nat.le_refl _) _).drew), by
        have h := heap_setCell_same wr w.heap.size k _ _ (.int .u32 (be b k)) HR.out
        rw [u32row_set, firstTo_set b k (by omega)] at h
        exact h⟩
      case measure => simp [intOf]; omega
    · obtain rfl : k = 16 := by omega
      clear hbw hrow
      go_wp2_with fail
      go_loopw [4] (fun i wr => ∃ k : Nat, k ≤ 48 ∧ i = .int .i64 ((16 + k : Nat) : Int) ∧ Below w.heap.size w wr ∧ wr.heap[w.heap.size]? = some (.cells (u32row (wsTo b k ++ zeros (48 - k))) 217)) (fun i _ => 64 - (intOf i).toNat)
      case atStart => exact ⟨0, by omega, rfl, HB.out, HR.out⟩
      case round =>
        clear HB HR
        obtain ⟨k, hk, rfl, hbw, hrow⟩ := hrel
        have HB := Lib.hid hbw; have HR := Lib.hid hrow
        clear hbw hrow
        by_cases hlt : k < 48
        · have hlen := wsTo_length b k
          have KP := Lib.hid (fun (V : World) (h : V.heap[w.heap.size]? = some (.cells (u32row (wsTo b k ++ zeros (48 - k))) 217)) => (show (∀ j, j < 16 + k → V.cell? ⟨w.heap.size, j, none⟩ = some (.int .u32 ((wsTo b k).getD j 0))) ∧ (∃ v0, V.cell? ⟨w.heap.size, 16 + k, none⟩ = some v0) ∧ V.frozen? ⟨w.heap.size, 16 + k, none⟩ = false from by
            have hl : (wsTo b k ++ zeros (48 - k)).length = 64 := by rw [List.length_append, hlen]; unfold zeros; simp; omega
            refine ⟨fun j hj => ?_, ⟨_, (cell_of_row _ _ _ _ _ _ h).trans (u32row_get _ _ (by omega))⟩, frozen_of_row _ _ _ _ _ h⟩
            rw [cell_of_row _ _ _ _ _ _ h, u32row_get _ _ (by omega), List.getElem_append_left (by omega), List.getD_eq_getElem?_getD, List.getElem?_eq_getElem (by omega)]; rfl))
          have HST := Lib.hid (show (wsTo b k ++ zeros (48 - k)).set (16 + k) (nextW (wsTo b k) (16 + k)) = wsTo b (k + 1) ++ zeros (48 - (k + 1)) from by
            have e := list_set_step (wsTo b k) (48 - (k + 1)) (nextW (wsTo b k) (16 + k))
            rw [hlen, show 48 - (k + 1) + 1 = 48 - k by omega] at e
            exact e)
          unfold nextW at HST
          obtain ⟨t, ht⟩ : ∃ t, 16 + k = t := ⟨_, rfl⟩
          obtain ⟨j16, h16⟩ : ∃ j, t - 16 = j := ⟨_, rfl⟩
          obtain ⟨j15, h15⟩ : ∃ j, t - 15 = j := ⟨_, rfl⟩
          obtain ⟨j7, h7⟩ : ∃ j, t - 7 = j := ⟨_, rfl⟩
          obtain ⟨j2, h2⟩ : ∃ j, t - 2 = j := ⟨_, rfl⟩
          rw [ht] at KP HST ⊢
          rw [h16, h15, h7, h2] at HST
          have e16 : (t : Int) - 16 = (j16 : Int) := by omega
          have e15 : (t : Int) - 15 = (j15 : Int) := by omega
          have e7 : (t : Int) - 7 = (j7 : Int) := by omega
          have e2 : (t : Int) - 2 = (j2 : Int) := by omega
          have b0 : (t : Int) < 64 := by omega
          have b16 : (j16 : Int) < 64 := by omega
          have b15 : (j15 : Int) < 64 := by omega
          have b7 : (j7 : Int) < 64 := by omega
          have b2 : (j2 : Int) < 64 := by omega
          have HLE := Lib.hid (show j16 < t ∧ j15 < t ∧ j7 < t ∧ j2 < t ∧ t + 1 = 16 + (k + 1) ∧ k < 48 from by omega)
          obtain ⟨hc, ⟨v0, hcz⟩, hfz⟩ := KP.out _ HR.out
          have c15 := hc _ HLE.out.2.1
          have c2 := hc _ HLE.out.2.2.2.1
          clear hc hlen ht h16 h15 h7 h2 hlt hk
          obtain ⟨x16, hx16⟩ : ∃ x, (wsTo b k).getD j16 0 = x := ⟨_, rfl⟩
          obtain ⟨x15, hx15⟩ : ∃ x, (wsTo b k).getD j15 0 = x := ⟨_, rfl⟩
          obtain ⟨x7, hx7⟩ : ∃ x, (wsTo b k).getD j7 0 = x := ⟨_, rfl⟩
          obtain ⟨x2, hx2⟩ : ∃ x, (wsTo b k).getD j2 0 = x := ⟨_, rfl⟩
          rw [hx15] at c15 HST
          rw [hx2] at c2 HST
          rw [hx16, hx7] at HST
          have HX := Lib.hid (And.intro hx16 hx7)
          clear hx16 hx15 hx7 hx2
          go_wp2_with fail
          go_quiet (fail)
          have HRB := Lib.hid (fun (V : World) (hb : Below wr.heap.size wr V) => (hb.block w.heap.size (blk_lt HR.out)).trans HR.out)
          have HK2 := Lib.hid (fun (V : World) (hb : Below wr.heap.size wr V) => (show V.cell? ⟨w.heap.size, j16, none⟩ = some (.int .u32 x16) ∧ V.cell? ⟨w.heap.size, j7, none⟩ = some (.int .u32 x7) from ⟨by rw [(KP.out V (HRB.out V hb)).1 j16 HLE.out.1, HX.out.1], by rw [(KP.out V (HRB.out V hb)).1 j7 HLE.out.2.2.1, HX.out.2]⟩))
          have HKS := Lib.hid (fun (V : World) (v : Value) (hb : Below wr.heap.size wr V) => (show (V.setCell ⟨w.heap.size, t, none⟩ v).cell? ⟨w.heap.size, j16, none⟩ = some (.int .u32 x16) ∧ (V.setCell ⟨w.heap.size, t, none⟩ v).cell? ⟨w.heap.size, j7, none⟩ = some (.int .u32 x7) from by
            have h1 := HLE.out
            have h2 := HK2.out V hb
            rw [World.cell?_setCell_other (w := V) (a := ⟨w.heap.size, t, none⟩) (b := ⟨w.heap.size, j16, none⟩) (v := v) (by intro e; injection e with _ e2; omega), World.cell?_setCell_other (w := V) (a := ⟨w.heap.size, t, none⟩) (b := ⟨w.heap.size, j7, none⟩) (v := v) (by intro e; injection e with _ e2; omega)]
            exact h2))
          have HB0 := Lib.hid (show Below wr.heap.size wr (wr.drewN nq) from below_drawn _ _)
          have HB1 := Lib.hid (HB0.out.trans ((Below.refl _ (wr.drewN nq)).drew))
          clear hcz hfz c15 c2
          go_wp2_with fail
          have p16 : (0 : Int) ≤ (j16 : Int) := by omega
          have p7 : (0 : Int) ≤ (j7 : Int) := by omega
          have hxa : ∀ W, (Instr.indexAt 217 (.pointer (some ⟨w.heap.size, 0, none⟩)) (.int .i64 (j16 : Int))).run Tryz.prog W = .ok (.pointer (some ⟨w.heap.size, j16, none⟩)) W := fun W => by go_simp
          have hxb : ∀ W, (Instr.indexAt 217 (.pointer (some ⟨w.heap.size, 0, none⟩)) (.int .i64 ((t : Int) - 16))).run Tryz.prog W = .ok (.pointer (some ⟨w.heap.size, j16, none⟩)) W := fun W => by go_simp
          have hya : ∀ W, (Instr.indexAt 217 (.pointer (some ⟨w.heap.size, 0, none⟩)) (.int .i64 (j7 : Int))).run Tryz.prog W = .ok (.pointer (some ⟨w.heap.size, j7, none⟩)) W := fun W => by go_simp
          have hyb : ∀ W, (Instr.indexAt 217 (.pointer (some ⟨w.heap.size, 0, none⟩)) (.int .i64 ((t : Int) - 7))).run Tryz.prog W = .ok (.pointer (some ⟨w.heap.size, j7, none⟩)) W := fun W => by go_simp
          have hw16 : IntKind.i64.wrap (j16 : Int) = (j16 : Int) := by rw [IntKind.wrap]; simp [IntKind.bits, IntKind.signed]; omega
          have hw7 : IntKind.i64.wrap (j7 : Int) = (j7 : Int) := by rw [IntKind.wrap]; simp [IntKind.bits, IntKind.signed]; omega
          go_region_held3 (fun V => V.cell? ⟨w.heap.size, j16, none⟩ = some (.int .u32 x16) ∧ V.cell? ⟨w.heap.size, j7, none⟩ = some (.int .u32 x7))
            (first | exact HKS.out _ _ HBE.out | exact HK2.out _ HBE.out | exact HK2.out _ HBD.out | exact HK2.out _ HBC.out | exact HK2.out _ HBA.out | exact HK2.out _ HB1.out | exact HK2.out _ HB0.out)
            (first
              | (go_at_call 160; refine (rot_any x2 19 (by decide) (by decide) wD).mono ?_; rintro e wE ⟨rfl, hb⟩; have HBE := Lib.hid (HBD.out.trans (hb.mono HBD.out.size)); clear hb; obtain ⟨_, ⟨vz, hcz⟩, hfz⟩ := KP.out _ (HRB.out _ HBE.out))
              | (go_at_call 160; refine (rot_any x2 17 (by decide) (by decide) wC).mono ?_; rintro e wD ⟨rfl, hb⟩; have HBD := Lib.hid (HBC.out.trans (hb.mono HBC.out.size)); clear hb)
              | (go_at_call 160; refine (rot_any x15 18 (by decide) (by decide) wA).mono ?_; rintro e wC ⟨rfl, hb⟩; have HBC := Lib.hid (HBA.out.trans (hb.mono HBA.out.size)); clear hb)
              | (go_at_call 160; refine (rot_any x15 7 (by decide) (by decide) _).mono ?_; rintro e wA ⟨rfl, hb⟩; have HBA := Lib.hid (HB1.out.trans (hb.mono HB1.out.size)); clear hb))
          go_wp2_with fail
          refine ⟨?_, ?measure⟩
          · repeat apply Exists.intro
            refine ⟨?rel, rfl⟩
            case rel => exact ⟨k + 1, by have := HLE.out; omega, by have := HLE.out.2.2.2.2.1; go_num, ((HB.out.trans (HBE.out.mono HB.out.size)).setCell (p := ⟨w.heap.size, t, none⟩) (Nat.le_refl _) _), by
              have h := heap_setCell_same wE w.heap.size t _ _ (.int .u32 ((((x16 + sig x15 7 18 3) % 4294967296 + x7) % 4294967296 + sig x2 17 19 10) % 4294967296)) (HRB.out _ HBE.out)
              rw [u32row_set, HST.out] at h
              exact h⟩
          show 64 - ((t : Int) + 1).toNat < 64 - (t : Int).toNat
          omega
        · obtain rfl : k = 48 := by omega
          have hsz := w64_size (wsTo b 48) (wsTo_length b 48)
          have HSZ := Lib.hid hsz
          have HR2 := Lib.hid (show wr.heap[w.heap.size]? = some (.cells (u32row (wsTo b 48)) 217) from by
            have h := HR.out
            rw [show 48 - 48 = 0 from rfl, show zeros 0 = [] from rfl, List.append_nil] at h
            exact h)
          have HON := Lib.hid (u32row_one (wsTo b 48))
          clear hsz HR
          obtain ⟨l, hl⟩ : ∃ l, wsTo b 48 = l := ⟨_, rfl⟩
          rw [hl] at HSZ HR2 HON
          have HL := Lib.hid hl
          clear hl
          have hzz : ∃ z, w.heap.size = z := ⟨_, rfl⟩
          obtain ⟨z, hz⟩ := hzz
          rw [hz] at HR2 ⊢
          clear hz
          go_wp2_with (first | (refine wpList_load_row rfl 217 _ rfl z rfl 217 (u32row l) (0, 0) _ HR2.out Tryz.underlying217 rfl HSZ.out ?_) | (refine wpList_store_row rfl 217 _ _ rfl z (u32row l) rfl rfl 217 (u32row l) HR2.out HSZ.out rfl HON.out ?_; rw [setRow_self _ _ _ _ _ HR2.out]))
          exact bodyPost_ret (v := .agg (u32row l)) (results_cell_row rfl _ _ z 217 _ (0, 0) _ rfl HR2.out Tryz.underlying217 rfl HSZ.out) rfl ⟨by rw [HL.out], HB.out⟩
end Go.Proofs.YtoaihngckcbhiaaGreatDoor
namespace Go.Proofs.YtoaihngckcbhiaaGreatDoor
def cntF (l : Array Bool) : Nat := l.toList.count false
theorem count_set_true : ∀ (l : List Bool) (i : Nat), l.getD i true = false → (l.set i true).count false + 1 = l.count false
  | [], i, h => by simp at h
  | b :: l, 0, h => by
    have hb : b = false := by simpa using h
    subst hb
    simp
  | b :: l, i + 1, h => by
    have := count_set_true l i (by simpa using h)
    rw [List.set_cons_succ, List.count_cons, List.count_cons]
    omega
theorem cntF_set {l : Array Bool} {i : Nat} (h : l.getD i true = false) : cntF (l.setIfInBounds i true) + 1 = cntF l := by
  unfold cntF
  rw [Array.toList_setIfInBounds]
  refine count_set_true _ _ ?_
  rw [List.getD_eq_getElem?_getD, Array.getElem?_toList]
  simpa using h
section
variable {P : Program} {ops : Array Oper} {Q : Exit → Act → World → Prop} {md : Region.Mode} {S : World → Prop}
theorem wpAnyH_inv {Inv : Array Bool → Act → World → Prop} {E : Array Bool} {m : Nat} (hend : ∀ a w, Inv E a w → wpAnyH P md ops Q S m E a w) (hm : cntF E = m)
    (hstep : ∀ l a w, Inv l a w → l ≠ E → Region.ready md ops l ≠ [] ∧ ∀ i ∈ Region.ready md ops l, wpOp P ops Q i (fun a' w' => S w' ∧ Inv (l.setIfInBounds i true) a' w') a w) :
    ∀ (n : Nat) (l : Array Bool) (a : Act) (w : World), cntF l = n → Inv l a w → wpAnyH P md ops Q S n l a w
  | n, l, a, w => fun hn hi => by
    by_cases e : l = E
    · subst e
      rw [← hn, hm]
      exact hend a w hi
    · obtain ⟨h1, h2⟩ := hstep l a w hi e
      obtain ⟨j, hj⟩ := List.exists_mem_of_ne_nil _ h1
      have hc := cntF_set (mem_ready.1 hj).1
      cases n with
      | zero => omega
      | succ n =>
        refine ⟨fun h => absurd h h1, fun i hi2 => wpOp_mono (fun a' w' h' => ⟨h'.1, ?_⟩) (h2 i hi2)⟩
        exact wpAnyH_inv hend hm hstep n _ a' w' (by have := cntF_set (mem_ready.1 hi2).1; omega) h'.2
end
section
variable {P : Program} {ops : Array Oper} {Q : Exit → Act → World → Prop} {md : Region.Mode} {S S2 : World → Prop}
theorem wpAnyH_one {i : Nat} {o : Oper} {fuel : Nat} {listed : Array Bool} {a : Act} {w : World} (hr : Region.ready md ops listed = [i]) (ho : ops[i]? = some o)
    (h : ∀ K' : Act → World → Prop, Shut (∀ a w, S w → wpAnyH P md ops Q S fuel (listed.setIfInBounds i true) a w → K' a w) → if Region.wanted o (yielded ops a.tmps) = true then Oper.wp P o a w K' Q else K' (a.put o.dst undef) w) :
    wpAnyH P md ops Q S (fuel + 1) listed a w :=
  ⟨fun h0 => (by rw [hr] at h0; cases h0), fun j hj => by
    rw [hr, List.mem_singleton] at hj
    subst hj
    exact wpOp_step ho (fun K' hK => h K' (fun a w hS hW => hK a w ⟨hS, hW⟩))⟩
end
end Go.Proofs.YtoaihngckcbhiaaGreatDoor
namespace Go.Proofs.YtoaihngckcbhiaaGreatDoor.Sha
open Go.RowKit
def kTab : List Int := [1116352408, 1899447441, 3049323471, 3921009573, 961987163, 1508970993, 2453635748, 2870763221, 3624381080, 310598401, 607225278, 1426881987, 1925078388, 2162078206, 2614888103, 3248222580, 3835390401, 4022224774, 264347078, 604807628, 770255983, 1249150122, 1555081692, 1996064986, 2554220882, 2821834349, 2952996808, 3210313671, 3336571891, 3584528711, 113926993, 338241895, 666307205, 773529912, 1294757372, 1396182291, 1695183700, 1986661051, 2177026350, 2456956037, 2730485921, 2820302411, 3259730800, 3345764771, 3516065817, 3600352804, 4094571909, 275423344, 430227734, 506948616, 659060556, 883997877, 958139571, 1322822218, 1537002063, 1747873779, 1955562222, 2024104815, 2227730452, 2361852424, 2428436474, 2756734187, 3204031479, 3329325298]
@[irreducible] def hashRow (h : List Int) (rest : List UInt8) (n : Nat) : Array Value := ((h.map fun x => Value.int .u32 x) ++ [Value.string (bs rest), Value.int .u64 (n : Int)]).toArray
theorem hashRow_get {h : List Int} {rest : List UInt8} {n : Nat} (hl : h.length = 8) (i : Nat) (hi : i < 8) : (hashRow h rest n)[i]? = some (.int .u32 (h.getD i 0)) := by
  unfold hashRow
  rw [List.getElem?_toArray, List.getElem?_append_left (by rw [List.length_map]; omega), List.getElem?_map, List.getElem?_eq_getElem (by omega), List.getD_eq_getElem?_getD, List.getElem?_eq_getElem (by omega)]
  rfl
theorem hashRow_rest {h : List Int} {rest : List UInt8} {n : Nat} (hl : h.length = 8) : (hashRow h rest n)[8]? = some (.string (bs rest)) ∧ (hashRow h rest n)[9]? = some (.int .u64 (n : Int)) := by
  unfold hashRow
  constructor <;> (rw [List.getElem?_toArray, List.getElem?_append_right (by rw [List.length_map]; omega), List.length_map, hl]; rfl)
theorem hashRow_set {h : List Int} {rest : List UInt8} {n : Nat} (hl : h.length = 8) (i : Nat) (hi : i < 8) (x : Int) : (hashRow h rest n).setIfInBounds i (.int .u32 x) = hashRow (h.set i x) rest n := by
  unfold hashRow
  rw [List.setIfInBounds_toArray, List.set_append_left _ _ (by rw [List.length_map]; omega), List.map_set]
theorem hashRow_setRest {h : List Int} {rest : List UInt8} {n : Nat} (hl : h.length = 8) (r : List UInt8) : (hashRow h rest n).setIfInBounds 8 (.string (bs r)) = hashRow h r n := by
  unfold hashRow
  rw [List.setIfInBounds_toArray, List.set_append_right _ _ (by rw [List.length_map]; omega), List.length_map, hl]
  rfl
theorem hashRow_setN {h : List Int} {rest : List UInt8} {n : Nat} (hl : h.length = 8) (m : Nat) : (hashRow h rest n).setIfInBounds 9 (.int .u64 (m : Int)) = hashRow h rest m := by
  unfold hashRow
  rw [List.setIfInBounds_toArray, List.set_append_right _ _ (by rw [List.length_map]; omega), List.length_map, hl]
  rfl
end Go.Proofs.YtoaihngckcbhiaaGreatDoor.Sha
namespace Go.Proofs.YtoaihngckcbhiaaGreatDoor
open Go.RowKit
open Sha
theorem kTab_cells : (#[.int .u32 1116352408, .int .u32 1899447441, .int .u32 3049323471, .int .u32 3921009573, .int .u32 961987163, .int .u32 1508970993, .int .u32 2453635748, .int .u32 2870763221, .int .u32 3624381080, .int .u32 310598401, .int .u32 607225278, .int .u32 1426881987, .int .u32 1925078388, .int .u32 2162078206, .int .u32 2614888103, .int .u32 3248222580, .int .u32 3835390401, .int .u32 4022224774, .int .u32 264347078, .int .u32 604807628, .int .u32 770255983, .int .u32 1249150122, .int .u32 1555081692, .int .u32 1996064986, .int .u32 2554220882, .int .u32 2821834349, .int .u32 2952996808, .int .u32 3210313671, .int .u32 3336571891, .int .u32 3584528711, .int .u32 113926993, .int .u32 338241895, .int .u32 666307205, .int .u32 773529912, .int .u32 1294757372, .int .u32 1396182291, .int .u32 1695183700, .int .u32 1986661051, .int .u32 2177026350, .int .u32 2456956037, .int .u32 2730485921, .int .u32 2820302411, .int .u32 3259730800, .int .u32 3345764771, .int .u32 3516065817, .int .u32 3600352804, .int .u32 4094571909, .int .u32 275423344, .int .u32 430227734, .int .u32 506948616, .int .u32 659060556, .int .u32 883997877, .int .u32 958139571, .int .u32 1322822218, .int .u32 1537002063, .int .u32 1747873779, .int .u32 1955562222, .int .u32 2024104815, .int .u32 2227730452, .int .u32 2361852424, .int .u32 2428436474, .int .u32 2756734187, .int .u32 3204031479, .int .u32 3329325298] : Array Value) = u32row kTab := by
  unfold u32row kTab
  rfl
set_option maxRecDepth 100000 in
set_option maxHeartbeats 4000000 in
theorem shaTable_any (w : World) :
    Calls Tryz.prog 159 #[] w fun e w' => e = .returned (.agg (u32row kTab)) ∧ Below w.heap.size w w' := by
  go_enter Tryz.func159, Tryz.ntmps159
  have hone := u32row_one kTab
  have hold : (#[Value.int IntKind.u32 0, Value.int IntKind.u32 0, Value.int IntKind.u32 0, Value.int IntKind.u32 0, Value.int IntKind.u32 0, Value.int IntKind.u32 0, Value.int IntKind.u32 0, Value.int IntKind.u32 0, Value.int IntKind.u32 0, Value.int IntKind.u32 0, Value.int IntKind.u32 0, Value.int IntKind.u32 0, Value.int IntKind.u32 0, Value.int IntKind.u32 0, Value.int IntKind.u32 0, Value.int IntKind.u32 0, Value.int IntKind.u32 0, Value.int IntKind.u32 0, Value.int IntKind.u32 0, Value.int IntKind.u32 0, Value.int IntKind.u32 0, Value.int IntKind.u32 0, Value.int IntKind.u32 0, Value.int IntKind.u32 0, Value.int IntKind.u32 0, Value.int IntKind.u32 0, Value.int IntKind.u32 0, Value.int IntKind.u32 0, Value.int IntKind.u32 0, Value.int IntKind.u32 0, Value.int IntKind.u32 0, Value.int IntKind.u32 0, Value.int IntKind.u32 0, Value.int IntKind.u32 0, Value.int IntKind.u32 0, Value.int IntKind.u32 0, Value.int IntKind.u32 0, Value.int IntKind.u32 0, Value.int IntKind.u32 0, Value.int IntKind.u32 0, Value.int IntKind.u32 0, Value.int IntKind.u32 0, Value.int IntKind.u32 0, Value.int IntKind.u32 0, Value.int IntKind.u32 0, Value.int IntKind.u32 0, Value.int IntKind.u32 0, Value.int IntKind.u32 0, Value.int IntKind.u32 0, Value.int IntKind.u32 0, Value.int IntKind.u32 0, Value.int IntKind.u32 0, Value.int IntKind.u32 0, Value.int IntKind.u32 0, Value.int IntKind.u32 0, Value.int IntKind.u32 0, Value.int IntKind.u32 0, Value.int IntKind.u32 0, Value.int IntKind.u32 0, Value.int IntKind.u32 0, Value.int IntKind.u32 0, Value.int IntKind.u32 0, Value.int IntKind.u32 0, Value.int IntKind.u32 0] : Array Value).size = (u32row kTab).size := by rw [u32row_size]; rfl
  have HS := Lib.hid (w64_size kTab rfl)
  have HC := Lib.hid kTab_cells
  go_wp2_with (first | (refine wpList_store_row rfl 217 _ _ rfl w.heap.size (u32row kTab) rfl (congrArg Value.agg HC.out) 217 _ (heap_alloc_new w _) HS.out hold hone ?_; rw [World.setRow_alloc_new]))
  exact bodyPost_ret (v := .agg (u32row kTab)) (results_cell_row rfl _ _ w.heap.size 217 _ (0, 0) _ rfl (heap_alloc_new w _) Tryz.underlying217 rfl (w64_size kTab rfl)) rfl ⟨rfl, (Below.refl _ _).alloc (Nat.le_refl _) _⟩
end Go.Proofs.YtoaihngckcbhiaaGreatDoor
