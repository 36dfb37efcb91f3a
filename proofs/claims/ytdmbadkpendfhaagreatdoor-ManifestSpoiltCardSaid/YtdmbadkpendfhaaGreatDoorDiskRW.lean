/- Disk.Read, walked. Disk.Write, walked. -/
import Derived.Test.YtdmbadkpendfhaaGreatDoorDiskWalks
import Derived.Test.YtdmbadkpendfhaaGreatDoorBuilder
import Derived.Deep.RegionHeld3
import Derived.Deep.RegionLaw
import Derived.Deep.AppendLies
namespace Go.Proofs.YtdmbadkpendfhaaGreatDoor
open Go.RowKit Go.Maps

theorem BytesAt.upd {F : Nat → Prop} {w w' : World} {b : Nat} {l : List UInt8} (h : BytesAt w b l) (hu : Upd F w w') (hF : ¬ F b) : BytesAt w' b l := by
  have hlt := h.lt
  obtain ⟨C, e, fr, h1, h2⟩ := h
  exact ⟨C, e, fr, by rw [hu.block b hlt hF]; exact h1, h2⟩
theorem ownsRow_max {w : World} {base e s : Nat} {v : Value} {n : Nat} {xs : List Value} (h : w.ownsRow base e s v n xs) : n ≤ 9223372036854775807 := by
  rcases h.2 with ⟨_, e⟩ | ⟨g, cap, _, _, _, _, h1, h2, _⟩
  · omega
  · unfold maxLen at h2; omega
theorem DiskIn.below {w w' : World} {b m : Nat} {lv : Value} {D : Dsk} (h : DiskIn w b m lv D) (hb : Below w.heap.size w w') : DiskIn w' b m lv D := h.upd (Upd.of_below (F := fun _ => False) hb) (fun _ _ f => f)

theorem sec_made (w : World) (n : Nat) (hn : n ≤ 16384) : ∃ C, (Instr.makeSlice 212 (.int .i64 (n : Int)) (.int .i64 (n : Int))).run Tryz.prog w = .ok (.slice (some ⟨w.heap.size, 0, none⟩) n n) (w.alloc (.cells C 174)) ∧
    BytesAt (w.alloc (.cells C 174)) w.heap.size (List.replicate (64 * n) 0) := by
  have hinfo : (Tryz.prog.info? 174).map (fun i => (i.zero, i.size, i.bytes)) = some (some (.agg (u8row sec0)), 64, 64) := by kernel_rfl
  obtain ⟨i0, hi, hz0, hz1, hz2⟩ := info_parts hinfo
  have hrun := run_make (P := Tryz.prog) w 212 174 i0 _ Tryz.underlying212 hi hz0 .i64 .i64 n n (by omega) (Int.le_refl _) (by rw [hz2]; omega) (by omega)
  rw [Int.toNat_natCast] at hrun
  refine ⟨_, hrun, bytes_row_new w _ _ _ (fun i hi => ?_)⟩
  have hi0 := hi
  rw [List.length_replicate] at hi
  rw [hz1]
  have hs : sec0.length = 64 := by simp [sec0]
  have hg := u8row_get sec0 (i % 64) (by rw [hs]; exact Nat.mod_lt _ (by decide))
  have hz : sec0[i % 64]'(by rw [hs]; exact Nat.mod_lt _ (by decide)) = 0 := List.getElem_replicate _
  rw [hz] at hg
  clear hz hrun
  have hz2 : (List.replicate (64 * n) (0 : UInt8))[i]'hi0 = 0 := List.getElem_replicate _
  rw [hz2]
  unfold madeCells
  simp only [Value.cells, u8row_size, hs]
  rw [Array.getElem?_map, Array.getElem?_range, if_pos (by omega)]
  simp only [Option.map_some]
  rw [getElem!_def, hg]

set_option maxRecDepth 100000 in
set_option maxHeartbeats 400000 in
theorem read_down {w : World} {b m : Nat} {lv : Value} {D : Dsk} (h : DiskIn w b m lv D) (at_ n : Int) (hd : D.down = true) :
    Calls Tryz.prog 115 #[.pointer (some ⟨b, 0, none⟩), .int .i64 at_, .int .i64 n] w fun e w' => e = .returned (.tuple #[.string (bs []), .int .i64 40]) ∧ w = w' := by
  have hu : Hid (D.up = 40) := Lib.hid (by unfold Dsk.up; rw [hd]; rfl)
  clear hd
  go_enter Tryz.func115, Tryz.ntmps115
  go_wp2_with fail
  refine (up_any h).mono ?_
  rw [hu.out]
  rintro e w1 ⟨rfl, rfl⟩
  go_wp2_with fail
  go_ret2
  exact ⟨rfl, rfl⟩

set_option maxRecDepth 100000 in
set_option maxHeartbeats 400000 in
theorem read_out {w : World} {b m : Nat} {lv : Value} {D : Dsk} (h : DiskIn w b m lv D) (at_ n : Int) (h1 : -9223372036854775808 ≤ at_) (h2 : at_ ≤ 9223372036854775807) (h3 : -9223372036854775808 ≤ n) (h4 : n ≤ 9223372036854775807) (hd : D.down = false) (hi : D.inside at_ n = false) :
    Calls Tryz.prog 115 #[.pointer (some ⟨b, 0, none⟩), .int .i64 at_, .int .i64 n] w fun e w' => e = .returned (.tuple #[.string (bs []), .int .i64 2]) ∧ w = w' := by
  have hu : Hid (D.up = 0) := Lib.hid (by unfold Dsk.up; rw [hd]; rfl)
  have HI := Lib.hid hi
  clear hd hi
  go_enter Tryz.func115, Tryz.ntmps115
  go_wp2_with fail
  refine (up_any h).mono ?_
  rw [hu.out]
  rintro e w1 ⟨rfl, rfl⟩
  go_wp2_with fail
  refine (in_any h at_ n h1 h2 h3 h4).mono ?_
  rw [HI.out]
  rintro e w1 ⟨rfl, rfl⟩
  go_wp2_with fail
  go_ret2
  exact ⟨rfl, rfl⟩

set_option maxRecDepth 100000 in
set_option maxHeartbeats 1000000 in
theorem read_in {w : World} {b m : Nat} {lv : Value} {D : Dsk} (h : DiskIn w b m lv D) (a n : Nat) (hd : D.down = false) (hi : D.inside a n = true) :
    Calls Tryz.prog 115 #[.pointer (some ⟨b, 0, none⟩), .int .i64 a, .int .i64 n] w fun e w' => e = .returned (.tuple #[.string (bs (Dsk.text D.now a n)), .int .i64 0]) ∧ Below w.heap.size w w' := by
  have hu : Hid (D.up = 0) := Lib.hid (by unfold Dsk.up; rw [hd]; rfl)
  have HI := Lib.hid hi
  have hN := h.fine.n2
  have hin : a + n ≤ D.n := by
    simp [Dsk.inside] at hi
    omega
  clear hd hi
  obtain ⟨C, hmk, hrow⟩ := sec_made w n (by omega)
  have HROW := Lib.hid hrow
  clear hrow
  have HD := Lib.hid h
  go_enter Tryz.func115, Tryz.ntmps115
  go_wp2_with fail
  refine (up_any h).mono ?_
  rw [hu.out]
  rintro e w1 ⟨rfl, rfl⟩
  go_wp2_with fail
  refine (in_any h a n (by omega) (by omega) (by omega) (by omega)).mono ?_
  rw [HI.out]
  rintro e w1 ⟨rfl, rfl⟩
  clear h
  go_wp2_with fail
  go_loopw [30] (fun i wr => ∃ k : Nat, k ≤ n ∧ i = .int .i64 k ∧ BytesAt wr w.heap.size (Dsk.text (Dsk.upTo D.base (a + k)) a n) ∧ Below w.heap.size w wr) (fun i _ => n - (intOf i).toNat)
  case atStart =>
    refine ⟨0, by omega, rfl, ?_, (Below.refl _ _).alloc (Nat.le_refl _) _⟩
    rw [Nat.add_zero, Dsk.upTo_start]
    exact HROW.out
  case round =>
    obtain ⟨k, hk, rfl, hat, hb⟩ := hrel
    by_cases hlt : k < n
    · have HAT := Lib.hid hat
      have hdi := HD.out.below hb
      obtain ⟨_, c1, _, _, _, _⟩ := hdi.cells
      have hget := hdi.base.get (a + k) (by omega) hN
      rw [Int.natCast_add] at hget
      clear hat hdi
      have hbl := HD.out.fine.base
      have HBL := Lib.hid (hbl (a + k) (by omega))
      have hul : ∀ j, a ≤ j → j < a + n → (Dsk.upTo D.base (a + k) j).length = 64 := fun j _ h2 => Dsk.upTo_len hbl _ j (by omega)
      have HUL := Lib.hid hul
      have hlen : (Dsk.text (Dsk.upTo D.base (a + k)) a n).length = 64 * n := Dsk.len_in hul
      have hst := HAT.out.store Tryz.prog (k * 64) (D.base (a + k)) (by rw [HBL.out, hlen]; omega)
      have HSEG := Lib.hid (HAT.out.seg (D.base (a + k)) (k * 64) (by rw [HBL.out, hlen]; omega))
      have hl2 := HBL.out
      clear hbl hlen hul
      go_wp2_with fail
      go_roundw
      case rel =>
        refine ⟨k + 1, by omega, by go_num, ?_, below_setCells hb (Nat.le_refl _) _ _⟩
        have e := HSEG.out
        rw [Nat.mul_comm k 64, ← Dsk.text_upd HUL.out hlt HBL.out, ← Dsk.upTo_step] at e
        rw [Nat.mul_comm k 64]
        exact e
      case measure => simp [intOf]; omega
    · obtain rfl : k = n := by omega
      rw [Dsk.upTo_full] at hat
      have HAT := Lib.hid hat
      have hdi := HD.out.below hb
      obtain ⟨_, _, c2, _, _, _⟩ := hdi.cells
      have hl : ∃ q cap, lv = .slice q D.loose.length cap := by
        rcases hdi.loose.2 with ⟨e1, e2⟩ | ⟨g, cap, _, e1, _⟩
        · exact ⟨none, 0, by rw [e1, e2]⟩
        · exact ⟨_, cap, e1⟩
      obtain ⟨q, cap, rfl⟩ := hl
      have hmax := ownsRow_max hdi.loose
      have HB := Lib.hid hb
      clear hat hdi hb hmk
      go_wp2_with fail
      go_loopw [50] (fun i wr => ∃ j : Nat, j ≤ D.loose.length ∧ i = .int .i64 j ∧ BytesAt wr w.heap.size (Dsk.text (Dsk.lay D.base (D.loose.take j)) a k) ∧ Below w.heap.size w wr) (fun i _ => D.loose.length - (intOf i).toNat)
      case atStart => exact ⟨0, by omega, rfl, HAT.out, HB.out⟩
      case round =>
        clear HAT HB
        rename_i wr0
        obtain ⟨j, hj, rfl, hat, hb⟩ := hrel
        by_cases hlt : j < D.loose.length
        · have hlo := (HD.out.below hb).loose
          obtain ⟨g, rfl⟩ : ∃ g, q = some ⟨g, 0, none⟩ := by
            rcases hlo.2 with ⟨e1, e2⟩ | ⟨g, cap, _, e1, _⟩
            · omega
            · exact ⟨g, by cases e1; rfl⟩
          obtain ⟨p1, p2⟩ := HD.out.fine.loose D.loose[j] (List.getElem_mem hlt)
          have hall : ∀ p ∈ D.loose, p.2.length = 64 := fun p hp => (HD.out.fine.loose p hp).2
          have hr := loose_range hlo hall j hlt
          have hidx := run_index_slice Tryz.prog 114 176 Tryz.underlying114 65 put_elem ⟨g, 0, none⟩ D.loose.length cap j hlt
          have ead : (⟨g, 0, none⟩ : Addr).add (j * 65) = ⟨g, j * 65, none⟩ := by unfold Addr.add; split <;> simp_all
          rw [ead] at hidx
          have HS := Lib.hid (Dsk.lay_take_succ D.base D.loose j hlt)
          have hfl : ∀ i, i < D.n → (Dsk.lay D.base (D.loose.take j) i).length = 64 := Dsk.lay_length HD.out.fine.base (fun p hp => HD.out.fine.loose p (List.mem_of_mem_take hp))
          have HFL := Lib.hid hfl
          have HR := Lib.hid hr
          have HP2 := Lib.hid p2
          have HAT := Lib.hid hat
          generalize D.loose[j] = p at *
          clear hlo hall hr hfl ead p2 hat
          have hz := putRow_zero p
          have hlen : (Dsk.text (Dsk.lay D.base (D.loose.take j)) a k).length = 64 * k := Dsk.len_in (fun i _ h2 => HFL.out i (by omega))
          have HLEN := Lib.hid hlen
          have HB := Lib.hid hb
          clear hlen hb
          by_cases hin2 : a ≤ p.1 ∧ p.1 < a + k
          · obtain ⟨i1, i2⟩ := hin2
            have hat2 := HAT.out.below ((Below.refl _ wr).alloc (Nat.le_refl _) (.cells (putRow p) 176))
            have hst := hat2.store Tryz.prog ((p.1 - a) * 64) p.2 (by rw [HP2.out, HLEN.out]; omega)
            have HSEG := Lib.hid (hat2.seg p.2 ((p.1 - a) * 64) (by rw [HP2.out, HLEN.out]; omega))
            have hl2 := HP2.out
            clear hat2
            go_wp2_with (first | (refine wpList_load_mid rfl 176 _ rfl g (j * 65) rfl _ _ HR.out Tryz.underlying176 rfl (put_len p HP2.out) ?_; rw [put_array]) | (refine wpList_store_row rfl 176 _ _ rfl wr.heap.size (putRow p) rfl rfl 176 _ (heap_alloc_new wr _) (put_size p HP2.out) (put_zero p HP2.out) (putRow_one p) ?_; rw [World.setRow_alloc_new]) | (refine wpList_load_mid rfl 174 _ rfl wr.heap.size 1 rfl _ _ (putRow_sec wr p _) Tryz.underlying174 rfl (sec_len p.2 HP2.out) ?_; rw [u8cells_array]))
            go_roundw
            case rel =>
              refine ⟨j + 1, by omega, by go_num, ?_, below_setCells (HB.out.alloc HB.out.size _) (Nat.le_refl _) _ _⟩
              have e := HSEG.out
              have e2 := Dsk.text_upd (f := Dsk.lay D.base (D.loose.take j)) (k := a) (n := k) (i := p.1 - a) (x := p.2) (fun i _ h2 => HFL.out i (by omega)) (by omega) HP2.out
              rw [show a + (p.1 - a) = p.1 by omega, ← HS.out] at e2
              rw [Nat.mul_comm (p.1 - a) 64, ← e2] at e
              rw [Nat.mul_comm (p.1 - a) 64]
              exact e
            case measure => simp [intOf]; omega
          · have hsame : Dsk.text (Dsk.lay D.base (D.loose.take (j + 1))) a k = Dsk.text (Dsk.lay D.base (D.loose.take j)) a k := by
              rw [HS.out]
              exact Dsk.text_congr a k (fun i h1 h2 => by unfold Dsk.upd; rw [if_neg (by omega)])
            have HSAME := Lib.hid hsame
            clear hsame
            by_cases hlow : a ≤ p.1
            · have hhi : a + k ≤ p.1 := by omega
              clear hin2
              go_wp2_with (first | (refine wpList_load_mid rfl 176 _ rfl g (j * 65) rfl _ _ HR.out Tryz.underlying176 rfl (put_len p HP2.out) ?_; rw [put_array]) | (refine wpList_store_row rfl 176 _ _ rfl wr.heap.size (putRow p) rfl rfl 176 _ (heap_alloc_new wr _) (put_size p HP2.out) (put_zero p HP2.out) (putRow_one p) ?_; rw [World.setRow_alloc_new]))
              go_roundw
              case rel => exact ⟨j + 1, by omega, by go_num, by rw [HSAME.out]; exact HAT.out.below ((Below.refl _ wr).alloc (Nat.le_refl _) _), HB.out.alloc HB.out.size _⟩
              case measure => simp [intOf]; omega
            · clear hin2
              go_wp2_with (first | (refine wpList_load_mid rfl 176 _ rfl g (j * 65) rfl _ _ HR.out Tryz.underlying176 rfl (put_len p HP2.out) ?_; rw [put_array]) | (refine wpList_store_row rfl 176 _ _ rfl wr.heap.size (putRow p) rfl rfl 176 _ (heap_alloc_new wr _) (put_size p HP2.out) (put_zero p HP2.out) (putRow_one p) ?_; rw [World.setRow_alloc_new]))
              go_roundw
              case rel => exact ⟨j + 1, by omega, by go_num, by rw [HSAME.out]; exact HAT.out.below ((Below.refl _ wr).alloc (Nat.le_refl _) _), HB.out.alloc HB.out.size _⟩
              case measure => simp [intOf]; omega
        · obtain rfl : j = D.loose.length := by omega
          rw [List.take_length] at hat
          have HAT := Lib.hid hat
          have HB := Lib.hid hb
          have HFL := Lib.hid HD.out.fine.now
          clear hat hb c2 HD HROW hmax
          go_wp2_with fail
          have hmade := BuiltAt.made wr
          obtain ⟨wo, rfl⟩ : ∃ wo : World, wo = wr := ⟨_, rfl⟩
          have hlb := HAT.out.lt
          have hnew := (Below.refl wo.heap.size wo).alloc (Nat.le_refl _) (.cells #[.pointer none, .slice none 0 0] 194)
          have hat1 := HAT.out.below hnew
          have hb1 : Below w.heap.size w (wo.alloc (.cells #[.pointer none, .slice none 0 0] 194)) := HB.out.alloc HB.out.size _
          have hfulllen : (Dsk.text D.now a k).length = 64 * k := Dsk.len_in (fun i _ h2 => HFL.out i (by omega))
          have HLEN := Lib.hid hfulllen
          clear hfulllen hnew
          have hnow : Dsk.lay D.base D.loose = D.now := rfl
          rw [hnow] at hat1
          clear hnow
          go_loopw [77] (fun i wl => ∃ (j : Nat) (fp : Nat → Prop), j ≤ k ∧ i = .int .i64 j ∧ BytesAt wl w.heap.size (Dsk.text D.now a k) ∧ BuiltAt wl wo.heap.size ((Dsk.text D.now a k).take (64 * j)) fp ∧ (∀ q, fp q → wo.heap.size ≤ q) ∧ Below w.heap.size w wl) (fun i _ => k - (intOf i).toNat)
          case atStart =>
            refine ⟨0, _, by omega, rfl, hat1, hmade, ?_, hb1⟩
            rintro q (rfl | hq)
            · exact Nat.le_refl _
            · simp [Value.ownBlock] at hq
          case round =>
            clear hmade hat1 hb1
            obtain ⟨j, fp, hj, rfl, hat, hbu, hfp, hb⟩ := hrel
            by_cases hlt : j < k
            · have hpart := Dsk.text_part (f := D.now) (k := a) (n := k) (i := j) (fun i _ h2 => HFL.out i (by omega)) hlt
              have hr := hat.range (j * 64) 64 (by rw [HLEN.out]; omega)
              rw [Nat.mul_comm j 64, hpart.2.1] at hr
              have hx : (D.now (a + j)).length = 64 := HFL.out _ (by omega)
              have HX := Lib.hid hx
              have HR := Lib.hid hr
              have HT : Hid ((Dsk.text D.now a k).take (64 * (j + 1)) = (Dsk.text D.now a k).take (64 * j) ++ D.now (a + j)) := Lib.hid (by
                rw [show 64 * (j + 1) = 64 * j + 64 by omega, List.take_add, hpart.2.1])
              have hnew := (Below.refl wr.heap.size wr).alloc (Nat.le_refl _) (.cells (u8row (D.now (a + j))) 174)
              have HAT2 := Lib.hid (hat.below hnew)
              have HBU := Lib.hid (hbu.upd (Upd.of_below (F := fun _ => False) hnew) (fun _ _ f => f))
              have HFP := Lib.hid hfp
              have HLT := Lib.hid hbu.lt
              have HWO : Hid (wo.heap.size ≤ wr.heap.size) := Lib.hid (Nat.le_of_lt (hbu.lt wo.heap.size hbu.own))
              have HBB := Lib.hid (hb.alloc hb.size (.cells (u8row (D.now (a + j))) 174))
              generalize hxx : D.now (a + j) = x at *
              clear hpart hr hx hat hbu hfp hb hnew hxx
              have hsl := fun W => run_slice_arr_all Tryz.prog W 174 5 64 wr.heap.size Tryz.underlying174 (by kernel_rfl)
              go_wp2_with (first | (refine wpList_load_mid rfl 174 _ rfl w.heap.size (j * 64) rfl _ _ (by rw [Nat.mul_comm]; exact HR.out) Tryz.underlying174 rfl (sec_len x HX.out) ?_; rw [u8cells_array]) | (refine wpList_store_row rfl 174 _ _ rfl wr.heap.size (u8row x) rfl rfl 174 _ (heap_alloc_new wr _) (by rw [u8row_size, HX.out]; exact sec_size) (by rw [u8row_size, HX.out]; rfl) (u8row_one x) ?_; rw [World.setRow_alloc_new]))
              refine (bwrite_any HBU.out wr.heap.size 0 64 x (fun i hi => by rw [Nat.zero_add, cell_new_row]; exact u8row_get x i hi) (fun hf => Nat.lt_irrefl _ (HLT.out _ hf)) (by rw [List.length_take, HLEN.out, HX.out]; omega) 64 HX.out).mono ?_
              rintro e w2 ⟨rfl, fp2, hbu2, hu2, hst2⟩
              have HBU2 := Lib.hid hbu2
              have HU2 := Lib.hid hu2
              have HST2 := Lib.hid hst2
              clear hbu2 hu2 hst2
              go_wp2_with fail
              go_roundw
              case rel =>
                refine ⟨j + 1, fp2, by omega, by go_num, HAT2.out.upd HU2.out (fun hf => by have := HFP.out _ hf; omega), by rw [HT.out]; exact HBU2.out, ?_, below_upd HBB.out HU2.out (fun q hq => Nat.le_trans (Nat.le_of_lt hlb) (HFP.out q hq)) HBB.out.size⟩
                intro q hq
                rcases HST2.out q hq with h1 | h1
                · exact HFP.out q h1
                · have := HWO.out
                  rw [World.size_alloc] at h1
                  omega
              case measure => simp [intOf]; omega
            · obtain rfl : j = k := by omega
              rw [List.take_of_length_le (by rw [HLEN.out]; omega)] at hbu
              have HBU := Lib.hid hbu
              have HFP := Lib.hid hfp
              have HB2 := Lib.hid hb
              clear hbu hfp hb hat
              go_wp2_with fail
              refine (bstring_any HBU.out).mono ?_
              rintro e w2 ⟨rfl, hu2⟩
              go_wp2_with fail
              go_ret2
              exact ⟨rfl, below_upd HB2.out hu2 (fun q hq => Nat.le_trans (Nat.le_of_lt hlb) (HFP.out q hq)) HB2.out.size⟩
end Go.Proofs.YtdmbadkpendfhaaGreatDoor

namespace Go.Proofs.YtdmbadkpendfhaaGreatDoor
open Go.RowKit Go.Maps

theorem chunk (s : List UInt8) (k : Nat) (h : 64 * (k + 1) ≤ s.length) : (s.take (64 * (k + 1))).drop (64 * k) = (s.drop (64 * k)).take 64 ∧ ((s.drop (64 * k)).take 64).length = 64 := by
  refine ⟨?_, by rw [List.length_take, List.length_drop]; omega⟩
  rw [List.drop_take, show 64 * (k + 1) - 64 * k = 64 by omega]

theorem put_info3 : (Tryz.prog.info? 176).map (fun i => (i.zero, i.size, i.bytes)) = some (some (.agg Tryz.zeroCells176), 65, 72) := by kernel_rfl
theorem news_new (w : World) (C : Array Value) (T : TypeId) (N : Nat) (hN : w.heap.size = N) : ∀ j u, C.toList[j]? = some u → (w.alloc (.cells C T)).drew.cell? ((⟨N, 0, none⟩ : Addr).add j) = some u := by
  subst hN
  intro j u h
  have e : (⟨w.heap.size, 0, none⟩ : Addr).add j = ⟨w.heap.size, j, none⟩ := by unfold Addr.add; split <;> simp_all
  rw [e]
  show (w.alloc (.cells C T)).cell? _ = _
  rw [cell_new_row, ← Array.getElem?_toList]
  exact h
theorem putRowZ_one (i : Int) (x : List UInt8) : ∀ u ∈ (putRowZ i x).toList, u.oneCell' = true := by
  unfold putRowZ
  intro u hu
  rcases List.mem_cons.1 hu with rfl | h
  · rfl
  · exact u8cells_one _ u h
theorem putRowZ_len (i : Int) (x : List UInt8) (h : x.length = 64) : (putRowZ i x).toList.length = 1 * 65 := by rw [Array.length_toList, putRowZ_size i x h]
theorem rangeAt_grown {w w' : World} {row : Option Nat} (hg : w.grownBy w' row) {b o : Nat} {cs : List Value} (h : w.rangeAt b o cs) (hne : some b ≠ row) : w'.rangeAt b o cs := fun j v hv => hg.cell (h j v hv) hne

theorem keep_S {w : World} {a : Addr} {v : Value} {b2 o : Nat} {cs : List Value} (h1 : w.cell? a = some v) (h0 : w.frozen? a = false) (h2 : w.rangeAt b2 o cs) (ob : Obj) : (w.alloc ob).drew.cell? a = some v ∧ (w.alloc ob).drew.frozen? a = false ∧ (w.alloc ob).drew.rangeAt b2 o cs := by
  have hb := (Below.refl w.heap.size w).alloc (Nat.le_refl _) ob
  refine ⟨(hb.cell (block_lt_of_cell h1)).trans h1, (hb.frozen (block_lt_of_cell h1)).trans h0, fun j u hj => ?_⟩
  have := h2 j u hj
  exact (hb.cell (block_lt_of_cell this)).trans this
theorem keep_grown {w w' : World} {a : Addr} {v : Value} {b2 o : Nat} {cs : List Value} (h : w.cell? a = some v ∧ w.frozen? a = false ∧ w.rangeAt b2 o cs) {row : Option Nat} (hg : w.grownBy w' row) (hne : some a.block ≠ row) (hne2 : some b2 ≠ row) : w'.cell? a = some v ∧ w'.frozen? a = false ∧ w'.rangeAt b2 o cs :=
  ⟨hg.cell h.1 hne, (hg.frozen_far a (block_lt_of_cell h.1) hne).trans h.2.1, rangeAt_grown hg h.2.2 hne2⟩
theorem keep_set {w : World} {a : Addr} {b2 o : Nat} {cs : List Value} (h : w.frozen? a = false ∧ w.rangeAt b2 o cs) (v : Value) (hne : b2 ≠ a.block) : (w.setCell a v).frozen? a = false ∧ (w.setCell a v).rangeAt b2 o cs := by
  refine ⟨by rw [World.frozen?_setCell]; exact h.1, fun j u hj => ?_⟩
  rw [World.cell?_setCell_far _ _ _ _ (Ne.symm hne)]
  exact h.2 j u hj
/-- One loose write more. -/
theorem wrote {w1 W w2 : World} {b m : Nat} {lk : Value} {E : Dsk} (h : DiskIn w1 b m lk E) (hW : Below w1.heap.size w1 W) (hgrow : W.grownBy w2 lk.ownBlock) {gg cap a : Nat} {x : List UInt8} {L : Int} {C : List Value} {N : Nat} (hN : E.loose.length + 1 = N)
    (hown : w2.ownsRow 0 176 65 (.slice (some ⟨gg, 0, none⟩) N cap) N C) (hC : C = looseCells (E.loose ++ [(a, x)])) (hat : lk.ownBlock = some gg ∨ w1.heap.size ≤ gg) (ha : a < E.n) (hx : x.length = 64) (hL : -1 ≤ L ∧ L ≤ 9223372036854775807) :
    DiskIn ((w2.setCell ⟨b, 2, none⟩ (.slice (some ⟨gg, 0, none⟩) N cap)).setCell ⟨b, 3, none⟩ (.int .i64 L)) b m (.slice (some ⟨gg, 0, none⟩) N cap) { E with loose := E.loose ++ [(a, x)], left := L } ∧
    Upd (diskBlocks b m lk) w1 ((w2.setCell ⟨b, 2, none⟩ (.slice (some ⟨gg, 0, none⟩) N cap)).setCell ⟨b, 3, none⟩ (.int .i64 L)) ∧ Stays (diskBlocks b m lk) (diskBlocks b m (.slice (some ⟨gg, 0, none⟩) N cap)) w1 := by
  subst hC; subst hN
  have hb : b < w1.heap.size := (Array.getElem?_eq_some_iff.1 h.struct).1
  have hm : m < w1.heap.size := h.base.lt
  have u1 : Upd (diskBlocks b m lk) w1 w2 := (Upd.of_below hW).trans (Upd.of_grownBy (F := fun k => lk.ownBlock = some k) hgrow (fun k e => e)) (fun k hk => .inl (.inr (.inr hk)))
  have u2 : Upd (fun k => lk.ownBlock = some k) w1 w2 := (Upd.of_below hW).trans (Upd.of_grownBy (F := fun k => lk.ownBlock = some k) hgrow (fun k e => e)) (fun k hk => .inl hk)
  have hgb : gg ≠ b := fun e => by
    rcases hat with hat | hat
    · exact h.lb (by rw [hat, e])
    · omega
  have hgm : gg ≠ m := fun e => by
    rcases hat with hat | hat
    · exact h.lm (by rw [hat, e])
    · omega
  have hs : w2.heap[b]? = some (.cells #[.int .i64 (E.n : Int), .map (some m), lk, .int .i64 E.left, .bool E.down] 116) := by
    rw [u2.block b hb h.lb]; exact h.struct
  have hF : Dsk.Fine { E with loose := E.loose ++ [(a, x)], left := L } := by
    refine ⟨h.fine.n1, h.fine.n2, h.fine.base, fun p hp => ?_, hL⟩
    rcases List.mem_append.1 hp with hp | hp
    · exact h.fine.loose p hp
    · simp at hp; subst hp; exact ⟨ha, hx⟩
  have hv : ∀ (v v' : Value), Upd (fun k => k = b) w2 ((w2.setCell ⟨b, 2, none⟩ v).setCell ⟨b, 3, none⟩ v') := fun v v' => ((Upd.refl (fun k => k = b) w2).setCell (p := ⟨b, 2, none⟩) (.inl rfl) v).setCell (p := ⟨b, 3, none⟩) (.inl rfl) v'
  refine ⟨⟨?_, ?_, ?_, h.mb, fun e => hgb (by simpa [Value.ownBlock] using e), fun e => hgm (by simpa [Value.ownBlock] using e), hF⟩, ?_, ?_⟩
  · have e1 := heap_setCell_same w2 b 2 _ _ (.slice (some ⟨gg, 0, none⟩) (E.loose.length + 1 : Nat) cap) hs
    have e2 := heap_setCell_same _ b 3 _ _ (.int .i64 L) e1
    exact e2
  · refine (h.base.kept (u2.block m hm h.lm)).kept ((hv _ _).block m (Nat.lt_of_lt_of_le hm u2.size) h.mb)
  · have e : (E.loose ++ [(a, x)]).length = E.loose.length + 1 := by simp
    show World.ownsRow _ 0 _ 65 _ (E.loose ++ [(a, x)]).length _
    rw [e]
    exact ownsRow_upd hown (hv _ _) (fun g hg e => hgb (by simp [Value.ownBlock] at hg; omega))
  · exact (u1.setCell (p := ⟨b, 2, none⟩) (.inl (.inl rfl)) _).setCell (p := ⟨b, 3, none⟩) (.inl (.inl rfl)) _
  · rintro k (rfl | rfl | hk)
    · exact .inl (.inl rfl)
    · exact .inl (.inr (.inl rfl))
    · simp [Value.ownBlock] at hk
      subst hk
      rcases hat with hat | hat
      · exact .inl (.inr (.inr hat))
      · exact .inr hat
theorem loose_more (l : List (Nat × List UInt8)) (a k : Nat) (x : List UInt8) : looseCells l ++ (putRowZ ((a : Int) + (k : Int)) x).toList = looseCells (l ++ [(a + k, x)]) := by
  rw [looseCells_snoc, putRowZ_eq, putRow_list]
/-- A sector is loaded: named, so that the walk does not open it cell by cell. -/
def secLoad (p : Value) : Sem Value := Instr.loadAt 174 p
theorem sec_load (p : Value) : Instr.loadAt 174 p = secLoad p := rfl
attribute [local go_sem ↓] sec_load
attribute [local simp] u8cells_array put_fold putRowZ_size put_fold2

set_option maxRecDepth 100000 in
set_option maxHeartbeats 2000000 in
theorem write_in {w : World} {b m : Nat} {lv : Value} {D : Dsk} (h : DiskIn w b m lv D) (a : Nat) (s : List UInt8) (hd : D.down = false) (n : Nat) (hs : s.length = 64 * n) (hi : D.inside a n = true) (hloose : D.loose.length + n ≤ 1000000000) :
    Calls Tryz.prog 101 #[.pointer (some ⟨b, 0, none⟩), .int .i64 a, .string (bs s)] w fun e w' => e = .returned (.int .i64 (Dsk.writes D a s n).2) ∧ ∃ lv', DiskIn w' b m lv' (Dsk.writes D a s n).1 ∧ Upd (diskBlocks b m lv) w w' ∧ Stays (diskBlocks b m lv) (diskBlocks b m lv') w := by
  have hu : Hid (D.up = 0) := Lib.hid (by unfold Dsk.up; rw [hd]; rfl)
  have HI := Lib.hid hi
  have hN := h.fine.n2
  have hin : a + n ≤ D.n := by
    simp [Dsk.inside] at hi
    omega
  clear hd hi
  have HS := Lib.hid hs
  have hq : ((s.length : Int) / 64) = (n : Int) := by omega
  have hr : (s.length : Int) % 64 = 0 := by omega
  have HD := Lib.hid h
  clear hs
  have HQ := Lib.hid hq
  have HR := Lib.hid hr
  clear hq hr
  go_enter Tryz.func101, Tryz.ntmps101
  go_wp2_with fail
  go_step3
  go_wp2_with fail
  refine (up_any h).mono ?_
  rw [hu.out]
  rintro e w1 ⟨rfl, rfl⟩
  have hq := HQ.out
  have hr := HR.out
  go_wp2_with fail
  refine (in_any h a n (by omega) (by omega) (by omega) (by omega)).mono ?_
  rw [HI.out]
  rintro e w1 ⟨rfl, rfl⟩
  clear h hq hr
  go_wp2_with fail
  go_step3
  go_wp2_with fail
  go_loopw [6, 31] (fun e i wr => e = .int .i64 0 ∧ ∃ (k : Nat) (lk : Value) (E : Dsk), k ≤ n ∧ i = .int .i64 k ∧ DiskIn wr b m lk E ∧ E.n = D.n ∧ E.loose.length = D.loose.length + k ∧ Dsk.writes D a s n = Dsk.writes E (a + k) (s.drop (64 * k)) (n - k) ∧ Upd (diskBlocks b m lv) w wr ∧ Stays (diskBlocks b m lv) (diskBlocks b m lk) w) (fun _ i _ => n - (intOf i).toNat)
  case atStart => exact ⟨rfl, 0, lv, D, by omega, rfl, HD.out, rfl, rfl, by rw [Nat.mul_zero, List.drop_zero]; rfl, Upd.refl _ _, fun _ h => .inl h⟩
  case round =>
    obtain ⟨rfl, k, lk, E, hk, rfl, hE, hEn, hEl, hW, hU, hS⟩ := hrel
    obtain ⟨c0, c1, c2, c3, c4, cf⟩ := hE.cells
    by_cases hlt : k < n
    · obtain ⟨hx1, hx2⟩ := chunk s k (by rw [HS.out]; omega)
      have hstep : Dsk.writes E (a + k) (s.drop (64 * k)) (n - k) = if E.left = 0 then ({ E with down := true }, 40) else Dsk.writes { E with loose := E.loose ++ [(a + k, (s.drop (64 * k)).take 64)], left := max (E.left - 1) (-1) } (a + k + 1) ((s.drop (64 * k)).drop 64) (n - (k + 1)) := by
        rw [show n - k = (n - (k + 1)) + 1 by omega]; rfl
      have HST := Lib.hid hstep
      have HE := Lib.hid hE; have HEN := Lib.hid hEn; have HEL := Lib.hid hEl; have HW := Lib.hid hW; have HU := Lib.hid hU; have HSS := Lib.hid hS
      have HX1 := Lib.hid hx1; have HX2 := Lib.hid hx2
      have cf3 := cf 3; have cf4 := cf 4; have cf2 := cf 2
      clear hstep hE hEn hEl hW hU hS hx1 hx2 cf c0 c1
      by_cases hl0 : E.left = 0
      · have hb0 : (E.left == 0) = true := by simp [hl0]
        have HL := Lib.hid hl0
        clear hl0
        go_wp2_with fail
        rw [Exit.noGoto_ret]
        go_ret
        have hfine : Dsk.Fine { E with down := true } := ⟨HE.out.fine.n1, HE.out.fine.n2, HE.out.fine.base, HE.out.fine.loose, HE.out.fine.left⟩
        refine ⟨by rw [HW.out, HST.out, if_pos HL.out]; rfl, lk, ?_, HU.out.setCell (p := ⟨b, 4, none⟩) (.inl (.inl rfl)) _, HSS.out⟩
        rw [HW.out, HST.out, if_pos HL.out]
        exact HE.out.set (D' := { E with down := true }) 4 _ rfl rfl rfl rfl hfine
      · have hb0 : (E.left == 0) = false := by simp [hl0]
        have HL := Lib.hid hl0
        clear hl0
        have hsl : 64 * (k + 1) ≤ s.length := by rw [HS.out]; omega
        have hxe : List.drop (k * 64) (List.take ((k + 1) * 64) s) = (s.drop (64 * k)).take 64 := by rw [Nat.mul_comm k, Nat.mul_comm (k + 1)]; exact HX1.out
        have HREST : Hid ((s.drop (64 * k)).drop 64 = s.drop (64 * (k + 1))) := Lib.hid (by rw [List.drop_drop, show 64 * k + 64 = 64 * (k + 1) by omega])
        generalize (s.drop (64 * k)).take 64 = x at *
        obtain ⟨w1, cap, hcv, hby, hb1, hsz1⟩ := conv_bytes Tryz.prog 9 49 5 Tryz.underlying9 Tryz.underlying49 Tryz.underlying5 wr x
        have har := fun W => run_arrayAt Tryz.prog W 174 5 64 (some ⟨wr.heap.size, 0, none⟩) x.length cap Tryz.underlying174 (by rw [HX2.out]; exact Nat.le_refl _)
        have hrange := hby.range 0 64 (by rw [HX2.out]; exact Nat.le_refl _)
        rw [List.drop_zero, List.take_of_length_le (by rw [HX2.out]; exact Nat.le_refl _)] at hrange
        have HRG := Lib.hid hrange
        have HSZ := Lib.hid hsz1
        clear hsz1
        have HB1 := Lib.hid hb1
        have hE1 := HE.out.below hb1
        obtain ⟨_, _, d2, d3, _, df⟩ := hE1.cells
        have HE1 := Lib.hid hE1
        have df2 := df 2
        have df3 := df 3
        clear hrange hb1 HX1 hby c2 c4 cf3 cf4 cf2 hE1 df
        go_wp2_with (first | (refine wpList_load_mid rfl 174 _ rfl wr.heap.size 0 rfl _ _ HRG.out Tryz.underlying174 rfl (sec_len x HX2.out) ?_; rw [u8cells_array]) | (refine wpList_store_row rfl 174 _ _ rfl w1.heap.size (u8row x) rfl rfl 174 _ (heap_alloc_new w1 _) (by rw [u8row_size, HX2.out]; exact sec_size) (by rw [u8row_size, HX2.out]; rfl) (u8row_one x) ?_; rw [World.setRow_alloc_new]))
        have hlow := (HE1.out.loose)
        have hu99 := Tryz.underlying174
        have hi99 := sec_len x HX2.out
        have hd2 : (w1.alloc (.cells (u8row x) 174)).cell? ⟨b, 2, none⟩ = some lk := by
          rw [← d2]
          exact ((Below.refl _ w1).alloc (Nat.le_refl _) _).cell (block_lt_of_cell d2)
        have hf2 : (w1.alloc (.cells (u8row x) 174)).frozen? ⟨b, 2, none⟩ = false := by
          rw [← df2]
          exact ((Below.refl _ w1).alloc (Nat.le_refl _) _).frozen (block_lt_of_cell d2)
        have hrow : (w1.alloc (.cells (u8row x) 174)).rangeAt w1.heap.size 0 (u8cells x) := by
          intro j v hv
          rw [Nat.zero_add, cell_new_row, ← Array.getElem?_toList, u8row_list]
          exact hv
        obtain ⟨i0, hi0, hz0, hz1, hz2⟩ := info_parts put_info3
        have hx64 := HX2.out
        have hwr : IntKind.i64.wrap ((a : Int) + (k : Int)) = (a : Int) + (k : Int) := IntWalk.i64_in _ (by omega)
        have hne2 := HE1.out.lb
        have hnes : lk.ownBlock ≠ some w1.heap.size := fun e => by have := ownsRow_lt hlow e; omega
        have hcount : (E.loose.length + 1) * 72 ≤ 140737488355328 := by rw [HEL.out]; omega
        have hsz2 : (w1.alloc (.cells (u8row x) 174)).heap.size = w1.heap.size + 1 := Array.size_push _
        have hbne : w1.heap.size ≠ b := by have := block_lt_of_cell d2; simp at this; omega
        have hsz2' : w1.heap.size ≤ (w1.alloc (.cells (u8row x) 174)).heap.size := by rw [hsz2]; omega
        have hd3 : (w1.alloc (.cells (u8row x) 174)).cell? ⟨b, 3, none⟩ = some (.int .i64 E.left) := by
          rw [← d3]
          exact ((Below.refl _ w1).alloc (Nat.le_refl _) _).cell (block_lt_of_cell d3)
        have hf3 : (w1.alloc (.cells (u8row x) 174)).frozen? ⟨b, 3, none⟩ = false := by
          rw [← df3]
          exact ((Below.refl _ w1).alloc (Nat.le_refl _) _).frozen (block_lt_of_cell d3)
        have keepA3 := fun ob => keep_S hd3 hf3 hrow ob
        obtain ⟨hl1, hl2⟩ := HE.out.fine.left
        have keepA := fun ob => keep_S hd2 hf2 hrow ob
        have hld : (secLoad (.pointer (some ⟨w1.heap.size, 0, none⟩))).run Tryz.prog (w1.alloc (.cells (u8row x) 174)).drew = .ok (.agg (u8row x)) (w1.alloc (.cells (u8row x) 174)).drew := by
          have := run_loadAt_mid (w1.alloc (.cells (u8row x) 174)).drew w1.heap.size 0 174 (u8cells x) _ (fun j u hj => hrow j u hj) hu99 rfl hi99
          rw [u8cells_array, sec_load] at this
          exact this
        clear hu99 hi99
        go_region_law
          ((refine step_append_lies _ (by rfl) _ _ _ (by rfl) 0 176 i0 _ 65 72 Tryz.underlying114 hi0 hz0 hz1 hz2 (by rfl) (by omega) lk E.loose.length (looseCells E.loose) (by rfl) (((hlow.alloc _).alloc _).drew) ⟨w1.heap.size + 1, 0, none⟩ 1 1 (putRowZ ((a : Int) + (k : Int)) x).toList (by rfl) (putRowZ_len _ _ hx64) (news_new (w1.alloc (.cells (u8row x) 174)) _ _ _ hsz2) (putRowZ_one _ _) (by omega) (by unfold maxLen; omega) hcount (by omega) (w1.heap.size + 2) (by simp) ?_; intro gg cap2 w2 hown1 hgrow hat hlt2; have hc2 := hgrow.cell (keepA _).1 (Ne.symm hne2); have hfz2 := (keep_grown (keepA _) hgrow (Ne.symm hne2) (Ne.symm hnes)).2.1; have hc3 := hgrow.cell (keepA3 _).1 (Ne.symm hne2); have hfz3 := (keep_grown (keepA3 _) hgrow (Ne.symm hne2) (Ne.symm hnes)).2.1))
        all_goals
          clear keepA keepA3 hld hd2 hf2 hd3 hf3 hsz2 hrow hlow d2 d3 df2 df3 c3 hcv har hcount hi0 hz0 hz1 hz2
          go_wp2_with fail
          have hbw : Below w1.heap.size w1 ((w1.alloc (Obj.cells (u8row x) 174)).alloc (Obj.cells (putRowZ (↑a + ↑k) x) 176)).drew := (((Below.refl _ w1).alloc (Nat.le_refl _) _).alloc hsz2' _).drew
          have hmx : (if E.left - 1 < -1 then (-1 : Int) else E.left - 1) = max (E.left - 1) (-1) := by split <;> omega
          rw [hmx]
          obtain ⟨g1, g2, g3⟩ := wrote (a := a + k) (L := max (E.left - 1) (-1)) HE1.out hbw hgrow rfl hown1 (loose_more _ _ _ _) (hat.imp (fun h => h) (fun h => by omega)) (by have := HEN.out; omega) hx64 (by omega)
          refine ⟨⟨rfl, k + 1, _, _, by omega, rfl, g1, HEN.out, ?_, ?_, ?_, ?_⟩, ?_⟩
          · show (E.loose ++ [(a + k, x)]).length = _
            rw [List.length_append, HEL.out]; rfl
          · rw [HW.out, HST.out, if_neg HL.out, HREST.out]
            rfl
          · refine (HU.out.trans (Upd.of_below (F := fun _ => False) HB1.out) (fun _ f => f.elim)).trans g2 (fun i hi => ?_)
            exact HSS.out i hi
          · intro i hi
            have hsz3 := (HU.out.trans (Upd.of_below (F := fun _ => False) HB1.out) (fun _ f => f.elim)).size
            rcases g3 i hi with h | h
            · exact HSS.out i h
            · exact .inr (by omega)
          · show n - ((k : Int) + 1).toNat < n - ((k : Int)).toNat
            omega
    · have hkn : k = n := by omega
      subst hkn
      have HE := Lib.hid hE; have HW := Lib.hid hW; have HU := Lib.hid hU; have HSS := Lib.hid hS
      clear hE hW hU hS hEn hEl c0 c1 c2 c3 c4 cf
      go_wp2_with fail
      rw [Exit.noGoto_ret]
      go_ret
      rw [HW.out, Nat.sub_self]
      exact ⟨rfl, lk, HE.out, HU.out, HSS.out⟩

set_option maxRecDepth 100000 in
set_option maxHeartbeats 400000 in
theorem write_any {w : World} {b : Nat} {D : Dsk} {fp : Nat → Prop} (h : DiskAt w b D fp) (a : Int) (s : List UInt8) (ha : -9223372036854775808 ≤ a ∧ a ≤ 9223372036854775807) (hl : s.length ≤ 1000000000) (hloose : D.loose.length + s.length / 64 ≤ 1000000000) :
    Calls Tryz.prog 101 #[.pointer (some ⟨b, 0, none⟩), .int .i64 a, .string (bs s)] w fun e w' => e = .returned (.int .i64 (D.write a s).2) ∧ ∃ fp', DiskAt w' b (D.write a s).1 fp' ∧ Upd fp w w' ∧ Stays fp fp' w := by
  obtain ⟨m, lv, hI, rfl⟩ := h
  by_cases hd : D.down = true
  · have hu : Hid (D.up = 40) := Lib.hid (by unfold Dsk.up; rw [hd]; rfl)
    have hW : D.write a s = (D, 40) := by unfold Dsk.write; rw [if_pos hd]
    rw [hW]
    have HI := Lib.hid hI
    clear hW hd
    go_enter Tryz.func101, Tryz.ntmps101
    go_wp2_with fail
    go_step3
    go_wp2_with fail
    refine (up_any hI).mono ?_
    rw [hu.out]
    rintro e w1 ⟨rfl, rfl⟩
    go_wp2_with fail
    rw [Exit.noGoto_ret]
    go_ret
    exact ⟨rfl, _, ⟨m, lv, HI.out, rfl⟩, Upd.refl _ _, fun _ h => .inl h⟩
  · have hd' : D.down = false := by simpa using hd
    by_cases hc : s.length % 64 = 0 ∧ D.inside a (s.length / 64 : Nat) = true
    · have hW : D.write a s = Dsk.writes D a.toNat s (s.length / 64) := by unfold Dsk.write; rw [if_neg hd, if_pos hc]
      obtain ⟨h1, h2⟩ := hc
      have h3 := h2
      simp only [Dsk.inside, Bool.and_eq_true, decide_eq_true_eq] at h3
      have e : a = (a.toNat : Int) := by omega
      rw [hW]
      have hE := write_in hI a.toNat s hd' (s.length / 64) (by omega) (by rw [← e]; exact h2) hloose
      rw [← e] at hE
      refine hE.mono ?_
      rintro e w1 ⟨rfl, lv', g1, g2, g3⟩
      exact ⟨rfl, _, ⟨m, lv', g1, rfl⟩, g2, g3⟩
    · have hu : Hid (D.up = 0) := Lib.hid (by unfold Dsk.up; rw [hd']; rfl)
      have hW : D.write a s = (D, 2) := by unfold Dsk.write; rw [if_neg hd, if_neg hc]
      rw [hW]
      have HI := Lib.hid hI
      by_cases hr : (s.length : Int) % 64 = 0
      · have hin : D.inside a (s.length / 64 : Nat) = false := by
          rcases hb : D.inside a (s.length / 64 : Nat) with _ | _
          · rfl
          · exact absurd ⟨by omega, hb⟩ hc
        have HIN := Lib.hid hin
        clear hW hd hd' hc hin
        have hq : ((s.length : Int) / 64) = ((s.length / 64 : Nat) : Int) := by omega
        generalize s.length / 64 = n at *
        have HR := Lib.hid hr
        have HQ := Lib.hid hq
        clear hr hq
        go_enter Tryz.func101, Tryz.ntmps101
        go_wp2_with fail
        go_step3
        go_wp2_with fail
        refine (up_any hI).mono ?_
        rw [hu.out]
        rintro e w1 ⟨rfl, rfl⟩
        have hq := HQ.out
        have hr := HR.out
        go_wp2_with fail
        refine (in_any hI a n (by omega) (by omega) (by omega) (by omega)).mono ?_
        rw [HIN.out]
        rintro e w1 ⟨rfl, rfl⟩
        go_wp2_with fail
        rw [Exit.noGoto_ret]
        go_ret
        exact ⟨rfl, _, ⟨m, lv, HI.out, rfl⟩, Upd.refl _ _, fun _ h => .inl h⟩
      · have HR := Lib.hid hr
        clear hW hd hd' hc hr
        go_enter Tryz.func101, Tryz.ntmps101
        go_wp2_with fail
        go_step3
        go_wp2_with fail
        refine (up_any hI).mono ?_
        rw [hu.out]
        rintro e w1 ⟨rfl, rfl⟩
        have hr := HR.out
        go_wp2_with fail
        rw [Exit.noGoto_ret]
        go_ret
        exact ⟨rfl, _, ⟨m, lv, HI.out, rfl⟩, Upd.refl _ _, fun _ h => .inl h⟩
end Go.Proofs.YtdmbadkpendfhaaGreatDoor
