/- Disk.Read, walked. -/
import Derived.Test.YtcljpnkknehlmaaGreatDiskWalks
import Derived.Test.YtcljpnkknehlmaaGreatBuilder
namespace Go.Proofs.YtcljpnkknehlmaaGreat
open Go.RowKit Go.Maps

theorem BytesAt.upd {F : Nat → Prop} {w w' : World} {b : Nat} {l : List UInt8} (h : BytesAt w b l) (hu : Upd F w w') (hF : ¬ F b) : BytesAt w' b l := by
  have hlt := h.lt
  obtain ⟨C, e, fr, h1, h2⟩ := h
  exact ⟨C, e, fr, by rw [hu.block b hlt hF]; exact h1, h2⟩
theorem ownsRow_max {w : World} {base e s : Nat} {v : Value} {n : Nat} {xs : List Value} (h : w.ownsRow base e s v n xs) : n ≤ 9223372036854775807 := by
  rcases h.2 with ⟨_, e⟩ | ⟨g, cap, _, _, _, _, h1, h2, _⟩
  · omega
  · unfold maxLen at h2; omega
theorem DiskIn.below {w w' : World} {b m : Nat} {lv : Value} {D : Dsk} (h : DiskIn w b m lv D) (hb : Below w.heap.size w w') : DiskIn w' b m lv D := h.upd (Upd.of_below (F := fun _ => False) hb) (fun _ _ f => f)

theorem sec_made (w : World) (n : Nat) (hn : n ≤ 16384) : ∃ C, (Instr.makeSlice 126 (.int .i64 (n : Int)) (.int .i64 (n : Int))).run Tryz.prog w = .ok (.slice (some ⟨w.heap.size, 0, none⟩) n n) (w.alloc (.cells C 121)) ∧
    BytesAt (w.alloc (.cells C 121)) w.heap.size (List.replicate (64 * n) 0) := by
  have hinfo : (Tryz.prog.info? 121).map (fun i => (i.zero, i.size, i.bytes)) = some (some (.agg (u8row sec0)), 64, 64) := by kernel_rfl
  obtain ⟨i0, hi, hz0, hz1, hz2⟩ := info_parts hinfo
  have hrun := run_make (P := Tryz.prog) w 126 121 i0 _ Tryz.underlying126 hi hz0 .i64 .i64 n n (by omega) (Int.le_refl _) (by rw [hz2]; omega) (by omega)
  rw [Int.toNat_natCast] at hrun
  refine ⟨_, hrun, bytes_row_new w _ _ _ (fun i hi => ?_)⟩
  have hi0 := hi
  rw [List.length_replicate] at hi
  rw [hz1]
  have hs : sec0.length = 64 := by simp [sec0]
  have hg := u8row_get sec0 (i % 64) (by rw [hs]; exact Nat.mod_lt _ (by decide))
  have hz : sec0[i % 64]'(by rw [hs]; exact Nat.mod_lt _ (by decide)) = 0 := List.getElem_replicate _
  rw [hz] at hg
  clear hz hrun
  have hz2 : (List.replicate (64 * n) (0 : UInt8))[i]'hi0 = 0 := List.getElem_replicate _
  rw [hz2]
  unfold madeCells
  simp only [Value.cells, u8row_size, hs]
  rw [Array.getElem?_map, Array.getElem?_range, if_pos (by omega)]
  simp only [Option.map_some]
  rw [getElem!_def, hg]

set_option maxRecDepth 100000 in
set_option maxHeartbeats 400000 in
theorem read_down {w : World} {b m : Nat} {lv : Value} {D : Dsk} (h : DiskIn w b m lv D) (at_ n : Int) (hd : D.down = true) :
    Calls Tryz.prog 39 #[.pointer (some ⟨b, 0, none⟩), .int .i64 at_, .int .i64 n] w fun e w' => e = .returned (.tuple #[.string (bs []), .int .i64 40]) ∧ w = w' := by
  have hu : Hid (D.up = 40) := Lib.hid (by unfold Dsk.up; rw [hd]; rfl)
  clear hd
  go_enter Tryz.func39, Tryz.ntmps39
  go_wp2_with fail
  refine (up_any h).mono ?_
  rw [hu.out]
  rintro e w1 ⟨rfl, rfl⟩
  go_wp2_with fail
  go_ret2
  exact ⟨rfl, rfl⟩

set_option maxRecDepth 100000 in
set_option maxHeartbeats 400000 in
theorem read_out {w : World} {b m : Nat} {lv : Value} {D : Dsk} (h : DiskIn w b m lv D) (at_ n : Int) (h1 : -9223372036854775808 ≤ at_) (h2 : at_ ≤ 9223372036854775807) (h3 : -9223372036854775808 ≤ n) (h4 : n ≤ 9223372036854775807) (hd : D.down = false) (hi : D.inside at_ n = false) :
    Calls Tryz.prog 39 #[.pointer (some ⟨b, 0, none⟩), .int .i64 at_, .int .i64 n] w fun e w' => e = .returned (.tuple #[.string (bs []), .int .i64 2]) ∧ w = w' := by
  have hu : Hid (D.up = 0) := Lib.hid (by unfold Dsk.up; rw [hd]; rfl)
  have HI := Lib.hid hi
  clear hd hi
  go_enter Tryz.func39, Tryz.ntmps39
  go_wp2_with fail
  refine (up_any h).mono ?_
  rw [hu.out]
  rintro e w1 ⟨rfl, rfl⟩
  go_wp2_with fail
  refine (in_any h at_ n h1 h2 h3 h4).mono ?_
  rw [HI.out]
  rintro e w1 ⟨rfl, rfl⟩
  go_wp2_with fail
  go_ret2
  exact ⟨rfl, rfl⟩

set_option maxRecDepth 100000 in
set_option maxHeartbeats 1000000 in
theorem read_in {w : World} {b m : Nat} {lv : Value} {D : Dsk} (h : DiskIn w b m lv D) (a n : Nat) (hd : D.down = false) (hi : D.inside a n = true) :
    Calls Tryz.prog 39 #[.pointer (some ⟨b, 0, none⟩), .int .i64 a, .int .i64 n] w fun e w' => e = .returned (.tuple #[.string (bs (Dsk.text D.now a n)), .int .i64 0]) ∧ Below w.heap.size w w' := by
  have hu : Hid (D.up = 0) := Lib.hid (by unfold Dsk.up; rw [hd]; rfl)
  have HI := Lib.hid hi
  have hN := h.fine.n2
  have hin : a + n ≤ D.n := by
    simp [Dsk.inside] at hi
    omega
  clear hd hi
  obtain ⟨C, hmk, hrow⟩ := sec_made w n (by omega)
  have HROW := Lib.hid hrow
  clear hrow
  have HD := Lib.hid h
  go_enter Tryz.func39, Tryz.ntmps39
  go_wp2_with fail
  refine (up_any h).mono ?_
  rw [hu.out]
  rintro e w1 ⟨rfl, rfl⟩
  go_wp2_with fail
  refine (in_any h a n (by omega) (by omega) (by omega) (by omega)).mono ?_
  rw [HI.out]
  rintro e w1 ⟨rfl, rfl⟩
  clear h
  go_wp2_with fail
  go_loopw [30] (fun i wr => ∃ k : Nat, k ≤ n ∧ i = .int .i64 k ∧ BytesAt wr w.heap.size (Dsk.text (Dsk.upTo D.base (a + k)) a n) ∧ Below w.heap.size w wr) (fun i _ => n - (intOf i).toNat)
  case atStart =>
    refine ⟨0, by omega, rfl, ?_, (Below.refl _ _).alloc (Nat.le_refl _) _⟩
    rw [Nat.add_zero, Dsk.upTo_start]
    exact HROW.out
  case round =>
    obtain ⟨k, hk, rfl, hat, hb⟩ := hrel
    by_cases hlt : k < n
    · have HAT := Lib.hid hat
      have hdi := HD.out.below hb
      obtain ⟨_, c1, _, _, _, _⟩ := hdi.cells
      have hget := hdi.base.get (a + k) (by omega) hN
      rw [Int.natCast_add] at hget
      clear hat hdi
      have hbl := HD.out.fine.base
      have HBL := Lib.hid (hbl (a + k) (by omega))
      have hul : ∀ j, a ≤ j → j < a + n → (Dsk.upTo D.base (a + k) j).length = 64 := fun j _ h2 => Dsk.upTo_len hbl _ j (by omega)
      have HUL := Lib.hid hul
      have hlen : (Dsk.text (Dsk.upTo D.base (a + k)) a n).length = 64 * n := Dsk.len_in hul
      have hst := HAT.out.store Tryz.prog (k * 64) (D.base (a + k)) (by rw [HBL.out, hlen]; omega)
      have HSEG := Lib.hid (HAT.out.seg (D.base (a + k)) (k * 64) (by rw [HBL.out, hlen]; omega))
      have hl2 := HBL.out
      clear hbl hlen hul
      go_wp2_with fail
      go_roundw
      case rel =>
        refine ⟨k + 1, by omega, by go_num, ?_, below_setCells hb (Nat.le_refl _) _ _⟩
        have e := HSEG.out
        rw [Nat.mul_comm k 64, ← Dsk.text_upd HUL.out hlt HBL.out, ← Dsk.upTo_step] at e
        rw [Nat.mul_comm k 64]
        exact e
      case measure => simp [intOf]; omega
    · obtain rfl : k = n := by omega
      rw [Dsk.upTo_full] at hat
      have HAT := Lib.hid hat
      have hdi := HD.out.below hb
      obtain ⟨_, _, c2, _, _, _⟩ := hdi.cells
      have hl : ∃ q cap, lv = .slice q D.loose.length cap := by
        rcases hdi.loose.2 with ⟨e1, e2⟩ | ⟨g, cap, _, e1, _⟩
        · exact ⟨none, 0, by rw [e1, e2]⟩
        · exact ⟨_, cap, e1⟩
      obtain ⟨q, cap, rfl⟩ := hl
      have hmax := ownsRow_max hdi.loose
      have HB := Lib.hid hb
      clear hat hdi hb hmk
      go_wp2_with fail
      go_loopw [50] (fun i wr => ∃ j : Nat, j ≤ D.loose.length ∧ i = .int .i64 j ∧ BytesAt wr w.heap.size (Dsk.text (Dsk.lay D.base (D.loose.take j)) a k) ∧ Below w.heap.size w wr) (fun i _ => D.loose.length - (intOf i).toNat)
      case atStart => exact ⟨0, by omega, rfl, HAT.out, HB.out⟩
      case round =>
        clear HAT HB
        rename_i wr0
        obtain ⟨j, hj, rfl, hat, hb⟩ := hrel
        by_cases hlt : j < D.loose.length
        · have hlo := (HD.out.below hb).loose
          obtain ⟨g, rfl⟩ : ∃ g, q = some ⟨g, 0, none⟩ := by
            rcases hlo.2 with ⟨e1, e2⟩ | ⟨g, cap, _, e1, _⟩
            · omega
            · exact ⟨g, by cases e1; rfl⟩
          obtain ⟨p1, p2⟩ := HD.out.fine.loose D.loose[j] (List.getElem_mem hlt)
          have hall : ∀ p ∈ D.loose, p.2.length = 64 := fun p hp => (HD.out.fine.loose p hp).2
          have hr := loose_range hlo hall j hlt
          have hidx := run_index_slice Tryz.prog 48 123 Tryz.underlying48 65 put_elem ⟨g, 0, none⟩ D.loose.length cap j hlt
          have ead : (⟨g, 0, none⟩ : Addr).add (j * 65) = ⟨g, j * 65, none⟩ := by unfold Addr.add; split <;> simp_all
          rw [ead] at hidx
          have HS := Lib.hid (Dsk.lay_take_succ D.base D.loose j hlt)
          have hfl : ∀ i, i < D.n → (Dsk.lay D.base (D.loose.take j) i).length = 64 := Dsk.lay_length HD.out.fine.base (fun p hp => HD.out.fine.loose p (List.mem_of_mem_take hp))
          have HFL := Lib.hid hfl
          have HR := Lib.hid hr
          have HP2 := Lib.hid p2
          have HAT := Lib.hid hat
          generalize D.loose[j] = p at *
          clear hlo hall hr hfl ead p2 hat
          have hz := putRow_zero p
          have hlen : (Dsk.text (Dsk.lay D.base (D.loose.take j)) a k).length = 64 * k := Dsk.len_in (fun i _ h2 => HFL.out i (by omega))
          have HLEN := Lib.hid hlen
          have HB := Lib.hid hb
          clear hlen hb
          by_cases hin2 : a ≤ p.1 ∧ p.1 < a + k
          · obtain ⟨i1, i2⟩ := hin2
            have hat2 := HAT.out.below ((Below.refl _ wr).alloc (Nat.le_refl _) (.cells (putRow p) 123))
            have hst := hat2.store Tryz.prog ((p.1 - a) * 64) p.2 (by rw [HP2.out, HLEN.out]; omega)
            have HSEG := Lib.hid (hat2.seg p.2 ((p.1 - a) * 64) (by rw [HP2.out, HLEN.out]; omega))
            have hl2 := HP2.out
            clear hat2
            go_wp2_with (first | (refine wpList_load_mid rfl 123 _ rfl g (j * 65) rfl _ _ HR.out Tryz.underlying123 rfl (put_len p HP2.out) ?_; rw [put_array]) | (refine wpList_store_row rfl 123 _ _ rfl wr.heap.size (putRow p) rfl rfl 123 _ (heap_alloc_new wr _) (put_size p HP2.out) (put_zero p HP2.out) (putRow_one p) ?_; rw [World.setRow_alloc_new]) | (refine wpList_load_mid rfl 121 _ rfl wr.heap.size 1 rfl _ _ (putRow_sec wr p _) Tryz.underlying121 rfl (sec_len p.2 HP2.out) ?_; rw [u8cells_array]))
            go_roundw
            case rel =>
              refine ⟨j + 1, by omega, by go_num, ?_, below_setCells (HB.out.alloc HB.out.size _) (Nat.le_refl _) _ _⟩
              have e := HSEG.out
              have e2 := Dsk.text_upd (f := Dsk.lay D.base (D.loose.take j)) (k := a) (n := k) (i := p.1 - a) (x := p.2) (fun i _ h2 => HFL.out i (by omega)) (by omega) HP2.out
              rw [show a + (p.1 - a) = p.1 by omega, ← HS.out] at e2
              rw [Nat.mul_comm (p.1 - a) 64, ← e2] at e
              rw [Nat.mul_comm (p.1 - a) 64]
              exact e
            case measure => simp [intOf]; omega
          · have hsame : Dsk.text (Dsk.lay D.base (D.loose.take (j + 1))) a k = Dsk.text (Dsk.lay D.base (D.loose.take j)) a k := by
              rw [HS.out]
              exact Dsk.text_congr a k (fun i h1 h2 => by unfold Dsk.upd; rw [if_neg (by omega)])
            have HSAME := Lib.hid hsame
            clear hsame
            by_cases hlow : a ≤ p.1
            · have hhi : a + k ≤ p.1 := by omega
              clear hin2
              go_wp2_with (first | (refine wpList_load_mid rfl 123 _ rfl g (j * 65) rfl _ _ HR.out Tryz.underlying123 rfl (put_len p HP2.out) ?_; rw [put_array]) | (refine wpList_store_row rfl 123 _ _ rfl wr.heap.size (putRow p) rfl rfl 123 _ (heap_alloc_new wr _) (put_size p HP2.out) (put_zero p HP2.out) (putRow_one p) ?_; rw [World.setRow_alloc_new]))
              go_roundw
              case rel => exact ⟨j + 1, by omega, by go_num, by rw [HSAME.out]; exact HAT.out.below ((Below.refl _ wr).alloc (Nat.le_refl _) _), HB.out.alloc HB.out.size _⟩
              case measure => simp [intOf]; omega
            · clear hin2
              go_wp2_with (first | (refine wpList_load_mid rfl 123 _ rfl g (j * 65) rfl _ _ HR.out Tryz.underlying123 rfl (put_len p HP2.out) ?_; rw [put_array]) | (refine wpList_store_row rfl 123 _ _ rfl wr.heap.size (putRow p) rfl rfl 123 _ (heap_alloc_new wr _) (put_size p HP2.out) (put_zero p HP2.out) (putRow_one p) ?_; rw [World.setRow_alloc_new]))
              go_roundw
              case rel => exact ⟨j + 1, by omega, by go_num, by rw [HSAME.out]; exact HAT.out.below ((Below.refl _ wr).alloc (Nat.le_refl _) _), HB.out.alloc HB.out.size _⟩
              case measure => simp [intOf]; omega
        · obtain rfl : j = D.loose.length := by omega
          rw [List.take_length] at hat
          have HAT := Lib.hid hat
          have HB := Lib.hid hb
          have HFL := Lib.hid HD.out.fine.now
          clear hat hb c2 HD HROW hmax
          go_wp2_with fail
          have hmade := BuiltAt.made wr
          obtain ⟨wo, rfl⟩ : ∃ wo : World, wo = wr := ⟨_, rfl⟩
          have hlb := HAT.out.lt
          have hnew := (Below.refl wo.heap.size wo).alloc (Nat.le_refl _) (.cells #[.pointer none, .slice none 0 0] 129)
          have hat1 := HAT.out.below hnew
          have hb1 : Below w.heap.size w (wo.alloc (.cells #[.pointer none, .slice none 0 0] 129)) := HB.out.alloc HB.out.size _
          have hfulllen : (Dsk.text D.now a k).length = 64 * k := Dsk.len_in (fun i _ h2 => HFL.out i (by omega))
          have HLEN := Lib.hid hfulllen
          clear hfulllen hnew
          have hnow : Dsk.lay D.base D.loose = D.now := rfl
          rw [hnow] at hat1
          clear hnow
          go_loopw [77] (fun i wl => ∃ (j : Nat) (fp : Nat → Prop), j ≤ k ∧ i = .int .i64 j ∧ BytesAt wl w.heap.size (Dsk.text D.now a k) ∧ BuiltAt wl wo.heap.size ((Dsk.text D.now a k).take (64 * j)) fp ∧ (∀ q, fp q → wo.heap.size ≤ q) ∧ Below w.heap.size w wl) (fun i _ => k - (intOf i).toNat)
          case atStart =>
            refine ⟨0, _, by omega, rfl, hat1, hmade, ?_, hb1⟩
            rintro q (rfl | hq)
            · exact Nat.le_refl _
            · simp [Value.ownBlock] at hq
          case round =>
            clear hmade hat1 hb1
            obtain ⟨j, fp, hj, rfl, hat, hbu, hfp, hb⟩ := hrel
            by_cases hlt : j < k
            · have hpart := Dsk.text_part (f := D.now) (k := a) (n := k) (i := j) (fun i _ h2 => HFL.out i (by omega)) hlt
              have hr := hat.range (j * 64) 64 (by rw [HLEN.out]; omega)
              rw [Nat.mul_comm j 64, hpart.2.1] at hr
              have hx : (D.now (a + j)).length = 64 := HFL.out _ (by omega)
              have HX := Lib.hid hx
              have HR := Lib.hid hr
              have HT : Hid ((Dsk.text D.now a k).take (64 * (j + 1)) = (Dsk.text D.now a k).take (64 * j) ++ D.now (a + j)) := Lib.hid (by
                rw [show 64 * (j + 1) = 64 * j + 64 by omega, List.take_add, hpart.2.1])
              have hnew := (Below.refl wr.heap.size wr).alloc (Nat.le_refl _) (.cells (u8row (D.now (a + j))) 121)
              have HAT2 := Lib.hid (hat.below hnew)
              have HBU := Lib.hid (hbu.upd (Upd.of_below (F := fun _ => False) hnew) (fun _ _ f => f))
              have HFP := Lib.hid hfp
              have HLT := Lib.hid hbu.lt
              have HWO : Hid (wo.heap.size ≤ wr.heap.size) := Lib.hid (Nat.le_of_lt (hbu.lt wo.heap.size hbu.own))
              have HBB := Lib.hid (hb.alloc hb.size (.cells (u8row (D.now (a + j))) 121))
              generalize hxx : D.now (a + j) = x at *
              clear hpart hr hx hat hbu hfp hb hnew hxx
              have hsl := fun W => run_slice_arr_all Tryz.prog W 121 5 64 wr.heap.size Tryz.underlying121 (by kernel_rfl)
              go_wp2_with (first | (refine wpList_load_mid rfl 121 _ rfl w.heap.size (j * 64) rfl _ _ (by rw [Nat.mul_comm]; exact HR.out) Tryz.underlying121 rfl (sec_len x HX.out) ?_; rw [u8cells_array]) | (refine wpList_store_row rfl 121 _ _ rfl wr.heap.size (u8row x) rfl rfl 121 _ (heap_alloc_new wr _) (by rw [u8row_size, HX.out]; exact sec_size) (by rw [u8row_size, HX.out]; rfl) (u8row_one x) ?_; rw [World.setRow_alloc_new]))
              refine (bwrite_any HBU.out wr.heap.size 0 64 x (fun i hi => by rw [Nat.zero_add, cell_new_row]; exact u8row_get x i hi) (fun hf => Nat.lt_irrefl _ (HLT.out _ hf)) (by rw [List.length_take, HLEN.out, HX.out]; omega) 64 HX.out).mono ?_
              rintro e w2 ⟨rfl, fp2, hbu2, hu2, hst2⟩
              have HBU2 := Lib.hid hbu2
              have HU2 := Lib.hid hu2
              have HST2 := Lib.hid hst2
              clear hbu2 hu2 hst2
              go_wp2_with fail
              go_roundw
              case rel =>
                refine ⟨j + 1, fp2, by omega, by go_num, HAT2.out.upd HU2.out (fun hf => by have := HFP.out _ hf; omega), by rw [HT.out]; exact HBU2.out, ?_, below_upd HBB.out HU2.out (fun q hq => Nat.le_trans (Nat.le_of_lt hlb) (HFP.out q hq)) HBB.out.size⟩
                intro q hq
                rcases HST2.out q hq with h1 | h1
                · exact HFP.out q h1
                · have := HWO.out
                  rw [World.size_alloc] at h1
                  omega
              case measure => simp [intOf]; omega
            · obtain rfl : j = k := by omega
              rw [List.take_of_length_le (by rw [HLEN.out]; omega)] at hbu
              have HBU := Lib.hid hbu
              have HFP := Lib.hid hfp
              have HB2 := Lib.hid hb
              clear hbu hfp hb hat
              go_wp2_with fail
              refine (bstring_any HBU.out).mono ?_
              rintro e w2 ⟨rfl, hu2⟩
              go_wp2_with fail
              go_ret2
              exact ⟨rfl, below_upd HB2.out hu2 (fun q hq => Nat.le_trans (Nat.le_of_lt hlb) (HFP.out q hq)) HB2.out.size⟩
end Go.Proofs.YtcljpnkknehlmaaGreat
