/- maslin/files: load, of a disk that has files, walked. -/
import Derived.Test.YtcljpnkknehlmaaGreatFilRead
import Derived.Deep.RegionHeld3
namespace Go.Proofs.YtcljpnkknehlmaaGreat
open Go.RowKit Go.Maps Go.Sort
open Fil

/-- The cells of files that are being opened. -/
def rawRow (log size area b : Nat) (mv : Option Nat) (xv : Option Addr) : Array Value := #[.pointer (some ⟨b, 0, none⟩), .int .i64 (log : Int), .int .i64 (size : Int), .int .i64 (area : Int), .map mv, .pointer xv, .int .i64 0]
theorem raw_cells {w : World} {y log size area b : Nat} {mv : Option Nat} {xv : Option Addr} (h : w.heap[y]? = some (.cells (rawRow log size area b mv xv) 56)) :
    w.cell? ⟨y, 0, none⟩ = some (.pointer (some ⟨b, 0, none⟩)) ∧ w.cell? ⟨y, 1, none⟩ = some (.int .i64 (log : Int)) ∧ w.cell? ⟨y, 2, none⟩ = some (.int .i64 (size : Int)) ∧ w.cell? ⟨y, 3, none⟩ = some (.int .i64 (area : Int)) ∧
    w.cell? ⟨y, 4, none⟩ = some (.map mv) ∧ w.cell? ⟨y, 5, none⟩ = some (.pointer xv) ∧ w.cell? ⟨y, 6, none⟩ = some (.int .i64 0) ∧ ∀ j, w.frozen? ⟨y, j, none⟩ = false := by
  refine ⟨?_, ?_, ?_, ?_, ?_, ?_, ?_, fun j => frozen_of_row w y j _ _ h⟩ <;> rw [cell_of_row w y _ _ _ _ h] <;> rfl
/-- What load answers. -/
def LoadPost (w : World) (y log size b a num : Nat) (A : M) (e : Ending) (w' : World) : Prop :=
  ∃ mb, e = .returned (.tuple #[.int .u64 (num : Int), .int .i64 0]) ∧ w'.heap[y]? = some (.cells (rawRow log size a b (some mb) none) 56) ∧ FilMap w' mb A ∧ Upd (fun k => k = y) w w' ∧ w.heap.size ≤ mb
set_option maxRecDepth 100000 in
set_option maxHeartbeats 2000000 in
theorem fload_zero {w : World} {y log size b : Nat} {D : Dsk} {fp : Nat → Prop} (hd : DiskAt w b D fp) (hy : w.heap[y]? = some (.cells (rawRow log size 0 b none none) 56)) (hup : D.down = false) (h0 : D.now 0 = Wal.pad [0]) :
    Calls Tryz.prog 17 #[.pointer (some ⟨y, 0, none⟩)] w fun e w' => LoadPost w y log size b 0 0 [] e w' := by
  have hylt := blk_lt hy
  have hfine := hd.fine
  obtain ⟨c0, _⟩ := raw_cells hy
  obtain ⟨m, lv, hI, _⟩ := hd
  have HRD := Lib.hid (read_in hI 0 1 hup (by simp [Dsk.inside]; have := hfine.n1; omega))
  have e1 : Dsk.text D.now 0 1 = Wal.pad [0] := by show D.now 0 ++ [] = _; rw [h0, List.append_nil]
  rw [e1] at HRD
  have HY := Lib.hid hy
  have hmm := @run_makeMap Tryz.prog
  have hz0 : ({ data := #[0] } : ByteArray) = bs [0] := rfl
  clear hI hy hfine h0 e1
  go_enter Tryz.func17, Tryz.ntmps17
  go_wp2_with fail
  refine HRD.out.mono ?_
  rintro e w1 ⟨rfl, hb⟩
  have HY1 := Lib.hid ((hb.block y hylt).trans HY.out)
  obtain ⟨_, _, _, _, d4, _, _, df⟩ := raw_cells HY1.out
  have df4 := df 4
  have hy1 := blk_lt HY1.out
  have HB := Lib.hid hb
  clear hb df
  go_wp2_with fail
  have hss : (w1.setCell ⟨y, 4, none⟩ (.map (some w1.heap.size))).heap.size = w1.heap.size := by simp [World.setCell]
  have hs0 := heap_setCell_same w1 y 4 _ _ (.map (some w1.heap.size)) HY1.out
  have hu0 : Upd (fun k => k = y) w (w1.setCell ⟨y, 4, none⟩ (.map (some w1.heap.size))) := (Upd.of_below (F := fun k => k = y) HB.out).setCell (p := ⟨y, 4, none⟩) (.inl rfl) _
  have hm0 := FilMap.made (w1.setCell ⟨y, 4, none⟩ (.map (some w1.heap.size)))
  rw [hss] at hm0
  have HM1 := Lib.hid hm0
  have HS1 := Lib.hid (((Below.refl _ (w1.setCell ⟨y, 4, none⟩ (.map (some w1.heap.size)))).alloc (Nat.le_refl _) (.map #[] 0)).block y (by rw [hss]; exact hy1) |>.trans hs0)
  have HU1 := Lib.hid (hu0.alloc (.map #[] 0))
  clear hm0 hs0 hu0 d4 df4 hss
  refine (fwhole_any [0] _ (by simp)).mono ?_
  rintro e w2 ⟨rfl, hb2⟩
  have HB2 := Lib.hid hb2
  clear hb2
  go_wp2_with fail
  go_ret2
  refine ⟨w1.heap.size, rfl, (HB2.out.block y (by simp; omega)).trans HS1.out, HM1.out.below HB2.out, HU1.out.trans (Upd.of_below (F := fun k => k = y) HB2.out) (fun i hi => .inl hi), HB.out.size⟩
set_option maxRecDepth 100000 in
set_option maxHeartbeats 4000000 in
theorem fload_mark {w : World} {y log size b : Nat} {D : Dsk} {fp : Nat → Prop} (hd : DiskAt w b D fp) (hy : w.heap[y]? = some (.cells (rawRow log size 0 b none none) 56)) (hup : D.down = false) {a num : Nat} {A : M} {t r : T} (ha : a ≤ 1) (hnum : num < 18446744073709551616) (h0 : D.now 0 = Fil.mark a num)
    (hlog : log ≤ 16384) (hsize : size ≤ 8192) (hfit : begin_ log size a + size ≤ D.n) (hcut : cut (Dsk.text D.now (begin_ log size a) size) = some (t, r)) (hread : Fil.read t = some A) :
    Calls Tryz.prog 17 #[.pointer (some ⟨y, 0, none⟩)] w fun e w' => LoadPost w y log size b a num A e w' := by
  have hylt := blk_lt hy
  have hfine := hd.fine
  obtain ⟨c0, _⟩ := raw_cells hy
  have HDA := Lib.hid hd
  obtain ⟨m, lv, hI, _⟩ := hd
  have HRD := Lib.hid (read_in hI 0 1 hup (by simp [Dsk.inside]; have := hfine.n1; omega))
  have e1 : Dsk.text D.now 0 1 = Fil.mark a num := by show D.now 0 ++ [] = _; rw [h0, List.append_nil]
  rw [e1] at HRD
  have HY := Lib.hid hy
  have hmm := @run_makeMap Tryz.prog
  have hz0 : ({ data := #[0] } : ByteArray) = bs [0] := rfl
  have hml := Fil.mark_length a num
  have hm4 := Fil.mark_area a num ha
  have hmn := Fil.mark_num a num hnum
  have hne : (Fil.mark a num == Wal.pad [0]) = false := by simpa using Fil.mark_ne a num
  have hcut5 : ∀ W, (Instr.slice 9 (.string (bs (Fil.mark a num))) (some (.int .i64 5)) (some (.int .i64 13)) none).run Tryz.prog W = .ok (.string (bs (((Fil.mark a num).take 13).drop 5))) W := fun W => run_cut Tryz.prog W 9 Tryz.underlying9 (Fil.mark a num) 5 13 (by omega) (by omega)
  have h5l : (((Fil.mark a num).take 13).drop 5).length = 8 := by rw [List.length_drop, List.length_take]; omega
  have HGET := Lib.hid (fun (W : World) => get_any (((Fil.mark a num).take 13).drop 5) W (by omega) (by omega))
  rw [hmn] at HGET
  have hidx : ∀ W, (Instr.index 9 (.string (bs (Fil.mark a num))) (.int .i64 4)).run Tryz.prog W = .ok (.int .u8 (a : Int)) W := fun W => by
    have h4 : 4 < (Fil.mark a num).length := by omega
    have e4 : (Fil.mark a num)[4].toNat = a := by
      have := hm4.2
      rwa [List.getD_eq_getElem?_getD, List.getElem?_eq_getElem h4, Option.getD_some] at this
    rw [run_index_string W 9 (bs (Fil.mark a num)) .i64 4 Tryz.underlying9, dif_pos ⟨by omega, by simp; omega⟩]
    show Result.ok (Value.int .u8 (((Fil.mark a num)[4]'h4).toNat : Nat)) W = _
    rw [e4]
  have HMK := Lib.hid (fun (W : World) => fmarked_any a num W ha hnum)
  have hab : (a : Int) ≤ 1 := by omega
  have HN := Lib.hid hnum; have HML := Lib.hid hml
  have HCT := Lib.hid hcut; have HRE := Lib.hid hread
  generalize Fil.mark a num = F0 at *
  generalize ((F0.take 13).drop 5) = F5 at *
  have hins : D.inside (begin_ log size a) size = true := by simp [Dsk.inside]; omega
  have HRD2 := Lib.hid (fun (V : World) (h : DiskAt V b D fp) => (by obtain ⟨m2, lv2, hI2, _⟩ := h; exact read_in hI2 (begin_ log size a) size hup hins : Calls Tryz.prog 39 #[.pointer (some ⟨b, 0, none⟩), .int .i64 ((begin_ log size a : Nat) : Int), .int .i64 (size : Int)] V fun e w' => e = .returned (.tuple #[.string (bs (Dsk.text D.now (begin_ log size a) size)), .int .i64 0]) ∧ Below V.heap.size V w'))
  have htl : (Dsk.text D.now (begin_ log size a) size).length ≤ 524288 := by rw [Dsk.text_length hfine.now _ _ hfit]; omega
  have HCUT := Lib.hid (fun (V : World) => fcut_some hcut V (by omega))
  have HREAD := Lib.hid (fun (V : World) => (by have := fread_any t V (by have := cut_some hcut; omega); unfold ReadPost at this; rw [hread] at this; exact this : Calls Tryz.prog 45 #[.string (bs t)] V fun e w' => ∃ m, e = .returned (.tuple #[.map (some m), .bool true]) ∧ FilMap w' m A ∧ Below V.heap.size V w' ∧ V.heap.size ≤ m))
  clear htl hins
  clear hI hy hfine h0 e1 hm4 hmn h5l hcut hread hnum hml
  go_enter Tryz.func17, Tryz.ntmps17
  go_wp2_with fail
  refine HRD.out.mono ?_
  rintro e w1 ⟨rfl, hb⟩
  have HY1 := Lib.hid ((hb.block y hylt).trans HY.out)
  obtain ⟨_, _, _, _, d4, _, _, df⟩ := raw_cells HY1.out
  have df4 := df 4
  have hy1 := blk_lt HY1.out
  have HB := Lib.hid hb
  clear hb df
  go_wp2_with fail
  have hss : (w1.setCell ⟨y, 4, none⟩ (.map (some w1.heap.size))).heap.size = w1.heap.size := by simp [World.setCell]
  have hs0 := heap_setCell_same w1 y 4 _ _ (.map (some w1.heap.size)) HY1.out
  have hu0 : Upd (fun k => k = y) w (w1.setCell ⟨y, 4, none⟩ (.map (some w1.heap.size))) := (Upd.of_below (F := fun k => k = y) HB.out).setCell (p := ⟨y, 4, none⟩) (.inl rfl) _
  have HS1 := Lib.hid (show _ = some (.cells (rawRow log size 0 b (some w1.heap.size) none) 56) from ((Below.refl _ (w1.setCell ⟨y, 4, none⟩ (.map (some w1.heap.size)))).alloc (Nat.le_refl _) (.map #[] 0)).block y (by rw [hss]; exact hy1) |>.trans hs0)
  have HU1 := Lib.hid (hu0.alloc (.map #[] 0))
  have hsz1 : ((w1.setCell ⟨y, 4, none⟩ (.map (some w1.heap.size))).alloc (.map #[] 0)).heap.size = w1.heap.size + 1 := by rw [World.size_alloc, hss]
  have HSZ1 := Lib.hid hsz1
  clear hs0 hu0 d4 df4 hss hsz1
  refine (fwhole_any [0] _ (by simp)).mono ?_
  rintro e w2 ⟨rfl, hb2⟩
  have HY2 := Lib.hid ((hb2.block y (by rw [HSZ1.out]; omega)).trans HS1.out)
  have HU2 := Lib.hid (HU1.out.trans (Upd.of_below (F := fun k => k = y) hb2) (fun i hi => .inl hi))
  clear hb2 HS1 HU1
  obtain ⟨_, _, _, d3, _, _, _, df⟩ := raw_cells HY2.out
  have df3 := df 3
  clear df
  go_wp2_with fail
  have hs3 := heap_setCell_same w2 y 3 _ _ (.int .i64 (a : Int)) HY2.out
  have hu3 : Upd (fun k => k = y) w (w2.setCell ⟨y, 3, none⟩ (.int .i64 (a : Int))) := HU2.out.setCell (p := ⟨y, 3, none⟩) (.inl rfl) _
  have HY3 := Lib.hid (show _ = some (Obj.cells (rawRow log size a b (some w1.heap.size) none) 56) from hs3)
  have HU3 := Lib.hid hu3
  clear hs3 hu3 df3 d3 HY2 HU2
  generalize w2.setCell ⟨y, 3, none⟩ (.int .i64 (a : Int)) = w3 at *
  refine (HGET.out _).mono ?_
  rintro e w3' ⟨rfl, rfl⟩
  obtain ⟨_, _, _, d3, _⟩ := raw_cells HY3.out
  go_wp2_with fail
  refine (HMK.out _).mono ?_
  rintro e w4 ⟨rfl, hb4⟩
  have HY4 := Lib.hid ((hb4.block y (blk_lt HY3.out)).trans HY3.out)
  have HU4 := Lib.hid (HU3.out.trans (Upd.of_below (F := fun k => k = y) hb4) (fun i hi => .inl hi))
  have HD4 := Lib.hid (HDA.out.upd HU4.out (fun k hk e => by subst e; exact HDA.out.noBlk k hk (t := 56) (by decide) (by decide) ⟨_, _, HY.out⟩))
  have HYD := Lib.hid (show w4.drew.heap[y]? = _ from HY4.out)
  have HDD := Lib.hid (HD4.out.below (Below.refl w4.heap.size w4).drew)
  have HUD := Lib.hid (HU4.out.trans (Upd.of_below (F := fun k => k = y) (Below.refl w4.heap.size w4).drew) (fun i hi => .inl hi))
  have KS := Lib.hid (fun (V : World) (h : V.heap[y]? = some (Obj.cells (rawRow log size a b (some w1.heap.size) none) 56)) => (⟨(raw_cells h).1, (raw_cells h).2.1, (raw_cells h).2.2.1, (raw_cells h).2.2.2.1⟩ : V.cell? ⟨y, 0, none⟩ = some (.pointer (some ⟨b, 0, none⟩)) ∧ V.cell? ⟨y, 1, none⟩ = some (.int .i64 (log : Int)) ∧ V.cell? ⟨y, 2, none⟩ = some (.int .i64 (size : Int)) ∧ V.cell? ⟨y, 3, none⟩ = some (.int .i64 (a : Int))))
  obtain ⟨d0, d1, d2, d3⟩ := KS.out _ HY4.out
  clear hb4 HU3 HY3
  go_wp2_with fail
  go_region_held3 (fun V => V.cell? ⟨y, 0, none⟩ = some (.pointer (some ⟨b, 0, none⟩)) ∧ V.cell? ⟨y, 1, none⟩ = some (.int .i64 (log : Int)) ∧ V.cell? ⟨y, 2, none⟩ = some (.int .i64 (size : Int)) ∧ V.cell? ⟨y, 3, none⟩ = some (.int .i64 (a : Int)))
    (first | exact KS.out _ HYD.out | exact KS.out _ HY5.out | exact KS.out _ HY6.out)
    (first
      | (go_at_call 43; refine (fbegin_any _ log size a _ (by omega) (by omega) ha).mono ?_; rintro e w5 ⟨rfl, hb5⟩; have HY5 := Lib.hid ((hb5.block y (blk_lt HYD.out)).trans HYD.out); have HD5 := Lib.hid (HDD.out.below hb5); have HU5 := Lib.hid (HUD.out.trans (Upd.of_below (F := fun k => k = y) hb5) (fun i hi => .inl hi)); clear hb5)
      | (go_at_call 39; refine (HRD2.out _ HD5.out).mono ?_; rintro e w6 ⟨rfl, hb6⟩; have HY6 := Lib.hid ((hb6.block y (blk_lt HY5.out)).trans HY5.out); have HU6 := Lib.hid (HU5.out.trans (Upd.of_below (F := fun k => k = y) hb6) (fun i hi => .inl hi)); clear hb6))
  clear d0 d1 d2 d3 HYD HDD HUD HD4 HY4 HU4 HD5 HY5 HU5 KS
  go_wp2_with fail
  refine (HCUT.out _).mono ?_
  rintro e w7 ⟨rfl, hb7⟩
  have HY7 := Lib.hid ((hb7.block y (blk_lt HY6.out)).trans HY6.out)
  have HU7 := Lib.hid (HU6.out.trans (Upd.of_below (F := fun k => k = y) hb7) (fun i hi => .inl hi))
  clear hb7 HY6 HU6
  go_wp2_with fail
  refine (HREAD.out _).mono ?_
  rintro e w8 ⟨mb, rfl, hm8, hb8, hn8⟩
  have HY8 := Lib.hid ((hb8.block y (blk_lt HY7.out)).trans HY7.out)
  have HU8 := Lib.hid (HU7.out.trans (Upd.of_below (F := fun k => k = y) hb8) (fun i hi => .inl hi))
  have HM8 := Lib.hid hm8
  have HN8 := Lib.hid (show w.heap.size ≤ mb from Nat.le_trans HU7.out.size hn8)
  clear hb8 HY7 HU7 hm8 hn8
  obtain ⟨_, _, _, _, d4, _, _, df⟩ := raw_cells HY8.out
  have df4 := df 4
  clear df
  go_wp2_with fail
  go_ret2
  refine ⟨mb, rfl, heap_setCell_same w8 y 4 _ _ _ HY8.out, HM8.out.upd (Upd.setCell (F := fun k => k = y) (Upd.refl _ _) (p := ⟨y, 4, none⟩) (.inl rfl) _) ?_, HU8.out.setCell (p := ⟨y, 4, none⟩) (.inl rfl) _, HN8.out⟩
  intro e
  subst e
  exact HM8.out.noBlk ⟨_, _, HY8.out⟩
end Go.Proofs.YtcljpnkknehlmaaGreat
