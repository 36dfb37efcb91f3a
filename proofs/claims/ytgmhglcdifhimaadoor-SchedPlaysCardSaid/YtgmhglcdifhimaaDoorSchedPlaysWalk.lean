/- maslinlaw31.SchedPlays, walked. -/
import Derived.Test.YtgmhglcdifhimaaDoorSchedDuo
import Derived.Test.YtgmhglcdifhimaaDoorSchedTold
namespace Go.Proofs.YtgmhglcdifhimaaDoor
open Go.RowKit Go.Maps Go.Sort
open Tsk

theorem doors_step {w w' : World} (h : Doors w) (hb : Below w.heap.size w w') : Doors w' := h.upd (Upd.of_below (F := fun _ => False) hb) (block_lt_of_cell h.1) (fun f => f)
set_option maxRecDepth 100000 in
theorem mboard_nil (w : World) : Calls Tryd.prog 12 #[.pointer none] w fun e w' => e = .returned (.pointer none) ∧ w = w' := by
  go_enter Tryd.func12, Tryd.ntmps12
  go_wp2_with fail
  go_ret
  exact ⟨rfl, rfl⟩
set_option maxRecDepth 100000 in
theorem malive_nil (w : World) : Calls Tryd.prog 23 #[.pointer none] w fun e w' => e = .returned (.slice none 0 0) ∧ w = w' := by
  go_enter Tryd.func23, Tryd.ntmps23
  go_wp2_with fail
  refine (who_nil _ _).mono ?_
  rintro e w1 ⟨rfl, rfl⟩
  go_wp2_with fail
  go_ret
  exact ⟨rfl, rfl⟩
set_option maxRecDepth 100000 in
set_option maxHeartbeats 16000000 in
theorem schedPlays_walk (W : World) (hD : Doors W) (a c : Option Addr) (cap cap' : Nat) (L : List (List Int)) (wk rt : Int) (l : List (Sch.Pick × List UInt8)) (hL : NeedsAt W a L) (hlen : L.length ≤ maxLen) (hl : ToldsAt W c l) (hok : ∀ x ∈ l, okPick x.1) :
    Calls Tryd.prog 5 #[.slice a L.length cap, .int .i64 wk, .int .i64 rt, .slice c l.length cap'] W fun e w' => e = .returned (.bool true) ∧ Below W.heap.size W w' := by
  have HL := Lib.hid hL; have HS := Lib.hid hl; have HOK := Lib.hid hok
  have HLEN := Lib.hid hlen; have HD := Lib.hid hD
  have HAL := Lib.hid (fun (V : World) (h : Doors V) => alive31_any V h)
  have h0W : 0 < W.heap.size := block_lt_of_cell hD.1
  clear hL hl hok hlen hD
  go_enter Tryd.func5, Tryd.ntmps5
  go_wp2_with fail
  refine (heavy31_any a c cap cap' l.length L _ HL.out HLEN.out).mono ?_
  rintro e w1 ⟨hv, rfl, rfl, himp⟩
  cases hv with
  | true =>
    clear himp
    go_wp2_with fail
    refine (HAL.out _ HD.out).mono ?_
    rintro e w2 ⟨rfl, hb⟩
    go_wp2_with fail
    go_ret
    exact ⟨rfl, hb⟩
  | false =>
    obtain ⟨⟨h30, h200, -⟩, h100⟩ := himp rfl
    clear himp
    have HR := Lib.hid (show ∀ x ∈ L, x.length ≤ 1000 from fun x hx => by have := h200 x hx; omega)
    clear h200
    go_wp2_with fail
    refine (do_nil 0 0 0 [] _).mono ?_
    rintro e w1 ⟨rfl, hb⟩
    have HB1 := Lib.hid hb
    clear hb
    unfold ansV Sch.none_
    go_wp2_with fail
    have hb2 : Below W.heap.size W (w1.alloc (.cells #[.int .i64 0, .bool false] 42)) := HB1.out.alloc HB1.out.size _
    have HB2 := Lib.hid hb2
    clear hb2 HB1
    generalize w1.alloc (.cells #[.int .i64 0, .bool false] 42) = w2 at *
    generalize w1.heap.size = g1 at *
    refine (next_nil _).mono ?_
    rintro e w3 ⟨rfl, hb⟩
    have HB3 := Lib.hid (HB2.out.trans (hb.mono HB2.out.size))
    clear hb HB2
    unfold pickOut
    go_wp2_with fail
    have hb4 : Below W.heap.size W (w3.alloc (.cells #[.int .u8 0, .int .i64 0, .int .i64 0] 46)) := HB3.out.alloc HB3.out.size _
    have HB4 := Lib.hid hb4
    clear hb4 HB3
    generalize w3.alloc (.cells #[.int .u8 0, .int .i64 0, .int .i64 0] 46) = w4 at *
    generalize w3.heap.size = g3 at *
    refine (values_nil _).mono ?_
    rintro e w5 ⟨rfl, rfl⟩
    go_wp2_with fail
    refine (mboard_nil _).mono ?_
    rintro e w5 ⟨rfl, rfl⟩
    go_wp2_with fail
    refine (malive_nil _).mono ?_
    rintro e w5 ⟨rfl, rfl⟩
    go_wp2_with fail
    refine (idle_nil _).mono ?_
    rintro e w5 ⟨rfl, hb⟩
    have HB5 := Lib.hid (HB4.out.trans (hb.mono HB4.out.size))
    clear hb HB4
    go_wp2_with fail
    refine (copied30_any a cap L _ (HL.out.below HB5.out) (by omega) HR.out).mono ?_
    rintro e w6 ⟨q, qc, rfl, hn, hb⟩
    have HN := Lib.hid hn
    have HB6 := Lib.hid (HB5.out.trans (hb.mono HB5.out.size))
    clear hn hb HB5
    by_cases hmay : MayM L wk rt
    · obtain ⟨hm, hw1, hw16⟩ := hmay
      obtain ⟨N, rfl⟩ : ∃ N : Nat, wk = (N : Int) := ⟨wk.toNat, by omega⟩
      have HMAY := Lib.hid hm
      have hN1 : 1 ≤ N := by omega
      have hN2 : N ≤ 16 := by omega
      clear hm hw1 hw16
      go_wp2_with fail
      refine (snew_yes q qc L rt N _ HN.out HMAY.out hN1 hN2 (doors_step HD.out HB6.out)).mono ?_
      intro e w7 hS
      obtain ⟨P, p, m, lv, nvs, vv, rfl, hA⟩ := MyM.made hS HMAY.out hN2 HB6.out
      have HA := Lib.hid hA
      clear hA hS HN HB6
      go_wp2_with fail
      refine (rmay31_any a cap L (N : Int) rt _ (HL.out.below HA.out.below) (by omega) HR.out).mono ?_
      rintro e w8 ⟨v, rfl, hv, hb⟩
      obtain rfl : v = true := hv.2 ⟨HMAY.out, by omega, by omega⟩
      have HA1 := Lib.hid (HA.out.step hb)
      clear hv hb HA
      go_wp2_with fail
      refine HA1.out.board.mono ?_
      rintro e w9 ⟨rfl, rfl⟩
      have HRN := Lib.hid (rnew31_any a cap L rt.toNat N w8 (HL.out.below HA1.out.below) (by omega) HMAY.out.2.2.2 hN2)
      have hr0 : ((rt.toNat : Nat) : Int) = rt := by have := HMAY.out.2.1; omega
      rw [hr0] at HRN
      clear hr0
      go_wp2_with fail
      refine HRN.out.mono ?_
      rintro e w9 ⟨R, r, vv', rfl, hra, hb, hnR, hnr, hnv⟩
      have HDU := Lib.hid (show DuoM W w9 P p m lv nvs vv R r ⟨Board.new (natsL L) rt.toNat, List.replicate N true⟩ ⟨Board.new (natsL L) rt.toNat, List.replicate N true⟩ 0 from
        ⟨HA1.out.step hb, ⟨vv', hra, fun g hg hm => by have := HA1.out.mast.lt g hm; have := hnv g hg; omega⟩, by have := HA1.out.below.size; omega, by have := HA1.out.below.size; omega, h0W⟩)
      clear hra hb hnR hnr hnv HA1 HRN
      go_wp2_with fail
      go_loopw [19] (fun i wr => ∃ (j : Nat) (M : Sch.Master), j ≤ l.length ∧ i = .int .i64 j ∧ DuoM W wr P p m lv nvs vv R r M M j) (fun i _ => l.length - (intOf i).toNat)
      case atStart => exact ⟨0, _, Nat.zero_le _, rfl, HDU.out⟩
      case round =>
        clear HDU
        obtain ⟨j, M, hj, rfl, hdu⟩ := hrel
        have HDU := Lib.hid hdu
        clear hdu
        by_cases hlt : j < l.length
        · obtain ⟨q0, hix, htold⟩ := HS.out.index cap' j hlt
          have hokj := HOK.out _ (List.getElem_mem hlt)
          generalize l[j] = lj at *
          obtain ⟨⟨d, px, pt⟩, s⟩ := lj
          have hd : d < 256 := hokj.1
          have HTO := Lib.hid htold
          have KP := Lib.hid (fun (V : World) (hb : Below W.heap.size W V) => (htold.below hb).cells)
          have HFI := Lib.hid HDU.out.my.fine
          have HSL := Lib.hid HDU.out.my.slim
          obtain ⟨⟨M2, a1, a2, a3⟩, hr⟩ : ∃ r, M.do_ ⟨d, px, pt⟩ s = r := ⟨_, rfl⟩
          have HPD := Lib.hid (fun (V : World) (h : DuoM W V P p m lv nvs vv R r M M j) => (show Calls _ _ _ _ (fun e w' => e = .returned (ansV ⟨a1, a2, a3⟩) ∧ DuoM W w' P p m lv nvs vv R r M2 M (j + 1) ∧ EvKept V w') from by
            have := h.pdo (by omega) d hd px pt s
            rw [hr] at this
            exact this))
          have HRE := Lib.hid hr
          clear hr htold hokj
          go_upto_region 18 with fail
          go_cut [20, 21] from 118 to 132 (fun s20 s21 wx => ∃ g, s20 = .pointer (some ⟨g, 0, none⟩) ∧ s21 = .int .i64 a3 ∧ RowAt wx g 42 [.int .i64 a1, .bool a2] ∧ DuoM W wx P p m lv nvs vv R r M2 M (j + 1))
          case first =>
            have H1 := Lib.hid (HDU.out.step ((Below.refl _ _).drew))
            have hal : Below wr.heap.size wr (wr.alloc (.cells #[.int .i64 0, .bool false] 42)) := (Below.refl _ _).alloc (Nat.le_refl _) _
            have H1B := Lib.hid ((HDU.out.step hal).step ((Below.refl _ _).drew))
            have HE0 := Lib.hid (show RowAt (wr.alloc (.cells #[.int .i64 0, .bool false] 42)).drew wr.heap.size 42 [.int .i64 0, .bool false] from (RowAt.made wr #[.int .i64 0, .bool false] _).below ((Below.refl _ _).drew))
            have HPA := Lib.hid (HPD.out _ H1.out)
            have HPB := Lib.hid (HPD.out _ H1B.out)
            have HSZ := Lib.hid HDU.out.my.below.size
            clear hal HPD HDU
            unfold ansV at HPA HPB
            go_region_held3 (fun V => V.cell? q0 = some (.int .u8 (d : Int)) ∧ V.cell? ⟨q0.block, q0.off + 1, none⟩ = some (.int .i64 px) ∧ V.cell? ⟨q0.block, q0.off + 2, none⟩ = some (.int .i64 pt) ∧ V.cell? ⟨q0.block, q0.off + 3, none⟩ = some (.string (bs s)))
              (first | exact KP.out _ H1.out.my.below | exact KP.out _ H1B.out.my.below | exact KP.out _ HTA.out.my.below | exact KP.out _ HTB.out | exact KP.out _ HTC.out)
              (first
                | (go_at_call 17; refine HPA.out.mono ?_; rintro e wb ⟨rfl, g1, g2⟩; have HTA := Lib.hid g1; have HTB := Lib.hid (show Below W.heap.size W (wb.alloc (.cells #[.int .i64 0, .bool false] 42)) from g1.my.below.alloc g1.my.below.size _); have HTC := Lib.hid (show Below W.heap.size W (wb.alloc (.cells #[.int .i64 a1, .bool a2] 42)) from g1.my.below.alloc g1.my.below.size _); clear g1 g2)
                | (go_at_call 17; refine HPB.out.mono ?_; rintro e wb ⟨rfl, g1, g2⟩; have HTA := Lib.hid g1; have HEB := Lib.hid (g2 _ _ HE0.out); have ce0 : wb.cell? ⟨wr.heap.size, 0, none⟩ = some (.int .i64 0) := HEB.out.cell 0 (by simp); have ce1 : wb.cell? ⟨wr.heap.size, 1, none⟩ = some (.bool false) := HEB.out.cell 1 (by simp); have cf0 := HEB.out.free 0; have cf1 := HEB.out.free 1; have HTC := Lib.hid (show Below W.heap.size W ((wb.setCell ⟨wr.heap.size, 0, none⟩ (.int .i64 a1)).setCell ⟨wr.heap.size, 1, none⟩ (.bool a2)) from (g1.my.below.setCell (p := ⟨wr.heap.size, 0, none⟩) HSZ.out _).setCell (p := ⟨wr.heap.size, 1, none⟩) HSZ.out _); clear g1 g2))
            · go_wp2_with fail
              go_meet
              case rel => exact ⟨_, rfl, rfl, RowAt.made wb #[.int .i64 a1, .bool a2] _, HTA.out.step ((Below.refl _ _).alloc (Nat.le_refl _) _)⟩
            · go_wp2_with fail
              go_meet
              case rel => exact ⟨_, rfl, rfl, (HEB.out.set 0 (.int .i64 a1)).set 1 (.bool a2), (HTA.out.wrote HEB.out HSZ.out (.int .i64 a1)).wrote (HEB.out.set 0 (.int .i64 a1)) HSZ.out (.bool a2)⟩
          case rest =>
            obtain ⟨g20, rfl, rfl, hrow, hdu⟩ := hcut
            have HD2 := Lib.hid hdu; have HEA := Lib.hid hrow
            have hlt20 := hrow.lt
            clear hrow hdu HDU HPD
            have HRD := Lib.hid (fun (V : World) (h : DuoM W V P p m lv nvs vv R r M2 M (j + 1)) => (show Calls _ _ _ _ (fun e w' => e = .returned (ansV ⟨a1, a2, a3⟩) ∧ DuoM W w' P p m lv nvs vv R r M2 M2 (j + 1) ∧ EvKept V w') from by
              have := h.rdo HFI.out (by omega) HSL.out d hd px pt s
              rw [HRE.out] at this
              exact this))
            go_upto_region 19 with fail
            go_cut [22, 23] from 133 to 147 (fun s22 s23 wx => ∃ g, s22 = .pointer (some ⟨g, 0, none⟩) ∧ s23 = .int .i64 a3 ∧ RowAt wx g 42 [.int .i64 a1, .bool a2] ∧ RowAt wx g20 42 [.int .i64 a1, .bool a2] ∧ DuoM W wx P p m lv nvs vv R r M2 M2 (j + 1))
            case first =>
              have hal : Below wc.heap.size wc (wc.alloc (.cells #[.int .i64 0, .bool false] 42)) := (Below.refl _ _).alloc (Nat.le_refl _) _
              have H1 := Lib.hid (HD2.out.step ((Below.refl _ _).drew))
              have HEA1 := Lib.hid (HEA.out.below ((Below.refl _ _).drew))
              have H1B := Lib.hid ((HD2.out.step hal).step ((Below.refl _ _).drew))
              have HEAB := Lib.hid ((HEA.out.below hal).below ((Below.refl _ _).drew))
              have HE0 := Lib.hid (show RowAt (wc.alloc (.cells #[.int .i64 0, .bool false] 42)).drew wc.heap.size 42 [.int .i64 0, .bool false] from (RowAt.made wc #[.int .i64 0, .bool false] _).below ((Below.refl _ _).drew))
              have HPA := Lib.hid (HRD.out _ H1.out)
              have HPB := Lib.hid (HRD.out _ H1B.out)
              have HSZ := Lib.hid HD2.out.my.below.size
              have HN20 := Lib.hid (show wc.heap.size ≠ g20 from by omega)
              clear hal HRD HD2 hlt20
              unfold ansV at HPA HPB
              go_region_held3 (fun V => V.cell? q0 = some (.int .u8 (d : Int)) ∧ V.cell? ⟨q0.block, q0.off + 1, none⟩ = some (.int .i64 px) ∧ V.cell? ⟨q0.block, q0.off + 2, none⟩ = some (.int .i64 pt) ∧ V.cell? ⟨q0.block, q0.off + 3, none⟩ = some (.string (bs s)))
                (first | exact KP.out _ H1.out.my.below | exact KP.out _ H1B.out.my.below | exact KP.out _ HTA.out.my.below | exact KP.out _ HTB.out | exact KP.out _ HTC.out)
                (first
                  | (go_at_call 27; refine HPA.out.mono ?_; rintro e wb ⟨rfl, g1, g2⟩; have HTA := Lib.hid g1; have HEC := Lib.hid (g2 _ _ HEA1.out); have HTB := Lib.hid (show Below W.heap.size W (wb.alloc (.cells #[.int .i64 0, .bool false] 42)) from g1.my.below.alloc g1.my.below.size _); have HTC := Lib.hid (show Below W.heap.size W (wb.alloc (.cells #[.int .i64 a1, .bool a2] 42)) from g1.my.below.alloc g1.my.below.size _); clear g1 g2)
                  | (go_at_call 27; refine HPB.out.mono ?_; rintro e wb ⟨rfl, g1, g2⟩; have HTA := Lib.hid g1; have HEC := Lib.hid (g2 _ _ HEAB.out); have HEB := Lib.hid (g2 _ _ HE0.out); have ce0 : wb.cell? ⟨wc.heap.size, 0, none⟩ = some (.int .i64 0) := HEB.out.cell 0 (by simp); have ce1 : wb.cell? ⟨wc.heap.size, 1, none⟩ = some (.bool false) := HEB.out.cell 1 (by simp); have cf0 := HEB.out.free 0; have cf1 := HEB.out.free 1; have HTC := Lib.hid (show Below W.heap.size W ((wb.setCell ⟨wc.heap.size, 0, none⟩ (.int .i64 a1)).setCell ⟨wc.heap.size, 1, none⟩ (.bool a2)) from (g1.my.below.setCell (p := ⟨wc.heap.size, 0, none⟩) HSZ.out _).setCell (p := ⟨wc.heap.size, 1, none⟩) HSZ.out _); clear g1 g2))
              · go_wp2_with fail
                go_meet
                case rel => exact ⟨_, rfl, rfl, RowAt.made wb #[.int .i64 a1, .bool a2] _, HEC.out.below ((Below.refl _ _).alloc (Nat.le_refl _) _), HTA.out.step ((Below.refl _ _).alloc (Nat.le_refl _) _)⟩
              · go_wp2_with fail
                go_meet
                case rel => exact ⟨_, rfl, rfl, (HEB.out.set 0 (.int .i64 a1)).set 1 (.bool a2), (HEC.out.far HN20.out 0 (.int .i64 a1)).far HN20.out 1 (.bool a2), (HTA.out.wrote HEB.out HSZ.out (.int .i64 a1)).wrote (HEB.out.set 0 (.int .i64 a1)) HSZ.out (.bool a2)⟩
            case rest =>
              obtain ⟨g22, rfl, rfl, hrow2, hrow1, hdu⟩ := hcut
              have HD3 := Lib.hid hdu; have HEA := Lib.hid hrow1; have HEB := Lib.hid hrow2
              clear hrow1 hrow2 hdu HRD HD2 hlt20 HFI HSL HRE KP
              obtain ⟨⟨⟨nd, nx, nt⟩, nis⟩, hpn⟩ : ∃ r, M2.next = r := ⟨_, rfl⟩
              have hN1 := HD3.out.pnext (by omega)
              rw [hpn] at hN1
              go_wp2_with fail
              refine hN1.mono ?_
              clear hN1
              rintro e w1 ⟨rfl, hb⟩
              have HD4 := Lib.hid (HD3.out.step hb)
              have HEA1 := Lib.hid (HEA.out.below hb); have HEB1 := Lib.hid (HEB.out.below hb)
              clear hb HD3 HEA HEB
              unfold pickOut
              go_wp2_with fail
              have hbk : Below w1.heap.size w1 (w1.alloc (.cells #[.int .u8 (nd : Int), .int .i64 nx, .int .i64 nt] 46)) := (Below.refl _ _).alloc (Nat.le_refl _) _
              have HPK := Lib.hid (RowAt.made w1 #[.int .u8 (nd : Int), .int .i64 nx, .int .i64 nt] 46)
              have HD5 := Lib.hid (HD4.out.step hbk)
              have HEA2 := Lib.hid (HEA1.out.below hbk); have HEB2 := Lib.hid (HEB1.out.below hbk)
              clear hbk HD4 HEA1 HEB1
              generalize w1.alloc (.cells #[.int .u8 (nd : Int), .int .i64 nx, .int .i64 nt] 46) = w2 at *
              generalize w1.heap.size = g24 at *
              have hN1 := HD5.out.rnext (by omega)
              rw [hpn] at hN1
              refine hN1.mono ?_
              clear hN1 hpn
              rintro e w3 ⟨rfl, hb⟩
              have HD6 := Lib.hid (HD5.out.step hb)
              have HEA3 := Lib.hid (HEA2.out.below hb); have HEB3 := Lib.hid (HEB2.out.below hb); have HPK1 := Lib.hid (HPK.out.below hb)
              clear hb HD5 HEA2 HEB2 HPK
              unfold pickOut
              go_wp2_with fail
              have hbk : Below w3.heap.size w3 (w3.alloc (.cells #[.int .u8 (nd : Int), .int .i64 nx, .int .i64 nt] 46)) := (Below.refl _ _).alloc (Nat.le_refl _) _
              have HPL := Lib.hid (RowAt.made w3 #[.int .u8 (nd : Int), .int .i64 nx, .int .i64 nt] 46)
              have HD7 := Lib.hid (HD6.out.step hbk)
              have HEA4 := Lib.hid (HEA3.out.below hbk); have HEB4 := Lib.hid (HEB3.out.below hbk); have HPK2 := Lib.hid (HPK1.out.below hbk)
              clear hbk HD6 HEA3 HEB3 HPK1
              generalize w3.alloc (.cells #[.int .u8 (nd : Int), .int .i64 nx, .int .i64 nt] 46) = w4 at *
              generalize w3.heap.size = g26 at *
              refine HD7.out.pvals.mono ?_
              rintro e w5 ⟨q28, cap28, rfl, hs1, hb⟩
              have HD8 := Lib.hid (HD7.out.step hb)
              have HS1 := Lib.hid hs1
              have HEA5 := Lib.hid (HEA4.out.below hb); have HEB5 := Lib.hid (HEB4.out.below hb); have HPK3 := Lib.hid (HPK2.out.below hb); have HPL1 := Lib.hid (HPL.out.below hb)
              clear hb hs1 HD7 HEA4 HEB4 HPK2 HPL
              go_wp2_with fail
              refine HD8.out.rvals.mono ?_
              rintro e w6 ⟨q30, cap30, rfl, hs2, hb⟩
              have HD9 := Lib.hid (HD8.out.step hb)
              have HS2 := Lib.hid hs2; have HS3 := Lib.hid (HS1.out.below hb)
              have HEA6 := Lib.hid (HEA5.out.below hb); have HEB6 := Lib.hid (HEB5.out.below hb); have HPK4 := Lib.hid (HPK3.out.below hb); have HPL2 := Lib.hid (HPL1.out.below hb)
              clear hb hs2 HD8 HEA5 HEB5 HPK3 HPL1 HS1
              have hsm := same_vals HD9.out.my.fine cap28 cap30 HS3.out (Below.refl _ _) HS2.out
              generalize (valsOf M2.b).length = vln at *
              have HSM := Lib.hid hsm
              generalize M2.b.done = dn at *
              have ea0 := HEA6.out.cell 0 (by simp); have ea1 := HEA6.out.cell 1 (by simp)
              have eb0 := HEB6.out.cell 0 (by simp); have eb1 := HEB6.out.cell 1 (by simp)
              have pa0 := HPK4.out.cell 0 (by simp); have pa1 := HPK4.out.cell 1 (by simp); have pa2 := HPK4.out.cell 2 (by simp)
              have pb0 := HPL2.out.cell 0 (by simp); have pb1 := HPL2.out.cell 1 (by simp); have pb2 := HPL2.out.cell 2 (by simp)
              clear hsm HS2 HS3 HEA6 HEB6 HPK4 HPL2
              go_wp2_with fail
              refine HSM.out.mono ?_
              rintro e w7 ⟨rfl, hb⟩
              have HDA := Lib.hid (HD9.out.step hb)
              clear hb HD9 HSM ea0 ea1 eb0 eb1 pa0 pa1 pa2 pb0 pb1 pb2
              go_wp2_with fail
              refine HDA.out.palive.mono ?_
              rintro e wa ⟨qa, ca, rfl, hi1, hb, _⟩
              have HDBa := Lib.hid (HDA.out.step hb)
              have HI1 := Lib.hid hi1
              clear hi1 hb HDA
              go_wp2_with fail
              refine (HDBa.out.ralive (by omega)).mono ?_
              rintro e wb ⟨qb, cb, rfl, hi2, hb, _⟩
              have HDBb := Lib.hid (HDBa.out.step hb)
              have HSM := Lib.hid (HDBb.out.same_who (fun _ => true) ca cb HI1.out hb hi2)
              clear hi2 hb HI1 HDBa
              go_wp2_with fail
              refine HSM.out.mono ?_
              rintro e wsm ⟨rfl, hb⟩
              have HDB := Lib.hid (HDBb.out.step hb)
              clear hb HDBb HSM
              go_wp2_with fail
              refine HDB.out.pidle.mono ?_
              rintro e wa ⟨qa, ca, rfl, hi1, hb, _⟩
              have HDCa := Lib.hid (HDB.out.step hb)
              have HI1 := Lib.hid hi1
              clear hi1 hb HDB
              go_wp2_with fail
              refine (HDCa.out.ridle (by omega)).mono ?_
              rintro e wb ⟨qb, cb, rfl, hi2, hb, _⟩
              have HDCb := Lib.hid (HDCa.out.step hb)
              have HSM := Lib.hid (HDCb.out.same_who (idleF M2.b) ca cb HI1.out hb hi2)
              clear hi2 hb HI1 HDCa
              go_wp2_with fail
              refine HSM.out.mono ?_
              rintro e wsm ⟨rfl, hb⟩
              have HDC := Lib.hid (HDCb.out.step hb)
              clear hb HDCb HSM
              go_wp2_with fail
              go_roundw
              case rel => exact ⟨j + 1, M2, by omega, by go_num, HDC.out⟩
              case measure => simp [intOf]; omega
        · obtain rfl : j = l.length := by omega
          have HD0 := Lib.hid (HDU.out.step ((Below.refl _ _).drew))
          have HFI := Lib.hid HDU.out.my.fine
          have HK := Lib.hid (show l.length ≤ 1000000 from by omega)
          have HPR := Lib.hid (HD0.out.pready HK.out)
          have hdd : (M.b.done == M.b.done) = true := by simp
          clear HDU HS HOK HL HLEN HR HMAY HD
          go_wp2_with fail
          go_region_held3 (fun V => V.cell? ⟨R, 0, none⟩ = some (.pointer (some ⟨r, 0, none⟩)))
            (first | exact HD0.out.rcell | exact HD1.out.rcell | exact HD2.out.rcell | exact HD3.out.rcell | exact HD4.out.rcell | exact HR5.out)
            (first
              | (go_at_call 12; refine HD3.out.my.board.mono ?_; rintro e wz ⟨rfl, rfl⟩)
              | (go_at_call 12; refine HD0.out.my.board.mono ?_; rintro e wz ⟨rfl, rfl⟩)
              | (go_at_call 32; refine HPR.out.mono ?_; rintro e wa ⟨qa, ca, rfl, hi1, hb, _⟩; have HD1 := Lib.hid (HD0.out.step hb); have HI1 := Lib.hid hi1; clear hi1 hb)
              | (go_at_call 33; refine (HD1.out.rready HK.out).mono ?_; rintro e wb ⟨qb, cb, rfl, hi2, hb, _⟩; have HD2 := Lib.hid (HD1.out.step hb); have HSM := Lib.hid (same_ready HFI.out ca cb HI1.out hb hi2); clear hi2 hb)
              | (go_at_call 30; refine HSM.out.mono ?_; rintro e wc ⟨rfl, hb⟩; have HD3 := Lib.hid (HD2.out.step hb); clear hb)
              | (go_at_call 34; refine HD3.out.pdone.mono ?_; rintro e wd ⟨rfl, hb⟩; have HD4 := Lib.hid (HD3.out.step hb); clear hb)
              | (go_at_call 35; refine HD4.out.rdone.mono ?_; rintro e we ⟨rfl, rfl⟩)
              | (go_at_call 8; refine (HAL.out _ HD4.out.my.mast.doors).mono ?_; rintro e wf ⟨rfl, hb⟩; have HB5 := Lib.hid (HD4.out.my.below.trans (hb.mono HD4.out.my.below.size)); have HR5 := Lib.hid ((HD4.out.step hb).rcell); clear hb))
          go_wp2_with fail
          go_ret
          exact ⟨rfl, HB5.out⟩
    · have HNM := Lib.hid hmay
      go_wp2_with fail
      refine (snew_bad q qc L rt wk _ HN.out HLEN.out (fun h => HNM.out ⟨h.1, h.2.1, h.2.2⟩)).mono ?_
      rintro e w7 ⟨rfl, hb⟩
      have HB7 := Lib.hid (HB6.out.trans (hb.mono HB6.out.size))
      clear hb HB6 HN
      go_wp2_with fail
      refine (rmay31_any a cap L wk rt _ (HL.out.below HB7.out) (by omega) HR.out).mono ?_
      rintro e w8 ⟨v, rfl, hv, hb⟩
      have hvf : v = false := by
        cases v with
        | false => rfl
        | true => exact absurd (hv.1 rfl) HNM.out
      subst hvf
      have HB8 := Lib.hid (HB7.out.trans (hb.mono HB7.out.size))
      clear hv hb HB7
      go_wp2_with fail
      refine (HAL.out _ (doors_step HD.out HB8.out)).mono ?_
      rintro e w9 ⟨rfl, hb⟩
      have HB9 := Lib.hid (HB8.out.trans (hb.mono HB8.out.size))
      clear hb
      go_wp2_with fail
      go_ret
      exact ⟨rfl, HB9.out⟩
set_option maxRecDepth 100000 in
theorem schedPlays_any {H : Type} {enc : TypeId × Value → H} {base0 base3 : Nat} (W : World) (hD : Doors W) (v0 : Value) (d0 : DataW H) (p0 : List MemPlace)
    (o0 : Value.okWide Tryd.prog W .any base0 22 v0) (h0 : DataW.Trod enc Tryd.prog W 0 (fun _ => true) true 22 v0 d0 p0) (z0 : ∀ n ∈ DataW.weights Tryd.prog 22 d0, (decide (n ≤ reachBytes)) = true)
    (wk : Int) (_ : (Lit.int .i64 wk).wf = true) (rt : Int) (_ : (Lit.int .i64 rt).wf = true)
    (v3 : Value) (d3 : DataW H) (p3 : List MemPlace) (o3 : Value.okWide Tryd.prog W .any base3 54 v3) (h3 : DataW.Trod enc Tryd.prog W 0 (fun _ => true) true 54 v3 d3 p3) (_ : ∀ n ∈ DataW.weights Tryd.prog 54 d3, (decide (n ≤ reachBytes)) = true) :
    Calls Tryd.prog 5 #[v0, .int .i64 wk, .int .i64 rt, v3] W fun e w' => e = .returned (.bool true) ∧ Below W.heap.size W w' := by
  obtain ⟨a, cap, L, rfl, g1, g2⟩ := needs_of_trod o0 h0 z0
  obtain ⟨c, cap', l, rfl, k1, _, k3⟩ := tolds_of_trod o3 h3
  exact schedPlays_walk W hD a c cap cap' L wk rt l g1 g2 k1 k3
end Go.Proofs.YtgmhglcdifhimaaDoor
