/- maslinlaw30.TaskNeeds, walked. -/
import Derived.Test.YtgmhglcdifhimaaTaskNeedsLaw
import Derived.Deep.CutRange
import Derived.Deep.CutBlock
namespace Go.Proofs.Ytgmhglcdifhimaa
open Go.RowKit Go.Maps Go.Sort
open Tsk

theorem isRow_len (b : Board) : (isRow b).length = b.l.length := by unfold isRow; simp
theorem valRow_len (b : Board) : (valRow b).length = b.l.length := by unfold valRow; simp
section
variable {w0 w w' : World} {p m : Nat} {lv : Value} {nvs : List Value} {b b' : Board} {k k' : Nat} {L : List (List Int)} {gd gv : Nat}
/-- What the rows beside say of a task. -/
theorem NdB.at_ (h : NdB w0 w p m lv nvs b k L gd gv) {t : Nat} (ht : t < b.l.length) {y : Task} (hy : b.l[t] = y) : w.cell? ⟨gd, t, none⟩ = some (.bool y.is) ∧ w.cell? ⟨gv, t, none⟩ = some (.string (bs y.value)) := by
  subst hy
  refine ⟨(h.dn.cell t (by rw [isRow_len]; exact ht)).trans (by unfold isRow; simp), (h.vl.cell t (by rw [valRow_len]; exact ht)).trans (by unfold valRow; simp)⟩
theorem NdB.made {L : List (List Int)} {r : Int} (h : MyB w0 w p m lv nvs (Board.new (natsL L) r.toNat) 0) (hd : RowAt w gd 4 (List.replicate L.length (.bool false))) (hv : RowAt w gv 9 (List.replicate L.length (.string (bs [])))) (h1 : w0.heap.size ≤ gd) (h2 : w0.heap.size ≤ gv) :
    NdB w0 w p m lv nvs (Board.new (natsL L) r.toNat) 0 L gd gv := by
  refine ⟨h, ?_, fun x hx _ => ?_, ?_, ?_, h1, h2⟩
  · unfold Board.new; simp [Function.comp_def]
  · unfold Board.new at hx
    obtain ⟨l, _, rfl⟩ := List.mem_map.1 hx
    rfl
  · have e : isRow (Board.new (natsL L) r.toNat) = List.replicate L.length (.bool false) := by
      unfold isRow Board.new natsL
      rw [List.map_map, List.map_map]
      apply List.ext_getElem
      · simp
      · intro i h1 h2; simp
    rw [e]; exact hd
  · have e : valRow (Board.new (natsL L) r.toNat) = List.replicate L.length (.string (bs [])) := by
      unfold valRow Board.new natsL
      rw [List.map_map, List.map_map]
      apply List.ext_getElem
      · simp
      · intro i h1 h2; simp
    rw [e]; exact hv
/-- What a begun task needs. -/
theorem NdB.need (h : NdB w0 w p m lv nvs b k L gd gv) {t : Nat} (ht : t < b.l.length) (hlt : t < L.length) : b.l[t].needs = L[t].map Int.toNat := by
  have e : (b.l.map (·.needs))[t]'(by simpa using ht) = (natsL L)[t]'(by unfold natsL; simpa using hlt) := by simp only [h.needs]
  unfold natsL at e
  simpa using e
end
set_option maxRecDepth 100000 in
set_option maxHeartbeats 8000000 in
theorem taskNeeds_walk (W : World) (a c : Option Addr) (cap cap' : Nat) (L : List (List Int)) (r : Int) (l : List TStp) (hL : NeedsAt W a L) (hlen : L.length ≤ maxLen) (hl : TStepsAt W c l) (hl2 : l.length ≤ maxLen) (hok : ∀ x ∈ l, x.okay) :
    Calls Try.prog 4 #[.slice a L.length cap, .int .i64 r, .slice c l.length cap'] W fun e w' => e = .returned (.bool true) ∧ Below W.heap.size W w' := by
  have HL := Lib.hid hL; have HS := Lib.hid hl; have HOK := Lib.hid hok
  have HLEN := Lib.hid hlen; have HL2 := Lib.hid hl2
  clear hL hl hok hlen hl2
  go_enter Try.func4, Try.ntmps4
  go_wp2_with fail
  refine (heavy30_any a c cap cap' l.length L _ HL.out HLEN.out HL2.out).mono ?_
  rintro e w1 ⟨hv, rfl, rfl, himp⟩
  cases hv with
  | true =>
    clear himp
    go_wp2_with fail
    refine (alive30_any _).mono ?_
    rintro e w2 ⟨rfl, hb⟩
    go_wp2_with fail
    go_ret
    exact ⟨rfl, hb⟩
  | false =>
    obtain ⟨h30, h200, h100⟩ := himp rfl
    clear himp
    have HR := Lib.hid (show ∀ x ∈ L, x.length ≤ 1000 from fun x hx => by have := h200 x hx; omega)
    clear h200
    go_wp2_with fail
    refine (copied30_any a cap L _ HL.out (by omega) HR.out).mono ?_
    rintro e w2 ⟨q, qc, rfl, hn, hb⟩
    have HN := Lib.hid hn; have HB := Lib.hid hb
    clear hn hb
    by_cases hmay : MayB L r
    · have HMAY := Lib.hid hmay
      clear hmay
      go_wp2_with fail
      refine (new_yes q qc L r _ HN.out HMAY.out).mono ?_
      rintro e w3 ⟨p, m, lv, nvs, rfl, hB, hb, hnew⟩
      have H0 := Lib.hid (show MyB W w3 p m lv nvs (Board.new (natsL L) r.toNat) 0 from ⟨hB, new_fine HMAY.out, HB.out.trans (hb.mono HB.out.size), fun i hi => by have := hnew i hi; have := HB.out.size; omega⟩)
      clear hB hb hnew HN HB
      obtain ⟨C1, hm1, hc1⟩ := bools_made w3 L.length (by omega)
      obtain ⟨C2, hm2, hc2⟩ := strs_made (w3.alloc (.cells C1 4)) L.length (by omega)
      have r1 := RowAt.made w3 C1 4
      have r2 := RowAt.made (w3.alloc (.cells C1 4)) C2 9
      rw [hc1] at r1
      rw [hc2, World.size_alloc] at r2
      have hb1 := (Below.refl w3.heap.size w3).alloc (Nat.le_refl _) (.cells C1 4)
      have hb2 := (Below.refl (w3.alloc (.cells C1 4)).heap.size (w3.alloc (.cells C1 4))).alloc (Nat.le_refl _) (.cells C2 9)
      have H1 := Lib.hid (NdB.made ((H0.out.step hb1).step hb2) (r1.below hb2) r2 H0.out.below.size (by have := H0.out.below.size; omega))
      rw [World.size_alloc] at hm2
      clear hc1 hc2 r1 r2 hb1 hb2 H0
      go_wp2_with fail
      generalize (w3.alloc (.cells C1 4)).alloc (.cells C2 9) = w5 at *
      obtain ⟨gd, hgd⟩ : ∃ gd, gd = w3.heap.size := ⟨_, rfl⟩
      rw [← hgd] at H1 ⊢
      obtain ⟨gv, hgv⟩ : ∃ gv, gv = gd + 1 := ⟨_, rfl⟩
      rw [← hgv] at H1 ⊢
      clear hm1 hm2 hgd hgv
      go_loopw [11] (fun i wr => ∃ (j k : Nat) (b : Board), j ≤ l.length ∧ k ≤ j ∧ i = .int .i64 j ∧ NdB W wr p m lv nvs b k L gd gv) (fun i _ => l.length - (intOf i).toNat)
      case atStart => exact ⟨0, 0, _, Nat.zero_le _, Nat.le_refl _, rfl, H1.out⟩
      case round =>
        clear H1
        obtain ⟨j, k, b, hj, hkj, rfl, hM⟩ := hrel
        have HM := Lib.hid hM
        clear hM
        by_cases hlt : j < l.length
        · obtain ⟨qs, hix, hat⟩ := (HS.out.below HM.out.below).index cap' j hlt
          obtain ⟨hx1, hx2, hx3, hx4⟩ := HOK.out l[j] (List.getElem_mem hlt)
          obtain ⟨c0, c1, c2, c3⟩ := hat.cells
          clear hat
          generalize l[j] = x at *
          obtain ⟨xd, xt, xw, xs⟩ := x
          simp only at c0 c1 c2 c3 hx1 hx2 hx3 hx4
          have HX3 := Lib.hid hx3
          clear hx1 hx2 hx3 hx4
          have hbA := (Below.refl wr.heap.size wr).alloc (Nat.le_refl _) (.cells #[.int .i64 xd, .int .i64 xt, .int .i64 xw, .string (bs xs)] 32)
          have HA := Lib.hid (HM.out.step hbA)
          have HSB := Lib.hid (show RowAt (wr.alloc (.cells #[.int .i64 xd, .int .i64 xt, .int .i64 xw, .string (bs xs)] 32)) wr.heap.size 32 [.int .i64 xd, .int .i64 xt, .int .i64 xw, .string (bs xs)] from heap_alloc_new wr _)
          clear hbA HM
          have HAT := Lib.hid (at_any HA.out.board xw HX3.out)
          have HOV := Lib.hid (over_any HA.out.board)
          obtain ⟨at0, hat0⟩ : ∃ o, b.at_ xw = o := ⟨_, rfl⟩
          obtain ⟨fa0, hfa0⟩ : ∃ o, b.failed = o := ⟨_, rfl⟩
          rw [hat0] at HAT; rw [hfa0] at HOV
          have HAT0 := Lib.hid hat0; have HFA0 := Lib.hid hfa0
          clear hat0 hfa0
          go_wp2_with fail
          refine HAT.out.mono ?_
          rintro e w6 ⟨rfl, rfl⟩
          clear HAT
          go_wp2_with fail
          refine HOV.out.mono ?_
          rintro e w6 ⟨rfl, rfl⟩
          clear HOV
          go_upto_block 2 with fail
          go_cut [17, 18, 19] from 75 to 201 (fun _ _ _ wx => ∃ (k' : Nat) (b' : Board), k' ≤ j + 1 ∧ NdB W wx p m lv nvs b' k' L gd gv)
          case first =>
            have HSBN := Lib.hid (fun (V : World) (b' : Board) (h : BoardTo (wr.alloc (.cells #[.int .i64 xd, .int .i64 xt, .int .i64 xw, .string (bs xs)] 32)) V p m lv nvs b') => HSB.out.upd h.upd (HA.out.board.notOf HSB.out.blk (by decide) (by decide)))
            by_cases h0 : xd = 0
            · subst h0
              have HSTA := Lib.hid (start_any HA.out.board HA.out.fine (by omega) xt xw HX3.out)
              obtain ⟨se, hse⟩ : ∃ se, (b.start xt xw).2 = se := ⟨_, rfl⟩
              rw [hse] at HSTA
              by_cases hz : se = 0
              · subst hz
                obtain ⟨z1, z2, z3, z4, z5⟩ := start_zero hse
                obtain ⟨T, rfl⟩ : ∃ n : Nat, xt = (n : Int) := ⟨xt.toNat, by omega⟩
                have hT : T < b.l.length := by omega
                rw [Int.toNat_natCast] at z5
                obtain ⟨o1, o2⟩ := state_open hT z5
                have hTL : T < L.length := by have := HA.out.len; omega
                have hnd := HA.out.need hT hTL
                have hfa : fa0 = none := HFA0.out.symm.trans z3
                have hat : at0 = none := HAT0.out.symm.trans z4
                subst hfa; subst hat
                have HIS := Lib.hid o1
                have HDN := Lib.hid (show ∀ n ∈ L[T], b.isDone n.toNat = true from fun n hn => o2 _ (by rw [hnd]; exact List.mem_map_of_mem hn))
                have HOKR := Lib.hid (HMAY.out.2.2.2 T hTL)
                clear hse z1 z2 z3 z4 z5 o1 o2 hnd
                go_wp2_with fail
                refine HSTA.out.mono ?_
                rintro e w6 ⟨rfl, ht⟩
                have H1 := Lib.hid (HA.out.start (T : Int) xw ht)
                have HSB6 := Lib.hid (HSBN.out _ _ ht)
                obtain ⟨hd6, _⟩ := HA.out.rows ht
                have HD6 := Lib.hid hd6
                have hdT := hd6.cell T (by rw [isRow_len]; exact hT)
                have hdT2 : (isRow b)[T]'(by rw [isRow_len]; exact hT) = .bool false := by unfold isRow; simp [HIS.out]
                rw [hdT2] at hdT
                have e1 : w6.cell? ⟨wr.heap.size, 1, none⟩ = some (.int .i64 (T : Int)) := HSB6.out.cell 1 (by simp)
                have hbi := bools_index gd L.length T hTL
                have hge : decide ((L.length : Int) ≤ (T : Int)) = false := by simp; omega
                clear ht hd6 hdT2 HA HSTA
                go_wp2_with fail
                obtain ⟨qn, hqx, vn, hqc, ⟨nn, ncap, rfl, hnn, _⟩, _, _⟩ := (HL.out.below H1.out.below).index cap T hTL
                have hlr := HR.out _ (List.getElem_mem hTL)
                have HNN := Lib.hid hnn
                clear hnn
                generalize L[T] = row at *
                clear hdT
                go_loopw [17] (fun i wx => ∃ kk : Nat, kk ≤ row.length ∧ i = .int .i64 kk ∧ w6 = wx) (fun i _ => row.length - (intOf i).toNat)
                case atStart => exact ⟨0, Nat.zero_le _, rfl, rfl⟩
                case round =>
                  obtain ⟨kk, hkk, rfl, rfl⟩ := hrel
                  by_cases hlt3 : kk < row.length
                  · obtain ⟨qy, hyx, hyc⟩ := HNN.out.index ncap kk hlt3
                    obtain ⟨hn0, hn1⟩ := HOKR.out.1 _ (List.getElem_mem hlt3)
                    have hdn := HDN.out _ (List.getElem_mem hlt3)
                    generalize row[kk] = n at *
                    obtain ⟨N, rfl⟩ : ∃ N : Nat, n = (N : Int) := ⟨n.toNat, by omega⟩
                    rw [Int.toNat_natCast] at hdn
                    have hNb : N < b.l.length := by omega
                    have hbn := bools_index gd L.length N (by omega)
                    rw [isDone_get hNb] at hdn
                    have hcN := HD6.out.cell N (by rw [isRow_len]; exact hNb)
                    have hcN2 : (isRow b)[N]'(by rw [isRow_len]; exact hNb) = .bool true := by unfold isRow; simp [hdn]
                    rw [hcN2] at hcN
                    clear hdn hcN2
                    go_wp2_with fail
                    go_roundw
                    case rel => exact ⟨kk + 1, by omega, by go_num, by first | rfl | trivial⟩
                    case measure => simp [intOf]; omega
                  · obtain rfl : kk = row.length := by omega
                    go_wp2_with fail
                    go_meet
                    case rel => exact ⟨k + 1, _, by omega, H1.out⟩
              · have hzb : (se == 0) = false := by simpa using hz
                clear hz hse
                go_wp2_with fail
                refine HSTA.out.mono ?_
                rintro e w6 ⟨rfl, ht⟩
                have H1 := Lib.hid (HA.out.start xt xw ht)
                clear ht
                go_wp2_with fail
                go_meet
                case rel => exact ⟨k + 1, _, by omega, H1.out⟩
            have b0 : (xd == 0) = false := by simpa using h0
            clear h0
            by_cases h1 : xd = 1
            · subst h1
              have HC := Lib.hid (commit_any HA.out.board HA.out.fine xw HX3.out xs)
              cases at0 with
              | none =>
                have hcn := commit_none HAT0.out xs
                have HCN := Lib.hid hcn
                rw [hcn] at HC
                clear hcn
                go_wp2_with fail
                refine HC.out.mono ?_
                rintro e w6 ⟨rfl, ht⟩
                have H1 := Lib.hid (HA.out.to ht HA.out.fine rfl rfl rfl HA.out.blank)
                clear ht
                go_wp2_with fail
                go_meet
                case rel => exact ⟨k, b, by omega, H1.out⟩
              | some T =>
                have hT := HA.out.fine.at_lt HAT0.out
                have hTL : T < L.length := by have := HA.out.len; omega
                have hge : decide ((L.length : Int) ≤ (T : Int)) = false := by simp; omega
                have hge0 : decide ((T : Int) < 0) = false := by simp
                have hbi := bools_index gd L.length T hTL
                have hvi := strs_index gv L.length T hTL
                have hcn := commit_at HAT0.out hT xs
                cases hi : b.l[T].is with
                | true =>
                  rw [hi, if_pos rfl] at hcn
                  have HI := Lib.hid hi
                  rw [hcn] at HC
                  have HCN := Lib.hid hcn
                  clear hi hcn
                  go_wp2_with fail
                  refine HC.out.mono ?_
                  rintro e w6 ⟨rfl, ht⟩
                  have H1 := Lib.hid (HA.out.commit_late HAT0.out hT HI.out xs (by rw [HCN.out]; exact ht))
                  have hdT := (HA.out.rows ht).1.cell T (by rw [isRow_len]; exact hT)
                  have hdT2 : (isRow b)[T]'(by rw [isRow_len]; exact hT) = .bool true := by unfold isRow; simp [HI.out]
                  rw [hdT2] at hdT
                  clear ht hdT2 HA HC
                  go_wp2_with fail
                  go_meet
                  case rel => exact ⟨k, _, by omega, H1.out⟩
                | false =>
                  rw [hi, if_neg (by decide)] at hcn
                  have HI := Lib.hid hi
                  rw [hcn] at HC
                  have HCN := Lib.hid hcn
                  clear hi hcn
                  go_wp2_with fail
                  refine HC.out.mono ?_
                  rintro e w6 ⟨rfl, ht⟩
                  have H1 := Lib.hid (HA.out.commit_first HAT0.out hT HI.out xs (by rw [HCN.out]; exact ht))
                  obtain ⟨hd, hv⟩ := HA.out.rows ht
                  have hsb := HSBN.out _ _ ht
                  have hdT := hd.cell T (by rw [isRow_len]; exact hT)
                  have hdT2 : (isRow b)[T]'(by rw [isRow_len]; exact hT) = .bool false := by unfold isRow; simp [HI.out]
                  rw [hdT2] at hdT
                  have hdf := hd.free T
                  have hne1 : gd ≠ gv := fun e => BlkOf.ne (e ▸ hd.blk) hv.blk (by decide) rfl
                  have hne2 : gd ≠ wr.heap.size := fun e => BlkOf.ne (e ▸ hd.blk) hsb.blk (by decide) rfl
                  have hv2 := hv.far hne1 T (.bool true)
                  have hs2 := hsb.far hne2 T (.bool true)
                  have hvT : ∃ v, (w6.setCell ⟨gd, T, none⟩ (.bool true)).cell? ⟨gv, T, none⟩ = some v := ⟨_, hv2.cell T (by rw [valRow_len]; exact hT)⟩
                  obtain ⟨vv, hvv⟩ := hvT
                  have hvf := hv2.free T
                  have e3 : (w6.setCell ⟨gd, T, none⟩ (.bool true)).cell? ⟨wr.heap.size, 3, none⟩ = some (.string (bs xs)) := hs2.cell 3 (by simp)
                  clear ht hdT2 HA HC hd hv hsb hv2 hs2
                  go_wp2_with fail
                  go_meet
                  case rel => exact ⟨k, _, by omega, H1.out⟩
            have b1 : (xd == 1) = false := by simpa using h1
            clear h1
            by_cases h2 : xd = 2
            · subst h2
              have HF := Lib.hid (fail_any HA.out.board HA.out.fine (by omega) xw HX3.out)
              have hz := fail_zero HA.out.fine xw
              rw [HAT0.out] at hz
              obtain ⟨fv, hfv⟩ : ∃ fv, (b.fail xw).2 = fv := ⟨_, rfl⟩
              rw [hfv] at HF hz
              have hz2 : (fv == 0) = at0.isSome := by rw [← hz]; rfl
              clear hfv hz
              generalize at0.isSome = sm at *
              go_wp2_with fail
              refine HF.out.mono ?_
              rintro e w6 ⟨rfl, ht⟩
              have H1 := Lib.hid (HA.out.fail xw ht)
              clear ht
              go_wp2_with fail
              go_meet
              case rel => exact ⟨k + 1, _, by omega, H1.out⟩
            have b2 : (xd == 2) = false := by simpa using h2
            clear h2
            go_wp2_with fail
            go_meet
            case rel => exact ⟨k, b, by omega, HA.out⟩
          case rest =>
            obtain ⟨k', b', hk', hN⟩ := hcut
            have HM := Lib.hid hN
            clear hN HA HSB
            go_wp2_with fail
            go_loopw [20] (fun i wx => ∃ kk : Nat, kk ≤ L.length ∧ i = .int .i64 kk ∧ NdB W wx p m lv nvs b' k' L gd gv) (fun i _ => L.length - (intOf i).toNat)
            case atStart => exact ⟨0, Nat.zero_le _, rfl, HM.out⟩
            case round =>
              clear HM
              obtain ⟨kk, hkk, rfl, hM⟩ := hrel
              have HM := Lib.hid hM
              clear hM
              by_cases hlt3 : kk < L.length
              · have hkb : kk < b'.l.length := by rw [HM.out.len]; exact hlt3
                have HV := Lib.hid (value_in HM.out.board kk hkb)
                obtain ⟨y, hy⟩ : ∃ y, b'.l[kk] = y := ⟨_, rfl⟩
                obtain ⟨d1, d2⟩ := HM.out.at_ hkb hy
                have hbl := HM.out.blank y (hy ▸ List.getElem_mem hkb)
                rw [hy] at HV
                have i1 := bools_index gd L.length kk hlt3
                have i2 := strs_index gv L.length kk hlt3
                clear hy
                obtain ⟨yn, yi, yv, yf⟩ := y
                simp only at d1 d2 hbl HV
                cases yi with
                | true =>
                  rw [if_pos rfl] at HV
                  clear hbl
                  go_wp2_with fail
                  refine HV.out.mono ?_
                  rintro e w6 ⟨rfl, rfl⟩
                  go_wp2_with fail
                  go_roundw
                  case rel => exact ⟨kk + 1, by omega, by go_num, HM.out⟩
                  case measure => simp [intOf]; omega
                | false =>
                  rw [if_neg (by decide)] at HV
                  rw [hbl rfl] at d2
                  clear hbl
                  go_wp2_with fail
                  refine HV.out.mono ?_
                  rintro e w6 ⟨rfl, rfl⟩
                  go_wp2_with fail
                  go_roundw
                  case rel => exact ⟨kk + 1, by omega, by go_num, HM.out⟩
                  case measure => simp [intOf]; omega
              · obtain rfl : kk = L.length := by omega
                go_wp2_with fail
                go_roundw
                case rel => exact ⟨j + 1, k', b', by omega, hk', by go_num, HM.out⟩
                case measure => simp [intOf]; omega
        · obtain rfl : j = l.length := by omega
          go_wp2_with fail
          refine (alive30_any _).mono ?_
          rintro e w6 ⟨rfl, hb⟩
          have H2 := Lib.hid (HM.out.step hb)
          clear hb
          go_wp2_with fail
          go_ret
          exact ⟨rfl, H2.out.below⟩
    · have HMAY := Lib.hid hmay
      clear hmay
      go_wp2_with fail
      refine (new_no q qc L r _ HN.out HLEN.out HMAY.out).mono ?_
      rintro e w3 ⟨rfl, hb⟩
      have HB3 := Lib.hid (HB.out.trans (hb.mono HB.out.size))
      clear hb
      go_wp2_with fail
      refine (alive30_any _).mono ?_
      rintro e w4 ⟨rfl, hb⟩
      have HB4 := Lib.hid (HB3.out.trans (hb.mono HB3.out.size))
      clear hb
      go_wp2_with fail
      go_ret
      exact ⟨rfl, HB4.out⟩
set_option maxRecDepth 100000 in
theorem taskNeeds_any {H : Type} {enc : TypeId × Value → H} {base0 base2 : Nat} (W : World) (v0 : Value) (d0 : DataW H) (p0 : List MemPlace)
    (o0 : Value.okWide Try.prog W .any base0 22 v0) (h0 : DataW.Trod enc Try.prog W 0 (fun _ => true) true 22 v0 d0 p0) (z0 : ∀ n ∈ DataW.weights Try.prog 22 d0, (decide (n ≤ reachBytes)) = true)
    (r : Int) (_ : (Lit.int .i64 r).wf = true)
    (v2 : Value) (d2 : DataW H) (p2 : List MemPlace) (o2 : Value.okWide Try.prog W .any base2 23 v2) (h2 : DataW.Trod enc Try.prog W 0 (fun _ => true) true 23 v2 d2 p2) (z2 : ∀ n ∈ DataW.weights Try.prog 23 d2, (decide (n ≤ reachBytes)) = true) :
    Calls Try.prog 4 #[v0, .int .i64 r, v2] W fun e w' => e = .returned (.bool true) ∧ Below W.heap.size W w' := by
  obtain ⟨a, cap, L, rfl, g1, g2⟩ := needs_of_trod o0 h0 z0
  obtain ⟨c, cap', l, rfl, k1, k2, k3⟩ := tsteps_of_trod o2 h2 z2
  exact taskNeeds_walk W a c cap cap' L r l g1 g2 k1 k2 k3
end Go.Proofs.Ytgmhglcdifhimaa
