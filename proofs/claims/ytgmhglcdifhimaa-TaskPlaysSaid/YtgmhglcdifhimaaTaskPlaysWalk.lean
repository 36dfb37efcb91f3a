/- maslinlaw30.TaskPlays, walked. -/
import Derived.Test.YtgmhglcdifhimaaTaskSame
namespace Go.Proofs.Ytgmhglcdifhimaa
open Go.RowKit Go.Maps Go.Sort
open Tsk

theorem blank_new (N : List (List Nat)) (r : Nat) : (Board.new N r).Blank := fun x hx _ => by
  obtain ⟨l, _, rfl⟩ := List.mem_map.1 hx
  rfl
theorem new_len30 (L : List (List Int)) (r : Nat) : (Board.new (natsL L) r).l.length = L.length := by unfold Board.new natsL; simp
set_option maxRecDepth 100000 in
set_option maxHeartbeats 8000000 in
theorem taskPlays_walk (W : World) (a c : Option Addr) (cap cap' : Nat) (L : List (List Int)) (r : Int) (l : List TStp) (hL : NeedsAt W a L) (hlen : L.length ≤ maxLen) (hl : TStepsAt W c l) (hl2 : l.length ≤ maxLen) (hok : ∀ x ∈ l, x.okay) (n : Int) (hn : (Lit.int .i64 n).wf = true) :
    Calls Try.prog 5 #[.slice a L.length cap, .int .i64 r, .slice c l.length cap', .int .i64 n] W fun e w' => e = .returned (.bool true) ∧ Below W.heap.size W w' := by
  have HL := Lib.hid hL; have HS := Lib.hid hl; have HOK := Lib.hid hok
  have HLEN := Lib.hid hlen; have HL2 := Lib.hid hl2; have HWF := Lib.hid hn
  clear hL hl hok hlen hl2 hn
  go_enter Try.func5, Try.ntmps5
  go_wp2_with fail
  refine (heavy30_any a c cap cap' l.length L _ HL.out HLEN.out HL2.out).mono ?_
  rintro e w1 ⟨hv, rfl, rfl, himp⟩
  cases hv with
  | true =>
    clear himp
    go_wp2_with fail
    refine (alive30_any _).mono ?_
    rintro e w2 ⟨rfl, hb⟩
    go_wp2_with fail
    go_ret
    exact ⟨rfl, hb⟩
  | false =>
    obtain ⟨h30, h200, h100⟩ := himp rfl
    clear himp
    have HR := Lib.hid (show ∀ x ∈ L, x.length ≤ 1000 from fun x hx => by have := h200 x hx; omega)
    clear h200
    go_wp2_with fail
    refine (copied30_any a cap L _ HL.out (by omega) HR.out).mono ?_
    rintro e w2 ⟨q, qc, rfl, hnn, hb⟩
    have HN := Lib.hid hnn; have HB := Lib.hid hb
    clear hnn hb
    by_cases hmay : MayB L r
    · have HMAY := Lib.hid hmay
      clear hmay
      go_wp2_with fail
      refine (new_yes q qc L r _ HN.out HMAY.out).mono ?_
      rintro e w3 ⟨p, m, lv, nvs, rfl, hB, hb, hnew⟩
      have H0 := Lib.hid (show MyB W w3 p m lv nvs (Board.new (natsL L) r.toNat) 0 from ⟨hB, new_fine HMAY.out, HB.out.trans (hb.mono HB.out.size), fun i hi => by have := hnew i hi; have := HB.out.size; omega⟩)
      clear hB hb hnew HN HB
      go_wp2_with fail
      refine (rmay30_any a cap L r _ (HL.out.below H0.out.below) (by omega) HR.out).mono ?_
      rintro e w4 ⟨v, rfl, hv, hb⟩
      obtain rfl : v = true := hv.2 HMAY.out
      have H1 := Lib.hid (H0.out.step hb)
      clear hv hb H0
      have HRN := Lib.hid (rnew30_any a cap L r.toNat w4 (HL.out.below H1.out.below) (by omega) HMAY.out.2.2.2)
      have hr0 : ((r.toNat : Nat) : Int) = r := by have := HMAY.out.2.1; omega
      rw [hr0] at HRN
      clear hr0
      go_wp2_with fail
      refine HRN.out.mono ?_
      rintro e w5 ⟨rr, rfl, hra, hb, hrn⟩
      have H2 := Lib.hid (show DuoT W w5 p m lv nvs rr (Board.new (natsL L) r.toNat) 0 from ⟨H1.out.step hb, hra, by have := H1.out.below.size; omega, blank_new _ _⟩)
      have HNL := Lib.hid (new_len30 L r.toNat)
      clear hra hb hrn H1 HRN
      go_wp2_with fail
      go_loopw [12] (fun i wr => ∃ (j k : Nat) (b : Board), j ≤ l.length ∧ k ≤ j ∧ i = .int .i64 j ∧ DuoT W wr p m lv nvs rr b k ∧ b.l.length = L.length) (fun i _ => l.length - (intOf i).toNat)
      case atStart => exact ⟨0, 0, _, Nat.zero_le _, Nat.le_refl _, rfl, H2.out, HNL.out⟩
      case round =>
        clear H2 HNL
        obtain ⟨j, k, b, hj, hkj, rfl, hM, hbl⟩ := hrel
        have HM := Lib.hid hM; have HBL := Lib.hid hbl
        clear hM hbl
        by_cases hlt : j < l.length
        · obtain ⟨qs, hix, hat⟩ := (HS.out.below HM.out.below).index cap' j hlt
          obtain ⟨hx1, hx2, hx3, hx4⟩ := HOK.out l[j] (List.getElem_mem hlt)
          obtain ⟨c0, c1, c2, c3⟩ := hat.cells
          clear hat
          generalize l[j] = x at *
          obtain ⟨xd, xt, xw, xs⟩ := x
          simp only at c0 c1 c2 c3 hx1 hx2 hx3 hx4
          have HX3 := Lib.hid hx3
          clear hx1 hx2 hx3 hx4
          have HDO := Lib.hid (does30_any HM.out (by omega) xd xt xw HX3.out xs)
          go_wp2_with fail
          refine HDO.out.mono ?_
          rintro e w6 ⟨rfl, b', k', hk', hD, hl'⟩
          have H3 := Lib.hid hD; have HBL3 := Lib.hid (hl'.trans HBL.out)
          have HSA := Lib.hid (same30b_any hD (by omega))
          clear hD hl' HDO
          go_wp2_with fail
          refine HSA.out.mono ?_
          rintro e w7 ⟨rfl, hb⟩
          have H4 := Lib.hid (H3.out.step hb)
          clear hb HSA
          go_wp2_with fail
          go_roundw
          case rel => exact ⟨j + 1, k', b', by omega, by omega, by go_num, H4.out, HBL3.out⟩
          case measure => simp [intOf]; omega
        · obtain rfl : j = l.length := by omega
          have HA := Lib.hid (at_any HM.out.board n HWF.out)
          have HRA := Lib.hid (show Calls Try.prog 25 #[.pointer (some ⟨rr, 0, none⟩), .int .i64 n] wr fun e w' => e = .returned (.tuple #[.int .i64 (((b.at_ n).getD 0 : Nat) : Int), .bool (b.at_ n).isSome]) ∧ wr = w' from by
            obtain ⟨_, _, _, hr⟩ := HM.out.ref
            exact rat_any hr HM.out.fine (by omega) n)
          obtain ⟨at0, hat0⟩ : ∃ o, b.at_ n = o := ⟨_, rfl⟩
          rw [hat0] at HA HRA
          clear hat0
          go_wp2_with fail
          refine HA.out.mono ?_
          rintro e w6 ⟨rfl, rfl⟩
          go_wp2_with fail
          refine HRA.out.mono ?_
          rintro e w6 ⟨rfl, rfl⟩
          clear HA HRA
          by_cases hn0 : n < 0
          · have HNO := Lib.hid (show n < 0 ∨ (b.l.length : Int) ≤ n from .inl hn0)
            have HST := Lib.hid (stateP_no HM.out.board n HNO.out)
            have HVA := Lib.hid (value_no HM.out.board n HNO.out)
            have HWO := Lib.hid (workers_no HM.out.board n HNO.out)
            have HFA := Lib.hid (fails_no HM.out.board n HNO.out)
            have hge : decide ((0 : Int) ≤ n) = false := by simp; omega
            go_wp2_with fail
            refine HST.out.mono ?_
            rintro e w6 ⟨rfl, rfl⟩
            go_wp2_with fail
            refine HVA.out.mono ?_
            rintro e w6 ⟨rfl, rfl⟩
            go_wp2_with fail
            refine HWO.out.mono ?_
            rintro e w6 ⟨rfl, rfl⟩
            go_wp2_with fail
            refine HFA.out.mono ?_
            rintro e w6 ⟨rfl, rfl⟩
            go_wp2_with fail
            refine (alive30_any _).mono ?_
            rintro e w7 ⟨rfl, hb⟩
            have H5 := Lib.hid (HM.out.step hb)
            clear hb
            go_wp2_with fail
            go_ret
            exact ⟨by simp, H5.out.below⟩
          · by_cases hn1 : n < (L.length : Int)
            · have hge : decide ((0 : Int) ≤ n) = true := by simp; omega
              go_wp2_with fail
              refine (alive30_any _).mono ?_
              rintro e w7 ⟨rfl, hb⟩
              have H5 := Lib.hid (HM.out.step hb)
              clear hb
              go_wp2_with fail
              go_ret
              exact ⟨by simp, H5.out.below⟩
            · have HNO := Lib.hid (show n < 0 ∨ (b.l.length : Int) ≤ n from .inr (by rw [HBL.out]; omega))
              have HST := Lib.hid (stateP_no HM.out.board n HNO.out)
              have HVA := Lib.hid (value_no HM.out.board n HNO.out)
              have HWO := Lib.hid (workers_no HM.out.board n HNO.out)
              have HFA := Lib.hid (fails_no HM.out.board n HNO.out)
              have hge : decide ((0 : Int) ≤ n) = true := by simp; omega
              have hge2 : decide (n < (L.length : Int)) = false := by simp; omega
              go_wp2_with fail
              refine HST.out.mono ?_
              rintro e w6 ⟨rfl, rfl⟩
              go_wp2_with fail
              refine HVA.out.mono ?_
              rintro e w6 ⟨rfl, rfl⟩
              go_wp2_with fail
              refine HWO.out.mono ?_
              rintro e w6 ⟨rfl, rfl⟩
              go_wp2_with fail
              refine HFA.out.mono ?_
              rintro e w6 ⟨rfl, rfl⟩
              go_wp2_with fail
              refine (alive30_any _).mono ?_
              rintro e w7 ⟨rfl, hb⟩
              have H5 := Lib.hid (HM.out.step hb)
              clear hb
              go_wp2_with fail
              go_ret
              exact ⟨by simp, H5.out.below⟩
    · have HMAY := Lib.hid hmay
      clear hmay
      go_wp2_with fail
      refine (new_no q qc L r _ HN.out HLEN.out HMAY.out).mono ?_
      rintro e w3 ⟨rfl, hb⟩
      have HB3 := Lib.hid (HB.out.trans (hb.mono HB.out.size))
      clear hb
      go_wp2_with fail
      refine (rmay30_any a cap L r _ (HL.out.below HB3.out) (by omega) HR.out).mono ?_
      rintro e w4 ⟨v, rfl, hv, hb⟩
      obtain rfl : v = false := by
        cases v with
        | false => rfl
        | true => exact absurd (hv.1 rfl) HMAY.out
      have HB4 := Lib.hid (HB3.out.trans (hb.mono HB3.out.size))
      clear hv hb
      go_wp2_with fail
      refine (alive30_any _).mono ?_
      rintro e w5 ⟨rfl, hb⟩
      have HB5 := Lib.hid (HB4.out.trans (hb.mono HB4.out.size))
      clear hb
      go_wp2_with fail
      go_ret
      exact ⟨rfl, HB5.out⟩
set_option maxRecDepth 100000 in
theorem taskPlays_any {H : Type} {enc : TypeId × Value → H} {base0 base2 : Nat} (W : World) (v0 : Value) (d0 : DataW H) (p0 : List MemPlace)
    (o0 : Value.okWide Try.prog W .any base0 22 v0) (h0 : DataW.Trod enc Try.prog W 0 (fun _ => true) true 22 v0 d0 p0) (z0 : ∀ n ∈ DataW.weights Try.prog 22 d0, (decide (n ≤ reachBytes)) = true)
    (r : Int) (_ : (Lit.int .i64 r).wf = true)
    (v2 : Value) (d2 : DataW H) (p2 : List MemPlace) (o2 : Value.okWide Try.prog W .any base2 23 v2) (h2 : DataW.Trod enc Try.prog W 0 (fun _ => true) true 23 v2 d2 p2) (z2 : ∀ n ∈ DataW.weights Try.prog 23 d2, (decide (n ≤ reachBytes)) = true)
    (n : Int) (hn : (Lit.int .i64 n).wf = true) :
    Calls Try.prog 5 #[v0, .int .i64 r, v2, .int .i64 n] W fun e w' => e = .returned (.bool true) ∧ Below W.heap.size W w' := by
  obtain ⟨a, cap, L, rfl, g1, g2⟩ := needs_of_trod o0 h0 z0
  obtain ⟨c, cap', l, rfl, k1, k2, k3⟩ := tsteps_of_trod o2 h2 z2
  exact taskPlays_walk W a c cap cap' L r l g1 g2 k1 k2 k3 n hn
end Go.Proofs.Ytgmhglcdifhimaa
