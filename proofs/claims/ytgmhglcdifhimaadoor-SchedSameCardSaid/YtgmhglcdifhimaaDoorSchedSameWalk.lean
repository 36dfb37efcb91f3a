/- maslinlaw31.SchedSame, walked. -/
import Derived.Test.YtgmhglcdifhimaaDoorSchedValues
import Derived.Test.YtgmhglcdifhimaaDoorSchedSameLaw
import Derived.Test.YtgmhglcdifhimaaDoorSchedDiesWalk
namespace Go.Proofs.YtgmhglcdifhimaaDoor
open Go.RowKit Go.Maps Go.Sort
open Tsk

section
variable {w0 w w' : World} {P p m P' p' m' g : Nat} {lv vv lv' vv' : Value} {nvs nvs' : List Value} {M M' M2 : Sch.Master} {k k' : Nat}
/-- A master beside another one that is turned. -/
theorem MyM.beside (hA : MyM w0 w P p m lv nvs vv M k) (hB : MyM w0 w P' p' m' lv' nvs' vv' M2 k') (ht : MastTo w w' P p m lv nvs vv M') (hd : ∀ i, mastBlocks P p m lv vv i → ¬ mastBlocks P' p' m' lv' vv' i) : MyM w0 w' P' p' m' lv' nvs' vv' M2 k' :=
  ⟨hB.mast.upd ht.upd (fun i hi h => hd i h hi) (fun i hb => hA.mast.notOf hb (by decide) (by decide) (by decide) (by decide)) (fun h0 => absurd (hA.mast.far 0 h0) (Nat.lt_irrefl 0)), hB.fine, hB.slim, below_upd hB.below ht.upd hA.new hB.below.size, hB.new⟩
theorem SMade.my {L : List (List Int)} {r : Int} {W : Nat} {e : Ending} (h : SMade w L r W e w') (hm : MayB L r) (hW : W ≤ 16) (hb : Below w0.heap.size w0 w) : ∃ P p m lv nvs vv, e = .returned (.tuple #[.pointer (some ⟨P, 0, none⟩), .int .i64 0]) ∧ MyM w0 w' P p m lv nvs vv ⟨Board.new (natsL L) r.toNat, List.replicate W true⟩ 0 ∧ Below w.heap.size w w' ∧ ∀ i, mastBlocks P p m lv vv i → w.heap.size ≤ i := by
  obtain ⟨P, p, m, lv, nvs, vv, rfl, hB, hb2, hnew⟩ := h
  exact ⟨P, p, m, lv, nvs, vv, rfl, ⟨hB, new_fine hm, by simpa using hW, hb.trans (hb2.mono hb.size), fun i hi => by have := hnew i hi; have := hb.size; omega⟩, hb2, hnew⟩
theorem values_some (h : MastIn w P p m lv nvs vv M) (hlen : M.b.l.length ≤ 4096) : Calls Tryd.prog 18 #[.pointer (some ⟨P, 0, none⟩)] w fun e w' => ∃ v, e = .returned (.tuple #[v, .bool M.b.done]) ∧ Below w.heap.size w w' := by
  cases hd : M.b.done with
  | false => exact (values_no h hlen hd).mono fun e w' ⟨he, hb⟩ => ⟨_, he, hb⟩
  | true => exact (values_yes h hlen hd).mono fun e w' ⟨q, cap, he, _, hb⟩ => ⟨_, he, hb⟩
theorem played_new {L : List (List Int)} {r : Int} {W : Nat} {a : Option Addr} {cap : Nat} {l : List Sch.Pick} (h : MyM w0 w P p m lv nvs vv ⟨Board.new (natsL L) r.toNat, List.replicate W true⟩ 0) (hp : PicksAt w0 a l) (hok : ∀ x ∈ l, okPick x) (hlen : l.length ≤ 1000) :
    ∃ s : Sch.Master × List Nat, Told s ∧ PlayOk ⟨Board.new (natsL L) r.toNat, List.replicate W true⟩ 0 s l.length ∧ s.1.Calm ∧ s.2.length = L.length ∧ s.1.b.l.length = L.length ∧
      Calls Tryd.prog 11 #[.pointer (some ⟨P, 0, none⟩), .int .i64 (L.length : Int), .slice a l.length cap] w fun e w' => e = .returned (.tuple #[.slice (some ⟨w.heap.size, 0, none⟩) L.length L.length, .bool true]) ∧ Played w0 w w' P p m lv nvs vv s l.length w.heap.size := by
  have hLn : (⟨Board.new (natsL L) r.toNat, List.replicate W true⟩ : Sch.Master).b.l.length = L.length := by show (List.map _ (natsL L)).length = _; simp [natsL]
  have hpl := played_any h hp (cap := cap) hok hlen (by omega)
  have hPO := (PlayOk.start (M := ⟨Board.new (natsL L) r.toNat, List.replicate W true⟩) h.fine).to l l.length (Nat.le_refl _)
  have hTO := Told.to (PlayOk.start (M := ⟨Board.new (natsL L) r.toNat, List.replicate W true⟩) h.fine) (told_new _ _ _ _) l l.length (Nat.le_refl _)
  rw [playTo_all] at hPO hTO
  rw [Nat.zero_add] at hpl
  rw [hLn] at hpl hPO hTO
  exact ⟨_, hTO, hPO, calm_play _ (calm_new _ _ _) l, by have := hPO.row; rw [hLn] at this; exact this, hPO.tasks.trans hLn, hpl⟩
end
set_option maxRecDepth 100000 in
set_option maxHeartbeats 8000000 in
theorem schedSame_walk (W : World) (hD : Doors W) (a c d : Option Addr) (cap cap' cap2 : Nat) (L : List (List Int)) (wk rt : Int) (l l2 : List Sch.Pick) (hwk : (Lit.int .u8 wk).wf = true) (hrt : (Lit.int .u8 rt).wf = true) (hL : NeedsAt W a L) (hlen : L.length ≤ maxLen) (hl : PicksAt W c l) (hl2 : l.length ≤ maxLen) (hok : ∀ x ∈ l, okPick x) (hk : PicksAt W d l2) (_ : l2.length ≤ maxLen) (hok2 : ∀ x ∈ l2, okPick x) :
    Calls Tryd.prog 4 #[.slice a L.length cap, .int .u8 wk, .int .u8 rt, .slice c l.length cap', .slice d l2.length cap2] W fun e w' => e = .returned (.bool true) ∧ Below W.heap.size W w' := by
  have hwk3 : IntKind.u8.min ≤ wk ∧ wk ≤ IntKind.u8.max := by simpa [Lit.wf] using hwk
  have hwk2 : 0 ≤ wk ∧ wk ≤ 255 := hwk3
  have hrt3 : IntKind.u8.min ≤ rt ∧ rt ≤ IntKind.u8.max := by simpa [Lit.wf] using hrt
  have hrt2 : 0 ≤ rt ∧ rt ≤ 255 := hrt3
  obtain ⟨WK, rfl⟩ : ∃ n : Nat, wk = (n : Int) := ⟨wk.toNat, by omega⟩
  obtain ⟨RT, rfl⟩ : ∃ n : Nat, rt = (n : Int) := ⟨rt.toNat, by omega⟩
  clear hwk hrt hwk3 hrt3
  obtain ⟨hwk0, hwk1⟩ := hwk2
  obtain ⟨hrt0, hrt1⟩ := hrt2
  obtain ⟨N, hN1, hN2, hN3⟩ : ∃ N : Nat, 1 ≤ N ∧ N ≤ 16 ∧ 1 + (WK : Int) % 16 = (N : Int) := ⟨1 + WK % 16, by omega, by omega, by omega⟩
  obtain ⟨R, hR1, hR2⟩ : ∃ R : Nat, R < 9 ∧ (RT : Int) % 9 = (R : Int) := ⟨RT % 9, Nat.mod_lt _ (by omega), by omega⟩
  have HN3 := Lib.hid hN3; have HR2 := Lib.hid hR2
  have HL := Lib.hid hL; have HS := Lib.hid hl; have HOK := Lib.hid hok
  have HS2 := Lib.hid hk; have HOK2 := Lib.hid hok2
  have HLEN := Lib.hid hlen; have HL2 := Lib.hid hl2; have HD := Lib.hid hD
  have HAL := Lib.hid (fun (V : World) (h : Doors V) => alive31_any V h)
  clear hL hl hok hlen hl2 hN3 hR2 hD hk hok2
  go_enter Tryd.func4, Tryd.ntmps4
  go_wp2_with fail
  refine (heavy30_any a none cap 0 0 L _ HL.out HLEN.out (Nat.zero_le _)).mono ?_
  rintro e w1 ⟨hv, rfl, rfl, himp⟩
  cases hv with
  | true =>
    clear himp
    go_wp2_with fail
    refine (HAL.out _ HD.out).mono ?_
    rintro e w2 ⟨rfl, hb⟩
    go_wp2_with fail
    go_ret
    exact ⟨rfl, hb⟩
  | false =>
    obtain ⟨h30, h200, h100⟩ := himp rfl
    clear himp
    have HR := Lib.hid (show ∀ x ∈ L, x.length ≤ 1000 from fun x hx => by have := h200 x hx; omega)
    clear h200
    by_cases h120 : 120 < (l.length : Int)
    · go_wp2_with fail
      refine (HAL.out _ HD.out).mono ?_
      rintro e w2 ⟨rfl, hb⟩
      go_wp2_with fail
      go_ret
      exact ⟨rfl, hb⟩
    have h121 : decide (120 < (l.length : Int)) = false := by simpa using h120
    by_cases h122 : 120 < (l2.length : Int)
    · go_wp2_with fail
      refine (HAL.out _ HD.out).mono ?_
      rintro e w2 ⟨rfl, hb⟩
      go_wp2_with fail
      go_ret
      exact ⟨rfl, hb⟩
    have h123 : decide (120 < (l2.length : Int)) = false := by simpa using h122
    go_wp2_with fail
    refine (copied30_any a cap L _ HL.out (by omega) HR.out).mono ?_
    rintro e w2 ⟨q, qc, rfl, hn, hb⟩
    have HN := Lib.hid hn; have HB := Lib.hid hb; have HD2 := Lib.hid (HD.out.below hb)
    clear hn hb
    by_cases hmay : MayB L (R : Int)
    · have HMAY := Lib.hid hmay
      clear hmay
      go_wp2_with fail
      rw [HN3.out, HR2.out]
      refine (snew_yes q qc L (R : Int) N _ HN.out HMAY.out hN1 hN2 HD2.out).mono ?_
      intro e w3 hS
      obtain ⟨P, p, m, lv, nvs, vv, rfl, hA, hb3, hnewA⟩ := SMade.my hS HMAY.out hN2 HB.out
      have HA := Lib.hid hA
      clear hA hS HN HB HD2 hb3 hnewA
      go_wp2_with fail
      refine (copied30_any a cap L _ (HL.out.below HA.out.below) (by omega) HR.out).mono ?_
      rintro e w4 ⟨q', qc', rfl, hn, hb⟩
      have HN := Lib.hid hn
      have HA2 := Lib.hid (HA.out.step hb)
      clear hn hb HA
      go_wp2_with fail
      refine (snew_yes q' qc' L (R : Int) N _ HN.out HMAY.out hN1 hN2 HA2.out.mast.doors).mono ?_
      intro e w5 hS
      obtain ⟨P', p', m', lv', nvs', vv', rfl, hB, hb5, hnewB⟩ := SMade.my hS HMAY.out hN2 HA2.out.below
      have HB := Lib.hid hB
      have HA3 := Lib.hid (HA2.out.step hb5)
      have HDJ := Lib.hid (show ∀ i, mastBlocks P p m lv vv i → ¬ mastBlocks P' p' m' lv' vv' i from fun i h1 h2 => by have := HA2.out.mast.lt i h1; have := hnewB i h2; omega)
      clear hB hS hb5 hnewB HN HA2
      obtain ⟨sa, ta, oa, -, la, na, ca⟩ := played_new (cap := cap') HA3.out HS.out HOK.out (by omega)
      have HTA := Lib.hid ta; have HCA := Lib.hid ca
      have HLA := Lib.hid (And.intro la na)
      clear oa ca ta la na
      go_wp2_with fail
      refine HCA.out.mono ?_
      rintro e w6 ⟨rfl, hP⟩
      have HPA := Lib.hid hP
      have HB2 := Lib.hid (HA3.out.beside HB.out hP.mast HDJ.out)
      obtain ⟨ga, hga⟩ : ∃ g, w5.heap.size = g := ⟨_, rfl⟩
      rw [hga] at HPA ⊢
      clear hP HCA HB HA3 hga
      obtain ⟨sb, tb, ob, -, lb, nb, cb⟩ := played_new (cap := cap2) HB2.out HS2.out HOK2.out (by omega)
      have HTB := Lib.hid tb; have HCB := Lib.hid cb
      have HLB := Lib.hid (And.intro lb nb)
      clear ob cb tb lb nb
      go_wp2_with fail
      refine HCB.out.mono ?_
      rintro e w7 ⟨rfl, hP⟩
      have HPB := Lib.hid hP
      have HMA := Lib.hid (HB2.out.beside HPA.out.my hP.mast (fun i h1 h2 => HDJ.out i h2 h1))
      have HMB := Lib.hid hP.my
      have HXA := Lib.hid (MastTo.numRow HB2.out.mast HPA.out.row hP.mast)
      have HXB := Lib.hid hP.row
      obtain ⟨gb, hgb⟩ : ∃ g, w6.heap.size = g := ⟨_, rfl⟩
      rw [hgb] at HXB ⊢
      clear hP HCB HB2 HPA HPB hgb HDJ
      obtain ⟨Ma, Fa⟩ := sa
      obtain ⟨Mb, Fb⟩ := sb
      have HIX := Lib.hid (fun g (i : Nat) (hi : i < L.length) => ints_index g L.length i hi)
      go_wp2_with fail
      go_loopw [21] (fun i wr => ∃ j : Nat, j ≤ L.length ∧ i = .int .i64 j ∧ Below w7.heap.size w7 wr) (fun i _ => L.length - (intOf i).toNat)
      case atStart => exact ⟨0, Nat.zero_le _, rfl, Below.refl _ _⟩
      case round =>
        obtain ⟨j, hj, rfl, hb⟩ := hrel
        have HBW := Lib.hid hb
        by_cases hlt : j < L.length
        · have hxa := numRow_cell (HXA.out.below hb) j (by rw [HLA.out.1]; exact hlt)
          have hxb := numRow_cell (HXB.out.below hb) j (by rw [HLB.out.1]; exact hlt)
          rw [HTA.out.ones] at hxa
          rw [HTB.out.ones] at hxb
          have hia := HIX.out ga j hlt
          have hib := HIX.out gb j hlt
          have HDA := Lib.hid (fun (V : World) (h : Below wr.heap.size wr V) => ((HMA.out.step hb).step h).isdone (by omega) j (by rw [HLA.out.2]; exact hlt))
          have HDB := Lib.hid (fun (V : World) (h : Below wr.heap.size wr V) => ((HMB.out.step hb).step h).isdone (by omega) j (by rw [HLB.out.2]; exact hlt))
          have hdr : Below wr.heap.size wr wr.drew := (Below.refl _ _).drew
          have HDR := Lib.hid hdr
          generalize Board.isN Ma.b j = ia at *
          generalize Board.isN Mb.b j = ib at *
          clear hb
          obtain ⟨za, hza⟩ : ∃ z : Int, (((if ia = true then 1 else 0 : Nat)) : Int) = z := ⟨_, rfl⟩
          obtain ⟨zb, hzb⟩ : ∃ z : Int, (((if ib = true then 1 else 0 : Nat)) : Int) = z := ⟨_, rfl⟩
          rw [hza] at hxa
          rw [hzb] at hxb
          have ga1 : decide (1 < za) = false := by subst hza; cases ia <;> rfl
          have ga2 : (za == 1) = ia := by subst hza; cases ia <;> rfl
          have ga3 : (ia != ia) = false := by cases ia <;> rfl
          have gb1 : decide (1 < zb) = false := by subst hzb; cases ib <;> rfl
          have gb2 : (zb == 1) = ib := by subst hzb; cases ib <;> rfl
          have gb3 : (ib != ib) = false := by cases ib <;> rfl
          clear hza hzb
          go_wp2_with fail
          go_region_held3 (fun V => V.cell? ⟨ga, j, none⟩ = some (.int .i64 za) ∧ V.cell? ⟨gb, j, none⟩ = some (.int .i64 zb))
            (first | exact ⟨hxa, hxb⟩ | exact ⟨(HB1.out.cell (block_lt_of_cell hxa)).trans hxa, (HB1.out.cell (block_lt_of_cell hxb)).trans hxb⟩ | exact ⟨(HB2.out.cell (block_lt_of_cell hxa)).trans hxa, (HB2.out.cell (block_lt_of_cell hxb)).trans hxb⟩)
            (first
              | (go_at_call 16; (fail_if_success (have := HB1)); refine (HDA.out _ HDR.out).mono ?_; rintro e wa ⟨rfl, hba⟩; have HB1 := Lib.hid (HDR.out.trans (hba.mono HDR.out.size)); clear hba)
              | (go_at_call 16; refine (HDB.out _ HB1.out).mono ?_; rintro e wb ⟨rfl, hba⟩; have HB2 := Lib.hid (HB1.out.trans (hba.mono HB1.out.size)); clear hba))
          clear hxa hxb HDA HDB HDR ga1 ga2 gb1 gb2 hia hib
          go_wp2_with fail
          go_roundw
          case rel => exact ⟨j + 1, by omega, by go_num, HBW.out.trans (HB2.out.mono HBW.out.size)⟩
          case measure => simp [intOf]; omega
        · obtain rfl : j = L.length := by omega
          have HA8 := Lib.hid (HMA.out.step hb)
          have HB8 := Lib.hid (HMB.out.step hb)
          clear hb HBW HMA HMB HXA HXB HIX
          cases hda : Ma.b.done with
          | false =>
            have HVA := Lib.hid (values_no HA8.out.mast (by rw [show Ma.b.l.length = L.length from HLA.out.2]; omega) hda)
            clear hda
            go_wp2_with fail
            refine HVA.out.mono ?_
            rintro e w8 ⟨rfl, hb⟩
            have HB9 := Lib.hid (HB8.out.step hb)
            have HVB := Lib.hid (values_some HB9.out.mast (by rw [show Mb.b.l.length = L.length from HLB.out.2]; omega))
            clear hb HVA HA8 HB8
            go_wp2_with fail
            refine HVB.out.mono ?_
            rintro e w9 ⟨v9, rfl, hb⟩
            have HB10 := Lib.hid (HB9.out.step hb)
            clear hb HVB HB9
            go_wp2_with fail
            refine (HAL.out _ HB10.out.mast.doors).mono ?_
            rintro e w11 ⟨rfl, hb⟩
            have HB5 := Lib.hid (HB10.out.below.trans (hb.mono HB10.out.below.size))
            clear hb HB10
            go_wp2_with fail
            go_ret
            exact ⟨rfl, HB5.out⟩
          | true =>
            have hva := values_yes HA8.out.mast (by rw [show Ma.b.l.length = L.length from HLA.out.2]; omega) hda
            rw [show Ma.b.l.map (·.value) = _ from told_values HTA.out hda, show (Ma, Fa).1.b.l.length = L.length from HLA.out.2] at hva
            have HVA := Lib.hid hva
            clear hda hva
            go_wp2_with fail
            refine HVA.out.mono ?_
            rintro e w8 ⟨qa, qca, rfl, hsa, hb⟩
            have HB9 := Lib.hid (HB8.out.step hb)
            have HSA := Lib.hid hsa
            clear hb HVA HA8 HB8 hsa
            have hvl : ((List.range L.length).map valueOf).length = L.length := by simp
            cases hdb : Mb.b.done with
            | false =>
              have HVB := Lib.hid (values_no HB9.out.mast (by rw [show Mb.b.l.length = L.length from HLB.out.2]; omega) hdb)
              clear hdb
              go_wp2_with fail
              refine HVB.out.mono ?_
              rintro e w9 ⟨rfl, hb⟩
              have HB10 := Lib.hid (HB9.out.step hb)
              clear hb HVB HB9
              go_wp2_with fail
              refine (HAL.out _ HB10.out.mast.doors).mono ?_
              rintro e w11 ⟨rfl, hb⟩
              have HB5 := Lib.hid (HB10.out.below.trans (hb.mono HB10.out.below.size))
              clear hb HB10
              go_wp2_with fail
              go_ret
              exact ⟨rfl, HB5.out⟩
            | true =>
              have hvb := values_yes HB9.out.mast (by rw [show Mb.b.l.length = L.length from HLB.out.2]; omega) hdb
              rw [show Mb.b.l.map (·.value) = _ from told_values HTB.out hdb, show (Mb, Fb).1.b.l.length = L.length from HLB.out.2] at hvb
              have HVB := Lib.hid hvb
              clear hdb hvb
              go_wp2_with fail
              refine HVB.out.mono ?_
              rintro e w9 ⟨qb, qcb, rfl, hsb, hb⟩
              have HB10 := Lib.hid (HB9.out.step hb)
              have HSA9 := Lib.hid (HSA.out.below hb)
              have HSB := Lib.hid hsb
              clear hb HVB HB9 hsb HSA
              have HVX := Lib.hid (show ∀ j (h1 : j < ((List.range L.length).map valueOf).length), ((List.range L.length).map valueOf)[j] = valueOf j from fun j h1 => by simp)
              rw [hvl]
              generalize (List.range L.length).map valueOf = VL at *
              go_wp2_with fail
              go_loopw [26] (fun i wr => ∃ j : Nat, j ≤ L.length ∧ i = .int .i64 j ∧ Below w9.heap.size w9 wr) (fun i _ => L.length - (intOf i).toNat)
              case atStart => exact ⟨0, Nat.zero_le _, rfl, Below.refl _ _⟩
              case round =>
                obtain ⟨j, hj, rfl, hb⟩ := hrel
                have HBW := Lib.hid hb
                by_cases hlt : j < L.length
                · obtain ⟨qx, hix, hcx, hql⟩ := (HSA9.out.below hb).index Tryd.prog 48 9 Tryd.underlying48 (by kernel_rfl) qca j (by omega)
                  rw [hvl] at hix
                  rw [HVX.out j (by omega)] at hcx
                  have hge : decide ((L.length : Int) ≤ (j : Int)) = false := by simp; omega
                  have hge2 : decide (L.length ≤ j) = false := by simp; omega
                  have hge3 : ¬ L.length ≤ j := by omega
                  have HDR := Lib.hid (show Below wr.heap.size wr wr.drew from (Below.refl _ _).drew)
                  have HVAL := Lib.hid (fun (V : World) => value_any j (by omega) V)
                  generalize valueOf j = x at *
                  clear hb
                  go_wp2_with fail
                  go_region_held3 (fun V => V.cell? qx = some (.string (bs x)))
                    (first | exact hcx | exact (HB1.out.cell (block_lt_of_cell hcx)).trans hcx)
                    (first | (go_at_call 19; refine (HVAL.out _).mono ?_; rintro e wa ⟨rfl, hba⟩; have HB1 := Lib.hid (HDR.out.trans (hba.mono HDR.out.size)); clear hba))
                  clear hcx HVAL HDR hix
                  go_wp2_with fail
                  go_roundw
                  case rel => exact ⟨j + 1, by omega, by go_num, HBW.out.trans (HB1.out.mono HBW.out.size)⟩
                  case measure => simp [intOf]; omega
                · obtain rfl : j = L.length := by omega
                  have hsm := same01_any qa qb qca qcb VL VL _ (HSA9.out.below hb) (HSB.out.below hb) (by omega) (by omega)
                  rw [hvl] at hsm
                  rw [show decide (VL = VL) = true from by simp] at hsm
                  have HSM := Lib.hid hsm
                  have HB11 := Lib.hid (HB10.out.step hb)
                  clear hsm hb HBW
                  go_wp2_with fail
                  refine HSM.out.mono ?_
                  rintro e w10 ⟨rfl, hb⟩
                  have HB12 := Lib.hid (HB11.out.step hb)
                  clear hb HB11 HSM
                  go_wp2_with fail
                  refine (HAL.out _ HB12.out.mast.doors).mono ?_
                  rintro e w11 ⟨rfl, hb⟩
                  have HB5 := Lib.hid (HB12.out.below.trans (hb.mono HB12.out.below.size))
                  clear hb HB12
                  go_wp2_with fail
                  go_ret
                  exact ⟨rfl, HB5.out⟩
    · have HNB := Lib.hid (fun q qc (w : World) (h : NeedsAt w q L) => snew_bad q qc L (R : Int) (N : Int) w h HLEN.out (fun h => hmay h.1))
      clear hmay
      go_wp2_with fail
      rw [HN3.out, HR2.out]
      refine (HNB.out _ _ _ HN.out).mono ?_
      rintro e w3 ⟨rfl, hb⟩
      have HB3 := Lib.hid (HB.out.trans (hb.mono HB.out.size))
      have HD3 := Lib.hid (HD2.out.below hb)
      clear hb HB HD2 HN
      go_wp2_with fail
      refine (copied30_any a cap L _ (HL.out.below HB3.out) (by omega) HR.out).mono ?_
      rintro e w4 ⟨q', qc', rfl, hn, hb⟩
      have HN := Lib.hid hn
      have HB4 := Lib.hid (HB3.out.trans (hb.mono HB3.out.size))
      have HD4 := Lib.hid (HD3.out.below hb)
      clear hn hb HB3 HD3
      go_wp2_with fail
      refine (HNB.out _ _ _ HN.out).mono ?_
      rintro e w5 ⟨rfl, hb⟩
      have HB5 := Lib.hid (HB4.out.trans (hb.mono HB4.out.size))
      have HD5 := Lib.hid (HD4.out.below hb)
      clear hb HB4 HD4 HN
      go_wp2_with fail
      refine (HAL.out _ HD5.out).mono ?_
      rintro e w6 ⟨rfl, hb⟩
      have HB6 := Lib.hid (HB5.out.trans (hb.mono HB5.out.size))
      clear hb
      go_wp2_with fail
      go_ret
      exact ⟨rfl, HB6.out⟩
set_option maxRecDepth 100000 in
theorem schedSame_any {H : Type} {enc : TypeId × Value → H} {base0 base3 base4 : Nat} (W : World) (hD : Doors W) (v0 : Value) (d0 : DataW H) (p0 : List MemPlace)
    (o0 : Value.okWide Tryd.prog W .any base0 22 v0) (h0 : DataW.Trod enc Tryd.prog W 0 (fun _ => true) true 22 v0 d0 p0) (z0 : ∀ n ∈ DataW.weights Tryd.prog 22 d0, (decide (n ≤ reachBytes)) = true)
    (r : Int) (hr : (Lit.int .u8 r).wf = true) (x : Int) (hx : (Lit.int .u8 x).wf = true)
    (v3 : Value) (d3 : DataW H) (p3 : List MemPlace) (o3 : Value.okWide Tryd.prog W .any base3 23 v3) (h3 : DataW.Trod enc Tryd.prog W 0 (fun _ => true) true 23 v3 d3 p3) (_ : ∀ n ∈ DataW.weights Tryd.prog 23 d3, (decide (n ≤ reachBytes)) = true)
    (v4 : Value) (d4 : DataW H) (p4 : List MemPlace) (o4 : Value.okWide Tryd.prog W .any base4 23 v4) (h4 : DataW.Trod enc Tryd.prog W 0 (fun _ => true) true 23 v4 d4 p4) (_ : ∀ n ∈ DataW.weights Tryd.prog 23 d4, (decide (n ≤ reachBytes)) = true) :
    Calls Tryd.prog 4 #[v0, .int .u8 r, .int .u8 x, v3, v4] W fun e w' => e = .returned (.bool true) ∧ Below W.heap.size W w' := by
  obtain ⟨a, cap, L, rfl, g1, g2⟩ := needs_of_trod o0 h0 z0
  obtain ⟨c, cap', l, rfl, k1, k2, k3⟩ := picks_of_trod o3 h3
  obtain ⟨c', cap2, l2, rfl, m1, m2, m3⟩ := picks_of_trod o4 h4
  exact schedSame_walk W hD a c c' cap cap' cap2 L r x l l2 hr hx g1 g2 k1 k2 k3 m1 m2 m3
end Go.Proofs.YtgmhglcdifhimaaDoor
