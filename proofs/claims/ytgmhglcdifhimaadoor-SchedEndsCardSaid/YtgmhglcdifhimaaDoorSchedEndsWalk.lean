/- maslinlaw31.SchedEnds, walked. -/
import Derived.Test.YtgmhglcdifhimaaDoorSchedValues
import Derived.Test.YtgmhglcdifhimaaDoorSchedEndsLaw
import Derived.Test.YtgmhglcdifhimaaDoorTaskHead
namespace Go.Proofs.YtgmhglcdifhimaaDoor
open Go.RowKit Go.Maps Go.Sort
open Tsk

theorem doors_below {w w' : World} (h : Doors w) (hb : Below w.heap.size w w') : Doors w' := h.upd (Upd.of_below (F := fun _ => False) hb) (block_lt_of_cell h.1) (fun f => f)
section
variable {w0 w w' : World} {P p m : Nat} {lv vv : Value} {nvs : List Value} {M M' : Sch.Master} {k : Nat}
theorem played_held {L : List (List Int)} {r : Int} {W : Nat} {a : Option Addr} {cap : Nat} {l : List Sch.Pick} (h : MyM w0 w P p m lv nvs vv ⟨Board.new (natsL L) r.toNat, List.replicate W true⟩ 0) (hp : PicksAt w0 a l) (hok : ∀ x ∈ l, okPick x) (hlen : l.length ≤ 1000) :
    ∃ s : Sch.Master × List Nat, PlayOk ⟨Board.new (natsL L) r.toNat, List.replicate W true⟩ 0 s l.length ∧ s.1.Calm ∧ s.1.b.Held ∧ s.1.b.l.length = L.length ∧
      Calls Tryd.prog 11 #[.pointer (some ⟨P, 0, none⟩), .int .i64 (L.length : Int), .slice a l.length cap] w fun e w' => e = .returned (.tuple #[.slice (some ⟨w.heap.size, 0, none⟩) L.length L.length, .bool true]) ∧ Played w0 w w' P p m lv nvs vv s l.length w.heap.size := by
  have hLn : (⟨Board.new (natsL L) r.toNat, List.replicate W true⟩ : Sch.Master).b.l.length = L.length := by show (List.map _ (natsL L)).length = _; simp [natsL]
  have hpl := played_any h hp (cap := cap) hok hlen (by omega)
  have hPO := (PlayOk.start (M := ⟨Board.new (natsL L) r.toNat, List.replicate W true⟩) h.fine).to l l.length (Nat.le_refl _)
  rw [playTo_all] at hPO
  rw [Nat.zero_add] at hpl
  rw [hLn] at hpl hPO
  exact ⟨_, hPO, calm_play _ (calm_new _ _ _) l, held_play _ (held_new _ _) l, hPO.tasks.trans hLn, hpl⟩
theorem whoL_len (l : List Bool) (f : Int → Bool) : (whoL l f).length ≤ l.length := whoTo_len l f l.length
/-- A master of one's own, of n tasks, that goes on. -/
structure MyGo (w0 w : World) (P p m : Nat) (lv : Value) (nvs : List Value) (vv : Value) (n c : Nat) (M : Sch.Master) (k : Nat) : Prop where
  my : MyM w0 w P p m lv nvs vv M k
  go : Going M k c
  len : M.b.l.length = n
theorem MyM.asknext (h : MyM w0 w P p m lv nvs vv M k) {j : Nat} (hF : M.b.Fine j) (hj : j ≤ 1000000) : Calls Tryd.prog 22 #[.pointer (some ⟨P, 0, none⟩)] w fun e w' => e = .returned (pickOut M.next) ∧ Below w.heap.size w w' := next_any h.mast hF hj h.slim
theorem next_small (M : Sch.Master) : M.next.1.d < 6 := by
  unfold Sch.Master.next
  split
  · exact (by decide : (2 : Nat) < 6)
  · split
    · split <;> exact (by decide : (0 : Nat) < 6)
    · exact (by decide : (0 : Nat) < 6)
theorem MyGo.step {n c : Nat} (h : MyGo w0 w P p m lv nvs vv n c M k) (hb : Below w.heap.size w w') : MyGo w0 w' P p m lv nvs vv n c M k := ⟨h.my.step hb, h.go, h.len⟩
end
set_option maxRecDepth 100000 in
set_option maxHeartbeats 8000000 in
theorem schedEnds_walk (W : World) (hD : Doors W) (a c : Option Addr) (cap cap' : Nat) (L : List (List Int)) (wk rt : Int) (l : List Sch.Pick) (hwk : (Lit.int .u8 wk).wf = true) (hrt : (Lit.int .u8 rt).wf = true) (hL : NeedsAt W a L) (hlen : L.length ≤ maxLen) (hl : PicksAt W c l) (hl2 : l.length ≤ maxLen) (hok : ∀ x ∈ l, okPick x) :
    Calls Tryd.prog 6 #[.slice a L.length cap, .int .u8 wk, .int .u8 rt, .slice c l.length cap'] W fun e w' => e = .returned (.bool true) ∧ Below W.heap.size W w' := by
  have hwk3 : IntKind.u8.min ≤ wk ∧ wk ≤ IntKind.u8.max := by simpa [Lit.wf] using hwk
  have hwk2 : 0 ≤ wk ∧ wk ≤ 255 := hwk3
  have hrt3 : IntKind.u8.min ≤ rt ∧ rt ≤ IntKind.u8.max := by simpa [Lit.wf] using hrt
  have hrt2 : 0 ≤ rt ∧ rt ≤ 255 := hrt3
  obtain ⟨WK, rfl⟩ : ∃ n : Nat, wk = (n : Int) := ⟨wk.toNat, by omega⟩
  obtain ⟨RT, rfl⟩ : ∃ n : Nat, rt = (n : Int) := ⟨rt.toNat, by omega⟩
  clear hwk hrt hwk3 hrt3
  obtain ⟨hwk0, hwk1⟩ := hwk2
  obtain ⟨hrt0, hrt1⟩ := hrt2
  obtain ⟨N, hN1, hN2, hN3⟩ : ∃ N : Nat, 1 ≤ N ∧ N ≤ 16 ∧ 1 + (WK : Int) % 16 = (N : Int) := ⟨1 + WK % 16, by omega, by omega, by omega⟩
  obtain ⟨R, hR1, hR2⟩ : ∃ R : Nat, R < 9 ∧ (RT : Int) % 9 = (R : Int) := ⟨RT % 9, Nat.mod_lt _ (by omega), by omega⟩
  have HN3 := Lib.hid hN3; have HR2 := Lib.hid hR2
  have HL := Lib.hid hL; have HS := Lib.hid hl; have HOK := Lib.hid hok
  have HLEN := Lib.hid hlen; have HL2 := Lib.hid hl2; have HD := Lib.hid hD
  have HAL := Lib.hid (fun (V : World) (h : Doors V) => alive31_any V h)
  clear hL hl hok hlen hl2 hN3 hR2 hD
  go_enter Tryd.func6, Tryd.ntmps6
  go_wp2_with fail
  refine (heavy30_any a none cap 0 0 L _ HL.out HLEN.out (Nat.zero_le _)).mono ?_
  rintro e w1 ⟨hv, rfl, rfl, himp⟩
  cases hv with
  | true =>
    clear himp
    go_wp2_with fail
    refine (HAL.out _ HD.out).mono ?_
    rintro e w2 ⟨rfl, hb⟩
    go_wp2_with fail
    go_ret
    exact ⟨rfl, hb⟩
  | false =>
    obtain ⟨h30, h200, h100⟩ := himp rfl
    clear himp
    have HR := Lib.hid (show ∀ x ∈ L, x.length ≤ 1000 from fun x hx => by have := h200 x hx; omega)
    clear h200
    by_cases h120 : 120 < (l.length : Int)
    · go_wp2_with fail
      refine (HAL.out _ HD.out).mono ?_
      rintro e w2 ⟨rfl, hb⟩
      go_wp2_with fail
      go_ret
      exact ⟨rfl, hb⟩
    have h121 : decide (120 < (l.length : Int)) = false := by simpa using h120
    go_wp2_with fail
    refine (copied30_any a cap L _ HL.out (by omega) HR.out).mono ?_
    rintro e w2 ⟨q, qc, rfl, hn, hb⟩
    have HN := Lib.hid hn; have HB := Lib.hid hb; have HD2 := Lib.hid (doors_below HD.out hb)
    clear hn hb
    by_cases hmay : MayB L (R : Int)
    · have HMAY := Lib.hid hmay
      clear hmay
      go_wp2_with fail
      rw [HN3.out, HR2.out]
      refine (snew_yes q qc L (R : Int) N _ HN.out HMAY.out hN1 hN2 HD2.out).mono ?_
      intro e w3 hS
      obtain ⟨P, p, m, lv, nvs, vv, rfl, hA⟩ := MyM.made hS HMAY.out hN2 HB.out
      have HA := Lib.hid hA
      clear hA hS HN HB HD2
      obtain ⟨s, hPO, hC, hH, hLn, hca⟩ := played_held (cap := cap') HA.out HS.out HOK.out (by omega)
      have HC := Lib.hid hC; have HH := Lib.hid hH; have HLn := Lib.hid hLn; have HCA := Lib.hid hca
      have HFI := Lib.hid (show s.1.b.Fine l.length from by have := hPO.fine; rwa [Nat.zero_add] at this)
      have HLV := Lib.hid (show s.1.lives.length ≤ 16 from by rw [hPO.lives]; simpa using hN2)
      clear hPO hC hH hLn hca HA
      go_wp2_with fail
      refine HCA.out.mono ?_
      rintro e w4 ⟨rfl, hP⟩
      have HM := Lib.hid hP.my
      clear hP HCA
      obtain ⟨M, F⟩ := s
      obtain ⟨k, hk⟩ : ∃ k, l.length = k := ⟨_, rfl⟩
      have hk2 : k ≤ 120 := by omega
      have HFI := Lib.hid (show M.b.Fine k from hk ▸ HFI.out)
      have HM := Lib.hid (show MyM W w4 P p m lv nvs vv M k from hk ▸ HM.out)
      have HLn := Lib.hid (show M.b.l.length = L.length from HLn.out)
      have HLV := Lib.hid (show M.lives.length ≤ 16 from HLV.out)
      have HC := Lib.hid (show M.Calm from HC.out)
      have HH := Lib.hid (show M.b.Held from HH.out)
      go_wp2_with fail
      refine (HM.out.board).mono ?_
      rintro e wz ⟨rfl, rfl⟩
      go_wp2_with fail
      refine (over_any HM.out.mast.board).mono ?_
      rintro e wz ⟨rfl, rfl⟩
      have HNO := Lib.hid (fun h => next_none (M := M) h)
      cases hov : M.b.failed.isSome with
      | true =>
        cases hwl : whoL M.lives (fun _ => true) with
        | cons j rest =>
          have HGT := Lib.hid (show 0 < (numsI (whoL M.lives fun _ => true)).length from by rw [hwl]; simp [numsI])
          clear hwl
          go_wp2_with fail
          refine (HM.out.asknext HFI.out (by omega)).mono ?_
          rintro e wn ⟨rfl, hb⟩
          have HM2 := Lib.hid (HM.out.step hb)
          clear hb
          obtain ⟨⟨⟨pd, px, pt⟩, pis⟩, hpn⟩ : ∃ r, M.next = r := ⟨_, rfl⟩
          rw [hpn]
          clear hpn
          unfold pickOut
          go_wp2_with fail
          have hbk : Below wn.heap.size wn (wn.alloc (.cells #[.int .u8 (pd : Int), .int .i64 px, .int .i64 pt] 46)) := (Below.refl _ _).alloc (Nat.le_refl _) _
          have HM3 := Lib.hid (HM2.out.step hbk)
          clear hbk HM2
          generalize wn.alloc (.cells #[.int .u8 (pd : Int), .int .i64 px, .int .i64 pt] 46) = wo at *
          generalize wn.heap.size = gn at *
          refine (malive_any HM3.out.mast HLV.out).mono ?_
          rintro e wa ⟨qa, ca, rfl, _, hb, _⟩
          have HM4 := Lib.hid (HM3.out.step hb)
          clear hb HM3
          have hgt : 0 < (numsI (whoL M.lives fun _ => true)).length := HGT.out
          generalize (numsI (whoL M.lives fun _ => true)).length = na at *
          go_wp2_with fail
          refine (HAL.out _ HM4.out.mast.doors).mono ?_
          rintro e wl ⟨rfl, hb⟩
          have HBL := Lib.hid (HM4.out.below.trans (hb.mono HM4.out.below.size))
          clear hb
          go_wp2_with fail
          go_ret
          exact ⟨rfl, HBL.out⟩
        | nil =>
          have HNIL := Lib.hid hwl
          clear hwl
          have hnx := HM.out.asknext HFI.out (by omega)
          rw [HNO.out HNIL.out] at hnx
          go_wp2_with fail
          refine hnx.mono ?_
          clear hnx
          rintro e wn ⟨rfl, hb⟩
          have HM2 := Lib.hid (HM.out.step hb)
          clear hb
          unfold pickOut
          go_wp2_with fail
          have hbk : Below wn.heap.size wn (wn.alloc (.cells #[.int .u8 (((0 : Nat)) : Int), .int .i64 0, .int .i64 0] 46)) := (Below.refl _ _).alloc (Nat.le_refl _) _
          have HM3 := Lib.hid (HM2.out.step hbk)
          clear hbk HM2
          have hal := malive_any HM3.out.mast HLV.out
          rw [HNIL.out] at hal
          refine hal.mono ?_
          clear hal
          rintro e wa ⟨qa, ca, rfl, _, hb, _⟩
          have HM4 := Lib.hid (HM3.out.step hb)
          have cz := fun (i : Nat) (hi : (⟨wn.heap.size, i, none⟩ : Addr).block < _) => hb.cell (p := ⟨wn.heap.size, i, none⟩) hi
          have cz0 := cz 0 (by simp)
          have cz1 := cz 1 (by simp)
          have cz2 := cz 2 (by simp)
          simp at cz0 cz1 cz2
          clear hb HM3 cz
          rw [show (numsI ([] : List Nat)).length = 0 from rfl]
          go_wp2_with fail
          refine (HAL.out _ HM4.out.mast.doors).mono ?_
          rintro e wl ⟨rfl, hb⟩
          have HBL := Lib.hid (HM4.out.below.trans (hb.mono HM4.out.below.size))
          clear hb
          go_wp2_with fail
          go_ret
          exact ⟨rfl, HBL.out⟩
      | false =>
        have HFREE := Lib.hid (show M.b.failed = none from by simpa using hov)
        clear hov
        cases hwl : whoL M.lives (fun _ => true) with
        | nil =>
          have HNIL := Lib.hid hwl
          clear hwl
          have hal := malive_any HM.out.mast HLV.out
          rw [HNIL.out] at hal
          go_wp2_with fail
          refine hal.mono ?_
          clear hal
          rintro e wb ⟨qb, cb, rfl, _, hb, _⟩
          have HMB := Lib.hid (HM.out.step hb)
          clear hb HM
          rw [show (numsI ([] : List Nat)).length = 0 from rfl]
          have hnx := HMB.out.asknext HFI.out (by omega)
          rw [HNO.out HNIL.out] at hnx
          go_wp2_with fail
          refine hnx.mono ?_
          clear hnx
          rintro e wn ⟨rfl, hb⟩
          have HM2 := Lib.hid (HMB.out.step hb)
          clear hb
          unfold pickOut
          go_wp2_with fail
          have hbk : Below wn.heap.size wn (wn.alloc (.cells #[.int .u8 (((0 : Nat)) : Int), .int .i64 0, .int .i64 0] 46)) := (Below.refl _ _).alloc (Nat.le_refl _) _
          have HM3 := Lib.hid (HM2.out.step hbk)
          clear hbk HM2
          have hal := malive_any HM3.out.mast HLV.out
          rw [HNIL.out] at hal
          refine hal.mono ?_
          clear hal
          rintro e wa ⟨qa, ca, rfl, _, hb, _⟩
          have HM4 := Lib.hid (HM3.out.step hb)
          have cz := fun (i : Nat) (hi : (⟨wn.heap.size, i, none⟩ : Addr).block < _) => hb.cell (p := ⟨wn.heap.size, i, none⟩) hi
          have cz0 := cz 0 (by simp)
          have cz1 := cz 1 (by simp)
          have cz2 := cz 2 (by simp)
          simp at cz0 cz1 cz2
          clear hb HM3 cz
          rw [show (numsI ([] : List Nat)).length = 0 from rfl]
          go_wp2_with fail
          refine (HAL.out _ HM4.out.mast.doors).mono ?_
          rintro e wl ⟨rfl, hb⟩
          have HBL := Lib.hid (HM4.out.below.trans (hb.mono HM4.out.below.size))
          clear hb
          go_wp2_with fail
          go_ret
          exact ⟨rfl, HBL.out⟩
        | cons j rest =>
          have HGT := Lib.hid (show 0 < (numsI (whoL M.lives fun _ => true)).length from by rw [hwl]; simp [numsI])
          have HNE := Lib.hid (show whoL M.lives (fun _ => true) ≠ [] from by rw [hwl]; simp)
          clear hwl
          obtain ⟨al, hal⟩ : ∃ n, (numsI (whoL M.lives fun _ => true)).length = n := ⟨_, rfl⟩
          obtain ⟨il, hil⟩ : ∃ n, (numsI (whoL M.lives (idleF M.b))).length = n := ⟨_, rfl⟩
          have hal16 : al ≤ 16 := by rw [← hal, numsI_len]; exact Nat.le_trans (whoL_len _ _) HLV.out
          have hil16 : il ≤ 16 := by rw [← hil, numsI_len]; exact Nat.le_trans (whoL_len _ _) HLV.out
          have hgt : 0 < al := hal ▸ HGT.out
          obtain ⟨bz, hbz, hbz16⟩ : ∃ bz : Nat, (al : Int) - (il : Int) = (bz : Int) ∧ bz ≤ 16 := by
            have h1 := alive_parts M.lives M.b
            rw [numsI_len] at hal hil
            rw [hal, hil] at h1
            exact ⟨al - il, by omega, by omega⟩
          have HGO := Lib.hid (Going.begin (c := bz + 2 * undone M.b) HFI.out HH.out HC.out HFREE.out HNE.out (by
            rw [numsI_len] at hal hil
            rw [hal, hil]
            omega))
          have HALN := Lib.hid hal; have HILN := Lib.hid hil; have HBZ := Lib.hid hbz
          clear hal hil hbz
          go_wp2_with fail
          refine (malive_any HM.out.mast HLV.out).mono ?_
          rintro e wb ⟨qb, cb, rfl, _, hb, _⟩
          have HMB := Lib.hid (HM.out.step hb)
          clear hb HM
          rw [HALN.out]
          go_wp2_with fail
          refine (malive_any HMB.out.mast HLV.out).mono ?_
          rintro e wc ⟨qc', cc, rfl, _, hb, _⟩
          have HMC := Lib.hid (HMB.out.step hb)
          clear hb HMB
          rw [HALN.out]
          go_wp2_with fail
          refine (idle_any HMC.out.mast HLV.out).mono ?_
          rintro e wd ⟨qd, cd, rfl, _, hb, _⟩
          have HMD := Lib.hid (HMC.out.step hb)
          clear hb HMC
          rw [HILN.out]
          go_wp2_with fail
          rw [HBZ.out]
          have HUL := Lib.hid (undoneTo_le M.b)
          have HUS := Lib.hid (undoneTo_succ M.b)
          go_loopw [18, 19] (fun v i wr => ∃ j : Nat, j ≤ L.length ∧ i = .int .i64 j ∧ v = .int .i64 ((bz + 2 * undoneTo M.b j : Nat) : Int) ∧ Below wd.heap.size wd wr) (fun _ i _ => L.length - (intOf i).toNat)
          case atStart => exact ⟨0, Nat.zero_le _, rfl, by rw [undoneTo_zero]; simp, Below.refl _ _⟩
          case round =>
            obtain ⟨j, hj, rfl, rfl, hb⟩ := hrel
            have HBW := Lib.hid hb
            by_cases hlt : j < L.length
            · have HDN := Lib.hid ((HMD.out.step hb).isdone (by omega) j (by rw [HLn.out]; exact hlt))
              have HSU := Lib.hid (HUS.out j (by rw [HLn.out]; exact hlt))
              have hul := HUL.out j
              generalize Board.isN M.b j = dn at *
              clear hb
              go_wp2_with fail
              refine HDN.out.mono ?_
              rintro e we ⟨rfl, hb⟩
              have HB2 := Lib.hid (HBW.out.trans (hb.mono HBW.out.size))
              clear hb HDN
              cases dn with
              | true =>
                go_wp2_with fail
                go_roundw
                case rel => exact ⟨j + 1, by omega, by go_num, by rw [HSU.out]; simp, HB2.out⟩
                case measure => simp [intOf]; omega
              | false =>
                go_wp2_with fail
                go_roundw
                case rel => exact ⟨j + 1, by omega, by go_num, by rw [HSU.out]; congr 1, HB2.out⟩
                case measure => simp [intOf]; omega
            · obtain rfl : j = L.length := by omega
              have HG0 := Lib.hid (show MyGo W wr P p m lv nvs vv L.length (bz + 2 * undoneTo M.b L.length) M k from ⟨HMD.out.step hb, by rw [← HLn.out, undoneTo_all]; exact HGO.out, HLn.out⟩)
              have hul := HUL.out L.length
              obtain ⟨C, hC⟩ : ∃ C, bz + 2 * undoneTo M.b L.length = C := ⟨_, rfl⟩
              have hC2 : C ≤ 1000 := by omega
              rw [hC] at HG0 ⊢
              clear hC hul HUL HUS HMD HGO hb HBW HALN HILN HBZ HFREE HNE HGT HNO HFI HC HH HLn HLV
              go_wp2_with fail
              go_loopw [20] (fun i wr => ∃ (j k2 : Nat) (M2 : Sch.Master), j ≤ C ∧ k2 ≤ k + j ∧ i = .int .i64 j ∧ MyGo W wr P p m lv nvs vv L.length (C - j) M2 k2) (fun i _ => C - (intOf i).toNat)
              case atStart => exact ⟨0, k, M, Nat.zero_le _, Nat.le_refl _, rfl, HG0.out⟩
              case round =>
                clear HG0
                obtain ⟨j, k2, M2, hj, hk3, rfl, hg⟩ := hrel
                have HG := Lib.hid hg
                clear hg
                have HNXT := Lib.hid (HG.out.my.asknext HG.out.go.fine (by omega))
                obtain ⟨⟨⟨pd, px, pt⟩, pis⟩, hpn⟩ : ∃ r, M2.next = r := ⟨_, rfl⟩
                have HPN := Lib.hid hpn
                rw [hpn] at HNXT
                clear hpn
                by_cases hlt : j < C
                · cases pis with
                  | true =>
                    obtain ⟨he, c', hc', hgo⟩ := HG.out.go.go (by rw [HPN.out]) [111, 110]
                    rw [HPN.out] at he hgo
                    obtain ⟨hd6, hdo⟩ : pd < 256 ∧ True := ⟨by have := next_small M2; rw [HPN.out] at this; simp only at this; omega, trivial⟩
                    have HGO := Lib.hid hgo; have HE := Lib.hid he
                    obtain rfl : c' = C - (j + 1) := by omega
                    clear hgo he hc' hdo
                    go_wp2_with fail
                    refine HNXT.out.mono ?_
                    rintro e wn ⟨rfl, hb⟩
                    have HG2 := Lib.hid (HG.out.step hb)
                    clear hb HNXT
                    unfold pickOut
                    go_wp2_with fail
                    have hbk : Below wn.heap.size wn (wn.alloc (.cells #[.int .u8 (pd : Int), .int .i64 px, .int .i64 pt] 46)) := (Below.refl _ _).alloc (Nat.le_refl _) _
                    have HG3 := Lib.hid (HG2.out.step hbk)
                    clear hbk HG2
                    have hon : ({ data := #[111, 110] } : ByteArray) = bs [111, 110] := rfl
                    rw [hon]
                    clear hon
                    have hdo := HG3.out.my.do_ (by omega) pd hd6 px pt [111, 110]
                    obtain ⟨⟨M3, a1, a2, a3⟩, hr⟩ : ∃ r, M2.do_ ⟨pd, px, pt⟩ [111, 110] = r := ⟨_, rfl⟩
                    have hdn := fun V => HG3.out.my.done (w' := V) ⟨pd, px, pt⟩ [111, 110]
                    have htk := do_tasks (M := M2) ⟨pd, px, pt⟩ [111, 110]
                    have hgo := HGO.out
                    have he := HE.out
                    rw [hr] at hdo hdn htk hgo
                    have he3 : a3 = 0 := by rw [hr] at he; exact he
                    subst he3
                    have HDO := Lib.hid hdo; have HDN := Lib.hid hdn; have HTK := Lib.hid htk; have HGO3 := Lib.hid hgo
                    clear hdo hdn htk hgo he hr HGO HE
                    refine HDO.out.mono ?_
                    rintro e wq ⟨rfl, ht⟩
                    have HG4 := Lib.hid (show MyGo W wq P p m lv nvs vv L.length (C - (j + 1)) M3 (k2 + 1) from ⟨HDN.out _ ht, HGO3.out, HTK.out.trans HG3.out.len⟩)
                    clear ht HDO HDN HTK HGO3 HG3 HG HPN
                    unfold ansV
                    go_wp2_with fail
                    have hbk : Below wq.heap.size wq (wq.alloc (.cells #[.int .i64 a1, .bool a2] 42)) := (Below.refl _ _).alloc (Nat.le_refl _) _
                    have HG5 := Lib.hid (HG4.out.step hbk)
                    clear hbk HG4
                    go_roundw
                    case rel => exact ⟨j + 1, k2 + 1, M3, by omega, by omega, by go_num, HG5.out⟩
                    case measure => simp [intOf]; omega
                  | false =>
                    have HDONE := Lib.hid (HG.out.go.stop (by rw [HPN.out]))
                    go_wp2_with fail
                    refine HNXT.out.mono ?_
                    rintro e wn ⟨rfl, hb⟩
                    have HG2 := Lib.hid (HG.out.step hb)
                    clear hb HNXT
                    unfold pickOut
                    go_wp2_with fail
                    have hbk : Below wn.heap.size wn (wn.alloc (.cells #[.int .u8 (pd : Int), .int .i64 px, .int .i64 pt] 46)) := (Below.refl _ _).alloc (Nat.le_refl _) _
                    have HG3 := Lib.hid (HG2.out.step hbk)
                    clear hbk HG2 HG
                    generalize wn.alloc (.cells #[.int .u8 (pd : Int), .int .i64 px, .int .i64 pt] 46) = wo at *
                    generalize wn.heap.size = gn at *
                    have HNX2 := Lib.hid (show Calls _ _ _ _ _ from (HPN.out ▸ HG3.out.my.asknext HG3.out.go.fine (by omega)))
                    refine HNX2.out.mono ?_
                    rintro e wt ⟨rfl, hb⟩
                    have HG6 := Lib.hid (HG3.out.step hb)
                    clear hb HNX2
                    unfold pickOut
                    go_wp2_with fail
                    have hbk : Below wt.heap.size wt (wt.alloc (.cells #[.int .u8 (pd : Int), .int .i64 px, .int .i64 pt] 46)) := (Below.refl _ _).alloc (Nat.le_refl _) _
                    have HG7 := Lib.hid (HG6.out.step hbk)
                    clear hbk HG6
                    generalize wt.alloc (.cells #[.int .u8 (pd : Int), .int .i64 px, .int .i64 pt] 46) = wu at *
                    generalize wt.heap.size = gt at *
                    refine (values_yes HG7.out.my.mast (by rw [HG7.out.len]; omega) HDONE.out).mono ?_
                    rintro e wv ⟨qv, cv, rfl, _, hb⟩
                    have HG8 := Lib.hid (HG7.out.my.step hb)
                    clear hb HG7
                    go_wp2_with fail
                    refine (HAL.out _ HG8.out.mast.doors).mono ?_
                    rintro e wl ⟨rfl, hb⟩
                    have HBL := Lib.hid (HG8.out.below.trans (hb.mono HG8.out.below.size))
                    clear hb
                    go_wp2_with fail
                    go_ret
                    exact ⟨rfl, HBL.out⟩
                · obtain rfl : j = C := by omega
                  have hz := HG.out.go
                  rw [Nat.sub_self] at hz
                  have hoff := hz.end_
                  have HDONE := Lib.hid (hz.stop hoff)
                  rw [HPN.out] at hoff
                  obtain rfl : pis = false := hoff
                  clear hz HNXT
                  go_wp2_with fail
                  have HNX2 := Lib.hid (show Calls _ _ _ _ _ from (HPN.out ▸ HG.out.my.asknext HG.out.go.fine (by omega)))
                  refine HNX2.out.mono ?_
                  rintro e wt ⟨rfl, hb⟩
                  have HG6 := Lib.hid (HG.out.step hb)
                  clear hb HNX2
                  unfold pickOut
                  go_wp2_with fail
                  have hbk : Below wt.heap.size wt (wt.alloc (.cells #[.int .u8 (pd : Int), .int .i64 px, .int .i64 pt] 46)) := (Below.refl _ _).alloc (Nat.le_refl _) _
                  have HG7 := Lib.hid (HG6.out.step hbk)
                  clear hbk HG6
                  generalize wt.alloc (.cells #[.int .u8 (pd : Int), .int .i64 px, .int .i64 pt] 46) = wu at *
                  generalize wt.heap.size = gt at *
                  refine (values_yes HG7.out.my.mast (by rw [HG7.out.len]; omega) HDONE.out).mono ?_
                  rintro e wv ⟨qv, cv, rfl, _, hb⟩
                  have HG8 := Lib.hid (HG7.out.my.step hb)
                  clear hb HG7
                  go_wp2_with fail
                  refine (HAL.out _ HG8.out.mast.doors).mono ?_
                  rintro e wl ⟨rfl, hb⟩
                  have HBL := Lib.hid (HG8.out.below.trans (hb.mono HG8.out.below.size))
                  clear hb
                  go_wp2_with fail
                  go_ret
                  exact ⟨rfl, HBL.out⟩
    · have HNB := Lib.hid (fun q qc (w : World) (h : NeedsAt w q L) => snew_bad q qc L (R : Int) (N : Int) w h HLEN.out (fun h => hmay h.1))
      clear hmay
      go_wp2_with fail
      rw [HN3.out, HR2.out]
      refine (HNB.out _ _ _ HN.out).mono ?_
      rintro e w3 ⟨rfl, hb⟩
      have HB3 := Lib.hid (HB.out.trans (hb.mono HB.out.size))
      have HD3 := Lib.hid (doors_below HD2.out hb)
      clear hb HB HD2 HN
      go_wp2_with fail
      refine (HAL.out _ HD3.out).mono ?_
      rintro e w6 ⟨rfl, hb⟩
      have HB6 := Lib.hid (HB3.out.trans (hb.mono HB3.out.size))
      clear hb
      go_wp2_with fail
      go_ret
      exact ⟨rfl, HB6.out⟩
set_option maxRecDepth 100000 in
theorem schedEnds_any {H : Type} {enc : TypeId × Value → H} {base0 base3 : Nat} (W : World) (hD : Doors W) (v0 : Value) (d0 : DataW H) (p0 : List MemPlace)
    (o0 : Value.okWide Tryd.prog W .any base0 22 v0) (h0 : DataW.Trod enc Tryd.prog W 0 (fun _ => true) true 22 v0 d0 p0) (z0 : ∀ n ∈ DataW.weights Tryd.prog 22 d0, (decide (n ≤ reachBytes)) = true)
    (r : Int) (hr : (Lit.int .u8 r).wf = true) (x : Int) (hx : (Lit.int .u8 x).wf = true)
    (v3 : Value) (d3 : DataW H) (p3 : List MemPlace) (o3 : Value.okWide Tryd.prog W .any base3 23 v3) (h3 : DataW.Trod enc Tryd.prog W 0 (fun _ => true) true 23 v3 d3 p3) (_ : ∀ n ∈ DataW.weights Tryd.prog 23 d3, (decide (n ≤ reachBytes)) = true) :
    Calls Tryd.prog 6 #[v0, .int .u8 r, .int .u8 x, v3] W fun e w' => e = .returned (.bool true) ∧ Below W.heap.size W w' := by
  obtain ⟨a, cap, L, rfl, g1, g2⟩ := needs_of_trod o0 h0 z0
  obtain ⟨c, cap', l, rfl, k1, k2, k3⟩ := picks_of_trod o3 h3
  exact schedEnds_walk W hD a c cap cap' L r x l hr hx g1 g2 k1 k2 k3
end Go.Proofs.YtgmhglcdifhimaaDoor
