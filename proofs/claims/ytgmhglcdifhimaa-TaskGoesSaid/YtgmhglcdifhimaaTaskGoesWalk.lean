/- maslinlaw30.TaskGoes, walked. -/
import Derived.Test.YtgmhglcdifhimaaTaskCopied
import Derived.Test.YtgmhglcdifhimaaTaskGoesLaw
namespace Go.Proofs.Ytgmhglcdifhimaa
open Go.RowKit Go.Maps Go.Sort
open Tsk

theorem held_new (N : List (List Nat)) (r : Nat) : (Board.new N r).Held := fun x hx hr => by
  obtain ⟨l, _, rfl⟩ := List.mem_map.1 hx
  exact absurd hr (Nat.not_lt_zero _)
theorem new_len (L : List (List Int)) (r : Nat) : (Board.new (natsL L) r).l.length = L.length := by unfold Board.new natsL; simp
/-- A board that goes on. -/
structure GoB (w0 w : World) (p m : Nat) (lv : Value) (nvs : List Value) (b : Board) (k n : Nat) : Prop extends MyB w0 w p m lv nvs b k where
  held : b.Held
  len : b.l.length = n
section
variable {w0 w w' : World} {p m : Nat} {lv : Value} {nvs : List Value} {b b' : Board} {k k' n : Nat}
theorem GoB.step (h : GoB w0 w p m lv nvs b k n) (hb : Below w.heap.size w w') : GoB w0 w' p m lv nvs b k n := ⟨h.toMyB.step hb, h.held, h.len⟩
theorem GoB.start (h : GoB w0 w p m lv nvs b k n) (t x : Int) (ht : BoardTo w w' p m lv nvs (b.start t x).1) : GoB w0 w' p m lv nvs (b.start t x).1 (k + 1) n := ⟨h.toMyB.start t x ht, h.held.start t x, (start_len t x).1.trans h.len⟩
theorem GoB.commit (h : GoB w0 w p m lv nvs b k n) (x : Int) (v : List UInt8) (ht : BoardTo w w' p m lv nvs (b.commit x v).1) : GoB w0 w' p m lv nvs (b.commit x v).1 k n := ⟨h.toMyB.commit x v ht, h.held.commit x v, (commit_len x v).1.trans h.len⟩
theorem GoB.fail (h : GoB w0 w p m lv nvs b k n) (x : Int) (ht : BoardTo w w' p m lv nvs (b.fail x).1) : GoB w0 w' p m lv nvs (b.fail x).1 (k + 1) n := ⟨h.toMyB.fail x ht, h.held.fail x, (fail_len x).1.trans h.len⟩
end
theorem BoardIn.wf_at {w : World} {p m : Nat} {lv : Value} {nvs : List Value} {b : Board} (h : BoardIn w p m lv nvs b) {x : Int} {t : Nat} (ha : b.at_ x = some t) : (Lit.int .i64 x).wf = true :=
  h.at_.key_wf x (by rw [List.map_map]; exact List.mem_map.2 ⟨(x, t), Board.at_mem ha, rfl⟩)
theorem workers_length {b : Board} {k : Nat} (hF : b.Fine k) (t : Nat) : (b.workers t).length ≤ k := by
  unfold Board.workers
  rw [(sortI_perm _).length_eq, List.length_map]
  exact Nat.le_trans (List.length_filter_le _ _) hF.count
set_option maxRecDepth 100000 in
set_option maxHeartbeats 8000000 in
theorem taskGoes_walk (W : World) (a c : Option Addr) (cap cap' : Nat) (L : List (List Int)) (r : Int) (l : List TStp) (hL : NeedsAt W a L) (hlen : L.length ≤ maxLen) (hl : TStepsAt W c l) (hl2 : l.length ≤ maxLen) (hok : ∀ x ∈ l, x.okay) :
    Calls Try.prog 3 #[.slice a L.length cap, .int .i64 r, .slice c l.length cap'] W fun e w' => e = .returned (.bool true) ∧ Below W.heap.size W w' := by
  have HL := Lib.hid hL; have HS := Lib.hid hl; have HOK := Lib.hid hok
  have HLEN := Lib.hid hlen; have HL2 := Lib.hid hl2
  clear hL hl hok hlen hl2
  go_enter Try.func3, Try.ntmps3
  go_wp2_with fail
  refine (heavy30_any a c cap cap' l.length L _ HL.out HLEN.out HL2.out).mono ?_
  rintro e w1 ⟨hv, rfl, rfl, himp⟩
  cases hv with
  | true =>
    clear himp
    go_wp2_with fail
    refine (alive30_any _).mono ?_
    rintro e w2 ⟨rfl, hb⟩
    go_wp2_with fail
    go_ret
    exact ⟨rfl, hb⟩
  | false =>
    obtain ⟨h30, h200, h100⟩ := himp rfl
    clear himp
    have HR := Lib.hid (show ∀ x ∈ L, x.length ≤ 1000 from fun x hx => by have := h200 x hx; omega)
    clear h200
    go_wp2_with fail
    refine (copied30_any a cap L _ HL.out (by omega) HR.out).mono ?_
    rintro e w2 ⟨q, qc, rfl, hn, hb⟩
    have HN := Lib.hid hn; have HB := Lib.hid hb
    clear hn hb
    by_cases hmay : MayB L r
    · have HMAY := Lib.hid hmay
      clear hmay
      go_wp2_with fail
      refine (new_yes q qc L r _ HN.out HMAY.out).mono ?_
      rintro e w3 ⟨p, m, lv, nvs, rfl, hB, hb, hnew⟩
      have H0 := Lib.hid (show GoB W w3 p m lv nvs (Board.new (natsL L) r.toNat) 0 L.length from ⟨⟨hB, new_fine HMAY.out, HB.out.trans (hb.mono HB.out.size), fun i hi => by have := hnew i hi; have := HB.out.size; omega⟩, held_new _ _, new_len _ _⟩)
      clear hB hb hnew HN HB
      go_wp2_with fail
      go_loopw [9] (fun i wr => ∃ (j k : Nat) (b : Board), j ≤ l.length ∧ k ≤ j ∧ i = .int .i64 j ∧ GoB W wr p m lv nvs b k L.length) (fun i _ => l.length - (intOf i).toNat)
      case atStart => exact ⟨0, 0, _, Nat.zero_le _, Nat.le_refl _, rfl, H0.out⟩
      case round =>
        clear H0
        obtain ⟨j, k, b, hj, hkj, rfl, hM⟩ := hrel
        have HM := Lib.hid hM
        clear hM
        by_cases hlt : j < l.length
        · obtain ⟨qs, hix, hat⟩ := (HS.out.below HM.out.below).index cap' j hlt
          obtain ⟨hx1, hx2, hx3, hx4⟩ := HOK.out l[j] (List.getElem_mem hlt)
          obtain ⟨c0, c1, c2, c3⟩ := hat.cells
          clear hat
          generalize l[j] = x at *
          obtain ⟨xd, xt, xw, xs⟩ := x
          simp only at c0 c1 c2 c3 hx1 hx2 hx3 hx4
          have HX3 := Lib.hid hx3
          have HA := Lib.hid (fun ob => HM.out.step ((Below.refl wr.heap.size wr).alloc (Nat.le_refl _) ob))
          clear hx1 hx2 hx3 hx4
          by_cases h0 : xd = 0
          · subst h0
            go_wp2_with fail
            refine (start_any (HA.out _).board HM.out.fine (by omega) xt xw HX3.out).mono ?_
            rintro e w4 ⟨rfl, ht⟩
            have H1 := Lib.hid ((HA.out _).start xt xw ht)
            clear ht HM HA
            go_wp2_with fail
            go_roundw
            case rel => exact ⟨j + 1, k + 1, _, by omega, by omega, by go_num, H1.out⟩
            case measure => simp [intOf]; omega
          · by_cases h1 : xd = 1
            · subst h1
              go_wp2_with fail
              refine (commit_any (HA.out _).board HM.out.fine xw HX3.out xs).mono ?_
              rintro e w4 ⟨rfl, ht⟩
              have H1 := Lib.hid ((HA.out _).commit xw xs ht)
              clear ht HM HA
              go_wp2_with fail
              go_roundw
              case rel => exact ⟨j + 1, k, _, by omega, by omega, by go_num, H1.out⟩
              case measure => simp [intOf]; omega
            · by_cases h2 : xd = 2
              · subst h2
                go_wp2_with fail
                refine (fail_any (HA.out _).board HM.out.fine (by omega) xw HX3.out).mono ?_
                rintro e w4 ⟨rfl, ht⟩
                have H1 := Lib.hid ((HA.out _).fail xw ht)
                clear ht HM HA
                go_wp2_with fail
                go_roundw
                case rel => exact ⟨j + 1, k + 1, _, by omega, by omega, by go_num, H1.out⟩
                case measure => simp [intOf]; omega
              · have b0 : (xd == 0) = false := by simpa using h0
                have b1 : (xd == 1) = false := by simpa using h1
                have b2 : (xd == 2) = false := by simpa using h2
                have HA1 := Lib.hid (HA.out (.cells #[.int .i64 xd, .int .i64 xt, .int .i64 xw, .string (bs xs)] 32))
                clear h0 h1 h2 HA HM
                go_wp2_with fail
                go_roundw
                case rel => exact ⟨j + 1, k, _, by omega, by omega, by go_num, HA1.out⟩
                case measure => simp [intOf]; omega
        · obtain rfl : j = l.length := by omega
          obtain ⟨s, hs⟩ : ∃ s, b.failed.isSome = s := ⟨_, rfl⟩
          have HO := Lib.hid (over_any HM.out.board)
          rw [hs] at HO
          have HFS := Lib.hid hs
          clear hs
          go_wp2_with fail
          refine HO.out.mono ?_
          rintro e w4 ⟨rfl, rfl⟩
          clear HO
          go_wp2_with fail
          go_loopw [13] (fun i wr => ∃ (j k : Nat) (b : Board), j ≤ L.length ∧ k ≤ 100 ∧ i = .int .i64 j ∧ GoB W wr p m lv nvs b k L.length ∧ b.failed.isSome = s ∧ ∀ q ∈ b.tries, j ≤ q.2) (fun i _ => L.length - (intOf i).toNat)
          case atStart => exact ⟨0, k, b, Nat.zero_le _, by omega, rfl, HM.out, HFS.out, fun q _ => Nat.zero_le _⟩
          case round =>
            clear HM HFS hlt hkj
            obtain ⟨j, k, b, hj, hk, rfl, hM, hfs, hlow⟩ := hrel
            have HM := Lib.hid hM; have HFS := Lib.hid hfs; have HLOW := Lib.hid hlow
            clear hM hfs hlow
            by_cases hlt : j < L.length
            · have HW := Lib.hid (workers_in HM.out.board (by have := HM.out.fine.count; omega) j (by rw [HM.out.len]; exact hlt))
              have HE := Lib.hid (Ends.begin HM.out.fine HLOW.out)
              have hwl := workers_length HM.out.fine j
              obtain ⟨ws, hws⟩ : ∃ ws, b.workers j = ws := ⟨_, rfl⟩
              rw [hws] at HW HE hwl
              clear hws
              go_wp2_with fail
              refine HW.out.mono ?_
              rintro e w5 ⟨qw, cw, rfl, hat, hb, hq⟩
              have HAT := Lib.hid hat
              have HQ := Lib.hid (show ∀ a, qw = some a → ¬ boardBlocks p m lv a.block from fun a ha hk => by have := hq a ha; have := HM.out.board.lt _ hk; omega)
              have H1 := Lib.hid (HM.out.step hb)
              clear hat hb hq HM HW
              go_wp2_with fail
              go_loopw [15] (fun i wr => ∃ (jj k : Nat) (b : Board), jj ≤ ws.length ∧ k ≤ 100 ∧ i = .int .i64 jj ∧ GoB W wr p m lv nvs b k L.length ∧ b.failed.isSome = s ∧ Ends b j ws jj ∧ IntsAt wr qw ws) (fun i _ => ws.length - (intOf i).toNat)
              case atStart => exact ⟨0, k, b, Nat.zero_le _, hk, rfl, H1.out, HFS.out, HE.out, HAT.out⟩
              case round =>
                clear H1 HE HAT HFS HLOW
                obtain ⟨jj, k, b, hjj, hk, rfl, hM, hfs, he, hat⟩ := hrel
                have HM := Lib.hid hM; have HFS := Lib.hid hfs; have HE := Lib.hid he; have HAT := Lib.hid hat
                clear hM hfs he hat
                by_cases hlt2 : jj < ws.length
                · obtain ⟨qx, hix, hcx⟩ := HAT.out.index cw jj hlt2
                  obtain ⟨n1, n2⟩ := HE.out.next HM.out.fine hlt2 [108, 97, 116, 101]
                  have hxa := HE.out.at_ ws[jj] (by rw [List.drop_eq_getElem_cons hlt2]; exact List.mem_cons_self)
                  have HXW := Lib.hid (HM.out.board.wf_at hxa)
                  have N2 := Lib.hid n2
                  have HC := Lib.hid (commit_any HM.out.board HM.out.fine ws[jj] HXW.out [108, 97, 116, 101])
                  rw [n1] at HC
                  clear n1 n2 hxa
                  generalize ws[jj] = x at *
                  obtain ⟨cf, hcf⟩ : ∃ cf, (b.commit x [108, 97, 116, 101]).2.1 = cf := ⟨_, rfl⟩
                  rw [hcf] at HC
                  clear hcf
                  go_wp2_with fail
                  refine HC.out.mono ?_
                  rintro e w6 ⟨rfl, ht⟩
                  have H2 := Lib.hid (HM.out.commit x [108, 97, 116, 101] ht)
                  have HAT2 := Lib.hid (HAT.out.keep ht.upd HQ.out)
                  have HFS2 := Lib.hid (show (b.commit x [108, 97, 116, 101]).1.failed.isSome = s by rw [(commit_len x _).2.1]; exact HFS.out)
                  clear ht HM HAT HC
                  go_wp2_with fail
                  go_roundw
                  case rel => exact ⟨jj + 1, k, _, by omega, hk, by go_num, H2.out, HFS2.out, N2.out, HAT2.out⟩
                  case measure => simp [intOf]; omega
                · obtain rfl : jj = ws.length := by omega
                  have HOV := Lib.hid HE.out.over
                  go_wp2_with fail
                  go_roundw
                  case rel => exact ⟨j + 1, k, b, by omega, hk, by go_num, HM.out, HFS.out, HOV.out⟩
                  case measure => simp [intOf]; omega
            · obtain rfl : j = L.length := by omega
              have HT := Lib.hid (no_tries HM.out.fine (fun q hq => by rw [HM.out.len]; exact HLOW.out q hq))
              cases s with
              | true =>
                have hpos : 0 < L.length := by
                  obtain ⟨t, ht⟩ := Option.isSome_iff_exists.1 HFS.out
                  have h1 := HM.out.fine.failed t ht
                  have h2 := HM.out.len
                  omega
                go_wp2_with fail
                refine (alive30_any _).mono ?_
                rintro e w6 ⟨rfl, hb⟩
                have H2 := Lib.hid (HM.out.step hb)
                clear hb
                go_wp2_with fail
                go_ret
                exact ⟨rfl, H2.out.below⟩
              | false =>
                have HFN := Lib.hid (show b.failed = none by simpa using HFS.out)
                have HU := Lib.hid (show undone b ≤ L.length - 0 by have h1 := HM.out.len; have h2 := List.length_filter_le (fun x : Task => !x.is) b.l; unfold undone; omega)
                clear HFS HLOW
                have HGO := Lib.hid (show ∀ (V : World) (b : Board), b.done = true → (k : Nat) → GoB W V p m lv nvs b k L.length → b.ready = [] from fun V b hd _ _ => done_ready hd)
                go_wp2_with fail
                go_loopw [18] (fun i wr => ∃ (j k : Nat) (b : Board), j ≤ L.length ∧ k ≤ 200 + j ∧ i = .int .i64 j ∧ GoB W wr p m lv nvs b k L.length ∧ b.failed = none ∧ b.tries = [] ∧ undone b ≤ L.length - j) (fun i _ => L.length - (intOf i).toNat)
                case atStart => exact ⟨0, k, b, Nat.zero_le _, by omega, rfl, HM.out, HFN.out, HT.out, HU.out⟩
                case round =>
                  clear HM HFN HT HU
                  obtain ⟨j, k, b, hj, hk, rfl, hM, hfn, htr, hu⟩ := hrel
                  have HM := Lib.hid hM; have HFN := Lib.hid hfn; have HT := Lib.hid htr; have HU := Lib.hid hu
                  clear hM hfn htr hu
                  have HD := Lib.hid (fun (V : World) (h : GoB W V p m lv nvs b k L.length) => done_any h.board h.fine.len)
                  have HRD := Lib.hid (fun (V : World) (h : GoB W V p m lv nvs b k L.length) => ready_any h.board h.fine (by omega))
                  obtain ⟨d, hd⟩ : ∃ d, b.done = d := ⟨_, rfl⟩
                  rw [hd] at HD
                  have HDD := Lib.hid hd
                  clear hd
                  by_cases hlt : j < L.length
                  · cases d with
                    | true =>
                      have HRE := Lib.hid (done_ready HDD.out)
                      rw [HRE.out] at HRD
                      go_wp2_with fail
                      refine (HD.out _ HM.out).mono ?_
                      rintro e w6 ⟨rfl, hb⟩
                      have H2 := Lib.hid (HM.out.step hb)
                      clear hb HM
                      go_wp2_with fail
                      refine (HD.out _ H2.out).mono ?_
                      rintro e w7 ⟨rfl, hb⟩
                      have H3 := Lib.hid (H2.out.step hb)
                      clear hb H2
                      go_wp2_with fail
                      refine (HRD.out _ H3.out).mono ?_
                      rintro e w8 ⟨qr, cr, rfl, _, hb, _⟩
                      have H4 := Lib.hid (H3.out.step hb)
                      clear hb H3
                      go_wp2_with fail
                      refine (alive30_any _).mono ?_
                      rintro e w9 ⟨rfl, hb⟩
                      have H5 := Lib.hid (H4.out.step hb)
                      clear hb H4
                      go_wp2_with fail
                      go_ret
                      exact ⟨rfl, H5.out.below⟩
                    | false =>
                      obtain ⟨t, rest, hr, ht, hst⟩ := some_ready HM.out.fine HM.out.held HT.out HFN.out HDD.out
                      have HST := Lib.hid (go_start HT.out HFN.out ht hst (show (0 : Int) ≤ 7 by decide))
                      have HCO := Lib.hid (go_commit ht hst 7 [111, 110])
                      have hi0 : b.l[t].is = false := by
                        rw [state_get ht] at hst
                        unfold Board.stateX at hst
                        cases hi : b.l[t].is with
                        | false => rfl
                        | true => rw [hi, if_pos rfl] at hst; cases hst
                      have HUN := Lib.hid (undone_set ht hi0 [111, 110])
                      rw [hr] at HRD
                      have hrl : rest.length ≤ 4096 := by
                        have h1 : (b.ready).length ≤ b.l.length := by unfold Board.ready; have := List.length_filter_le (fun t => b.state t == 1) (List.range b.l.length); rwa [List.length_range] at this
                        rw [hr] at h1
                        have := HM.out.fine.len
                        simp at h1
                        omega
                      clear hr hst hi0
                      go_wp2_with fail
                      refine (HD.out _ HM.out).mono ?_
                      rintro e w6 ⟨rfl, hb⟩
                      have H2 := Lib.hid (HM.out.step hb)
                      clear hb HM HD
                      go_wp2_with fail
                      refine (HRD.out _ H2.out).mono ?_
                      rintro e w7 ⟨qr, cr, rfl, hat, hb, _⟩
                      have H3 := Lib.hid (H2.out.step hb)
                      obtain ⟨qx, hix, hcx⟩ := hat.index cr 0 (by simp [numsI])
                      have hcx : w7.cell? qx = some (.int .i64 (t : Int)) := hcx
                      have hll : (numsI (t :: rest)).length = rest.length + 1 := by simp [numsI]
                      have hll2 : (t :: rest).length = rest.length + 1 := rfl
                      rw [hll] at hix
                      replace hix : ∀ V, (Instr.indexAt 39 (.slice qr (rest.length + 1) cr) (.int .i64 0)).run Try.prog V = .ok (.pointer (some qx)) V := hix
                      rw [hll2]
                      have HSTA := Lib.hid (start_any H3.out.board H3.out.fine (by omega) t 7 (by decide))
                      rw [HST.out] at HSTA
                      clear hb hat H2 HRD hll hll2
                      go_wp2_with fail
                      refine HSTA.out.mono ?_
                      rintro e w8 ⟨rfl, ht2⟩
                      have H4 := Lib.hid (show GoB W w8 p m lv nvs { b with tries := [((7 : Int), t)] } (k + 1) L.length from by
                        have := H3.out.start t 7 (by rw [HST.out]; exact ht2)
                        rw [HST.out] at this
                        exact this)
                      have HCOM := Lib.hid (commit_any H4.out.board H4.out.fine 7 (by decide) [111, 110])
                      rw [HCO.out] at HCOM
                      clear ht2 H3 HSTA hix hcx
                      go_wp2_with fail
                      refine HCOM.out.mono ?_
                      rintro e w9 ⟨rfl, ht2⟩
                      have H5 := Lib.hid (by
                        have := H4.out.commit 7 [111, 110] (by rw [HCO.out]; exact ht2)
                        rw [HCO.out] at this
                        exact this)
                      clear ht2 H4 HCOM
                      go_wp2_with fail
                      go_roundw
                      case rel => exact ⟨j + 1, k + 1, _, by omega, by omega, by go_num, H5.out, HFN.out, rfl, by have := HU.out; have := HUN.out; omega⟩
                      case measure => simp [intOf]; omega
                  · obtain rfl : j = L.length := by omega
                    have hd2 : d = true := by
                      rw [← HDD.out, done_undone]
                      have := HU.out
                      omega
                    subst hd2
                    have HRE := Lib.hid (done_ready HDD.out)
                    rw [HRE.out] at HRD
                    go_wp2_with fail
                    refine (HD.out _ HM.out).mono ?_
                    rintro e w7 ⟨rfl, hb⟩
                    have H3 := Lib.hid (HM.out.step hb)
                    clear hb HM
                    go_wp2_with fail
                    refine (HRD.out _ H3.out).mono ?_
                    rintro e w8 ⟨qr, cr, rfl, _, hb, _⟩
                    have H4 := Lib.hid (H3.out.step hb)
                    clear hb H3
                    go_wp2_with fail
                    refine (alive30_any _).mono ?_
                    rintro e w9 ⟨rfl, hb⟩
                    have H5 := Lib.hid (H4.out.step hb)
                    clear hb H4
                    go_wp2_with fail
                    go_ret
                    exact ⟨rfl, H5.out.below⟩
    · have HMAY := Lib.hid hmay
      clear hmay
      go_wp2_with fail
      refine (new_no q qc L r _ HN.out HLEN.out HMAY.out).mono ?_
      rintro e w3 ⟨rfl, hb⟩
      have HB3 := Lib.hid (HB.out.trans (hb.mono HB.out.size))
      clear hb
      go_wp2_with fail
      refine (alive30_any _).mono ?_
      rintro e w4 ⟨rfl, hb⟩
      have HB4 := Lib.hid (HB3.out.trans (hb.mono HB3.out.size))
      clear hb
      go_wp2_with fail
      go_ret
      exact ⟨rfl, HB4.out⟩
set_option maxRecDepth 100000 in
theorem taskGoes_any {H : Type} {enc : TypeId × Value → H} {base0 base2 : Nat} (W : World) (v0 : Value) (d0 : DataW H) (p0 : List MemPlace)
    (o0 : Value.okWide Try.prog W .any base0 22 v0) (h0 : DataW.Trod enc Try.prog W 0 (fun _ => true) true 22 v0 d0 p0) (z0 : ∀ n ∈ DataW.weights Try.prog 22 d0, (decide (n ≤ reachBytes)) = true)
    (r : Int) (_ : (Lit.int .i64 r).wf = true)
    (v2 : Value) (d2 : DataW H) (p2 : List MemPlace) (o2 : Value.okWide Try.prog W .any base2 23 v2) (h2 : DataW.Trod enc Try.prog W 0 (fun _ => true) true 23 v2 d2 p2) (z2 : ∀ n ∈ DataW.weights Try.prog 23 d2, (decide (n ≤ reachBytes)) = true) :
    Calls Try.prog 3 #[v0, .int .i64 r, v2] W fun e w' => e = .returned (.bool true) ∧ Below W.heap.size W w' := by
  obtain ⟨a, cap, L, rfl, g1, g2⟩ := needs_of_trod o0 h0 z0
  obtain ⟨c, cap', l, rfl, k1, k2, k3⟩ := tsteps_of_trod o2 h2 z2
  exact taskGoes_walk W a c cap cap' L r l g1 g2 k1 k2 k3
end Go.Proofs.Ytgmhglcdifhimaa
