/- FilesBig, walked. -/
import Derived.Test.YteanmenlilcljaaGreatFilAlive
import Derived.Test.YteanmenlilcljaaGreatDiskFill
namespace Go.Proofs.YteanmenlilcljaaGreat
open Go.RowKit Go.Maps
open Fil

def bigN : T := [98, 105, 103]
def smallN : T := [115, 109, 97, 108, 108]
def oneT : T := [111, 110, 101]
def bgC1 : Chg := ⟨smallN, oneT, false⟩
def bgC2 (t : T) : Chg := ⟨bigN, t, false⟩
def bgC3 : Chg := ⟨bigN, [], true⟩
theorem bg_put (t : T) : made [(smallN, oneT)] [bgC2 t] = [(bigN, t), (smallN, oneT)] := rfl
theorem bg_del (t : T) : made [(bigN, t), (smallN, oneT)] [bgC3] = [(smallN, oneT)] := rfl
theorem bg_one : made [] [bgC1] = [(smallN, oneT)] := rfl
theorem bg_used1 : used [(smallN, oneT)] = 20 := rfl
theorem bg_used2 (t : T) : used [(bigN, t), (smallN, oneT)] = t.length + 31 := by
  show 4 + ((8 + 3 + t.length) + ((8 + 5 + 3) + 0)) = _; omega
theorem bg_room {n : Nat} (h : 16 ≤ n) : 380 ≤ roomN n := by unfold roomN sz lg; omega
theorem bg1 {n : Nat} (h : 16 ≤ n) : codeC n [] [bgC1] = 0 ∧ nextC n [] [bgC1] = [(smallN, oneT)] := by
  have := bg_room h
  unfold codeC nextC
  rw [bg_one, bg_used1, if_neg (by decide), if_neg (by omega), if_pos ⟨by decide, by omega⟩]
  exact ⟨rfl, rfl⟩
theorem bg_may (t : T) (h : t.length ≤ 65535) : ([bgC2 t].all Chg.may) = true := by
  simp [Chg.may, mayB, bgC2, bigN, h]
theorem bg2 {n : Nat} (t : T) (ht : t.length ≤ 65535) : codeC n [(smallN, oneT)] [bgC2 t] = (if roomN n < t.length + 31 then 4 else 0) ∧ (¬ roomN n < t.length + 31 → nextC n [(smallN, oneT)] [bgC2 t] = [(bigN, t), (smallN, oneT)]) := by
  unfold codeC nextC
  rw [bg_put, bg_used2, if_neg (by rw [bg_may t ht]; decide)]
  exact ⟨rfl, fun hh => by rw [if_pos ⟨bg_may t ht, by omega⟩]⟩
theorem bg3 {n : Nat} (h : 16 ≤ n) (t : T) : codeC n [(bigN, t), (smallN, oneT)] [bgC3] = 0 := by
  have := bg_room h
  unfold codeC
  rw [bg_del, bg_used1, if_neg (by decide), if_neg (by omega)]
theorem bg_get (t : T) : Fil.get [(bigN, t), (smallN, oneT)] bigN = some t ∧ Fil.get [(bigN, t), (smallN, oneT)] smallN = some oneT := ⟨rfl, rfl⟩
theorem fill_one (c : UInt8) (k N : Nat) : (fillTo [c] k N).set k c = fillTo [c] (k + 1) N := by
  have := fillTo_step [c] k N
  rwa [show ([c] : List UInt8).getD (k % [c].length) 0 = c from by rw [List.length_singleton, Nat.mod_one]; rfl] at this
theorem u8_made16 (w : World) (n : Nat) (hn : n ≤ 65535) : ∃ C, (Instr.makeSlice 44 (.int .u16 (n : Int)) (.int .u16 (n : Int))).run Tryz.prog w = .ok (.slice (some ⟨w.heap.size, 0, none⟩) n n) (w.alloc (.cells C 5)) ∧
    BytesAt (w.alloc (.cells C 5)) w.heap.size (List.replicate n 0) := by
  have hinfo : (Tryz.prog.info? 5).map (fun i => (i.zero, i.size, i.bytes)) = some (some (.int .u8 0), 1, 1) := by kernel_rfl
  obtain ⟨i0, hi, hz0, hz1, hz2⟩ := info_parts hinfo
  have hrun := run_make (P := Tryz.prog) w 44 5 i0 _ Tryz.underlying44 hi hz0 .u16 .u16 n n (by omega) (Int.le_refl _) (by rw [hz2]; omega) (by omega)
  rw [Int.toNat_natCast] at hrun
  refine ⟨_, hrun, bytes_row_new w _ _ _ (fun i hi => ?_)⟩
  rw [List.length_replicate] at hi
  rw [hz1, List.getElem_replicate]
  simp [madeCells, Value.cells]
  exact ⟨i, by rw [Array.getElem?_range, if_pos hi], by rw [Nat.mod_one]; rfl⟩
set_option maxRecDepth 100000 in
set_option maxHeartbeats 4000000 in
theorem filesBig_any (w : World) (s : Int) (_hs : (Lit.int .i64 s).wf = true) (c : Int) (hc : (Lit.int .u8 c).wf = true) (n : Int) (hn : (Lit.int .u16 n).wf = true) (keep : List UInt8) (hk : keep.length ≤ reachBytes) :
    Calls Tryz.prog 4 #[.int .i64 s, .int .u8 c, .int .u16 n, .string (bs keep)] w fun e w' => e = .returned (.bool true) ∧ Below w.heap.size w w' := by
  have hc2 : 0 ≤ c ∧ c ≤ 255 := by simp [Lit.wf, IntKind.min, IntKind.max, IntKind.signed, IntKind.bits] at hc; omega
  have hn2 : 0 ≤ n ∧ n ≤ 65535 := by simp [Lit.wf, IntKind.min, IntKind.max, IntKind.signed, IntKind.bits] at hn; omega
  unfold reachBytes at hk
  clear hc hn
  by_cases hgo : 16 ≤ s ∧ s ≤ 200 ∧ keep.length ≤ 100
  · obtain ⟨g1, g2, g3⟩ := hgo
    obtain ⟨m, rfl⟩ : ∃ m : Nat, s = (m : Int) := ⟨s.toNat, by omega⟩
    obtain ⟨N, rfl⟩ : ∃ N : Nat, n = (N : Int) := ⟨n.toNat, by omega⟩
    obtain ⟨cb, rfl⟩ : ∃ cb : UInt8, c = (cb.toNat : Int) := ⟨UInt8.ofNat c.toNat, by rw [u8_ofNat]; omega⟩
    have q1 : ¬ (m : Int) < 16 := by omega
    have q2 : (m : Int) ≤ 200 := g2
    have q3 : (keep.length : Int) ≤ 100 := by omega
    clear hc2 hk
    go_enter Tryz.func4, Tryz.ntmps4
    go_wp2_with fail
    refine (new_fst m (by omega) (by omega)).mono ?_
    rintro e w1 ⟨b, fp, rfl, hd1, hb1', hn1⟩
    have HD1 := Lib.hid hd1; have HB1 := Lib.hid hb1'; have HN1 := Lib.hid hn1
    clear hd1 hb1' hn1
    go_wp2_with fail
    refine (my_new HB1.out HB1.out.size (n := m) (by omega) (by omega) HD1.out HN1.out).mono ?_
    rintro e w2 ⟨y, rfl, h2⟩
    have H2 := Lib.hid h2
    clear h2 HD1 HN1 HB1
    obtain ⟨C, hmk, hrow⟩ := u8_made16 w2 N (by omega)
    have HROW := Lib.hid hrow
    have H3 := Lib.hid (H2.out.step (below_alloc w2 (.cells C 5)))
    clear hrow
    go_wp2_with fail
    go_loopw [14] (fun i wr => ∃ k : Nat, k ≤ N ∧ i = .int .i64 k ∧ BytesAt wr w2.heap.size (fillTo [cb] k N) ∧ Upd (fun k => k = w2.heap.size) (w2.alloc (.cells C 5)) wr) (fun i _ => N - (intOf i).toNat)
    case atStart => exact ⟨0, by omega, rfl, by rw [fillTo_zero]; exact HROW.out, Upd.refl _ _⟩
    case round =>
      obtain ⟨k, hk, rfl, hat, hu⟩ := hrel
      have HU := Lib.hid hu
      by_cases hlt : k < N
      · have HST := Lib.hid (fill_one cb k N)
        have hfz := hat.free k (by simpa using hlt)
        have hcell := hat.cell k (by simpa using hlt)
        generalize (fillTo [cb] k N)[k]'(by simpa using hlt) = y at hcell
        have HAT := Lib.hid hat
        clear hat hu
        go_wp2_with fail
        refine ⟨⟨k + 1, by omega, rfl, ?_, HU.out.setCell (p := ⟨w2.heap.size, k, none⟩) (.inl rfl) _⟩, ?_⟩
        · have := HAT.out.set k cb
          rw [HST.out] at this
          exact this
        · show N - ((k : Int) + 1).toNat < N - ((k : Int)).toNat
          omega
      · obtain rfl : k = N := by omega
        rw [fillTo_full] at hat
        have hfl : (fill [cb] k).length = k := fill_length _ _
        have HAT := Lib.hid hat
        have HFL := Lib.hid hfl
        generalize fill [cb] k = tx at *
        clear hat hu
        have hbw : Below w2.heap.size w2 wr := below_upd (below_alloc _ _) HU.out (fun k e => by subst e; exact Nat.le_refl _) (by rw [World.size_alloc]; omega)
        have hxx := H2.out.beside hbw
        have hrx : w2.heap.size ≤ w2.heap.size ∧ w2.heap.size < wr.heap.size := ⟨Nat.le_refl _, HAT.out.lt⟩
        generalize hX : (fun k => w2.heap.size ≤ k ∧ k < wr.heap.size) = X at hxx
        have HRX := Lib.hid (show X w2.heap.size by rw [← hX]; exact hrx)
        have HX := Lib.hid hxx
        have HCV := Lib.hid (fun (W : World) (h : W.heap[w2.heap.size]? = wr.heap[w2.heap.size]?) => run_bytes_bs Tryz.prog W 44 5 9 Tryz.underlying44 Tryz.underlying5 Tryz.underlying9 w2.heap.size 0 k k tx hfl (fun i h2 => by rw [Nat.zero_add]; exact (World.cell?_of_block (a := ⟨w2.heap.size, i, none⟩) h).trans (HAT.out.cell i h2)))
        have HALL := Lib.hid (fun (V : World) => alive6_any V)
        have HB3 := Lib.hid (bg3 (n := m) (by omega) tx)
        have HB1 := Lib.hid (bg1 (n := m) (by omega))
        have HB2 := Lib.hid (bg2 (n := m) tx (by omega))
        have e1 : ({ data := #[115, 109, 97, 108, 108] } : ByteArray) = bs smallN := rfl
        have e2 : ({ data := #[111, 110, 101] } : ByteArray) = bs oneT := rfl
        have e3 : ({ data := #[98, 105, 103] } : ByteArray) = bs bigN := rfl
        have ee : (ByteArray.empty) = bs [] := rfl
        clear hbw hxx hrx hX hmk HROW H2 H3 hlt hk
        go_wp2_with fail
        refine (myx_commit (l := [bgC1]) (HX.out.step (below_alloc _ _)) (by omega) (chgs_one (heap_alloc_new _ _)) (by decide) (by decide)).mono ?_
        rw [HB1.out.1, HB1.out.2]
        rintro e w3 ⟨rfl, h3, k3⟩
        have H3 := Lib.hid h3
        have K3 := Lib.hid (show w3.heap[w2.heap.size]? = wr.heap[w2.heap.size]? from (k3 _ HRX.out).trans (HX.out.kept (below_alloc _ _) _ HRX.out))
        have hc3 := HCV.out _ K3.out
        clear h3 k3
        go_wp2_with fail
        refine (myx_commit (l := [bgC2 tx]) (H3.out.step (below_alloc _ _)) (by omega) (chgs_one (heap_alloc_new _ _)) (by show 1 ≤ 100000; omega) (by show 8 + 3 + tx.length + 0 ≤ 900000; omega)).mono ?_
        rw [HB2.out.1]
        rintro e w4 ⟨rfl, h4, k4⟩
        have K4 := Lib.hid (show w4.heap[w2.heap.size]? = wr.heap[w2.heap.size]? from ((k4 _ HRX.out).trans (H3.out.kept (below_alloc _ _) _ HRX.out)).trans K3.out)
        have HTL := Lib.hid hfl
        by_cases hfull : roomN m < tx.length + 31
        · have hq : roomN m < k + 31 := by omega
          rw [if_pos hfull]
          have H4 := Lib.hid h4
          clear h4 k4 hc3 hfull hfl
          go_wp2_with fail
          refine (myx_room H4.out).mono ?_
          rintro e w5 ⟨rfl, rfl⟩
          have hqi : ((roomN m : Nat) : Int) < (k : Int) + 31 := by omega
          clear hq
          generalize roomN m = R at *
          go_wp2_with fail
          refine (HALL.out _).mono ?_
          rintro e w5 ⟨rfl, hb⟩
          have H5 := Lib.hid (H4.out.step hb)
          clear hb
          go_wp2_with fail
          go_ret
          exact ⟨rfl, H5.out.1⟩
        · have hq : ¬ roomN m < k + 31 := by omega
          rw [if_neg hfull]
          rw [HB2.out.2 hfull] at h4
          have H4 := Lib.hid h4
          clear h4 k4 hc3 hfull hfl
          go_wp2_with fail
          refine (myx_room H4.out).mono ?_
          rintro e w5 ⟨rfl, rfl⟩
          have hqi : ¬ ((roomN m : Nat) : Int) < (k : Int) + 31 := by omega
          clear hq
          generalize roomN m = R at *
          go_wp2_with fail
          refine (myx_crash H4.out keep (by omega)).mono ?_
          rintro e w5 ⟨rfl, h5, k5⟩
          have H5 := Lib.hid h5
          have K5 := Lib.hid ((k5 _ HRX.out).trans K4.out)
          clear h5 k5
          go_wp2_with fail
          refine (myx_again H5.out).mono ?_
          rintro e w6 ⟨y2, rfl, h6, k6⟩
          have H6 := Lib.hid h6
          have K6 := Lib.hid ((k6 _ HRX.out).trans K5.out)
          clear h6 k6
          go_wp2_with fail
          refine (myx_get H6.out bigN (by unfold maxLen bigN; decide)).mono ?_
          rw [(bg_get tx).1, Option.getD_some, Option.isSome_some]
          rintro e w7 ⟨rfl, hb⟩
          have H7 := Lib.hid (H6.out.step hb)
          have K7 := Lib.hid ((H6.out.kept hb _ HRX.out).trans K6.out)
          clear hb
          go_wp2_with fail
          refine (myx_get H7.out smallN (by unfold maxLen smallN; decide)).mono ?_
          rw [(bg_get tx).2, Option.getD_some, Option.isSome_some]
          rintro e w8 ⟨rfl, hb⟩
          have H8 := Lib.hid (H7.out.step hb)
          have K8 := Lib.hid ((H7.out.kept hb _ HRX.out).trans K7.out)
          clear hb
          have hc8 := HCV.out _ K8.out
          go_wp2_with fail
          refine (myx_commit (l := [bgC3]) (H8.out.step (below_alloc _ _)) (by omega) (chgs_one (heap_alloc_new _ _)) (by decide) (by decide)).mono ?_
          rw [HB3.out]
          rintro e w9 ⟨rfl, h9, k9⟩
          have H9 := Lib.hid h9
          clear h9 k9 hc8
          go_wp2_with fail
          refine (HALL.out _).mono ?_
          rintro e w10 ⟨rfl, hb⟩
          have H10 := Lib.hid (H9.out.step hb)
          clear hb
          go_wp2_with fail
          go_ret
          exact ⟨rfl, H10.out.1⟩
  · have HA := Lib.hid (fun (V : World) => alive6_any V)
    by_cases h1 : s < 16
    · clear hgo
      go_enter Tryz.func4, Tryz.ntmps4
      go_wp2_with fail
      refine (HA.out _).mono ?_
      rintro e w1 ⟨rfl, hb⟩
      have HB := Lib.hid hb
      clear hb
      go_wp2_with fail
      go_ret
      exact ⟨rfl, HB.out⟩
    · by_cases h2 : 200 < s
      · clear hgo
        go_enter Tryz.func4, Tryz.ntmps4
        go_wp2_with fail
        refine (HA.out _).mono ?_
        rintro e w1 ⟨rfl, hb⟩
        have HB := Lib.hid hb
        clear hb
        go_wp2_with fail
        go_ret
        exact ⟨rfl, HB.out⟩
      · have h3 : (100 : Int) < (keep.length : Int) := by omega
        clear hgo
        go_enter Tryz.func4, Tryz.ntmps4
        go_wp2_with fail
        refine (HA.out _).mono ?_
        rintro e w1 ⟨rfl, hb⟩
        have HB := Lib.hid hb
        clear hb
        go_wp2_with fail
        go_ret
        exact ⟨rfl, HB.out⟩
end Go.Proofs.YteanmenlilcljaaGreat
