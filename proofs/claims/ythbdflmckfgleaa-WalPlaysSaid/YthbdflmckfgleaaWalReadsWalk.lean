/- maslinlaw05.WalReads, walked. -/
import Derived.Test.YthbdflmckfgleaaWalAlive
import Derived.Test.YthbdflmckfgleaaDiskWholeWalk
namespace Go.Proofs.Ythbdflmckfgleaa
open Go.RowKit Go.Maps
open Wal

theorem groupE_row {l : List (List UInt8)} {s : List UInt8} (h : groupE l = some s) : l.length ≤ s.length := by
  obtain ⟨a, ha, rfl⟩ := groupE_some h
  have h1 := rowE_length ha
  have h2 := rowLen_ge l
  have h3 := pad_length (Crc.le 4 a.length ++ a)
  rw [List.length_append, Crc.le_length] at h3
  omega
theorem groupsE_bound : ∀ {L : List (List (List UInt8))} {S : List UInt8}, groupsE L = some S → 64 * L.length ≤ S.length ∧ ∀ l ∈ L, l.length ≤ S.length
  | [], S, h => by simp [groupsE] at h; subst h; simp
  | t :: L, S, h => by
    simp only [groupsE] at h
    cases h1 : groupE t with
    | none => rw [h1] at h; cases h
    | some a =>
      rw [h1] at h
      simp only [Option.bind_some] at h
      cases h2 : groupsE L with
      | none => rw [h2] at h; cases h
      | some b =>
        rw [h2] at h
        simp only [Option.map_some, Option.some.injEq] at h
        subst h
        obtain ⟨g1, g2⟩ := groupsE_bound h2
        obtain ⟨_, g4⟩ := groupE_length h1
        have g5 := groupE_row h1
        rw [List.length_append, List.length_cons]
        refine ⟨by omega, fun l hl => ?_⟩
        rcases List.mem_cons.1 hl with rfl | hl
        · omega
        · have := g2 l hl; omega
/-- A log that is opened is modest. -/
theorem openW_modest {D : Dsk} (hF : D.Fine) {a n k : Int} {L : WLog} (h : D.openW a n = (some L, k)) : Modest L ∧ k = 0 := by
  unfold Dsk.openW at h
  split at h
  · cases h
  · rename_i hok
    split at h
    · cases h
    · have hn := hF.n2
      have hlen : (Dsk.text D.now a.toNat n.toNat).length = 64 * n.toNat := Dsk.len_in (fun i h1 h2 => hF.now i (by omega))
      cases ho : openS (Dsk.text D.now a.toNat n.toNat) n.toNat with
      | none => rw [ho] at h; cases h
      | some p =>
        obtain ⟨g, u, G⟩ := p
        rw [ho] at h
        simp only [Prod.mk.injEq, Option.some.injEq] at h
        obtain ⟨rfl, rfl⟩ := h
        obtain ⟨h1, _, h3, _⟩ := openS_some ho (by omega) (by omega)
        obtain ⟨g1, g2⟩ := groupsE_bound h3
        have hl : ((List.drop 64 (Dsk.text D.now a.toNat n.toNat)).take (64 * u)).length ≤ 64 * u := by rw [List.length_take]; omega
        refine ⟨⟨?_, fun l hl2 => ?_⟩, rfl⟩
        · show G.length ≤ 1000000
          omega
        · have := g2 l hl2
          show l.length ≤ 1000000000
          omega

set_option maxRecDepth 100000 in
set_option maxHeartbeats 4000000 in
theorem walReads_any (W : World) (s : List UInt8) (hs : s.length ≤ reachBytes) (n : Int) (hn : (Lit.int .i64 n).wf = true) :
    Calls Try.prog 10 #[.string (bs s), .int .i64 n] W fun e w' => e = .returned (.bool true) ∧ Below W.heap.size W w' := by
  have hn' := i64_of hn
  unfold reachBytes at hs
  clear hn
  by_cases hbig : 3840 < s.length
  · go_enter Try.func10, Try.ntmps10
    go_wp2_with fail
    refine (alive5_any _).mono ?_
    rintro e w1 ⟨rfl, hb⟩
    go_wp2_with fail
    go_ret
    exact ⟨rfl, hb⟩
  by_cases hsm : s.length < 64
  · go_enter Try.func10, Try.ntmps10
    go_wp2_with fail
    refine (alive5_any _).mono ?_
    rintro e w1 ⟨rfl, hb⟩
    go_wp2_with fail
    go_ret
    exact ⟨rfl, hb⟩
  obtain ⟨k, hk⟩ : ∃ k, k = s.length / 64 := ⟨_, rfl⟩
  have hk1 : 1 ≤ k := by omega
  have hk2 : k ≤ 60 := by omega
  have hki : (s.length : Int) / 64 = (k : Int) := by omega
  have hcut : ∀ V, (Instr.slice 9 (.string (bs s)) none (some (.int .i64 ((k : Int) * 64))) none).run Try.prog V = .ok (.string (bs (s.take (64 * k)))) V := fun V => by
    have := run_cut_to Try.prog V 9 Try.underlying9 s (64 * k) (by omega)
    rw [Int.natCast_mul, Int.mul_comm] at this
    exact this
  have htl : (s.take (64 * k)).length = 64 * k := by rw [List.length_take]; omega
  have hcalm := Dsk.write_calm (D := Dsk.new k) rfl rfl 0 (s.take (64 * k))
  have hw : ∃ D1, (Dsk.new k).write 0 (s.take (64 * k)) = (D1, 0) ∧ D1.Fine ∧ D1.loose.length ≤ 60 := by
    have hF := (Dsk.Fine.new (n := k) hk1 (by omega)).write 0 (s.take (64 * k))
    have hl := Dsk.write_loose (Dsk.new k) 0 (s.take (64 * k))
    have h0 : (Dsk.new k).loose.length = 0 := rfl
    have he : (Dsk.new k).write 0 (s.take (64 * k)) = Dsk.writes (Dsk.new k) 0 (s.take (64 * k)) k := by
      unfold Dsk.write
      rw [if_neg (by simp [Dsk.new]), if_pos ⟨by omega, by simp [Dsk.inside, Dsk.new]; omega⟩, htl]
      rw [show 64 * k / 64 = k by omega]
      rfl
    obtain ⟨_, _, h3⟩ := writes_spec (Dsk.new k) rfl 0 (s.take (64 * k)) k
    rw [← he] at h3
    refine ⟨((Dsk.new k).write 0 (s.take (64 * k))).1, Prod.ext rfl ?_, hF, by rw [h0, htl] at hl; omega⟩
    rcases h3 with ⟨h4, _⟩ | ⟨_, h5, _⟩
    · exact h4
    · rw [hcalm.1] at h5; cases h5
  obtain ⟨D1, hw1, hF1, hl1⟩ := hw
  have HW := Lib.hid hw1; have HF := Lib.hid hF1; have HTL := Lib.hid htl
  clear hk hcalm hw1 hF1 htl
  generalize s.take (64 * k) = t at *
  go_enter Try.func10, Try.ntmps10
  go_wp2_with fail
  refine (new_my (Below.refl W.heap.size W) (Nat.le_refl _) k hk1 (by omega)).mono ?_
  rintro e w1 ⟨b, fp, rfl, h1⟩
  have H1 := Lib.hid h1
  clear h1
  go_wp2_with fail
  refine (write_my H1.out 0 t (by omega) (by rw [HTL.out]; omega) (by show (0 : Nat) ≤ _; omega)).mono ?_
  rw [HW.out]
  rintro e w2 ⟨rfl, fp2, h2⟩
  have H2 := Lib.hid (show MyDisk W.heap.size W w2 b D1 fp2 from h2)
  clear h2
  go_wp2_with fail
  refine (rnew_any k _ hk1 (by omega)).mono ?_
  rintro e w3 ⟨r, fr, rfl, hR, hbe, hnw⟩
  have hfp := H2.out.disk.lt
  have HB0 := Lib.hid (Both.mk (H2.out.step hbe) hR (fun k hk => Nat.le_trans (Nat.le_trans H2.out.size H2.out.below.size) (hnw k hk)) (fun k h1 h2 => by have := hfp k h1; have := hnw k h2; omega))
  clear hR hbe hnw hfp
  go_wp2_with fail
  refine (rwrite_any HB0.out.ref 0 t (by omega) (by rw [HTL.out]; omega) (by rw [HTL.out]; show 0 + 64 * k / 64 ≤ _; omega)).mono ?_
  rw [HW.out]
  rintro e w4 ⟨rfl, fr4, hd4, hu4, hs4⟩
  have HB4 := Lib.hid (show Both W.heap.size W w4 b D1 fp2 r D1 fr4 from HB0.out.turnR hd4 hu4 hs4)
  clear hd4 hu4 hs4
  have hmod := fun (L : WLog) (kk : Int) (ho : D1.openW 0 n = (some L, kk)) => openW_modest HF.out ho
  have HMOD := Lib.hid hmod
  have hop := walOpen_any HB4.out.my.disk 0 n (by omega) hn'
  have hrop := fun (V : World) (hb : Below w4.heap.size w4 V) => rwalOpen_any (HB4.out.ref.below hb) 0 n (by omega) hn' (by omega)
  unfold OpenPost at hop
  unfold ROpenPost at hrop
  clear hmod
  cases ho : D1.openW 0 n with
  | mk oL kk =>
    rw [ho] at hop
    simp only [ho] at hrop
    cases oL with
    | none =>
      have HOP := Lib.hid hop; have HROP := Lib.hid hrop
      clear hop hrop ho
      go_wp2_with fail
      refine HOP.out.mono ?_
      rintro e w5 ⟨rfl, hb5⟩
      have HB5 := Lib.hid hb5
      clear hb5
      go_wp2_with fail
      refine (HROP.out _ HB5.out).mono ?_
      rintro e w6 ⟨rfl, hb6⟩
      have HB6 := Lib.hid ((HB4.out.step HB5.out).step hb6)
      clear hb6
      go_wp2_with fail
      refine (alive5_any _).mono ?_
      rintro e w7 ⟨rfl, hb7⟩
      have HB7 := Lib.hid (HB6.out.step hb7)
      clear hb7
      go_wp2_with fail
      go_ret
      exact ⟨rfl, HB7.out.my.below⟩
    | some L =>
      have HM := Lib.hid (HMOD.out L kk ho).1
      have HOP := Lib.hid hop; have HROP := Lib.hid hrop
      clear hop hrop ho
      go_wp2_with fail
      refine HOP.out.mono ?_
      rintro e w5 ⟨x, gv, rfl, hw5, hb5, _⟩
      have HB5 := Lib.hid hb5
      have HW5 := Lib.hid hw5
      clear hb5 hw5
      go_wp2_with fail
      refine (HROP.out _ HB5.out).mono ?_
      rintro e w6 ⟨y, gy, rfl, hw6, hb6, _⟩
      have HB6 := Lib.hid ((HB4.out.step HB5.out).step hb6)
      have HW6 := Lib.hid (HW5.out.below hb6)
      have HY6 := Lib.hid hw6
      clear hb6 hw6
      go_wp2_with fail
      refine (same5_any HW6.out HY6.out HM.out).mono ?_
      rintro e w7 ⟨rfl, hb7⟩
      have HB7 := Lib.hid (HB6.out.step hb7)
      clear hb7
      go_wp2_with fail
      refine (alive5_any _).mono ?_
      rintro e w8 ⟨rfl, hb8⟩
      have HB8 := Lib.hid (HB7.out.step hb8)
      clear hb8
      go_wp2_with fail
      go_ret
      exact ⟨rfl, HB8.out.my.below⟩
end Go.Proofs.Ythbdflmckfgleaa
