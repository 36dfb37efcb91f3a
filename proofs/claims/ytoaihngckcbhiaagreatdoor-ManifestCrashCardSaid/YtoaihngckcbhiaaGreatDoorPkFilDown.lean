/- FilDown ManTells ManDoes ManCrashS ManTrod ManCrashT -/
import Derived.Test.YtoaihngckcbhiaaGreatDoorPkManB
import Derived.Test.YtoaihngckcbhiaaGreatDoorPkRef32b
section
namespace Go.Proofs.YtoaihngckcbhiaaGreatDoor
open Go.RowKit Go.Maps
open Fil
def FAny (dn : Bool) (w : World) (b y : Nat) (bl : Nat → Prop) (n N : Nat) (A A' : M) : Prop := match dn with
  | false => A = A' ∧ FOk true w b y bl n N A
  | true => FDn w b y bl n N A A'
def FRd (w : World) (b y : Nat) (bl : Nat → Prop) (n N : Nat) (A A' : M) : Prop :=
  ∃ D fp m x gv F D' F', DiskAt w b D fp ∧ FilIn w y b m x gv F ∧ ¬ fp m ∧ D.loose.length ≤ 300000000 ∧ D.n = n ∧ Opens D F' D' ∧ D'.left = -1 ∧ F'.w.gen ≤ N ∧ (F'.m = A ∨ F'.m = A') ∧ (∀ k, fp k ∨ filBlocks y m x gv k → bl k)
section
variable {w w' : World} {b y n N : Nat} {bl : Nat → Prop} {A A' : M} {dn : Bool}
theorem FRe.any {r : Int × M} {c : Int} (h : FRe true w b y bl n N A r c) : (c = r.1 ∧ FAny false w b y bl n N r.2 r.2) ∨ (c = 40 ∧ r.1 = 0 ∧ FAny true w b y bl n N A r.2) :=
  h.imp (fun e => ⟨e.1, rfl, e.2⟩) (fun e => e.2)
theorem FAny.upd {P : Nat → Prop} (h : FAny dn w b y bl n N A A') (hu : Upd P w w') (hs : ∀ k, BlkOf w k 9 → ¬ P k) (hP : ∀ k, bl k → ¬ P k) : FAny dn w' b y bl n N A A' := by
  cases dn with
  | false => exact ⟨h.1, FOk.upd h.2 hu hs hP⟩
  | true => exact FDn.upd h hu hs hP
theorem FAny.below (h : FAny dn w b y bl n N A A') (hb : Below w.heap.size w w') : FAny dn w' b y bl n N A A' := h.upd (Upd.of_below (F := fun _ => False) hb) (fun _ _ f => f) (fun _ _ f => f)
theorem FAny.shrink (h : FAny dn w b y bl n N A A') : FAny dn w b y (fun k => bl k ∧ k < w.heap.size) n N A A' := by
  cases dn with
  | false => exact ⟨h.1, FOk.shrink h.2⟩
  | true =>
    obtain ⟨D, fp, m, x, gv, F, h1, h2, h3, h4, h5, h6, h7, h8, h9, h10⟩ := h
    exact ⟨D, fp, m, x, gv, F, h1, h2, h3, h4, h5, h6, h7, h8, h9, fun k hk => ⟨h10 k hk, hk.elim (h1.lt k) (h2.lt k)⟩⟩
theorem FAny.parts (h : FAny dn w b y bl n N A A') : ∃ D fp m x gv F, DiskAt w b D fp ∧ FilIn w y b m x gv F ∧ ¬ fp m ∧ F.fault = (if dn then 40 else 0) ∧ D.loose.length ≤ 100000000 ∧ D.n = n ∧ Fil.Good A ∧ F.m = A ∧ (∀ k, fp k ∨ filBlocks y m x gv k → bl k) ∧
    (∀ keep, ∃ F' D', Opens (D.crash keep) F' D' ∧ D'.left = -1 ∧ F'.w.gen ≤ N ∧ (F'.m = A ∨ F'.m = A')) := by
  cases dn with
  | false =>
    obtain ⟨e, D, fp, m, x, gv, F, h1, h2, h3, h4, h5, h6, h7, h8, h9⟩ := h
    subst e
    exact ⟨D, fp, m, x, gv, F, h1, h2, h3, h4.fault, by rw [h4.disk.loose]; simp, h6, by rw [← h8]; exact h4.good, h8, h9, fun keep => ⟨F, D.crash keep, (h4.crash keep).opens, rfl, h7, .inl h8⟩⟩
  | true =>
    obtain ⟨D, fp, m, x, gv, F, h1, h2, h3, h4, h5, h6, h7, h8, h9, h10⟩ := h
    exact ⟨D, fp, m, x, gv, F, h1, h2, h3, h4, h5, h6, h7.1, h8, h10, h9⟩
theorem fany_fault (h : FAny dn w b y bl n N A A') : Calls Tryz.prog 13 #[.pointer (some ⟨y, 0, none⟩)] w fun e w' => e = .returned (.int .i64 (if dn then 40 else 0)) ∧ w = w' := by
  obtain ⟨D, fp, m, x, gv, F, h1, h2, h3, h4, _⟩ := h.parts
  refine (Man.ffault_any h2).mono ?_
  rw [h4]
  exact fun e w' h => h
theorem fany_gets (h : FAny dn w b y bl n N A A') : Man.GetsAt w y A := by
  have hg : Fil.Good A := by
    obtain ⟨_, _, _, _, _, _, _, _, _, _, _, _, hg, _⟩ := h.parts
    exact hg
  refine ⟨fun W hW k hk => ?_, Man.good_small hg⟩
  obtain ⟨D, fp, m, x, gv, F, h1, h2, h3, h4, h5, h6, h7, h8, _⟩ := (h.below hW).parts
  have := fget_any h2 k (by unfold maxLen; omega)
  rw [h8] at this
  exact this
theorem filDisk_any {m x : Nat} {gv : Value} {F : St} (h : FilIn w y b m x gv F) : Calls Tryz.prog 8 #[.pointer (some ⟨y, 0, none⟩)] w fun e w' => e = .returned (.pointer (some ⟨b, 0, none⟩)) ∧ w = w' := by
  obtain ⟨c0, _⟩ := h.cells
  clear h
  go_enter Tryz.func8, Tryz.ntmps8
  go_wp2_with fail
  go_ret
  exact ⟨rfl, rfl⟩
theorem fany_disk (h : FAny dn w b y bl n N A A') : Calls Tryz.prog 8 #[.pointer (some ⟨y, 0, none⟩)] w fun e w' => e = .returned (.pointer (some ⟨b, 0, none⟩)) ∧ w = w' := by
  obtain ⟨D, fp, m, x, gv, F, h1, h2, _⟩ := h.parts
  exact filDisk_any h2
theorem frd_disk (h : FRd w b y bl n N A A') : Calls Tryz.prog 8 #[.pointer (some ⟨y, 0, none⟩)] w fun e w' => e = .returned (.pointer (some ⟨b, 0, none⟩)) ∧ w = w' := by
  obtain ⟨D, fp, m, x, gv, F, D', F', h1, h2, _⟩ := h
  exact filDisk_any h2
theorem fany_fuse (h : FAny dn w b y bl n N A A') (k : Int) (hk : k ≤ 9223372036854775807) :
    Calls Tryz.prog 9 #[.pointer (some ⟨b, 0, none⟩), .int .i64 k] w fun e w' => e = .returned (.int .i64 0) ∧ FAny dn w' b y bl n N A A' ∧ Upd (NoS w bl) w w' := by
  cases dn with
  | false =>
    obtain ⟨e, D, fp, m, x, gv, F, h1, h2, h3, h4, h5, h6, h7, h8, h9⟩ := h
    refine (fuse_any h1 k hk).mono ?_
    rintro e' w' ⟨rfl, p1, p2⟩
    exact ⟨rfl, ⟨e, D.fuse k, fp, m, x, gv, F, p1, h2.upd p2 (fun k hk e => h1.noBlk _ e (by decide) (by decide) hk) (files_apart h1 h2 h3), h3, h4.fuse hk, (fun e => by cases e), h6, h7, h8, h9⟩, p2.mono (fun k hk => noS_of h1 h2 h9 k (.inl hk))⟩
  | true =>
    obtain ⟨D, fp, m, x, gv, F, h1, h2, h3, h4, h5, h6, h7, h8, h9, h10⟩ := h
    refine (fuse_any h1 k hk).mono ?_
    rintro e' w' ⟨rfl, p1, p2⟩
    exact ⟨rfl, ⟨D.fuse k, fp, m, x, gv, F, p1, h2.upd p2 (fun k hk e => h1.noBlk _ e (by decide) (by decide) hk) (files_apart h1 h2 h3), h3, h4, h5, h6, h7, h8, h9, h10⟩, p2.mono (fun k hk => noS_of h1 h2 h10 k (.inl hk))⟩
theorem fany_crash (h : FAny dn w b y bl n N A A') (keep : List UInt8) (hk : keep.length ≤ 1000000000) :
    Calls Tryz.prog 10 #[.pointer (some ⟨b, 0, none⟩), .string (bs keep)] w fun e w' => e = .returned (.int .i64 0) ∧ ∃ bl', FRd w' b y bl' n N A A' ∧ Upd (NoS w bl) w w' ∧ ∀ k, bl' k → bl k ∨ w.heap.size ≤ k := by
  obtain ⟨D, fp, m, x, gv, F, h1, h2, h3, h4, h5, h6, h7, h8, h9, h10⟩ := h.parts
  have hml := h2.map.lt
  refine (crash_any h1 keep (by omega) hk).mono ?_
  rintro e w' ⟨rfl, fp', p1, p2, p3⟩
  obtain ⟨F', D', q1, q2, q3, q4⟩ := h10 keep
  refine ⟨rfl, fun k => bl k ∨ w.heap.size ≤ k, ⟨D.crash keep, fp', m, x, gv, F, D', F', p1, h2.upd p2 (fun k hk e => h1.noBlk _ e (by decide) (by decide) hk) (files_apart h1 h2 h3), fun e => (p3 m e).elim h3 (fun f => by omega), by show (0 : Nat) ≤ _; omega, h6, q1, q2, q3, q4, ?_⟩, p2.mono (fun k hk => noS_of h1 h2 h9 k (.inl hk)), fun k hk => hk⟩
  rintro k (hk | hk)
  · exact (p3 k hk).imp (fun e => h9 k (.inl e)) id
  · exact .inl (h9 k (.inr hk))
theorem frd_open (h : FRd w b y bl n N A A') :
    Calls Tryz.prog 11 #[.pointer (some ⟨b, 0, none⟩)] w fun e w' => ∃ y2 bl' A2, e = .returned (.tuple #[.pointer (some ⟨y2, 0, none⟩), .int .i64 0]) ∧ (A2 = A ∨ A2 = A') ∧ FAny false w' b y2 bl' n N A2 A2 ∧ Upd (NoS w bl) w w' ∧ (∀ k, bl' k → bl k ∨ w.heap.size ≤ k) := by
  obtain ⟨D, fp, m, x, gv, F, D', F', h1, h2, h3, h4, h5, h6, h7, h8, h9, h10⟩ := h
  refine (fst_open h1 h6 h7 h4 h8).mono ?_
  rintro e w' ⟨y2, bl', rfl, p1, p2, p3, p4⟩
  exact ⟨y2, bl', F'.m, rfl, h9, ⟨rfl, h5 ▸ p1.loosen⟩, p2.mono (fun k hk => noS_of h1 h2 h10 k (.inl hk)), fun k hk => (p3 k hk).imp (fun e => h10 k (.inl e)) id⟩
end
end Go.Proofs.YtoaihngckcbhiaaGreatDoor
end
section
namespace Go.Proofs.YtoaihngckcbhiaaGreatDoor.Man
open Go.RowKit Go.Maps Wal Fil
def mv (p : Mf) : Nat × T × List T := p.getD (0, [], [])
theorem mv_eq {p q : Mf} (h : p.isSome = q.isSome) : p = q ↔ (mv p).1 = (mv q).1 ∧ (mv p).2.1 = (mv q).2.1 ∧ (mv p).2.2 = (mv q).2.2 := by
  cases p with
  | none =>
    cases q with
    | none => simp
    | some y => cases h
  | some x =>
    cases q with
    | none => cases h
    | some y =>
      obtain ⟨a, b, c⟩ := x
      obtain ⟨a', b', c'⟩ := y
      show some (a, b, c) = some (a', b', c') ↔ a = a' ∧ b = b' ∧ c = c'
      simp
def MPost (w : World) (p : Mf) (e : Ending) (w' : World) : Prop := ∃ q cap, e = .returned (.tuple #[.agg #[.int .u64 ((mv p).1 : Int), .string (bs (mv p).2.1), .slice q (mv p).2.2.length cap], .bool p.isSome, .int .i64 0]) ∧ TextsAt w' q (mv p).2.2 ∧ Below w.heap.size w w'
theorem mpost_lat {w w' : World} {p : Mf} {e : Ending} (h : LatPost w (p, 0) e w') : MPost w p e w' := by
  cases p with
  | none => exact ⟨none, 0, h.2, fun i hi => by simp [mv] at hi, h.1⟩
  | some x =>
    obtain ⟨v, job, l⟩ := x
    obtain ⟨hb, sl, he, ho, _⟩ := h
    obtain ⟨q, cap, rfl⟩ := slice_len ho
    exact ⟨q, cap, he, textsAt_of_row ho, hb⟩
theorem mpost_now {w w' : World} {p : Mf} {e : Ending} (h : NowPost w (p, 0) e w') : MPost w p e w' := by
  cases p with
  | none => exact ⟨none, 0, h.2, fun i hi => by simp [mv] at hi, h.1⟩
  | some x =>
    obtain ⟨v, job, l⟩ := x
    obtain ⟨hb, sl, he, ho, _⟩ := h
    obtain ⟨q, cap, rfl⟩ := slice_len ho
    exact ⟨q, cap, he, textsAt_of_row ho, hb⟩
theorem Canon.small {A : M} {p u : Mf} (h : Canon A p u) : (mv p).2.2.length ≤ 1000 ∧ (mv u).2.2.length ≤ 1000 := by
  constructor
  · cases p with
    | none => simp [mv]
    | some x =>
      obtain ⟨v, job, l⟩ := x
      obtain ⟨_, h2, _⟩ := h.fp
      show l.length ≤ 1000
      omega
  · cases u with
    | none => simp [mv]
    | some x =>
      obtain ⟨v, job, l⟩ := x
      obtain ⟨_, _, _, h2, _⟩ := h.fu
      exact h2
theorem GetsAt.below' {w w' : World} {y : Nat} {A : M} (h : GetsAt w y A) (hb : Below w.heap.size w w') : GetsAt w' y A := ⟨fun W hW k hk => h.gets W (hb.trans (hW.mono hb.size)) k hk, h.small⟩
set_option maxRecDepth 100000 in
set_option maxHeartbeats 4000000 in
theorem tells_any {w : World} {y r : Nat} {A A' : M} {p u p' u' : Mf} (hy : GetsAt w y A) (hc : Canon A p u) (hr : RGetsAt w r A') (hc' : Canon A' p' u') :
    Calls Tryz.prog 12 #[.pointer (some ⟨y, 0, none⟩), .pointer (some ⟨r, 0, none⟩)] w fun e w' => e = .returned (.bool (decide (p = p' ∧ u = u'))) ∧ Below w.heap.size w w' := by
  have H1 := Lib.hid (fun W (hW : Below w.heap.size w W) => (show Calls Tryz.prog 15 #[.pointer (some ⟨y, 0, none⟩)] W fun e w' => MPost W p e w' from by
    have := latest_any (hy.below' hW)
    rw [hc.latest] at this
    exact this.mono fun e w' h => mpost_lat h))
  have H2 := Lib.hid (fun W (hW : Below w.heap.size w W) => (show Calls Tryz.prog 34 #[.pointer (some ⟨r, 0, none⟩)] W fun e w' => MPost W p' e w' from (rlatest_any (hr.below hW) hc').mono fun e w' h => mpost_lat h))
  have H3 := Lib.hid (fun W (hW : Below w.heap.size w W) => (show Calls Tryz.prog 35 #[.pointer (some ⟨y, 0, none⟩)] W fun e w' => MPost W u e w' from by
    have := now_any (hy.below' hW)
    rw [hc.now] at this
    exact this.mono fun e w' h => mpost_now h))
  have H4 := Lib.hid (fun W (hW : Below w.heap.size w W) => (show Calls Tryz.prog 36 #[.pointer (some ⟨r, 0, none⟩)] W fun e w' => MPost W u' e w' from (rnow32_any (hr.below hW) hc').mono fun e w' h => mpost_now h))
  obtain ⟨s1, s3⟩ := hc.small
  obtain ⟨s2, s4⟩ := hc'.small
  have HE1 := Lib.hid (mv_eq (p := p) (q := p'))
  have HE2 := Lib.hid (mv_eq (p := u) (q := u'))
  unfold MPost at H1 H2 H3 H4
  have HD := Lib.hid (show decide (p = p' ∧ u = u') = (decide ((mv p).1 = (mv p').1 ∧ (mv p).2.1 = (mv p').2.1 ∧ (mv p).2.2 = (mv p').2.2) && (p.isSome == p'.isSome) && decide ((mv u).1 = (mv u').1 ∧ (mv u).2.1 = (mv u').2.1 ∧ (mv u).2.2 = (mv u').2.2) && (u.isSome == u'.isSome)) from by
    by_cases e1 : p.isSome = p'.isSome
    · by_cases e2 : u.isSome = u'.isSome
      · have h := and_congr (mv_eq e1) (mv_eq e2)
        rw [e1, e2]
        simp only [beq_self_eq_true, Bool.and_true]
        rw [← Bool.decide_and]
        exact decide_eq_decide.2 h
      · have : ¬ u = u' := fun e => e2 (by rw [e])
        simp [this, e2]
    · have : ¬ p = p' := fun e => e1 (by rw [e])
      simp [this, e1])
  rw [HD.out]
  obtain ⟨i1, hi1⟩ : ∃ i, p.isSome = i := ⟨_, rfl⟩
  obtain ⟨i2, hi2⟩ : ∃ i, p'.isSome = i := ⟨_, rfl⟩
  obtain ⟨i3, hi3⟩ : ∃ i, u.isSome = i := ⟨_, rfl⟩
  obtain ⟨i4, hi4⟩ : ∃ i, u'.isSome = i := ⟨_, rfl⟩
  rw [hi1] at H1
  rw [hi2] at H2
  rw [hi3] at H3
  rw [hi4] at H4
  rw [hi1, hi2, hi3, hi4]
  obtain ⟨⟨v1, j1, l1⟩, hm1⟩ : ∃ m, mv p = m := ⟨_, rfl⟩
  obtain ⟨⟨v2, j2, l2⟩, hm2⟩ : ∃ m, mv p' = m := ⟨_, rfl⟩
  obtain ⟨⟨v3, j3, l3⟩, hm3⟩ : ∃ m, mv u = m := ⟨_, rfl⟩
  obtain ⟨⟨v4, j4, l4⟩, hm4⟩ : ∃ m, mv u' = m := ⟨_, rfl⟩
  rw [hm1] at H1 s1 ⊢
  rw [hm2] at H2 s2 ⊢
  rw [hm3] at H3 s3 ⊢
  rw [hm4] at H4 s4 ⊢
  dsimp only at H1 H2 H3 H4 s1 s2 s3 s4 ⊢
  obtain ⟨b2, hb2⟩ : ∃ b, (i1 == i2) = b := ⟨_, rfl⟩
  obtain ⟨b4, hb4⟩ : ∃ b, (i3 == i4) = b := ⟨_, rfl⟩
  obtain ⟨b1, hb1⟩ : ∃ b, decide (v1 = v2 ∧ j1 = j2 ∧ l1 = l2) = b := ⟨_, rfl⟩
  obtain ⟨b3, hb3⟩ : ∃ b, decide (v3 = v4 ∧ j3 = j4 ∧ l3 = l4) = b := ⟨_, rfl⟩
  rw [hb1, hb2, hb3, hb4]
  have HB1 := Lib.hid hb1; have HB3 := Lib.hid hb3
  clear hy hc hr hc' HD HE1 HE2 hi1 hi2 hi3 hi4 hm1 hm2 hm3 hm4 hb1 hb3
  go_enter Tryz.func12, Tryz.ntmps12
  go_wp2_with fail
  refine (H1.out _ (Below.refl _ _)).mono ?_
  rintro e w1 ⟨q1, c1, rfl, t1, hb1⟩
  have HT1 := Lib.hid t1; have HW1 := Lib.hid hb1
  clear t1 hb1
  go_wp2_with fail
  have HA1 := Lib.hid (heap_alloc_new w1 (.cells #[.int .u64 (v1 : Int), .string (bs j1), .slice q1 l1.length c1] 32))
  have HX1 := Lib.hid (HW1.out.alloc HW1.out.size (.cells #[.int .u64 (v1 : Int), .string (bs j1), .slice q1 l1.length c1] 32))
  refine (H2.out _ HX1.out).mono ?_
  rintro e w2 ⟨q2, c2, rfl, t2, hb2'⟩
  have HT2 := Lib.hid t2; have HW2 := Lib.hid (HX1.out.trans (hb2'.mono HX1.out.size))
  have HA2 := Lib.hid ((hb2'.block _ (blk_lt HA1.out)).trans HA1.out)
  have HT12 := Lib.hid ((HT1.out.below (below_alloc w1 _)).below hb2')
  clear t2 hb2'
  go_wp2_with fail
  have HA2n := Lib.hid (heap_alloc_new w2 (.cells #[.int .u64 (v2 : Int), .string (bs j2), .slice q2 l2.length c2] 32))
  have HA1b := Lib.hid ((heap_alloc_old w2 (.cells #[.int .u64 (v2 : Int), .string (bs j2), .slice q2 l2.length c2] 32) (blk_lt HA2.out)).trans HA2.out)
  have HX2 := Lib.hid (HW2.out.alloc HW2.out.size (.cells #[.int .u64 (v2 : Int), .string (bs j2), .slice q2 l2.length c2] 32))
  have HT12b := Lib.hid (HT12.out.below (below_alloc w2 (.cells #[.int .u64 (v2 : Int), .string (bs j2), .slice q2 l2.length c2] 32)))
  have HT2b := Lib.hid (HT2.out.below (below_alloc w2 (.cells #[.int .u64 (v2 : Int), .string (bs j2), .slice q2 l2.length c2] 32)))
  clear HT1 HT12 HT2 HA1 HA2 HX1 HW1 HW2
  refine (H3.out _ HX2.out).mono ?_
  rintro e w3 ⟨q3, c3, rfl, t3, hb3'⟩
  have HT3 := Lib.hid t3; have HW3 := Lib.hid (HX2.out.trans (hb3'.mono HX2.out.size))
  have HP1 := Lib.hid ((hb3'.block _ (blk_lt HA1b.out)).trans HA1b.out)
  have HP2 := Lib.hid ((hb3'.block _ (blk_lt HA2n.out)).trans HA2n.out)
  have HR1 := Lib.hid (HT12b.out.below hb3')
  have HR2 := Lib.hid (HT2b.out.below hb3')
  clear t3 hb3' HA1b HA2n HT12b HT2b
  go_wp2_with fail
  have HB3w := Lib.hid (below_alloc w3 (.cells #[.int .u64 (v3 : Int), .string (bs j3), .slice q3 l3.length c3] 52))
  have HA3 := Lib.hid (heap_alloc_new w3 (.cells #[.int .u64 (v3 : Int), .string (bs j3), .slice q3 l3.length c3] 52))
  have HX3 := Lib.hid (HW3.out.alloc HW3.out.size (.cells #[.int .u64 (v3 : Int), .string (bs j3), .slice q3 l3.length c3] 52))
  refine (H4.out _ HX3.out).mono ?_
  rintro e w4 ⟨q4, c4, rfl, t4, hb4'⟩
  have hb34 := HB3w.out.trans (hb4'.mono HB3w.out.size)
  have hw4 := HX3.out.trans (hb4'.mono HX3.out.size)
  have hb4n := below_alloc w4 (.cells #[.int .u64 (v4 : Int), .string (bs j4), .slice q4 l4.length c4] 52)
  have hall := hb34.trans (hb4n.mono hb34.size)
  have HWW := Lib.hid (hw4.alloc hw4.size (.cells #[.int .u64 (v4 : Int), .string (bs j4), .slice q4 l4.length c4] 52))
  have HQ1 := Lib.hid ((hall.block _ (blk_lt HP1.out)).trans HP1.out)
  have HQ2 := Lib.hid ((hall.block _ (blk_lt HP2.out)).trans HP2.out)
  have HQ3 := Lib.hid ((hb4n.block _ (Nat.lt_of_lt_of_le (blk_lt HA3.out) hb4'.size)).trans ((hb4'.block _ (blk_lt HA3.out)).trans HA3.out))
  have HQ4 := Lib.hid (heap_alloc_new w4 (.cells #[.int .u64 (v4 : Int), .string (bs j4), .slice q4 l4.length c4] 52))
  have HS1 := Lib.hid (HR1.out.below hall)
  have HS2 := Lib.hid (HR2.out.below hall)
  have HS3 := Lib.hid (((HT3.out.below HB3w.out).below hb4').below hb4n)
  have HS4 := Lib.hid (t4.below hb4n)
  obtain ⟨d10, d11, d12, _, _, _⟩ := row3 HQ1.out
  obtain ⟨d20, d21, d22, _, _, _⟩ := row3 HQ2.out
  clear t4 hb4' hb34 hw4 hb4n hall HP1 HP2 HR1 HR2 HT3 HA3 HX3 HB3w HW3 HX2
  go_wp2_with fail
  have hsm := rsame32_any (v1 := v1) (v2 := v2) (j1 := j1) (j2 := j2) (cap1 := c1) (cap2 := c2) _ HS1.out HS2.out (by omega) (by omega)
  rw [HB1.out] at hsm
  refine hsm.mono ?_
  rintro e w5 ⟨rfl, hb5⟩
  have HW5 := Lib.hid (HWW.out.trans (hb5.mono HWW.out.size))
  obtain ⟨d30, d31, d32, _, _, _⟩ := row3 ((hb5.block _ (blk_lt HQ3.out)).trans HQ3.out)
  obtain ⟨d40, d41, d42, _, _, _⟩ := row3 ((hb5.block _ (blk_lt HQ4.out)).trans HQ4.out)
  have hal := ralike32_any (v1 := v3) (v2 := v4) (j1 := j3) (j2 := j4) (cap1 := c3) (cap2 := c4) w5 (HS3.out.below hb5) (HS4.out.below hb5) (by omega) (by omega)
  rw [HB3.out] at hal
  have HAL := Lib.hid hal
  clear hb5 hsm hal d10 d11 d12 d20 d21 d22
  cases b1 with
  | false =>
    go_wp2_with fail
    go_ret
    exact ⟨by simp, HW5.out⟩
  | true =>
    cases b2 with
    | false =>
      go_wp2_with fail
      go_ret
      exact ⟨by simp, HW5.out⟩
    | true =>
      go_wp2_with fail
      refine HAL.out.mono ?_
      rintro e w6 ⟨rfl, hb6⟩
      have HW6 := Lib.hid (HW5.out.trans (hb6.mono HW5.out.size))
      clear hb6
      cases b3 with
      | false =>
        go_wp2_with fail
        go_ret
        exact ⟨by simp, HW6.out⟩
      | true =>
        cases b4 with
        | false =>
          go_wp2_with fail
          go_ret
          exact ⟨by simp, HW6.out⟩
        | true =>
          go_wp2_with fail
          go_ret
          exact ⟨by simp, HW6.out⟩
end Go.Proofs.YtoaihngckcbhiaaGreatDoor.Man
end
section
namespace Go.Proofs.YtoaihngckcbhiaaGreatDoor.Man
open Go.RowKit Go.Maps Wal Fil
def KeepF (w w' : World) (r : Nat) : Prop := ∀ r2 v2 A2 m2, r2 ≠ r → RFil w r2 v2 A2 m2 → RFil w' r2 v2 A2 m2
theorem KeepF.below {w w' : World} {r : Nat} (hb : Below w.heap.size w w') : KeepF w w' r := fun _ _ _ _ _ h => h.below hb
theorem KeepF.trans {w w1 w2 : World} {r : Nat} (h : KeepF w w1 r) (k : KeepF w1 w2 r) : KeepF w w2 r := fun _ _ _ _ e g => k _ _ _ _ e (h _ _ _ _ e g)
theorem KeepF.noS {w w' : World} {r : Nat} {bl : Nat → Prop} (hu : Upd (NoS w bl) w w') : KeepF w w' r := fun _ _ _ _ _ h => h.noS hu
theorem KeepF.one {w w' : World} {r : Nat} {v : Value} {A : M} {m : Int} (hu : Upd (fun k => k = r) w w') (hr : RFil w r v A m) : KeepF w w' r := fun r2 v2 A2 m2 hne h =>
  ⟨(hu.block r2 (blk_lt h.1) hne).trans h.1, ownsRow_upd h.2 hu (fun g hg e => by
    subst e
    exact BlkOf.ne (ownsRow_blk h.2 hg) ⟨_, _, hr.1⟩ (by decide) rfl)⟩
def Does32 (B : Nat) (w0 w : World) (b y n N : Nat) (A : M) (p : Mf) (r : Nat) (e : Ending) (w' : World) : Prop :=
  ∃ b2 A2 rv2, e = .returned (.bool b2) ∧ Below B w0 w' ∧ B ≤ w'.heap.size ∧ (∃ bl', ((b2 = true ∧ FAny false w' b y bl' n (N + 1) A2 A2) ∨ (b2 = false ∧ FAny true w' b y bl' n (N + 1) A A2)) ∧ ∀ k, bl' k → B ≤ k ∧ k < w'.heap.size) ∧
    RFil w' r rv2 A2 (roomN n) ∧ (∃ p2 u2, Canon A2 p2 u2 ∧ ∀ last, Lasts last p → Lasts last p2) ∧ KeepF w w' r
section
variable {B : Nat} {w0 w W W' W2 w' : World} {b y n N r : Nat} {bl : Nat → Prop} {A : M} {p u : Mf} {q : Int × M} {c : Int}
theorem tight_of {D : Dsk} {fp : Nat → Prop} {m x : Nat} {gv : Value} {F : St} (hd : DiskAt w b D fp) (hf : FilIn w y b m x gv F) (h9 : ∀ k, fp k ∨ filBlocks y m x gv k → bl k) (k : Nat) (hk : fp k ∨ filBlocks y m x gv k) : bl k ∧ k < w.heap.size ∧ ∀ t, BlkOf w k t → t ∈ kindsF := by
  refine ⟨h9 k hk, hk.elim (hd.lt k) (hf.lt k), fun t ht => ?_⟩
  rcases hk with e | e | e | e
  · exact (noS_of hd hf h9 k (.inl e)).2 t ht
  · exact (noS_of hd hf h9 k (.inr (.inl e))).2 t ht
  · subst e; exact (hf.map.noBlk ht).elim
  · exact (noS_of hd hf h9 k (.inr (.inr e))).2 t ht
theorem FAny.tight {dn : Bool} {A' : M} (h : FAny dn w b y bl n N A A') : FAny dn w b y (fun k => bl k ∧ k < w.heap.size ∧ ∀ t, BlkOf w k t → t ∈ kindsF) n N A A' := by
  cases dn with
  | false =>
    obtain ⟨e, D, fp, m, x, gv, F, h1, h2, h3, h4, h5, h6, h7, h8, h9⟩ := h
    exact ⟨e, D, fp, m, x, gv, F, h1, h2, h3, h4, h5, h6, h7, h8, tight_of h1 h2 h9⟩
  | true =>
    obtain ⟨D, fp, m, x, gv, F, h1, h2, h3, h4, h5, h6, h7, h8, h9, h10⟩ := h
    exact ⟨D, fp, m, x, gv, F, h1, h2, h3, h4, h5, h6, h7, h8, h9, tight_of h1 h2 h10⟩
structure Gone1 (B : Nat) (w0 w : World) (b y n N : Nat) (A : M) (q : Int × M) (c : Int) (w' : World) : Prop where
  bel : Below B w0 w'
  low : B ≤ w'.heap.size
  fil : ∃ bl', ((c = q.1 ∧ FAny false w' b y bl' n (N + 1) q.2 q.2) ∨ (c = 40 ∧ q.1 = 0 ∧ FAny true w' b y bl' n (N + 1) A q.2)) ∧ ∀ k, bl' k → B ≤ k ∧ k < w'.heap.size ∧ ∀ t, BlkOf w' k t → t ∈ kindsF
  row : ∀ {k : Nat} {t : TypeId} {cs : Array Value} {fr : Nat × Nat}, w.heap[k]? = some (.cells cs t fr) → t ∉ kindsF → w'.heap[k]? = some (.cells cs t fr)
  size : w.heap.size ≤ w'.heap.size
  keep : ∀ r, KeepF w w' r
  one : ∀ {r : Nat} {v : Value} {A : M} {m : Int}, RFil w r v A m → RFil w' r v A m
theorem gone1 (hb : Below B w0 W) (hB : B ≤ W.heap.size) (hbl : ∀ k, bl k → B ≤ k) (g : GoesX true W b y bl n (N + 1) A q c w') : Gone1 B w0 W b y n N A q c w' := by
  obtain ⟨bl', g1, g2, g3⟩ := g
  refine ⟨below_upd hb g2 (fun k hk => hbl k hk.1) hB, Nat.le_trans hB g2.size, ⟨fun k => bl' k ∧ k < w'.heap.size ∧ ∀ t, BlkOf w' k t → t ∈ kindsF, ?_, fun k hk => ⟨(g3 k hk.1).elim (hbl k) (fun e => Nat.le_trans hB e), hk.2⟩⟩, fun h ht => g2.noS h ht, g2.size, fun r => KeepF.noS g2, fun h => h.noS g2⟩
  rcases g1.any with ⟨h1, h2⟩ | ⟨h1, h2, h3⟩
  · exact .inl ⟨h1, FAny.tight h2⟩
  · exact .inr ⟨h1, h2, FAny.tight h3⟩
theorem end32 {rv0 rv : Value} {A2 : M} {code : Int} {b2 : Bool} (hw : KeepF w W r) (hg : Gone1 B w0 W b y n N A (code, A2) c W') (hr1 : RFil W' r rv0 A (roomN n)) (hr2 : RFil W2 r rv A2 (roomN n)) (hu : Upd (fun k => k = r) W' W2) (hrB : B ≤ r)
    (hcan : ∃ p2 u2, Canon A2 p2 u2 ∧ ∀ last, Lasts last p → Lasts last p2) (hb2 : c = code → b2 = true) (hb3 : c = 40 → code = 0 → b2 = false) (hlast : Below W2.heap.size W2 w') : Does32 B w0 w b y n N A p r (.returned (.bool b2)) w' := by
  have hBB : Below B w0 W2 := below_upd hg.bel hu (fun k hk => by rw [hk]; exact hrB) hg.low
  have hsz : B ≤ W2.heap.size := Nat.le_trans hg.low hu.size
  refine ⟨b2, A2, rv, rfl, hBB.trans (hlast.mono hsz), Nat.le_trans hsz hlast.size, ?_, hr2.below hlast, hcan, ((hw.trans (hg.keep r)).trans (KeepF.one hu hr1)).trans (KeepF.below hlast)⟩
  obtain ⟨bl', h1, h2⟩ := hg.fil
  have hrt : BlkOf W' r 46 := ⟨_, _, hr1.1⟩
  have hne : ∀ k, bl' k → ¬ k = r := fun k hk e => by
    subst e
    exact absurd ((h2 k hk).2.2 _ hrt) (by decide)
  have hst : ∀ k, BlkOf W' k 9 → ¬ k = r := fun k hk e => BlkOf.ne hk hrt (by decide) e
  refine ⟨bl', ?_, fun k hk => ⟨(h2 k hk).1, Nat.lt_of_lt_of_le (h2 k hk).2.1 (Nat.le_trans hu.size hlast.size)⟩⟩
  rcases h1 with ⟨e, h⟩ | ⟨e, e2, h⟩
  · exact .inl ⟨hb2 e, (FAny.upd h hu hst hne).below hlast⟩
  · exact .inr ⟨hb3 e e2, (FAny.upd h hu hst hne).below hlast⟩
end
section
variable {B : Nat} {w0 w : World} {b y n N r : Nat} {bl : Nat → Prop} {A : M} {p u : Mf}
theorem row7 {W : World} {g : Nat} {a0 a1 a2 a3 a4 a5 a6 : Value} {t : TypeId} (h : W.heap[g]? = some (.cells #[a0, a1, a2, a3, a4, a5, a6] t)) : W.cell? ⟨g, 0, none⟩ = some a0 ∧ W.cell? ⟨g, 1, none⟩ = some a1 ∧ W.cell? ⟨g, 2, none⟩ = some a2 ∧ W.cell? ⟨g, 3, none⟩ = some a3 ∧ W.cell? ⟨g, 4, none⟩ = some a4 ∧ W.cell? ⟨g, 5, none⟩ = some a5 ∧ W.cell? ⟨g, 6, none⟩ = some a6 := by
  refine ⟨?_, ?_, ?_, ?_, ?_, ?_, ?_⟩ <;> rw [cell_of_row _ _ _ _ _ _ h] <;> rfl
structure In32 (B : Nat) (w0 w : World) (b y : Nat) (bl : Nat → Prop) (n N : Nat) (A : M) (p u : Mf) (r : Nat) (rv : Value) : Prop where
  bel : Below B w0 w
  low : B ≤ w.heap.size
  at0 : w0.heap.size = B
  fil : FOk true w b y bl n N A
  own : ∀ k, bl k → B ≤ k ∧ k < w.heap.size
  ref : RFil w r rv A (roomN n)
  rlow : B ≤ r
  can : Canon A p u
  few : N < 1000000000
set_option maxRecDepth 100000 in
set_option maxHeartbeats 4000000 in
theorem pub32 {rv : Value} (h : In32 B w0 w b y bl n N A p u r rv) (xn : Int) (v : Nat) (hv : v < 18446744073709551616) (job : T) (hj : job.length ≤ 1000000) {qo : Option Addr} {co : Nat} {outs : List T} (ho : TextsAt w0 qo outs) (hqo : qo = none → co = 0) (hol : outs.length ≤ 20) (hmax : ∀ s ∈ outs, s.length ≤ 300000000000000) (hsum : (∀ s ∈ outs, s.length ≤ 65531) → (outs.map List.length).sum ≤ 800000) (tv : Value) (text : T) :
    Calls Tryz.prog 14 #[.pointer (some ⟨y, 0, none⟩), .pointer (some ⟨r, 0, none⟩), .agg #[.int .i64 0, .int .i64 xn, .int .u64 (v : Int), .string (bs job), .slice qo outs.length co, tv, .string (bs text)]] w fun e w' => Does32 B w0 w b y n N A p r e w' := by
  have hup := h.fil.up
  have HPUB := Lib.hid (fun (W : World) (hW : Below w.heap.size w W) (qm : Option Addr) (cm : Nat) (hT : TextsAt W qm outs) => publish_anyX (cap := cm) (h.fil.below hW) (fun k hk => Nat.lt_of_lt_of_le (h.own k hk).2 hW.size) h.few hT (by omega) hmax v hv job hsum)
  have HREF := Lib.hid (fun (W : World) (hR : RFil W r rv A (roomN n)) (hT : TextsAt W qo outs) => rpublish32_any (cap := co) hR h.can hup.2.2.2.2 hup.2.2.1 hT (by omega) hmax v hv job (by omega) hsum)
  have HCAN := Lib.hid (h.can.publish n hv job outs)
  have H := Lib.hid h
  have HO := Lib.hid (fun (W : World) (hW : Below B w0 W) => (show TextsAt W qo outs from ho.below (by rw [h.at0]; exact hW)))
  obtain ⟨q, hq⟩ : ∃ q, pubT n A v job outs = q := ⟨_, rfl⟩
  rw [hq] at HPUB HREF HCAN
  obtain ⟨code, A2⟩ := q
  have HBX := Lib.hid (below_alloc w (.cells #[.int .i64 0, .int .i64 xn, .int .u64 (v : Int), .string (bs job), .slice qo outs.length co, tv, .string (bs text)] 34))
  have HCX := Lib.hid (heap_alloc_new w (.cells #[.int .i64 0, .int .i64 xn, .int .u64 (v : Int), .string (bs job), .slice qo outs.length co, tv, .string (bs text)] 34))
  clear h ho hq
  go_enter Tryz.func14, Tryz.ntmps14
  have hs1 : (w.alloc (.cells #[.int .i64 0, .int .i64 xn, .int .u64 (v : Int), .string (bs job), .slice qo outs.length co, tv, .string (bs text)] 34)).heap.size = w.heap.size + 1 := World.size_alloc _ _
  have hs2 : ((w.alloc (.cells #[.int .i64 0, .int .i64 xn, .int .u64 (v : Int), .string (bs job), .slice qo outs.length co, tv, .string (bs text)] 34)).alloc (.cells #[.int .u64 (v : Int), .string (bs job), .slice qo outs.length co] 32)).heap.size = w.heap.size + 2 := by rw [World.size_alloc, hs1]
  have HBA := Lib.hid (HBX.out.alloc HBX.out.size (.cells #[.int .u64 (v : Int), .string (bs job), .slice qo outs.length co] 32))
  have HCA := Lib.hid ((heap_alloc_old (w.alloc (.cells #[.int .i64 0, .int .i64 xn, .int .u64 (v : Int), .string (bs job), .slice qo outs.length co, tv, .string (bs text)] 34)) (.cells #[.int .u64 (v : Int), .string (bs job), .slice qo outs.length co] 32) (blk_lt HCX.out)).trans HCX.out)
  have hmf := heap_alloc_new (w.alloc (.cells #[.int .i64 0, .int .i64 xn, .int .u64 (v : Int), .string (bs job), .slice qo outs.length co, tv, .string (bs text)] 34)) (.cells #[.int .u64 (v : Int), .string (bs job), .slice qo outs.length co] 32)
  rw [hs1] at hmf
  have HMF := Lib.hid hmf
  have HTA := Lib.hid (HO.out _ (H.out.bel.trans (HBA.out.mono H.out.low)))
  have HQO := Lib.hid hqo
  have hlow := H.out.low
  clear hmf HBX HCX hqo hs1
  have HS2 := Lib.hid hs2
  clear hs2
  go_wp2_with (at_builtin; refine wpList_append_texts rfl _ _ rfl (w.heap.size + 2) (.slice none 0 0) [] outs rfl (by unfold RowAt; rw [strCells_enc]; exact World.ownsRow_nil _ _ _ _) qo co rfl HTA.out HQO.out (by simp; omega) (by rw [HS2.out]; omega) ?_; intro v1 w1 ho1 hg1 hat1; rw [List.nil_append] at ho1; obtain ⟨q1, cap1, rfl⟩ := slice_len ho1; have HO1 := Lib.hid ho1; have HM1 := Lib.hid ((hg1.block _ (blk_lt HMF.out) (fun e => by cases e)).trans HMF.out); have HC1 := Lib.hid ((hg1.block _ (blk_lt HCA.out) (fun e => by cases e)).trans HCA.out); have HB1 := Lib.hid (HBA.out.grown hg1 (by rw [HS2.out]; omega) (fun j e => by cases e)); obtain ⟨m0, m1, m2, n0, n1, n2⟩ := row3 HM1.out; clear ho1 hg1 hat1)
  have hM2 := heap_setCell_same w1 (w.heap.size + 1) 2 _ _ (.slice q1 outs.length cap1) HM1.out
  have hC2 := (heap_setCell_other w1 ⟨w.heap.size + 1, 2, none⟩ w.heap.size (.slice q1 outs.length cap1) (by show w.heap.size ≠ w.heap.size + 1; omega)).trans HC1.out
  have hT2 := set1_row (j := 2) (x := .slice q1 outs.length cap1) HO1.out HM1.out (by decide)
  have hW2 := HB1.out.setCell (p := ⟨w.heap.size + 1, 2, none⟩) (by show w.heap.size ≤ w.heap.size + 1; omega) (.slice q1 outs.length cap1)
  have HM2 := Lib.hid hM2; have HC2 := Lib.hid hC2; have HT2 := Lib.hid (textsAt_of_row (show RowAt _ (w.heap.size + 2) (.slice q1 outs.length cap1) outs from hT2)); have HW2 := Lib.hid hW2
  clear hM2 hC2 hT2 hW2 m0 m1 m2 n0 n1 n2 HM1 HC1 HO1 HB1 HTA HMF HCA HBA HS2
  generalize w1.setCell ⟨w.heap.size + 1, 2, none⟩ (.slice q1 outs.length cap1) = W at *
  obtain ⟨a0, a1, a2, _, _, _⟩ := row3 HM2.out
  obtain ⟨_, _, e2, e3, e4, _, _⟩ := row7 HC2.out
  go_region_held3 (fun V => V.cell? ⟨w.heap.size + 1, 0, none⟩ = some (.int .u64 (v : Int)) ∧ V.cell? ⟨w.heap.size + 1, 1, none⟩ = some (.string (bs job)) ∧ V.cell? ⟨w.heap.size + 1, 2, none⟩ = some (.slice q1 outs.length cap1) ∧ V.cell? ⟨w.heap.size, 2, none⟩ = some (.int .u64 (v : Int)) ∧ V.cell? ⟨w.heap.size, 3, none⟩ = some (.string (bs job)) ∧ V.cell? ⟨w.heap.size, 4, none⟩ = some (.slice qo outs.length co)) (go_keep)
    (first
      | (go_at_call 16; refine (HPUB.out _ HW2.out.drew _ _ (HT2.out.below (Below.refl _ _).drew)).mono ?_; rintro e w2 ⟨c, rfl, g⟩; have hg := gone1 (H.out.bel.trans (HW2.out.drew.mono H.out.low)) (Nat.le_trans H.out.low HW2.out.drew.size) (fun k hk => (H.out.own k hk).1) g; have HG := Lib.hid hg; obtain ⟨a0', a1', a2', _, _, _⟩ := row3 (hg.row (show W.drew.heap[w.heap.size + 1]? = _ from HM2.out) (by decide)); obtain ⟨_, _, e2', e3', e4', _, _⟩ := row7 (hg.row (show W.drew.heap[w.heap.size]? = _ from HC2.out) (by decide)); clear g hg)
      | (go_at_call 38; have hrf := HG.out.one (H.out.ref.below HW2.out.drew); refine (HREF.out _ hrf (HO.out _ HG.out.bel)).mono ?_; rintro e w3 ⟨rfl, rv3, g1, g2⟩; have HG3 := Lib.hid (And.intro hrf (And.intro g1 g2)); have hne1 : w.heap.size + 1 ≠ r := (fun e => BlkOf.ne (t := 32) ⟨_, _, HG.out.row (show W.drew.heap[w.heap.size + 1]? = _ from HM2.out) (by decide)⟩ ⟨_, _, hrf.1⟩ (by decide) e); have hne2 : w.heap.size ≠ r := (fun e => BlkOf.ne (t := 34) ⟨_, _, HG.out.row (show W.drew.heap[w.heap.size]? = _ from HC2.out) (by decide)⟩ ⟨_, _, hrf.1⟩ (by decide) e); obtain ⟨a0'', a1'', a2'', _, _, _⟩ := row3 ((g2.block _ (blk_lt (HG.out.row (show W.drew.heap[w.heap.size + 1]? = _ from HM2.out) (by decide))) hne1).trans (HG.out.row (show W.drew.heap[w.heap.size + 1]? = _ from HM2.out) (by decide))); obtain ⟨_, _, e2'', e3'', e4'', _, _⟩ := row7 ((g2.block _ (blk_lt (HG.out.row (show W.drew.heap[w.heap.size]? = _ from HC2.out) (by decide))) hne2).trans (HG.out.row (show W.drew.heap[w.heap.size]? = _ from HC2.out) (by decide))); clear g1 g2 hrf))
  all_goals
    go_wp2_with fail
    go_ret
    refine end32 (KeepF.below HW2.out.drew) HG.out HG3.out.1 HG3.out.2.1 HG3.out.2.2 H.out.rlow ?_ (fun e => by simpa using e) (fun e e2 => by subst e e2; rfl) (Below.refl _ _)
    rcases HCAN.out with ⟨_, h2⟩ | ⟨_, h2, h3⟩
    · have h2 : A2 = A := h2
      rw [h2]
      exact ⟨p, u, H.out.can, fun _ h => h⟩
    · exact ⟨_, _, h2, fun last hl => hl.pub H.out.can h3 job outs⟩
theorem run_copies (w : World) (ty : TypeId) (a : Option Addr) (cap : Nat) (l : List (List UInt8)) (h : TextsAt w a l) (hz : a = none → cap = 0) (hlen : l.length ≤ 1000000000) :
    ∃ v' w', (Builtin.append_ #[30, 30] ty #[.slice none 0 0, .slice a l.length cap]).run Tryz.prog w = .ok v' w' ∧ w'.ownsRow 0 9 1 v' l.length (strCells l) ∧ Below w.heap.size w w' ∧ ∀ g, v'.ownBlock = some g → w.heap.size ≤ g := by
  obtain ⟨i0, hi0, hz0, hz1, hz2⟩ := info_parts str_info
  cases a with
  | none =>
    have e : l = [] := by
      cases l with
      | nil => rfl
      | cons x l => obtain ⟨p, hp, _⟩ := h 0 (by simp); cases hp
    subst e
    rw [hz rfl]
    refine ⟨_, w, run_append_owned_none (P := Tryz.prog) (w := w) 0 30 ty 9 i0 1 Tryz.underlying30 hi0 _ 0 [] (World.ownsRow_nil _ _ _ _), ?_, Below.refl _ _, fun g e => by simp [Value.ownBlock] at e⟩
    rw [strCells_nil]
    exact World.ownsRow_nil _ _ _ _
  | some p =>
    have hc : ∀ j u, (strCells l)[j]? = some u → w.cell? (p.add j) = some u := fun j u hj => by
      have hjl : j < l.length := by
        have := (List.getElem?_eq_some_iff.1 hj).1
        rwa [strCells_length] at this
      obtain ⟨p', hp', hcell⟩ := h j hjl
      cases hp'
      rw [strCells_get l j hjl] at hj
      rw [hcell, ← hj]
    obtain ⟨v', w', hr, g2, g3, _, g5⟩ := run_append_own_at (P := Tryz.prog) w 0 30 ty 9 i0 _ 1 16 Tryz.underlying30 hi0 hz0 hz1 hz2 rfl (by omega) (.slice none 0 0) 0 [] (World.ownsRow_nil _ _ _ _) p l.length cap (strCells l) (by rw [strCells_length]; omega) hc (strCells_one l) (by unfold maxLen; omega) (by omega) (Nat.zero_le _)
    rw [Nat.zero_add, List.nil_append] at g2
    refine ⟨v', w', hr, g2, (Below.refl _ w).grown g3 (Nat.le_refl _) (fun k e => by cases e), fun k hk => ?_⟩
    rcases g5 with g5 | g5
    · rw [g5] at hk; cases hk
    · rw [g5] at hk
      have := Option.some.inj hk
      omega
theorem step_copies {w : World} {ops : Array Oper} {o : Oper} {a : Act} {K : Act → World → Prop} {Q : Exit → Act → World → Prop} {E : Prop} (hgd : o.guard = none) (s x : Operand)
    (ho : o.op = .call { callee := .builtin .append, args := #[s, x], argTypes := #[30, 30] }) (hs : a.eval s = .slice none 0 0) (ad : Option Addr) (cap : Nat) (l : List T) (hx : a.eval x = .slice ad l.length cap)
    (ht : TextsAt w ad l) (hz : ad = none → cap = 0) (hlen : l.length ≤ 1000000000)
    (h : ∀ v' w', w'.ownsRow 0 9 1 v' l.length (strCells l) → Below w.heap.size w w' → (∀ g, v'.ownBlock = some g → w.heap.size ≤ g) → K (a.put o.dst v') w') :
    if Region.wanted o (yielded ops a.tmps) = true then Oper.wp Tryz.prog o a w K Q else E := by
  have hw : Region.wanted o (yielded ops a.tmps) = true := by simp [Region.wanted, hgd]
  rw [if_pos hw]
  obtain ⟨v', w', hr, h2, h3, h4⟩ := run_copies w o.type ad cap l ht hz hlen
  unfold Oper.wp execOp
  simp only [ho, resolve, invoke, builtin, Sem.run_bind, Sem.run_pure, Result.andThen_ok, List.map_toArray, List.map_cons, List.map_nil, hs, hx, hr]
  exact h v' w' h2 h3 h4
theorem row_capz {w : World} {base : Nat} {q : Option Addr} {c : Nat} {l : List T} (h : RowAt w base (.slice q l.length c) l) : q = none → c = 0 := fun e => by
  rcases h.parts with ⟨e1, _⟩ | ⟨_, cap', e1, _⟩
  · injection e1
  · injection e1 with e1; rw [e1] at e; cases e
set_option maxRecDepth 100000 in
set_option maxHeartbeats 4000000 in
theorem done32 {rv : Value} (h : In32 B w0 w b y bl n N A p u r rv) (xn v : Int) (job : T) (ov : Value) {qt : Option Addr} {ct : Nat} {tasks : List T} (ht : TextsAt w0 qt tasks) (hqt : qt = none → ct = 0) (htl : tasks.length ≤ 1100) (hts : ∀ t ∈ tasks, t.length ≤ 500000) (text : T) :
    Calls Tryz.prog 14 #[.pointer (some ⟨y, 0, none⟩), .pointer (some ⟨r, 0, none⟩), .agg #[.int .i64 2, .int .i64 xn, .int .u64 v, .string (bs job), ov, .slice qt tasks.length ct, .string (bs text)]] w fun e w' => Does32 B w0 w b y n N A p r e w' := by
  have hup := h.fil.up
  have HDON := Lib.hid (fun (W : World) (hW : Below w.heap.size w W) (qm : Option Addr) (cm : Nat) (hT : TextsAt W qm tasks) (hz : qm = none → cm = 0) => done_anyX (h.fil.below hW) (fun k hk => Nat.lt_of_lt_of_le (h.own k hk).2 hW.size) h.few hT hz (by omega) hts)
  have HREF := Lib.hid (fun (W : World) (hR : RFil W r rv A (roomN n)) (hT : TextsAt W qt tasks) => rdone32_any hR h.can hup.2.2.2.2 hup.2.2.1 hT hqt (by omega) hts)
  have HCAN := Lib.hid (h.can.done n tasks)
  have H := Lib.hid h
  have HO := Lib.hid (fun (W : World) (hW : Below B w0 W) => (show TextsAt W qt tasks from ht.below (by rw [h.at0]; exact hW)))
  rw [h.can.doneR hup.2.2.1] at HREF
  obtain ⟨q, hq⟩ : ∃ q, doneT n A tasks = q := ⟨_, rfl⟩
  rw [hq] at HDON HREF HCAN
  obtain ⟨code, A2⟩ := q
  have HBX := Lib.hid (below_alloc w (.cells #[.int .i64 2, .int .i64 xn, .int .u64 v, .string (bs job), ov, .slice qt tasks.length ct, .string (bs text)] 34))
  have HCX := Lib.hid (heap_alloc_new w (.cells #[.int .i64 2, .int .i64 xn, .int .u64 v, .string (bs job), ov, .slice qt tasks.length ct, .string (bs text)] 34))
  have HQT := Lib.hid hqt
  have hlow := h.low
  clear h ht hq hqt
  go_enter Tryz.func14, Tryz.ntmps14
  go_wp2_with fail
  obtain ⟨_, _, _, _, _, e5, _⟩ := row7 HCX.out
  generalize w.alloc (.cells #[.int .i64 2, .int .i64 xn, .int .u64 v, .string (bs job), ov, .slice qt tasks.length ct, .string (bs text)] 34) = W at *
  go_region_held3 (fun V => V.cell? ⟨w.heap.size, 5, none⟩ = some (.slice qt tasks.length ct)) (go_keep)
    (first
      | (refine step_copies (by rfl) _ _ (by rfl) (by rfl) qt ct tasks (by rfl) (HO.out _ (H.out.bel.trans (HBX.out.drew.mono H.out.low))) HQT.out (by omega) ?_; intro va wa hA hBA hNA; obtain ⟨qA, cA, rfl⟩ := slice_len hA; have HTA := Lib.hid (textsAt_of_row (show RowAt wa 0 (.slice qA tasks.length cA) tasks from hA)); have HZA := Lib.hid (row_capz (show RowAt wa 0 (.slice qA tasks.length cA) tasks from hA)); have HBA := Lib.hid (HBX.out.drew.trans (hBA.mono HBX.out.drew.size)); have HCA := Lib.hid ((hBA.block _ (blk_lt (show W.drew.heap[w.heap.size]? = _ from HCX.out))).trans (show W.drew.heap[w.heap.size]? = _ from HCX.out)); obtain ⟨_, _, _, _, _, f5, _⟩ := row7 HCA.out; clear hA hBA hNA)
      | (go_at_call 18; refine (HDON.out _ HBA.out _ _ HTA.out HZA.out).mono ?_; rintro e w2 ⟨c, rfl, g⟩; have hg := gone1 (H.out.bel.trans (HBA.out.mono H.out.low)) (Nat.le_trans H.out.low HBA.out.size) (fun k hk => (H.out.own k hk).1) g; have HG := Lib.hid hg; obtain ⟨_, _, _, _, _, g5, _⟩ := row7 (hg.row HCA.out (by decide)); clear g hg)
      | (go_at_call 40; have hrf := HG.out.one (H.out.ref.below HBA.out); refine (HREF.out _ hrf (HO.out _ HG.out.bel)).mono ?_; rintro e w3 ⟨rfl, rv3, g1, g2⟩; have HG3 := Lib.hid (And.intro hrf (And.intro g1 g2)); have hne2 : w.heap.size ≠ r := (fun e => BlkOf.ne (t := 34) ⟨_, _, HG.out.row HCA.out (by decide)⟩ ⟨_, _, hrf.1⟩ (by decide) e); obtain ⟨_, _, _, _, _, h5, _⟩ := row7 ((g2.block _ (blk_lt (HG.out.row HCA.out (by decide))) hne2).trans (HG.out.row HCA.out (by decide))); clear g1 g2 hrf))
  all_goals
    go_wp2_with fail
    go_ret
    refine end32 (KeepF.below HBA.out) HG.out HG3.out.1 HG3.out.2.1 HG3.out.2.2 H.out.rlow ?_ (fun e => by simpa using e) (fun e e2 => by subst e e2; rfl) (Below.refl _ _)
    rcases HCAN.out with h2 | ⟨_, u', h2⟩
    · have h2 : A2 = A := h2
      rw [h2]
      exact ⟨p, u, H.out.can, fun _ h => h⟩
    · exact ⟨p, u', h2, fun _ h => h⟩
set_option maxRecDepth 100000 in
set_option maxHeartbeats 4000000 in
theorem begin32 {rv : Value} (h : In32 B w0 w b y bl n N A p u r rv) (xn : Int) (v : Nat) (hv : v < 18446744073709551616) (job : T) (hj : job.length ≤ 1000000) (ov tv : Value) (text : T) :
    Calls Tryz.prog 14 #[.pointer (some ⟨y, 0, none⟩), .pointer (some ⟨r, 0, none⟩), .agg #[.int .i64 1, .int .i64 xn, .int .u64 (v : Int), .string (bs job), ov, tv, .string (bs text)]] w fun e w' => Does32 B w0 w b y n N A p r e w' := by
  have hup := h.fil.up
  have HBEG := Lib.hid (fun (W : World) (hW : Below w.heap.size w W) => begin_any (h.fil.below hW) (fun k hk => Nat.lt_of_lt_of_le (h.own k hk).2 hW.size) h.few v hv job)
  have HREF := Lib.hid (fun (W : World) (hR : RFil W r rv A (roomN n)) => rbegin32_any hR h.can hup.2.2.2.2 hup.2.2.1 v hv job (by omega))
  have HCAN := Lib.hid (h.can.begin n hv job)
  have HCOD := Lib.hid (fun e => begin_code (n := n) (A := A) (v := v) (job := job) e)
  have H := Lib.hid h
  obtain ⟨q, hq⟩ : ∃ q, beginT n A v job = q := ⟨_, rfl⟩
  rw [hq] at HBEG HREF HCAN HCOD
  obtain ⟨⟨rj, rv', rl⟩, code, A2⟩ := q
  have HBX := Lib.hid (below_alloc w (.cells #[.int .i64 1, .int .i64 xn, .int .u64 (v : Int), .string (bs job), ov, tv, .string (bs text)] 34))
  have HCX := Lib.hid (heap_alloc_new w (.cells #[.int .i64 1, .int .i64 xn, .int .u64 (v : Int), .string (bs job), ov, tv, .string (bs text)] 34))
  have hrl : rl.length ≤ 1000 := by
    rcases HCAN.out with ⟨h1, _⟩ | ⟨_, l, h1, h2⟩
    · have := HCOD.out h1
      injection this with _ this
      injection this with _ this
      rw [this]; simp
    · injection h1 with _ h1
      injection h1 with _ h1
      rw [h1]
      exact h2.fu.2.2.2.1
  clear h hq
  go_enter Tryz.func14, Tryz.ntmps14
  obtain ⟨_, _, e2, e3, _, _, _⟩ := row7 HCX.out
  go_wp2_with fail
  refine (HBEG.out _ HBX.out).mono ?_
  rintro e w2 ⟨sl, bl', ⟨uj, uv, ul⟩, c, rfl, ho2, _, hu0, hu1, gre, gup, gst⟩
  obtain ⟨q2, c2, rfl⟩ := slice_len ho2
  have hg := gone1 (H.out.bel.trans (HBX.out.mono H.out.low)) (Nat.le_trans H.out.low HBX.out.size) (fun k hk => (H.out.own k hk).1) (q := (code, A2)) ⟨bl', gre, gup, gst⟩
  have HG := Lib.hid hg
  have HC2 := Lib.hid (hg.row HCX.out (by decide))
  have HO2 := Lib.hid ho2
  have hul : ul.length ≤ 1000 := by
    by_cases e : c = 0
    · have := hu0 e
      injection this with _ this
      injection this with _ this
      rw [this]; exact hrl
    · have := hu1 e
      injection this with _ this
      injection this with _ this
      rw [this]; simp
  have HU0 := Lib.hid hu0; have HU1 := Lib.hid hu1
  have HSZ := Lib.hid gup.size
  clear ho2 hu0 hu1 gre gup gst hg e2 e3
  have HBN := Lib.hid (below_alloc w2 (.cells #[.int .u64 (uv : Int), .string (bs uj), .slice q2 ul.length c2] 52))
  have HUN := Lib.hid (heap_alloc_new w2 (.cells #[.int .u64 (uv : Int), .string (bs uj), .slice q2 ul.length c2] 52))
  have HCN := Lib.hid ((heap_alloc_old w2 (.cells #[.int .u64 (uv : Int), .string (bs uj), .slice q2 ul.length c2] 52) (blk_lt HC2.out)).trans HC2.out)
  obtain ⟨_, _, e2, e3, _, _, _⟩ := row7 HCN.out
  have hrf := (HG.out.one (H.out.ref.below HBX.out))
  have HRF := Lib.hid hrf
  have HRN := Lib.hid (hrf.below HBN.out)
  have HON := Lib.hid ((show RowAt w2 0 (.slice q2 ul.length c2) ul from HO2.out).alloc (.cells #[.int .u64 (uv : Int), .string (bs uj), .slice q2 ul.length c2] 52))
  clear hrf
  go_wp2_with fail
  refine (HREF.out _ HRN.out).mono ?_
  rintro e w3 ⟨sl3, rv3, rfl, ho3, g1, g2⟩
  obtain ⟨q3, c3, rfl⟩ := slice_len ho3
  have HG1 := Lib.hid g1; have HG2 := Lib.hid g2
  have hrt : BlkOf (w2.alloc (.cells #[.int .u64 (uv : Int), .string (bs uj), .slice q2 ul.length c2] 52)) r 46 := ⟨_, _, HRN.out.1⟩
  have HUN3 := Lib.hid ((g2.block _ (blk_lt HUN.out) (fun e => BlkOf.ne (t := 52) ⟨_, _, HUN.out⟩ hrt (by decide) e)).trans HUN.out)
  have HON3 := Lib.hid (ownsRow_upd HON.out g2 (fun g hg e => BlkOf.ne (ownsRow_blk HON.out hg) hrt (by decide) e))
  have HO3 := Lib.hid ho3
  have HBL := Lib.hid (below_alloc w3 (.cells #[.int .u64 (rv' : Int), .string (bs rj), .slice q3 rl.length c3] 52))
  have HU4 := Lib.hid (heap_alloc_new w3 (.cells #[.int .u64 (rv' : Int), .string (bs rj), .slice q3 rl.length c3] 52))
  have HU3 := Lib.hid ((heap_alloc_old w3 (.cells #[.int .u64 (rv' : Int), .string (bs rj), .slice q3 rl.length c3] 52) (blk_lt HUN3.out)).trans HUN3.out)
  have hal := ralike32_any (v1 := uv) (v2 := rv') (j1 := uj) (j2 := rj) (cap1 := c2) (cap2 := c3) (w3.alloc (.cells #[.int .u64 (rv' : Int), .string (bs rj), .slice q3 rl.length c3] 52)) ((textsAt_of_row (show RowAt w3 0 (.slice q2 ul.length c2) ul from HON3.out)).below HBL.out) ((textsAt_of_row (show RowAt w3 0 (.slice q3 rl.length c3) rl from HO3.out)).below HBL.out) (by omega) (by omega)
  obtain ⟨a0, a1, a2, _, _, _⟩ := row3 HU3.out
  obtain ⟨b0, b1, b2', _, _, _⟩ := row3 HU4.out
  obtain ⟨bA, hbA⟩ : ∃ b, decide (uv = rv' ∧ uj = rj ∧ ul = rl) = b := ⟨_, rfl⟩
  rw [hbA] at hal
  have HBA := Lib.hid hbA
  have HAL := Lib.hid hal
  clear e2 e3 hrt ho3 g1 g2 hal hbA
  have hcan : ∃ p2 u2, Canon A2 p2 u2 ∧ ∀ last, Lasts last p → Lasts last p2 := by
    rcases HCAN.out with ⟨_, h2⟩ | ⟨_, l, _, h2⟩
    · have h2 : A2 = A := h2
      rw [h2]
      exact ⟨p, u, H.out.can, fun _ h => h⟩
    · exact ⟨p, _, h2, fun _ h => h⟩
  have HCN2 := Lib.hid hcan
  have htrue : c = code → bA = true := fun e => by
    rw [← HBA.out]
    by_cases e0 : c = 0
    · have := HU0.out e0
      injection this with h1 this
      injection this with h2 h3
      rw [h1, h2, h3]; simp
    · have h4 := HU1.out e0
      have h5 := HCOD.out (by rw [← e]; exact e0)
      have h6 := h4.trans h5.symm
      injection h6 with h1 h6
      injection h6 with h2 h3
      rw [h1, h2, h3]; simp
  have HTR := Lib.hid htrue
  clear hcan htrue
  go_wp2_with fail
  refine HAL.out.mono ?_
  rintro e w4 ⟨rfl, hb4⟩
  have HB4 := Lib.hid (HBL.out.trans (hb4.mono HBL.out.size))
  clear hb4
  have hkw : KeepF w (w.alloc (.cells #[.int .i64 1, .int .i64 xn, .int .u64 (v : Int), .string (bs job), ov, tv, .string (bs text)] 34)) r := KeepF.below HBX.out
  have HFIN := Lib.hid (fun (b2 : Bool) (h1 : c = code → b2 = true) (h2 : c = 40 → code = 0 → b2 = false) => (show Does32 B w0 w b y n N A p r (.returned (.bool b2)) w4 from by
    have hgn : Gone1 B w0 (w.alloc (.cells #[.int .i64 1, .int .i64 xn, .int .u64 (v : Int), .string (bs job), ov, tv, .string (bs text)] 34)) b y n N A (code, A2) c (w2.alloc (.cells #[.int .u64 (uv : Int), .string (bs uj), .slice q2 ul.length c2] 52)) := by
      have g := HG.out
      refine ⟨g.bel.trans (HBN.out.mono g.low), Nat.le_trans g.low HBN.out.size, ?_, fun h ht => (heap_alloc_old w2 (.cells #[.int .u64 (uv : Int), .string (bs uj), .slice q2 ul.length c2] 52) (blk_lt (g.row h ht))).trans (g.row h ht), Nat.le_trans g.size HBN.out.size, fun r => (g.keep r).trans (KeepF.below HBN.out), fun h => (g.one h).below HBN.out⟩
      obtain ⟨bl', f1, f2⟩ := g.fil
      refine ⟨bl', f1.imp (fun e => ⟨e.1, e.2.below HBN.out⟩) (fun e => ⟨e.1, e.2.1, e.2.2.below HBN.out⟩), fun k hk => ⟨(f2 k hk).1, Nat.lt_of_lt_of_le (f2 k hk).2.1 HBN.out.size, fun t ht => (f2 k hk).2.2 t ?_⟩⟩
      obtain ⟨cs, fr, hh⟩ := ht
      exact ⟨cs, fr, (HBN.out.block k (f2 k hk).2.1).symm.trans hh⟩
    exact end32 hkw hgn HRN.out HG1.out HG2.out H.out.rlow HCN2.out h1 h2 HB4.out))
  cases bA with
  | false =>
    go_wp2_with fail
    go_ret
    exact HFIN.out false (fun e => HTR.out e) (fun _ _ => rfl)
  | true =>
    go_wp2_with fail
    go_ret
    exact HFIN.out _ (fun e => by simpa using e) (fun e e2 => by subst e e2; rfl)
end
end Go.Proofs.YtoaihngckcbhiaaGreatDoor.Man
end
section
namespace Go.Proofs.YtoaihngckcbhiaaGreatDoor.Man
open Go.RowKit Go.Maps Wal Fil
def RowsStay (W W' : World) : Prop := ∀ {k : Nat} {t : TypeId} {cs : Array Value} {fr : Nat × Nat}, W.heap[k]? = some (.cells cs t fr) → t ∉ kindsF → W'.heap[k]? = some (.cells cs t fr)
structure St32 (B : Nat) (w0 W : World) (dn : Bool) (b y n N : Nat) (A A' : M) (p u p' u' : Mf) (r : Nat) (rv : Value) (nx : Nat) (nv : Value) (last : Nat) : Prop where
  bel : Below B w0 W
  low : B ≤ W.heap.size
  fil : ∃ bl, FAny dn W b y bl n N A A' ∧ ∀ k, bl k → B ≤ k ∧ k < W.heap.size
  ref : RFil W r rv A (roomN n)
  nxt : RFil W nx nv A' (roomN n)
  rlow : B ≤ r
  nlow : B ≤ nx
  can : Canon A p u
  can' : Canon A' p' u'
  las : Lasts last p
  las' : Lasts last p'
structure Rd32 (B : Nat) (w0 W : World) (b y n N : Nat) (A A' : M) (p u p' u' : Mf) (r : Nat) (rv : Value) (nx : Nat) (nv : Value) (last : Nat) : Prop where
  bel : Below B w0 W
  low : B ≤ W.heap.size
  fil : ∃ bl, FRd W b y bl n N A A' ∧ ∀ k, bl k → B ≤ k
  ref : RFil W r rv A (roomN n)
  nxt : RFil W nx nv A' (roomN n)
  rlow : B ≤ r
  nlow : B ≤ nx
  can : Canon A p u
  can' : Canon A' p' u'
  las : Lasts last p
  las' : Lasts last p'
section
variable {B : Nat} {w0 W W' : World} {dn : Bool} {b y n N : Nat} {A A' : M} {p u p' u' : Mf} {r nx last : Nat} {rv nv : Value}
theorem St32.step (h : St32 B w0 W dn b y n N A A' p u p' u' r rv nx nv last) (hb : Below W.heap.size W W') : St32 B w0 W' dn b y n N A A' p u p' u' r rv nx nv last := by
  obtain ⟨bl, h1, h2⟩ := h.fil
  exact ⟨h.bel.trans (hb.mono h.low), Nat.le_trans h.low hb.size, ⟨bl, h1.below hb, fun k hk => ⟨(h2 k hk).1, Nat.lt_of_lt_of_le (h2 k hk).2 hb.size⟩⟩, h.ref.below hb, h.nxt.below hb, h.rlow, h.nlow, h.can, h.can', h.las, h.las'⟩
theorem st_fault (h : St32 B w0 W dn b y n N A A' p u p' u' r rv nx nv last) : Calls Tryz.prog 13 #[.pointer (some ⟨y, 0, none⟩)] W fun e w' => e = .returned (.int .i64 (if dn then 40 else 0)) ∧ W = w' := by
  obtain ⟨bl, h1, _⟩ := h.fil
  exact fany_fault h1
theorem st_disk (h : St32 B w0 W dn b y n N A A' p u p' u' r rv nx nv last) : Calls Tryz.prog 8 #[.pointer (some ⟨y, 0, none⟩)] W fun e w' => e = .returned (.pointer (some ⟨b, 0, none⟩)) ∧ W = w' := by
  obtain ⟨bl, h1, _⟩ := h.fil
  exact fany_disk h1
theorem st_fuse (h : St32 B w0 W dn b y n N A A' p u p' u' r rv nx nv last) (k : Int) (hk : k ≤ 9223372036854775807) : Calls Tryz.prog 9 #[.pointer (some ⟨b, 0, none⟩), .int .i64 k] W fun e w' => e = .returned (.int .i64 0) ∧ St32 B w0 w' dn b y n N A A' p u p' u' r rv nx nv last ∧ RowsStay W w' := by
  obtain ⟨bl, h1, h2⟩ := h.fil
  refine (fany_fuse h1 k hk).mono ?_
  rintro e w' ⟨rfl, g1, g2⟩
  exact ⟨rfl, ⟨below_upd h.bel g2 (fun k hk => (h2 k hk.1).1) h.low, Nat.le_trans h.low g2.size, ⟨bl, g1, fun k hk => ⟨(h2 k hk).1, Nat.lt_of_lt_of_le (h2 k hk).2 g2.size⟩⟩, h.ref.noS g2, h.nxt.noS g2, h.rlow, h.nlow, h.can, h.can', h.las, h.las'⟩, fun hh ht => g2.noS hh ht⟩
theorem st_crash (h : St32 B w0 W dn b y n N A A' p u p' u' r rv nx nv last) (keep : T) (hk : keep.length ≤ 1000000000) : Calls Tryz.prog 10 #[.pointer (some ⟨b, 0, none⟩), .string (bs keep)] W fun e w' => e = .returned (.int .i64 0) ∧ Rd32 B w0 w' b y n N A A' p u p' u' r rv nx nv last ∧ RowsStay W w' := by
  obtain ⟨bl, h1, h2⟩ := h.fil
  refine (fany_crash h1 keep hk).mono ?_
  rintro e w' ⟨rfl, bl', g1, g2, g3⟩
  exact ⟨rfl, ⟨below_upd h.bel g2 (fun k hk => (h2 k hk.1).1) h.low, Nat.le_trans h.low g2.size, ⟨bl', g1, fun k hk => (g3 k hk).elim (fun e => (h2 k e).1) (fun e => Nat.le_trans h.low e)⟩, h.ref.noS g2, h.nxt.noS g2, h.rlow, h.nlow, h.can, h.can', h.las, h.las'⟩, fun hh ht => g2.noS hh ht⟩
theorem rd_disk (h : Rd32 B w0 W b y n N A A' p u p' u' r rv nx nv last) : Calls Tryz.prog 8 #[.pointer (some ⟨y, 0, none⟩)] W fun e w' => e = .returned (.pointer (some ⟨b, 0, none⟩)) ∧ W = w' := by
  obtain ⟨bl, h1, _⟩ := h.fil
  exact frd_disk h1
def Op32 (B : Nat) (w0 : World) (b n N : Nat) (A A' : M) (p u p' u' : Mf) (r : Nat) (rv : Value) (nx : Nat) (nv : Value) (_ : Nat) (e : Ending) (w' : World) : Prop :=
  ∃ y2 A2 p2 u2, e = .returned (.tuple #[.pointer (some ⟨y2, 0, none⟩), .int .i64 0]) ∧ ((A2 = A ∧ p2 = p ∧ u2 = u) ∨ (A2 = A' ∧ p2 = p' ∧ u2 = u')) ∧ Below B w0 w' ∧ B ≤ w'.heap.size ∧ (∃ bl, FAny false w' b y2 bl n N A2 A2 ∧ ∀ k, bl k → B ≤ k ∧ k < w'.heap.size) ∧ RFil w' r rv A (roomN n) ∧ RFil w' nx nv A' (roomN n)
theorem rd_open (h : Rd32 B w0 W b y n N A A' p u p' u' r rv nx nv last) : Calls Tryz.prog 11 #[.pointer (some ⟨b, 0, none⟩)] W fun e w' => Op32 B w0 b n N A A' p u p' u' r rv nx nv last e w' ∧ RowsStay W w' := by
  obtain ⟨bl, h1, h2⟩ := h.fil
  refine (frd_open h1).mono ?_
  rintro e w' ⟨y2, bl', A2, rfl, g0, g1, g2, g3⟩
  have key : ∃ p2 u2, ((A2 = A ∧ p2 = p ∧ u2 = u) ∨ (A2 = A' ∧ p2 = p' ∧ u2 = u')) := g0.elim (fun e => ⟨p, u, .inl ⟨e, rfl, rfl⟩⟩) (fun e => ⟨p', u', .inr ⟨e, rfl, rfl⟩⟩)
  obtain ⟨p2, u2, hk⟩ := key
  exact ⟨⟨y2, A2, p2, u2, rfl, hk, below_upd h.bel g2 (fun k hk => h2 k hk.1) h.low, Nat.le_trans h.low g2.size, ⟨_, FAny.shrink g1, fun k hk => ⟨(g3 k hk.1).elim (h2 k) (fun e => Nat.le_trans h.low e), hk.2⟩⟩, h.ref.noS g2, h.nxt.noS g2⟩, fun hh ht => g2.noS hh ht⟩
theorem fany_len {bl : Nat → Prop} (h : FAny dn W b y bl n N A A') : A.length ≤ 1000000 ∧ n ≤ 16384 := by
  cases dn with
  | false =>
    have h1 := FOk.up h.2
    have h2 := roomN_le h1.2.2.2.2
    have h3 := used_len A
    exact ⟨by have := h1.2.2.1; omega, h1.2.2.2.2⟩
  | true =>
    obtain ⟨D, fp, m, x, gv, F, _, _, _, _, _, _, h7, _⟩ := h
    have h2 := roomN_le h7.2.2
    have h3 := used_len A
    exact ⟨by have := h7.2.1; omega, h7.2.2⟩
theorem st_latest (h : St32 B w0 W dn b y n N A A' p u p' u' r rv nx nv last) : Calls Tryz.prog 15 #[.pointer (some ⟨y, 0, none⟩)] W fun e w' => MPost W p e w' := by
  obtain ⟨bl, h1, _⟩ := h.fil
  have := latest_any (fany_gets h1)
  rw [h.can.latest] at this
  exact this.mono fun e w' h => mpost_lat h
theorem st_tells {y2 r2 : Nat} {bl : Nat → Prop} {A2 A3 : M} {p2 u2 p3 u3 : Mf} {v3 : Value} (h1 : FAny false W b y2 bl n N A2 A2) (hc : Canon A2 p2 u2) (h2 : RFil W r2 v3 A3 (roomN n)) (hl : A3.length ≤ 1000000) (hc3 : Canon A3 p3 u3) :
    Calls Tryz.prog 12 #[.pointer (some ⟨y2, 0, none⟩), .pointer (some ⟨r2, 0, none⟩)] W fun e w' => e = .returned (.bool (decide (p2 = p3 ∧ u2 = u3))) ∧ Below W.heap.size W w' :=
  tells_any (fany_gets h1) hc (rgets_of h2 hl) hc3
end
end Go.Proofs.YtoaihngckcbhiaaGreatDoor.Man
end
section
namespace Go.Proofs.YtoaihngckcbhiaaGreatDoor.Man
open Go.RowKit Go.Maps Go.ChangeShapes Go.WideShapes Wal Fil
set_option maxRecDepth 100000 in
theorem mani_core {H : Type} {enc : TypeId × Value → H} {W : World} {base : Nat} {sp : Nat → Bool} {hd : Bool} {n : Nat} {cs : List Value} {y : DataW H × List MemPlace}
    (hl : cs.length = 3) (h : DataW.trod enc Tryz.prog W base sp hd n 32 cs = some y) (hz : ∀ n ∈ DataW.weights Tryz.prog 32 y.1, n ≤ reachBytes) :
    ∃ (v : Nat) (job : T) (outs : List T) (sl : Value), cs[0]? = some (.int .u64 (v : Int)) ∧ cs[1]? = some (.string (bs job)) ∧ cs[2]? = some sl ∧ v < 18446744073709551616 ∧ job.length ≤ reachBytes ∧ TextsIn W sl outs := by
  obtain ⟨xs, n', _, hxe, _, hxl, hf⟩ := DataW.trod_struct Tryz.underlying32 h
  subst hxe
  have o1 : Tryz.prog.cellsOf 29 = 1 := by kernel_rfl
  have o2 : Tryz.prog.cellsOf 9 = 1 := by kernel_rfl
  have o3 : Tryz.prog.cellsOf 30 = 1 := by kernel_rfl
  have hxl3 : xs.length = 3 := hxl
  have g0 : DataW.trod enc Tryz.prog W base sp hd n' 29 ((cs.drop 0).take (Tryz.prog.cellsOf 29)) = xs[0]? := hf 0 _ rfl
  have g1 : DataW.trod enc Tryz.prog W base sp hd n' 9 ((cs.drop 1).take (Tryz.prog.cellsOf 9)) = xs[1]? := hf 1 _ rfl
  have g2 : DataW.trod enc Tryz.prog W base sp hd n' 30 ((cs.drop 2).take (Tryz.prog.cellsOf 30)) = xs[2]? := hf 2 _ rfl
  rw [o1, one_at hl _ (by omega), List.getElem?_eq_getElem (by omega)] at g0
  rw [o2, one_at hl _ (by omega), List.getElem?_eq_getElem (by omega)] at g1
  rw [o3, one_at hl _ (by omega), List.getElem?_eq_getElem (by omega)] at g2
  obtain ⟨v0, e0, _, w0⟩ := DataW.trod_int Tryz.underlying29 g0
  obtain ⟨v1, e1, y1, _⟩ := DataW.trod_string Tryz.underlying9 g1
  obtain ⟨v2, l2, e2, t2⟩ := texts_core g2 (fun k hk => (hz k (by
    simp only [DataW.weights, Tryz.underlying32]
    refine DataW.weights_mem_each (j := 2) (t := 30) (d := (xs[2]'(by omega)).1) rfl ?_ _ hk
    rw [List.getElem?_map, List.getElem?_eq_getElem (by omega)]
    rfl)))
  have h1 : v1.data.toList.length ≤ reachBytes := (hz _ (by
    simp only [DataW.weights, Tryz.underlying32]
    refine DataW.weights_mem_each (j := 1) (t := 9) (d := .lit (.string v1.data.toList)) rfl ?_ _ (by simp [DataW.weights])
    rw [List.getElem?_map, List.getElem?_eq_getElem (by omega), y1]
    rfl))
  have hr : 0 ≤ v0 ∧ v0 ≤ 18446744073709551615 := by simp [Lit.wf, IntKind.min, IntKind.max, IntKind.signed, IntKind.bits] at w0; omega
  obtain ⟨n, rfl⟩ := Int.eq_ofNat_of_zero_le hr.1
  refine ⟨n, v1.data.toList, l2, v2, ?_, ?_, ?_, by omega, h1, t2⟩
  · rw [List.getElem?_eq_getElem (by omega)]; simpa using e0
  · rw [List.getElem?_eq_getElem (by omega)]
    have e : cs[1]'(by omega) = .string v1 := by simpa using e1
    rw [e]; rfl
  · rw [List.getElem?_eq_getElem (by omega)]; simpa using e2
def Stp.okay (x : Stp) : Prop := (Lit.int .i64 x.what).wf = true ∧ (Lit.int .i64 x.n).wf = true ∧ (∃ v : Nat, x.v = (v : Int) ∧ v < 18446744073709551616) ∧ x.fine
set_option maxRecDepth 100000 in
theorem mstep_of_trod {H : Type} {enc : TypeId × Value → H} {W : World} {base : Nat} {sp : Nat → Bool} {hd : Bool} {n : Nat} {cs : List Value} {y : DataW H × List MemPlace} (q : Addr)
    (hc : W.cells? base q 7 = some cs) (h : DataW.trod enc Tryz.prog W base sp hd n 34 cs = some y) (hz : ∀ n ∈ DataW.weights Tryz.prog 34 y.1, n ≤ reachBytes) :
    ∃ x : Stp, StpIn W q x ∧ x.okay := by
  obtain ⟨_, hl, hat⟩ := World.cells?_some hc
  obtain ⟨xs, n', _, rfl, _, hxl, hf⟩ := DataW.trod_struct Tryz.underlying34 h
  have o1 : Tryz.prog.cellsOf 3 = 1 := by kernel_rfl
  have o2 : Tryz.prog.cellsOf 9 = 1 := by kernel_rfl
  have o3 : Tryz.prog.cellsOf 30 = 1 := by kernel_rfl
  have o4 : Tryz.prog.cellsOf 32 = 3 := by kernel_rfl
  have hxl5 : xs.length = 5 := hxl
  have g0 : DataW.trod enc Tryz.prog W base sp hd n' 3 ((cs.drop 0).take (Tryz.prog.cellsOf 3)) = xs[0]? := hf 0 _ rfl
  have g1 : DataW.trod enc Tryz.prog W base sp hd n' 3 ((cs.drop 1).take (Tryz.prog.cellsOf 3)) = xs[1]? := hf 1 _ rfl
  have g2 : DataW.trod enc Tryz.prog W base sp hd n' 32 ((cs.drop 2).take (Tryz.prog.cellsOf 32)) = xs[2]? := hf 2 _ rfl
  have g3 : DataW.trod enc Tryz.prog W base sp hd n' 30 ((cs.drop 5).take (Tryz.prog.cellsOf 30)) = xs[3]? := hf 3 _ rfl
  have g4 : DataW.trod enc Tryz.prog W base sp hd n' 9 ((cs.drop 6).take (Tryz.prog.cellsOf 9)) = xs[4]? := hf 4 _ rfl
  rw [o1, one_at hl _ (by omega), List.getElem?_eq_getElem (by omega)] at g0 g1
  rw [o4, List.getElem?_eq_getElem (by omega)] at g2
  rw [o3, one_at hl _ (by omega), List.getElem?_eq_getElem (by omega)] at g3
  rw [o2, one_at hl _ (by omega), List.getElem?_eq_getElem (by omega)] at g4
  obtain ⟨v0, e0, _, w0⟩ := DataW.trod_int Tryz.underlying3 g0
  obtain ⟨v1, e1, _, w1⟩ := DataW.trod_int Tryz.underlying3 g1
  obtain ⟨v2, job, outs, sl, m0, m1, m2, hv, hj, ho⟩ := mani_core (by simp [hl]) g2 (fun k hk => hz k (by
    simp only [DataW.weights, Tryz.underlying34]
    refine DataW.weights_mem_each (j := 2) (t := 32) (d := (xs[2]'(by omega)).1) rfl ?_ _ hk
    rw [List.getElem?_map, List.getElem?_eq_getElem (by omega)]
    rfl))
  obtain ⟨v3, l3, e3, t3⟩ := texts_core g3 (fun k hk => hz k (by
    simp only [DataW.weights, Tryz.underlying34]
    refine DataW.weights_mem_each (j := 3) (t := 30) (d := (xs[3]'(by omega)).1) rfl ?_ _ hk
    rw [List.getElem?_map, List.getElem?_eq_getElem (by omega)]
    rfl))
  obtain ⟨v4, e4, y4, _⟩ := DataW.trod_string Tryz.underlying9 g4
  have cell : ∀ j (hj : j < 7) v, [cs[j]'(by omega)] = [v] → W.cell? (q.add j) = some v := fun j hj v e => by
    rw [hat j hj, List.getElem?_eq_getElem (by omega)]
    simpa using e
  have mcell : ∀ j, j < 3 → W.cell? (q.add (2 + j)) = ((cs.drop 2).take 3)[j]? := fun j hj => by
    rw [hat (2 + j) (by omega), List.getElem?_take, if_pos hj, List.getElem?_drop]
  have h4 : v4.data.toList.length ≤ reachBytes := hz _ (by
    simp only [DataW.weights, Tryz.underlying34]
    refine DataW.weights_mem_each (j := 4) (t := 9) (d := .lit (.string v4.data.toList)) rfl ?_ _ (by simp [DataW.weights])
    rw [List.getElem?_map, List.getElem?_eq_getElem (by omega), y4]
    rfl)
  refine ⟨⟨v0, v1, v2, job, outs, l3, v4.data.toList⟩, ⟨cell 0 (by omega) _ e0, cell 1 (by omega) _ e1, (mcell 0 (by omega)).trans m0, (mcell 1 (by omega)).trans m1, ⟨sl, (mcell 2 (by omega)).trans m2, ho⟩, ⟨v3, cell 5 (by omega) _ e3, t3⟩, cell 6 (by omega) _ e4⟩, w0, w1, ⟨v2, rfl, hv⟩, ?_, ?_, t3.all⟩
  · show v4.data.toList.length ≤ _; omega
  · show job.length ≤ _; omega
set_option maxRecDepth 100000 in
theorem msteps_of_trod {H : Type} {enc : TypeId × Value → H} {W : World} {base : Nat} {v : Value} {d : DataW H} {p : List MemPlace}
    (ho : Value.okWide Tryz.prog W .any base 22 v) (h : DataW.Trod enc Tryz.prog W 0 (fun _ => true) true 22 v d p) (hz : ∀ n ∈ DataW.weights Tryz.prog 22 d, (decide (n ≤ reachBytes)) = true) :
    ∃ (a : Option Addr) (cap : Nat) (l : List Stp), v = .slice a l.length cap ∧ StpsIn W a l ∧ l.length ≤ maxLen ∧ ∀ x ∈ l, x.okay := by
  obtain ⟨a0, len, cap, rfl⟩ := okWide_slice Tryz.underlying22 ho
  obtain ⟨fuel, hf⟩ := h
  rcases Go.Deep.open_slice Tryz.underlying22 hf with ⟨hcs, _⟩ | ⟨a, len', cap', m, n, D, Pl, hcs, _, hl, hm, hmm, hx, hi⟩
  · simp [Value.cells] at hcs
    obtain ⟨rfl, rfl, rfl⟩ := hcs
    exact ⟨none, 0, [], rfl, fun i hi => by simp at hi, by simp, by simp⟩
  · simp [Value.cells] at hcs
    obtain ⟨rfl, rfl, rfl⟩ := hcs
    have hC : Tryz.prog.cellsOf 34 = 7 := by kernel_rfl
    simp only [if_true] at hmm
    subst hmm
    rw [hC] at hi
    simp only [Prod.mk.injEq] at hx
    obtain ⟨rfl, _⟩ := hx
    obtain ⟨l, hll, hP⟩ := list_of (P := fun i x => StpIn W (a.add (i * 7)) x ∧ x.okay) len (fun i hil => by
      obtain ⟨cs', h1, h2⟩ := hi i (by omega)
      exact mstep_of_trod _ h1 h2 (fun k hk => of_decide_eq_true (hz k (by
        simp only [DataW.weights, Tryz.underlying22]
        exact List.mem_cons_of_mem _ (List.mem_append_left _ (weights_all (List.mem_map.2 ⟨i, List.mem_range.2 hil, rfl⟩) hk))))))
    refine ⟨some a, m, l, by rw [hll], fun i hil => ⟨a, rfl, (hP i hil).1⟩, by omega, fun x hxm => ?_⟩
    obtain ⟨i, hil, rfl⟩ := List.getElem_of_mem hxm
    exact (hP i hil).2
set_option maxHeartbeats 8000000 in
set_option maxRecDepth 100000 in
theorem heavyMany_any (N : Int) (a : Option Addr) (cap : Nat) (l : List Stp) (w : World) (hl : StpsIn w a l) (hlen : 40 < l.length) (hlen2 : l.length ≤ maxLen) :
    Calls Tryz.prog 4 #[.int .i64 N, .slice a l.length cap] w fun e w' => e = .returned (.bool true) ∧ Below w.heap.size w w' := by
  have HL := Lib.hid hl
  unfold maxLen at hlen2
  clear hl
  go_enter Tryz.func4, Tryz.ntmps4
  go_wp2_with fail
  go_loopw [5, 6] (fun n i wr => ∃ (k : Nat) (z : Int), k ≤ l.length ∧ k ≤ 100 ∧ i = .int .i64 k ∧ n = .int .i64 z ∧ Below w.heap.size w wr) (fun _ i _ => 100 - (intOf i).toNat)
  case atStart => exact ⟨0, 0, by omega, by omega, rfl, rfl, Below.refl _ _⟩
  case round =>
    obtain ⟨k, z, hk, hk1, rfl, rfl, hb⟩ := hrel
    have HB := Lib.hid hb
    by_cases hlt : k < l.length ∧ k < 100
    · obtain ⟨hlt, hk100⟩ := hlt
      obtain ⟨q, hidx, hat⟩ := (HL.out.below hb).index cap k hlt
      obtain ⟨c0, c1, c2, c3, ⟨v4, c4, ⟨⟨oa, oc, rfl, hox, _⟩, hol, hos⟩⟩, ⟨v5, c5, ⟨⟨ta, tc, rfl, htx, _⟩, htl, hts⟩⟩, c6⟩ := hat.cells
      have HOX := Lib.hid hox; have HTX := Lib.hid htx
      unfold maxLen at htl hol
      clear hat c0 c1 c2 htx hts hox hos hb
      generalize l[k] = x at *
      have hk100i : (k : Int) < 100 := by omega
      by_cases h11 : 1100 < x.tasks.length
      · have h11i : (1100 : Int) < (x.tasks.length : Int) := by omega
        go_wp2_with fail
        go_ret
        exact ⟨rfl, HB.out⟩
      by_cases h20 : 20 < x.outs.length
      · have h11i : ¬ (1100 : Int) < (x.tasks.length : Int) := by omega
        have h20i : (20 : Int) < (x.outs.length : Int) := by omega
        go_wp2_with fail
        go_ret
        exact ⟨rfl, HB.out⟩
      have h11i : ¬ (1100 : Int) < (x.tasks.length : Int) := by omega
      have h20i : ¬ (20 : Int) < (x.outs.length : Int) := by omega
      go_wp2_with fail
      go_region
      go_wp2_with fail
      go_loop [5, 7] (fun n j => ∃ (m : Nat) (z : Int), m ≤ x.tasks.length ∧ j = .int .i64 m ∧ n = .int .i64 z) (fun _ j => 1100 - (intOf j).toNat)
      case atStart => exact ⟨0, _, by omega, rfl, rfl⟩
      case round =>
        obtain ⟨m, z2, hm, rfl, rfl⟩ := hrel
        by_cases hmt : m < x.tasks.length
        · obtain ⟨q2, hidx2, hc2⟩ := (HTX.out).index tc m hmt
          generalize x.tasks[m] = s at *
          go_wp2_with fail
          go_round
          case rel => exact ⟨m + 1, _, by omega, by go_num, rfl⟩
          case measure => simp [intOf]; omega
        · obtain rfl : m = x.tasks.length := by omega
          go_wp2_with fail
          go_loop [5, 8] (fun n j => ∃ (m : Nat) (z : Int), m ≤ x.outs.length ∧ j = .int .i64 m ∧ n = .int .i64 z) (fun _ j => 20 - (intOf j).toNat)
          case atStart => exact ⟨0, _, by omega, rfl, rfl⟩
          case round =>
            obtain ⟨m, z3, hm, rfl, rfl⟩ := hrel
            by_cases hmt : m < x.outs.length
            · obtain ⟨q2, hidx2, hc2⟩ := (HOX.out).index oc m hmt
              generalize x.outs[m] = s at *
              go_wp2_with fail
              go_round
              case rel => exact ⟨m + 1, _, by omega, by go_num, rfl⟩
              case measure => simp [intOf]; omega
            · obtain rfl : m = x.outs.length := by omega
              go_wp2_with fail
              go_roundw
              case rel => exact ⟨k + 1, _, by omega, by omega, by go_num, rfl, HB.out.drew⟩
              case measure => simp [intOf]; omega
    · have h40 : (40 : Int) < (l.length : Int) := by omega
      by_cases hlt2 : k < l.length
      · have hk100 : ¬ (k : Int) < 100 := by omega
        go_wp2_with fail
        go_ret
        exact ⟨rfl, HB.out⟩
      · go_wp2_with fail
        go_ret
        exact ⟨rfl, HB.out⟩
end Go.Proofs.YtoaihngckcbhiaaGreatDoor.Man
end
section
namespace Go.Proofs.YtoaihngckcbhiaaGreatDoor.Man
open Go.RowKit Go.Maps Wal Fil
section
variable {B : Nat} {w0 w W W' : World} {dn : Bool} {b y n N : Nat} {A A' : M} {p u p' u' : Mf} {r nx last : Nat} {rv nv : Value}
theorem st_none (h : St32 B w0 W dn b y n N A A' none u p' u' r rv nx nv last) : Calls Tryz.prog 15 #[.pointer (some ⟨y, 0, none⟩)] W fun e w' => (∃ q c, e = .returned (.tuple #[.agg #[.int .u64 0, .string (bs []), .slice q 0 c], .bool false, .int .i64 0])) ∧ Below W.heap.size W w' := by
  refine (st_latest h).mono ?_
  rintro e w' ⟨q, c, he, _, hb⟩
  exact ⟨⟨q, c, he⟩, hb⟩
theorem st_some {v : Nat} {job : T} {o : List T} (h : St32 B w0 W dn b y n N A A' (some (v, job, o)) u p' u' r rv nx nv last) : Calls Tryz.prog 15 #[.pointer (some ⟨y, 0, none⟩)] W fun e w' => (∃ q c, e = .returned (.tuple #[.agg #[.int .u64 (v : Int), .string (bs job), .slice q o.length c], .bool true, .int .i64 0])) ∧ Below W.heap.size W w' := by
  refine (st_latest h).mono ?_
  rintro e w' ⟨q, c, he, _, hb⟩
  exact ⟨⟨q, c, he⟩, hb⟩
theorem st_up (h : St32 B w0 W false b y n N A A' p u p' u' r rv nx nv last) : Calls Tryz.prog 13 #[.pointer (some ⟨y, 0, none⟩)] W fun e w' => e = .returned (.int .i64 0) ∧ W = w' := st_fault h
theorem st_dn (h : St32 B w0 W true b y n N A A' p u p' u' r rv nx nv last) : Calls Tryz.prog 13 #[.pointer (some ⟨y, 0, none⟩)] W fun e w' => e = .returned (.int .i64 40) ∧ W = w' := st_fault h
theorem St32.seen {v : Nat} {job : T} {o : List T} (h : St32 B w0 W false b y n N A A' (some (v, job, o)) u p' u' r rv nx nv last) : St32 B w0 W false b y n N A A' (some (v, job, o)) u p' u' r rv nx nv v := by
  obtain ⟨bl, h1, h2⟩ := h.fil
  have e : A = A' := h1.1
  have e2 := (h.can.inj h.can' e).1
  refine ⟨h.bel, h.low, h.fil, h.ref, h.nxt, h.rlow, h.nlow, h.can, h.can', Nat.le_refl _, ?_⟩
  rw [← e2]
  exact Nat.le_refl _
theorem St32.ge {v : Nat} {job : T} {o : List T} (h : St32 B w0 W dn b y n N A A' (some (v, job, o)) u p' u' r rv nx nv last) : ¬ (v : Int) < (last : Int) := by
  have : last ≤ v := h.las
  omega
theorem st_made {W1 : World} (h : MyF w.heap.size w W b y n 0 []) (hr : RFil W1 r rv [] (roomN n)) (hrl : W.heap.size ≤ r) (hb : Below W.heap.size W W1) : St32 w.heap.size w W1 false b y n 0 [] [] none none none none r rv r rv 0 := by
  obtain ⟨h1, h2, bl, h3, h4⟩ := h
  exact ⟨h1.trans (hb.mono h2), Nat.le_trans h2 hb.size, ⟨_, ⟨rfl, (FOk.shrink (FOk.loosen h3)).below hb⟩, fun k hk => ⟨h4 k hk.1, Nat.lt_of_lt_of_le hk.2 hb.size⟩⟩, hr, hr, Nat.le_trans h2 hrl, Nat.le_trans h2 hrl, Canon.nil, Canon.nil, rfl, rfl⟩
theorem St32.goes {yr : Nat} {yv : Value} (h : St32 B w0 W false b y n N A A' p u p' u' r rv nx nv last) (hy : RFil W yr yv A (roomN n)) (hyB : B ≤ yr) (h0 : w0.heap.size = B) (hN : N < 1000000000) : ∃ bl, In32 B w0 W b y bl n N A p u yr yv := by
  obtain ⟨bl, h1, h2⟩ := h.fil
  exact ⟨bl, h.bel, h.low, h0, h1.2, h2, hy, hyB, h.can, hN⟩
theorem does_yes {yr : Nat} {rv2 : Value} {A2 : M} {bl : Nat → Prop} {p2 u2 : Mf} (h : St32 B w0 W dn b y n N A A' p u p' u' r rv nx nv last) (hyB : B ≤ yr) (hb : Below B w0 W') (hl : B ≤ W'.heap.size) (hf : FAny false W' b y bl n (N + 1) A2 A2) (ho : ∀ k, bl k → B ≤ k ∧ k < W'.heap.size) (hr : RFil W' yr rv2 A2 (roomN n)) (hc : Canon A2 p2 u2) (hla : ∀ last, Lasts last p → Lasts last p2) :
    St32 B w0 W' false b y n (N + 1) A2 A2 p2 u2 p2 u2 yr rv2 yr rv2 last := ⟨hb, hl, ⟨bl, hf, ho⟩, hr, hr, hyB, hyB, hc, hc, hla _ h.las, hla _ h.las⟩
theorem does_no {yr : Nat} {rv2 : Value} {A2 : M} {bl : Nat → Prop} {p2 u2 : Mf} (h : St32 B w0 W dn b y n N A A' p u p' u' r rv nx nv last) (hyB : B ≤ yr) (hne : r ≠ yr) (hb : Below B w0 W') (hl : B ≤ W'.heap.size) (hf : FAny true W' b y bl n (N + 1) A A2) (ho : ∀ k, bl k → B ≤ k ∧ k < W'.heap.size) (hr : RFil W' yr rv2 A2 (roomN n)) (hc : Canon A2 p2 u2) (hla : ∀ last, Lasts last p → Lasts last p2) (hk : KeepF W W' yr) :
    St32 B w0 W' true b y n (N + 1) A A2 p u p2 u2 r rv yr rv2 last := ⟨hb, hl, ⟨bl, hf, ho⟩, hk _ _ _ _ hne h.ref, hr, h.rlow, hyB, h.can, hc, h.las, hla _ h.las⟩
end
section
variable {B : Nat} {w0 W W' : World} {dn : Bool} {b y n N y2 : Nat} {A A' A2 : M} {p u p' u' p2 u2 : Mf} {r nx last : Nat} {rv nv : Value}
structure Up32 (B : Nat) (w0 W : World) (b y2 n N : Nat) (A A' : M) (p u p' u' : Mf) (A2 : M) (p2 u2 : Mf) (r : Nat) (rv : Value) (nx : Nat) (nv : Value) (last : Nat) : Prop where
  one : (A2 = A ∧ p2 = p ∧ u2 = u) ∨ (A2 = A' ∧ p2 = p' ∧ u2 = u')
  bel : Below B w0 W
  low : B ≤ W.heap.size
  fil : ∃ bl, FAny false W b y2 bl n N A2 A2 ∧ ∀ k, bl k → B ≤ k ∧ k < W.heap.size
  ref : RFil W r rv A (roomN n)
  nxt : RFil W nx nv A' (roomN n)
  rlow : B ≤ r
  nlow : B ≤ nx
  can : Canon A p u
  can' : Canon A' p' u'
  las : Lasts last p
  las' : Lasts last p'
  few : A.length ≤ 1000000
theorem rd_up (h : Rd32 B w0 W b y n N A A' p u p' u' r rv nx nv last) (hf : A.length ≤ 1000000) : Calls Tryz.prog 11 #[.pointer (some ⟨b, 0, none⟩)] W fun e w' => ∃ y2 A2 p2 u2, e = .returned (.tuple #[.pointer (some ⟨y2, 0, none⟩), .int .i64 0]) ∧ Up32 B w0 w' b y2 n N A A' p u p' u' A2 p2 u2 r rv nx nv last := by
  refine (rd_open h).mono ?_
  rintro e w' ⟨⟨y2, A2, p2, u2, he, h1, h2, h3, h4, h5, h6⟩, _⟩
  exact ⟨y2, A2, p2, u2, he, h1, h2, h3, h4, h5, h6, h.rlow, h.nlow, h.can, h.can', h.las, h.las', hf⟩
theorem Up32.can2 (h : Up32 B w0 W b y2 n N A A' p u p' u' A2 p2 u2 r rv nx nv last) : Canon A2 p2 u2 := by
  rcases h.one with ⟨e1, e2, e3⟩ | ⟨e1, e2, e3⟩
  · rw [e1, e2, e3]; exact h.can
  · rw [e1, e2, e3]; exact h.can'
theorem up_first {c : Bool} (h : Up32 B w0 W b y2 n N A A' p u p' u' A2 p2 u2 r rv nx nv last) (hc : decide (p2 = p ∧ u2 = u) = c) :
    Calls Tryz.prog 12 #[.pointer (some ⟨y2, 0, none⟩), .pointer (some ⟨r, 0, none⟩)] W fun e w' => e = .returned (.bool c) ∧ Below W.heap.size W w' := by
  obtain ⟨bl, h1, _⟩ := h.fil
  have := st_tells h1 h.can2 h.ref h.few h.can
  rwa [hc] at this
theorem up_stay (h : Up32 B w0 W b y2 n N A A' p u p' u' A2 p2 u2 r rv nx nv last) (hc : p2 = p ∧ u2 = u) : St32 B w0 W false b y2 n N A A p u p u r rv r rv last := by
  have h2 := h.can2
  rw [hc.1, hc.2] at h2
  have e := h2.ext h.can
  have hf := h.fil
  rw [e] at hf
  exact ⟨h.bel, h.low, hf, h.ref, h.ref, h.rlow, h.rlow, h.can, h.can, h.las, h.las⟩
theorem up_turn (h : Up32 B w0 W b y2 n N A A' p u p' u' A2 p2 u2 r rv nx nv last) (hc : ¬ (p2 = p ∧ u2 = u)) : St32 B w0 W false b y2 n N A' A' p' u' p' u' nx nv nx nv last := by
  rcases h.one with ⟨e1, e2, e3⟩ | ⟨e1, e2, e3⟩
  · exact (hc ⟨e2, e3⟩).elim
  have hf := h.fil
  rw [e1] at hf
  exact ⟨h.bel, h.low, hf, h.nxt, h.nxt, h.nlow, h.nlow, h.can', h.can', h.las', h.las'⟩
theorem st_again (h : St32 B w0 W false b y n N A A p u p u r rv r rv last) :
    Calls Tryz.prog 12 #[.pointer (some ⟨y, 0, none⟩), .pointer (some ⟨r, 0, none⟩)] W fun e w' => e = .returned (.bool true) ∧ Below W.heap.size W w' := by
  obtain ⟨bl, h1, _⟩ := h.fil
  have := st_tells h1 h.can h.ref (fany_len h1).1 h.can
  rwa [show decide (p = p ∧ u = u) = true by simp] at this
theorem St32.few (h : St32 B w0 W dn b y n N A A' p u p' u' r rv nx nv last) : A.length ≤ 1000000 := by
  obtain ⟨bl, h1, _⟩ := h.fil
  exact (fany_len h1).1
theorem ot_sum32 (l : List T) (h : ∀ s ∈ l, s.length ≤ 65531) : (l.map List.length).sum ≤ 8 * otCost l := by
  induction l with
  | nil => simp
  | cons x l ih =>
    have h1 := ih (fun s hs => h s (List.mem_cons_of_mem _ hs))
    have h2 := h x List.mem_cons_self
    have e : otCost (x :: l) = min x.length 8192 + otCost l := by simp [otCost]
    rw [e, List.map_cons, List.sum_cons]
    omega
theorem Light.sum {l : List Stp} (h : Light l) {x : Stp} (hx : x ∈ l) : x.tasks.length ≤ 1100 ∧ x.outs.length ≤ 20 ∧ x.text.length ≤ 16384 ∧ x.job.length ≤ 16384 ∧ (∀ t ∈ x.tasks, t.length ≤ 16384) ∧ ((∀ s ∈ x.outs, s.length ≤ 65531) → (x.outs.map List.length).sum ≤ 800000) := by
  have h1 := costs_mem l x hx
  have h2 := h.cost
  obtain ⟨h3, h4⟩ := h.rows x hx
  have e : x.cost = x.text.length + x.job.length + tkCost x.tasks + otCost x.outs := rfl
  refine ⟨h3, h4, by omega, by omega, fun t ht => ?_, fun hs => ?_⟩
  · have := tk_mem x.tasks t ht
    omega
  · have := ot_sum32 x.outs hs
    omega
end
end Go.Proofs.YtoaihngckcbhiaaGreatDoor.Man
end
