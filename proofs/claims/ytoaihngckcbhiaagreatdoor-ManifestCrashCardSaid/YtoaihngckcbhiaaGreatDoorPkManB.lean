/- ManB -/
import Derived.Test.YtoaihngckcbhiaaGreatDoorPkManA
import Derived.Test.YtoaihngckcbhiaaGreatDoorPkSha2
namespace Go.Proofs.YtoaihngckcbhiaaGreatDoor.Man
open Go.RowKit Wal Fil
def manT : T := [109, 97, 110, 105, 102, 101, 115, 116]
def outsT (A : M) : Nat → List T → Option (List T)
  | _, [] => some []
  | k, s :: l => match Fil.get A (outT k) with
    | none => none
    | some d => if (Crc.openT d).2 = 0 ∧ Sha.shaS (Crc.openT d).1 = s then (outsT A (k + 1) l).map ((Crc.openT d).1 :: ·) else none
def latOf (v : Nat) (job : T) : Option (List T) → Option (Nat × T × List T) × Int
  | none => (none, 50)
  | some o => (some (v, job, o), 0)
def latestT (A : M) : Option (Nat × T × List T) × Int := match Fil.get A manT with
  | none => (none, 0)
  | some d => match unpackT d with
    | none => (none, 50)
    | some (v, job, l) => if 16 < l.length then (none, 50) else latOf v job (outsT A 0 l)
def LatPost (w : World) (r : Option (Nat × T × List T) × Int) (e : Ending) (w' : World) : Prop :=
  Below w.heap.size w w' ∧ match r with
    | (none, c) => e = .returned (.tuple #[.agg #[.int .u64 0, .string (bs []), .slice none 0 0], .bool false, .int .i64 c])
    | (some (v, job, l), _) => ∃ sl, e = .returned (.tuple #[.agg #[.int .u64 (v : Int), .string (bs job), sl], .bool true, .int .i64 0]) ∧ RowAt w' 0 sl l ∧ ∀ g, sl.ownBlock = some g → w.heap.size ≤ g
theorem outsT_none {A : M} {l : List T} {k : Nat} {o : List T} (hk : k < l.length) (h : outsT A 0 l = (outsT A k (l.drop k)).map (o ++ ·)) (hn : ∀ d, Fil.get A (outT k) = some d → ¬ ((Crc.openT d).2 = 0 ∧ Sha.shaS (Crc.openT d).1 = l[k])) : outsT A 0 l = none := by
  rw [h, List.drop_eq_getElem_cons hk]
  unfold outsT
  cases hg : Fil.get A (outT k) with
  | none => rfl
  | some d => simp only []; rw [if_neg (hn d hg)]; rfl
theorem outsT_some {A : M} {l : List T} {k : Nat} {o : List T} (hk : k < l.length) (h : outsT A 0 l = (outsT A k (l.drop k)).map (o ++ ·)) {d : T} (hg : Fil.get A (outT k) = some d) (h2 : (Crc.openT d).2 = 0) (h3 : Sha.shaS (Crc.openT d).1 = l[k]) :
    outsT A 0 l = (outsT A (k + 1) (l.drop (k + 1))).map ((o ++ [(Crc.openT d).1]) ++ ·) := by
  rw [h, List.drop_eq_getElem_cons hk]
  conv => lhs; unfold outsT
  simp only [hg]
  rw [if_pos ⟨h2, h3⟩, Option.map_map]
  congr 1
  funext x
  simp
theorem textsAt_of_row {w : World} {base c n : Nat} {a : Option Addr} {l : List T} (h : RowAt w base (.slice a n c) l) : TextsAt w a l := fun i hi => by
  rcases h.2 with ⟨e0, h0⟩ | ⟨g, cap, cur, e0, hb, hg, hn, hm, hs, ht⟩
  · omega
  · injection e0 with e1 e2 e3
    subst e1
    refine ⟨_, rfl, ?_⟩
    have e1 : (cur.toList.take (l.length * 1))[i]? = (strCells l)[i]? := by rw [ht]
    rw [List.getElem?_take, if_pos (by omega), Array.getElem?_toList, strCells_get l i hi] at e1
    rw [add_off]
    simp only [World.cell?, hg, Nat.zero_add]
    simp only [Option.isSome_none, Bool.false_eq_true, if_false]
    exact e1
theorem set1_row {W : World} {g j base n : Nat} {cs : Array Value} {v x : Value} {xs : List Value} {t e : TypeId} {sz : Nat} (h : W.ownsRow base e sz v n xs) (hr : W.heap[g]? = some (.cells cs t)) (hte : t ≠ e) :
    (W.setCell ⟨g, j, none⟩ x).ownsRow base e sz v n xs :=
  ownsRow_upd h ((Upd.refl (fun k => k = g) W).setCell (p := ⟨g, j, none⟩) (.inl rfl) x) (fun k hk e => by
    have := ownsRow_blk h hk
    rw [e] at this
    obtain ⟨cs, fz, h1⟩ := this
    rw [hr] at h1
    injection h1 with h1
    injection h1 with _ h2
    exact hte h2)
theorem row_low {w : World} {base : Nat} {e : TypeId} {size : Nat} {v : Value} {n : Nat} {xs : List Value} (h : w.ownsRow base e size v n xs) {b : Nat} (hb : v.ownBlock = some b) : base ≤ b := by
  rcases Nat.lt_or_ge b base with h1 | h1
  · exact absurd hb.symm (row_ne_low h h1)
  · exact h1
theorem row_base {w : World} {base n : Nat} {e : TypeId} {sz : Nat} {v : Value} {xs : List Value} (h : w.ownsRow base e sz v n xs) : w.ownsRow 0 e sz v n xs := by
  refine ⟨h.1, ?_⟩
  rcases h.2 with h2 | ⟨g, cap, cur, e0, hb, h3⟩
  · exact .inl h2
  · exact .inr ⟨g, cap, cur, e0, Nat.zero_le _, h3⟩
theorem outT_length (k : Nat) (hk : k < 100) : (outT k).length ≤ 1000 := by
  have : ∀ j : Fin 100, (outT j.1).length ≤ 1000 := by decide +kernel
  exact this ⟨k, hk⟩
set_option maxRecDepth 100000 in
set_option maxHeartbeats 8000000 in
theorem latest_any {w : World} {y : Nat} {A : M} (h : GetsAt w y A) :
    Calls Tryz.prog 15 #[.pointer (some ⟨y, 0, none⟩)] w fun e w' => LatPost w (latestT A) e w' := by
  have hget := fun W hW => h.gets W hW manT (by decide)
  have hsm := h.small manT
  cases hg : Fil.get A manT with
  | none =>
    have hN : Hid (latestT A = (none, 0)) := Lib.hid (by unfold latestT; rw [hg])
    rw [hg] at hget
    simp only [Option.getD_none, Option.isSome_none] at hget
    have HGET := Lib.hid hget
    clear h hget hsm hg
    go_enter Tryz.func15, Tryz.ntmps15
    go_wp2_with fail
    refine (HGET.out _ ((Below.refl _ _).alloc (Nat.le_refl _) _)).mono ?_
    rintro e w1 ⟨rfl, hb1⟩
    obtain ⟨hr1, hb1', hlt1⟩ := new3 hb1
    obtain ⟨c0, c1, c2, f0, f1, f2⟩ := row3 hr1
    have HB1 := Lib.hid hb1'
    have HR1 := Lib.hid hr1
    clear hb1 hr1 hb1'
    go_wp2_with fail
    obtain ⟨d0, d1, d2, _⟩ := row3 (set3 HR1.out (.int .u64 0) (.string { data := #[] }) (.slice none 0 0))
    refine bodyPost_ret (v := .tuple #[.agg #[.int .u64 0, .string (bs []), .slice none 0 0], .bool false, .int .i64 0]) (manifest_out Tryz.results15 _ _ w.heap.size 0 [] (.slice none 0 0) (by rfl) d0 d1 d2) rfl ?_
    refine ⟨set3_below HB1.out (Nat.le_refl _) _ _ _, ?_⟩
    rw [hN.out]
  | some d =>
    rw [hg] at hget hsm
    simp only [Option.getD_some, Option.isSome_some] at hget hsm
    have hunp := fun W => unpack_any d W (by omega)
    unfold UnpackPost at hunp
    cases hu : unpackT d with
    | none =>
      have hN : Hid (latestT A = (none, 50)) := Lib.hid (by unfold latestT; rw [hg]; show (match unpackT d with | none => _ | some (v, job, l) => _) = _; rw [hu])
      rw [hu] at hunp
      have HGET := Lib.hid hget
      have HUNP := Lib.hid hunp
      clear h hget hsm hg hunp hu
      go_enter Tryz.func15, Tryz.ntmps15
      go_wp2_with fail
      refine (HGET.out _ ((Below.refl _ _).alloc (Nat.le_refl _) _)).mono ?_
      rintro e w1 ⟨rfl, hb1⟩
      obtain ⟨hr1, hb1', hlt1⟩ := new3 hb1
      have HB1 := Lib.hid hb1'
      have HR1 := Lib.hid hr1
      clear hb1 hr1 hb1'
      go_wp2_with fail
      refine (HUNP.out _).mono ?_
      intro e w2 h2
      obtain ⟨hb2, v2, t2, rfl⟩ := h2
      have HB2 := Lib.hid (HB1.out.trans (hb2.mono HB1.out.size))
      have HR2 := Lib.hid ((hb2.block _ hlt1).trans HR1.out)
      have hlt2 : w.heap.size < w2.heap.size := Nat.lt_of_lt_of_le hlt1 hb2.size
      clear hb2 hlt1
      obtain ⟨c0, c1, c2, f0, f1, f2⟩ := row3 HR2.out
      go_wp2_with fail
      obtain ⟨d0, d1, d2, _⟩ := row3 (set3 HR2.out (.int .u64 0) (.string { data := #[] }) (.slice none 0 0))
      refine bodyPost_ret (v := .tuple #[.agg #[.int .u64 0, .string (bs []), .slice none 0 0], .bool false, .int .i64 50]) (manifest_out Tryz.results15 _ _ w.heap.size 0 [] (.slice none 0 0) (by rfl) d0 d1 d2) rfl ?_
      refine ⟨set3_below HB2.out (Nat.le_refl _) _ _ _, ?_⟩
      rw [hN.out]
    | some r =>
      obtain ⟨v, job, l⟩ := r
      have hNN : latestT A = if 16 < l.length then (none, 50) else latOf v job (outsT A 0 l) := by unfold latestT; rw [hg]; show (match unpackT d with | none => _ | some (v, job, l) => _) = _; rw [hu]
      rw [hu] at hunp
      have HGET := Lib.hid hget
      have HUNP := Lib.hid hunp
      by_cases hl : 16 < l.length
      · have hN : Hid (latestT A = (none, 50)) := Lib.hid (by rw [hNN, if_pos hl])
        clear hNN h hget hsm hg hunp hu
        go_enter Tryz.func15, Tryz.ntmps15
        go_wp2_with fail
        refine (HGET.out _ ((Below.refl _ _).alloc (Nat.le_refl _) _)).mono ?_
        rintro e w1 ⟨rfl, hb1⟩
        obtain ⟨hr1, hb1', hlt1⟩ := new3 hb1
        have HB1 := Lib.hid hb1'
        have HR1 := Lib.hid hr1
        clear hb1 hr1 hb1'
        go_wp2_with fail
        refine (HUNP.out _).mono ?_
        intro e w2 h2
        obtain ⟨hb2, sl, rfl, ho2, hg2⟩ := h2
        obtain ⟨q2, cap2, rfl⟩ := slice_len ho2
        have HB2 := Lib.hid (HB1.out.trans (hb2.mono HB1.out.size))
        have HR2 := Lib.hid ((hb2.block _ hlt1).trans HR1.out)
        have hlt2 : w.heap.size < w2.heap.size := Nat.lt_of_lt_of_le hlt1 hb2.size
        clear hb2 hlt1
        obtain ⟨c0, c1, c2, f0, f1, f2⟩ := row3 HR2.out
        clear ho2 hg2
        go_wp2_with fail
        obtain ⟨d0, d1, d2, _⟩ := row3 (set3 HR2.out (.int .u64 0) (.string { data := #[] }) (.slice none 0 0))
        refine bodyPost_ret (v := .tuple #[.agg #[.int .u64 0, .string (bs []), .slice none 0 0], .bool false, .int .i64 50]) (manifest_out Tryz.results15 _ _ w.heap.size 0 [] (.slice none 0 0) (by rfl) d0 d1 d2) rfl ?_
        refine ⟨set3_below HB2.out (Nat.le_refl _) _ _ _, ?_⟩
        rw [hN.out]
      · have HNN := Lib.hid (show latestT A = latOf v job (outsT A 0 l) by rw [hNN, if_neg hl])
        have HH := Lib.hid h
        clear hNN h hget hsm hg hunp hu
        go_enter Tryz.func15, Tryz.ntmps15
        go_wp2_with fail
        refine (HGET.out _ ((Below.refl _ _).alloc (Nat.le_refl _) _)).mono ?_
        rintro e w1 ⟨rfl, hb1⟩
        obtain ⟨hr1, hb1', hlt1⟩ := new3 hb1
        have HB1 := Lib.hid hb1'
        have HR1 := Lib.hid hr1
        clear hb1 hr1 hb1'
        go_wp2_with fail
        refine (HUNP.out _).mono ?_
        intro e w2 h2
        obtain ⟨hb2, sl, rfl, ho2, hg2⟩ := h2
        obtain ⟨q2, cap2, rfl⟩ := slice_len ho2
        have HB2 := Lib.hid (HB1.out.trans (hb2.mono HB1.out.size))
        have HR2 := Lib.hid ((hb2.block _ hlt1).trans HR1.out)
        have hlt2 : w.heap.size < w2.heap.size := Nat.lt_of_lt_of_le hlt1 hb2.size
        clear hb2 hlt1
        obtain ⟨c0, c1, c2, f0, f1, f2⟩ := row3 HR2.out
        have HO2 := Lib.hid ho2
        have HG2 := Lib.hid hg2
        clear ho2 hg2
        go_wp2_with fail
        have hr3 := set3 HR2.out (.int .u64 (v : Int)) (.string (bs job)) (.slice none 0 0)
        have hb3 := set3_below HB2.out (Nat.le_refl _) (.int .u64 (v : Int)) (.string (bs job)) (.slice none 0 0)
        have ho3 := set3_row (x := .int .u64 (v : Int)) (y := .string (bs job)) (z := .slice none 0 0) HO2.out HR2.out (by decide)
        have hz3 : ((((w2.setCell ⟨w.heap.size, 0, none⟩ (.int .u64 (v : Int))).setCell ⟨w.heap.size, 1, none⟩ (.string (bs job))).setCell ⟨w.heap.size, 2, none⟩ (.slice none 0 0))).heap.size = w2.heap.size := by simp
        have HR3 := Lib.hid hr3; have HB3 := Lib.hid hb3; have HO3 := Lib.hid ho3; have HZ3 := Lib.hid hz3
        clear hr3 hb3 ho3 hz3 c0 c1 c2 f0 f1 f2
        go_loopw [47] (fun i wr => ∃ (k : Nat) (sl : Value) (o : List T), k ≤ l.length ∧ i = .int .i64 k ∧ o.length = k ∧ wr.heap[w.heap.size]? = some (.cells #[.int .u64 (v : Int), .string (bs job), sl] 32) ∧ wr.ownsRow w2.heap.size 9 1 sl k (strCells o) ∧ Below w.heap.size w wr ∧ w2.heap.size ≤ wr.heap.size ∧ RowAt wr 0 (.slice q2 l.length cap2) l ∧ outsT A 0 l = (outsT A k (l.drop k)).map (o ++ ·))
          (fun i _ => l.length - (intOf i).toNat)
        case atStart =>
          exact ⟨0, .slice none 0 0, [], by omega, rfl, rfl, HR3.out, by rw [strCells_nil]; exact World.ownsRow_nil _ _ _ _, HB3.out, by rw [HZ3.out]; exact Nat.le_refl _, HO3.out, by simp⟩
        case round =>
          obtain ⟨k, sl, o, hk, rfl, hok, hr, hown, hb, hsz, hol, houts⟩ := hrel
          obtain ⟨qs, caps, rfl⟩ := slice_len hown
          obtain ⟨i0, hi0, hz0, hz1, hz2⟩ := info_parts str_info
          have hcs := row3 hr
          obtain ⟨c0, c1, c2, f0, f1, f2⟩ := hcs
          have HR := Lib.hid hr; have HOWN := Lib.hid hown; have HB := Lib.hid hb; have HOL := Lib.hid hol; have HOUTS := Lib.hid houts; have HOK := Lib.hid hok
          clear hr hown hb hol houts hok
          by_cases hlt : k < l.length
          · obtain ⟨q, hq1, hq2⟩ := (textsAt_of_row HOL.out).index cap2 k hlt
            have hq1' := hq1
            have HGK := Lib.hid (fun W (hW : Below w.heap.size w W) => HH.out.gets W hW (outT k) (outT_length k (by omega)))
            have HSMK := Lib.hid (HH.out.small (outT k))
            obtain ⟨X, hX⟩ : ∃ X, l[k] = X := ⟨_, rfl⟩
            rw [hX] at hq2
            have hk100 : k < 100 := by omega
            cases hgk : Fil.get A (outT k) with
            | none =>
              have HBAD := Lib.hid (show outsT A 0 l = none from outsT_none hlt HOUTS.out (fun d hd => by rw [hgk] at hd; cases hd))
              have hgkc := HGK.out
              rw [hgk] at hgkc
              simp only [Option.getD_none, Option.isSome_none] at hgkc
              have HGKC := Lib.hid hgkc
              have HOPN := Lib.hid (fun W => open_any [] W (by simp))
              clear hgkc hgk hX
              go_wp2_with fail
              refine (out_any k hk100 _).mono ?_
              rintro e w4 ⟨rfl, rfl⟩
              go_wp2_with fail
              refine (HGKC.out _ HB.out).mono ?_
              rintro e w5 ⟨rfl, hb5⟩
              have HB5 := Lib.hid (HB.out.trans (hb5.mono HB.out.size))
              have hlt4 := blk_lt HR.out
              have HR4 := HR
              have HB4 := HB
              clear c0 c1 c2 f0 f1 f2
              have HB5 := Lib.hid (HB4.out.trans (hb5.mono HB4.out.size))
              have HR5 := Lib.hid ((hb5.block _ hlt4).trans HR4.out)
              have hlt5 : w.heap.size < w5.heap.size := Nat.lt_of_lt_of_le hlt4 hb5.size
              clear hb5
              go_wp2_with fail
              refine (HOPN.out _).mono ?_
              rintro e w6 ⟨rfl, hb6⟩
              have HB6 := Lib.hid (HB5.out.trans (hb6.mono HB5.out.size))
              have HR6 := Lib.hid ((hb6.block _ hlt5).trans HR5.out)
              have hlt6 : w.heap.size < w6.heap.size := Nat.lt_of_lt_of_le hlt5 hb6.size
              clear hb6
              rw [show Crc.openT [] = ([], 6) by decide]
              obtain ⟨c0, c1, c2, f0, f1, f2⟩ := row3 HR6.out
              go_wp2_with fail
              obtain ⟨e0, e1, e2, _⟩ := row3 (set3 HR6.out (.int .u64 0) (.string { data := #[] }) (.slice none 0 0))
              refine bodyPost_ret (v := .tuple #[.agg #[.int .u64 0, .string (bs []), .slice none 0 0], .bool false, .int .i64 50]) (manifest_out Tryz.results15 _ _ w.heap.size 0 [] (.slice none 0 0) (by rfl) e0 e1 e2) rfl ?_
              refine ⟨set3_below HB6.out (Nat.le_refl _) _ _ _, ?_⟩
              rw [HNN.out, HBAD.out]
              exact rfl
            | some dk =>
              have hgkc := HGK.out
              rw [hgk] at hgkc
              simp only [Option.getD_some, Option.isSome_some] at hgkc
              have HGKC := Lib.hid hgkc
              have hdk : dk.length ≤ 1000000 := by have := HSMK.out; rw [hgk] at this; exact this
              have hopn := fun W => open_any dk W (by omega)
              obtain ⟨s5, hs5⟩ : ∃ x, (Crc.openT dk).1 = x := ⟨_, rfl⟩
              obtain ⟨o5, ho5⟩ : ∃ x, (Crc.openT dk).2 = x := ⟨_, rfl⟩
              have hs5l : s5.length ≤ 1000000 := by rw [← hs5]; exact Nat.le_trans (openT_le dk) hdk
              rw [hs5, ho5] at hopn
              have HOPN := Lib.hid hopn
              by_cases hz : o5 = 0
              · by_cases hsum : Sha.shaS s5 = X
                · have HGOOD := Lib.hid (outsT_some hlt HOUTS.out hgk (by rw [ho5, hz]) (by rw [hs5, hX, hsum]))
                  rw [hs5] at HGOOD
                  subst hz
                  clear hgkc hgk hX hopn hs5 ho5
                  go_wp2_with fail
                  refine (out_any k hk100 _).mono ?_
                  rintro e w4 ⟨rfl, rfl⟩
                  go_wp2_with fail
                  refine (HGKC.out _ HB.out).mono ?_
                  rintro e w5 ⟨rfl, hb5⟩
                  have hlt4 := blk_lt HR.out
                  have HR4 := HR
                  have HB4 := HB
                  clear c0 c1 c2 f0 f1 f2
                  have HB5 := Lib.hid (HB4.out.trans (hb5.mono HB4.out.size))
                  have HR5 := Lib.hid ((hb5.block _ hlt4).trans HR4.out)
                  have hlt5 : w.heap.size < w5.heap.size := Nat.lt_of_lt_of_le hlt4 hb5.size
                  have hw5 := hb5
                  clear hb5
                  go_wp2_with fail
                  refine (HOPN.out _).mono ?_
                  rintro e w6 ⟨rfl, hb6⟩
                  have HB6 := Lib.hid (HB5.out.trans (hb6.mono HB5.out.size))
                  have HR6 := Lib.hid ((hb6.block _ hlt5).trans HR5.out)
                  have hlt6 : w.heap.size < w6.heap.size := Nat.lt_of_lt_of_le hlt5 hb6.size
                  have hw6 := hw5.trans (hb6.mono hw5.size)
                  clear hb6 hw5
                  go_wp2_with fail
                  refine (sha_any s5 hs5l _).mono ?_
                  rintro e w7 ⟨rfl, hb7⟩
                  have HB7 := Lib.hid (HB6.out.trans (hb7.mono HB6.out.size))
                  have HR7 := Lib.hid ((hb7.block _ hlt6).trans HR6.out)
                  have hlt7 : w.heap.size < w7.heap.size := Nat.lt_of_lt_of_le hlt6 hb7.size
                  have HW7 := Lib.hid (hw6.trans (hb7.mono hw6.size))
                  clear hb7 hw6
                  obtain ⟨c0, c1, c2, f0, f1, f2⟩ := row3 HR7.out
                  have HO7 := Lib.hid (row_below HOWN.out HW7.out)
                  have hneb := row_ne_low HO7.out hlt2
                  have h7a : w.heap.size < (w7.alloc (.cells #[.string (bs s5)] 9)).heap.size := by rw [World.size_alloc]; omega
                  have HR7a := Lib.hid ((((Below.refl w7.heap.size w7).alloc (Nat.le_refl _) (.cells #[.string (bs s5)] 9)).block _ hlt7).trans HR7.out)
                  have hs7 : w2.heap.size ≤ w7.heap.size := Nat.le_trans hsz HW7.out.size
                  rw [hsum]
                  go_wp2_with (at_builtin; refine wpList_append_own_at _ rfl _ _ 30 rfl w2.heap.size 9 i0 _ 1 16 Tryz.underlying30 hi0 hz0 hz1 hz2 rfl (by decide) _ _ _ rfl (HO7.out.alloc _) ⟨w7.heap.size, 0, none⟩ 1 1 [.string (bs s5)] rfl rfl (cell_one_new _ _ _) (by simp [Value.oneCell']) (by unfold maxLen; omega) (by omega) (by simp; omega) ?_; intro v' w8 hown' hgrow _ hat; obtain ⟨g', cap', rfl⟩ := ownsRow_succ hown'; have HR8 := Lib.hid ((hgrow.block w.heap.size h7a hneb).trans HR7a.out); have HOW8 := Lib.hid hown'; have HGR := Lib.hid hgrow; clear hown' hgrow hat; obtain ⟨j0, j1, j2, k0, k1, k2⟩ := row3 HR8.out)
                  refine ⟨⟨k + 1, _, o ++ [s5], by omega, by go_num, by rw [List.length_append, HOK.out]; rfl, heap_setCell_same _ _ 2 _ _ _ HR8.out, ?_, ?_, ?_, ?_, HGOOD.out⟩, by simp [intOf]; omega⟩
                  · rw [strCells_snoc]
                    exact set1_row HOW8.out HR8.out (by decide)
                  · exact ((HB7.out.alloc HB7.out.size _).grown HGR.out (by rw [World.size_alloc]; omega) (fun j hj => by
                      have := row_low HO7.out hj
                      omega)).setCell (p := ⟨w.heap.size, 2, none⟩) (Nat.le_refl _) _
                  · have := HGR.out.size
                    rw [World.size_alloc] at this
                    simp
                    omega
                  · have h1 := ((row_below HOL.out HW7.out).alloc (.cells #[.string (bs s5)] 9))
                    have h2 := ownsRow_upd h1 (Upd.of_grownBy HGR.out (F := fun j => (Value.slice qs k caps).ownBlock = some j) (fun j e => e)) (fun g hg e => by
                      have := row_low HO7.out e
                      have := ownsRow_lt HO2.out hg
                      omega)
                    exact set1_row h2 HR8.out (by decide)
                · have HBAD := Lib.hid (show outsT A 0 l = none from outsT_none hlt HOUTS.out (fun d hd => by rw [hgk] at hd; cases hd; rintro ⟨_, h2⟩; exact hsum (by rw [← hs5, h2, hX])))
                  subst hz
                  clear hgkc hgk hX hopn hs5 ho5
                  go_wp2_with fail
                  refine (out_any k hk100 _).mono ?_
                  rintro e w4 ⟨rfl, rfl⟩
                  go_wp2_with fail
                  refine (HGKC.out _ HB.out).mono ?_
                  rintro e w5 ⟨rfl, hb5⟩
                  have hlt4 := blk_lt HR.out
                  have HR4 := HR
                  have HB4 := HB
                  clear c0 c1 c2 f0 f1 f2
                  have HB5 := Lib.hid (HB4.out.trans (hb5.mono HB4.out.size))
                  have HR5 := Lib.hid ((hb5.block _ hlt4).trans HR4.out)
                  have hlt5 : w.heap.size < w5.heap.size := Nat.lt_of_lt_of_le hlt4 hb5.size
                  clear hb5
                  go_wp2_with fail
                  refine (HOPN.out _).mono ?_
                  rintro e w6 ⟨rfl, hb6⟩
                  have HB6 := Lib.hid (HB5.out.trans (hb6.mono HB5.out.size))
                  have HR6 := Lib.hid ((hb6.block _ hlt5).trans HR5.out)
                  have hlt6 : w.heap.size < w6.heap.size := Nat.lt_of_lt_of_le hlt5 hb6.size
                  clear hb6
                  go_wp2_with fail
                  refine (sha_any s5 hs5l _).mono ?_
                  rintro e w7 ⟨rfl, hb7⟩
                  have HB7 := Lib.hid (HB6.out.trans (hb7.mono HB6.out.size))
                  have HR7 := Lib.hid ((hb7.block _ hlt6).trans HR6.out)
                  have hlt7 : w.heap.size < w7.heap.size := Nat.lt_of_lt_of_le hlt6 hb7.size
                  clear hb7
                  have hne : (Sha.shaS s5 == X) = false := by simpa using hsum
                  obtain ⟨c0, c1, c2, f0, f1, f2⟩ := row3 HR7.out
                  go_wp2_with fail
                  obtain ⟨e0, e1, e2, _⟩ := row3 (set3 HR7.out (.int .u64 0) (.string { data := #[] }) (.slice none 0 0))
                  refine bodyPost_ret (v := .tuple #[.agg #[.int .u64 0, .string (bs []), .slice none 0 0], .bool false, .int .i64 50]) (manifest_out Tryz.results15 _ _ w.heap.size 0 [] (.slice none 0 0) (by rfl) e0 e1 e2) rfl ?_
                  refine ⟨set3_below HB7.out (Nat.le_refl _) _ _ _, ?_⟩
                  rw [HNN.out, HBAD.out]
                  exact rfl
              · have HBAD := Lib.hid (show outsT A 0 l = none from outsT_none hlt HOUTS.out (fun d hd => by rw [hgk] at hd; cases hd; rintro ⟨h1, _⟩; exact hz (by rw [← ho5, h1])))
                clear hgkc hgk hX hopn hs5 ho5
                go_wp2_with fail
                refine (out_any k hk100 _).mono ?_
                rintro e w4 ⟨rfl, rfl⟩
                go_wp2_with fail
                refine (HGKC.out _ HB.out).mono ?_
                rintro e w5 ⟨rfl, hb5⟩
                have hlt4 := blk_lt HR.out
                have HR4 := HR
                have HB4 := HB
                clear c0 c1 c2 f0 f1 f2
                have HB5 := Lib.hid (HB4.out.trans (hb5.mono HB4.out.size))
                have HR5 := Lib.hid ((hb5.block _ hlt4).trans HR4.out)
                have hlt5 : w.heap.size < w5.heap.size := Nat.lt_of_lt_of_le hlt4 hb5.size
                clear hb5
                go_wp2_with fail
                refine (HOPN.out _).mono ?_
                rintro e w6 ⟨rfl, hb6⟩
                have HB6 := Lib.hid (HB5.out.trans (hb6.mono HB5.out.size))
                have HR6 := Lib.hid ((hb6.block _ hlt5).trans HR5.out)
                have hlt6 : w.heap.size < w6.heap.size := Nat.lt_of_lt_of_le hlt5 hb6.size
                clear hb6
                obtain ⟨c0, c1, c2, f0, f1, f2⟩ := row3 HR6.out
                go_wp2_with fail
                obtain ⟨e0, e1, e2, _⟩ := row3 (set3 HR6.out (.int .u64 0) (.string { data := #[] }) (.slice none 0 0))
                refine bodyPost_ret (v := .tuple #[.agg #[.int .u64 0, .string (bs []), .slice none 0 0], .bool false, .int .i64 50]) (manifest_out Tryz.results15 _ _ w.heap.size 0 [] (.slice none 0 0) (by rfl) e0 e1 e2) rfl ?_
                refine ⟨set3_below HB6.out (Nat.le_refl _) _ _ _, ?_⟩
                rw [HNN.out, HBAD.out]
                exact rfl
          · obtain rfl : k = l.length := by omega
            have hO : Hid (latestT A = (some (v, job, o), 0)) := Lib.hid (by rw [HNN.out, HOUTS.out, List.drop_of_length_le (Nat.le_refl _)]; unfold outsT; simp [latOf])
            go_wp2_with fail
            obtain ⟨d0, d1, d2, _⟩ := row3 (set3 HR.out (.int .u64 (v : Int)) (.string (bs job)) (.slice qs l.length caps))
            refine bodyPost_ret (v := .tuple #[.agg #[.int .u64 (v : Int), .string (bs job), .slice qs l.length caps], .bool true, .int .i64 0]) (manifest_out Tryz.results15 _ _ w.heap.size v job (.slice qs l.length caps) (by rfl) d0 d1 d2) rfl ?_
            refine ⟨set3_below HB.out (Nat.le_refl _) _ _ _, ?_⟩
            rw [hO.out]
            refine ⟨_, rfl, ?_, fun g hg => Nat.le_trans (Nat.le_of_lt hlt2) (row_low HOWN.out hg)⟩
            have h1 := set3_row (x := .int .u64 (v : Int)) (y := .string (bs job)) (z := .slice qs l.length caps) HOWN.out HR.out (by decide)
            unfold RowAt
            rw [HOK.out]
            exact row_base h1
end Go.Proofs.YtoaihngckcbhiaaGreatDoor.Man
namespace Go.Proofs.YtoaihngckcbhiaaGreatDoor.Man
open Go.RowKit Wal Fil
section
variable {w w' : World} {b y n N : Nat} {bl : Nat → Prop} {A : M}
set_option maxRecDepth 100000 in
theorem ffault_any {m x : Nat} {gv : Value} {F : St} (h : FilIn w y b m x gv F) : Calls Tryz.prog 13 #[.pointer (some ⟨y, 0, none⟩)] w fun e w' => e = .returned (.int .i64 F.fault) ∧ w = w' := by
  obtain ⟨_, _, _, _, _, _, c6, _⟩ := h.cells
  clear h
  go_enter Tryz.func13, Tryz.ntmps13
  go_wp2_with fail
  go_ret
  exact ⟨rfl, rfl⟩
theorem fst_fault {fz : Bool} (h : FOk fz w b y bl n N A) : Calls Tryz.prog 13 #[.pointer (some ⟨y, 0, none⟩)] w fun e w' => e = .returned (.int .i64 0) ∧ w = w' := by
  obtain ⟨D, fp, m, x, gv, F, h1, h2, h3, h4, h5, h6, h7, h8, h9⟩ := h
  refine (ffault_any h2).mono ?_
  rw [h4.fault]
  exact fun e w' h => h
set_option maxRecDepth 100000 in
theorem check_any {fz : Bool} (h : FOk fz w b y bl n N A) : Calls Tryz.prog 49 #[.pointer (some ⟨y, 0, none⟩)] w fun e w' => e = .returned (.int .i64 0) ∧ w = w' := by
  have H := Lib.hid (fst_fault h)
  clear h
  go_enter Tryz.func49, Tryz.ntmps49
  go_wp2_with fail
  refine H.out.mono ?_
  rintro e w1 ⟨rfl, rfl⟩
  go_wp2_with fail
  go_ret
  exact ⟨rfl, rfl⟩
theorem good_small (hg : Fil.Good A) (k : T) : ((Fil.get A k).getD []).length ≤ 1000000 := by
  cases h : Fil.get A k with
  | none => simp
  | some v =>
    have h1 := hg _ (Fil.get_some h)
    unfold mayB at h1
    have h2 := of_decide_eq_true h1
    show v.length ≤ 1000000
    have h3 : v.length ≤ 65535 := h2.2.2
    omega
theorem gets_of {fz : Bool} (h : FOk fz w b y bl n N A) : GetsAt w y A :=
  ⟨fun W hW k hk => (fst_get (h.below hW) k (by unfold maxLen; omega)).mono fun e w' h => ⟨h.1, h.2.2⟩, good_small h.up.2.1⟩
def oldT (A : M) (v : Nat) : Bool := match (latestT A).1 with
  | some (x, _, _) => decide (v ≤ x)
  | none => false
set_option maxRecDepth 100000 in
set_option maxHeartbeats 1000000 in
theorem old_any (h : GetsAt w y A) (v : Nat) : Calls Tryz.prog 51 #[.pointer (some ⟨y, 0, none⟩), .int .u64 (v : Int)] w fun e w' => e = .returned (.bool (oldT A v)) ∧ Below w.heap.size w w' := by
  have hl := latest_any h
  unfold LatPost at hl
  obtain ⟨r, hr⟩ : ∃ r, latestT A = r := ⟨_, rfl⟩
  rw [hr] at hl
  obtain ⟨r1, c⟩ := r
  cases r1 with
  | none =>
    have hO : Hid (oldT A v = false) := Lib.hid (by unfold oldT; rw [hr])
    have H := Lib.hid hl
    clear hl h hr
    go_enter Tryz.func51, Tryz.ntmps51
    go_wp2_with fail
    refine H.out.mono ?_
    rintro e w1 ⟨hb1, rfl⟩
    have HB1 := Lib.hid hb1
    clear hb1
    go_wp2_with fail
    go_ret
    rw [hO.out]
    exact ⟨rfl, HB1.out.alloc HB1.out.size _⟩
  | some p =>
    obtain ⟨x, j, l⟩ := p
    have hO : Hid (oldT A v = decide (v ≤ x)) := Lib.hid (by unfold oldT; rw [hr])
    have H := Lib.hid hl
    clear hl h hr
    go_enter Tryz.func51, Tryz.ntmps51
    go_wp2_with fail
    refine H.out.mono ?_
    rintro e w1 ⟨hb1, sl, rfl, ho, _⟩
    obtain ⟨q, cap, rfl⟩ := slice_len ho
    have HB1 := Lib.hid hb1
    clear hb1 ho
    go_wp2_with fail
    go_ret
    rw [hO.out]
    refine ⟨?_, HB1.out.alloc HB1.out.size _⟩
    simp
end
end Go.Proofs.YtoaihngckcbhiaaGreatDoor.Man
namespace Go.Proofs.YtoaihngckcbhiaaGreatDoor.Man
open Go.RowKit Wal Fil
def Goes (w : World) (b y : Nat) (bl : Nat → Prop) (n N : Nat) (A' : M) (w' : World) : Prop :=
  ∃ bl', FSt w' b y bl' n N A' ∧ Upd (NoS w bl) w w' ∧ ∀ k, bl' k → bl k ∨ w.heap.size ≤ k
section
variable {w w' w1 : World} {b y n N : Nat} {bl : Nat → Prop} {A A' : M} {fz : Bool}
theorem upd_after (hb : Below w.heap.size w w1) (hu : Upd (NoS w1 bl) w1 w') (hbl : ∀ k, bl k → k < w.heap.size) : Upd (NoS w bl) w w' := by
  refine (Upd.of_below hb).trans hu (fun k hk => .inl ⟨hk.1, fun t e => hk.2 t ?_⟩)
  obtain ⟨cs, fz, h1⟩ := e
  exact ⟨cs, fz, (hb.block k (hbl k hk.1)).trans h1⟩
theorem Goes.after (hb : Below w.heap.size w w1) {bl' : Nat → Prop} (g : FSt w' b y bl' n N A') (hu : Upd (NoS w1 bl) w1 w') (hs : ∀ k, bl' k → bl k ∨ w1.heap.size ≤ k) (hbl : ∀ k, bl k → k < w.heap.size) : Goes w b y bl n N A' w' :=
  ⟨bl', g, upd_after hb hu hbl, fun k hk => (hs k hk).imp id (fun e => Nat.le_trans hb.size e)⟩
def GoesX (fz : Bool) (w : World) (b y : Nat) (bl : Nat → Prop) (n N : Nat) (A : M) (r : Int × M) (c : Int) (w' : World) : Prop :=
  ∃ bl', FRe fz w' b y bl' n N A r c ∧ Upd (NoS w bl) w w' ∧ ∀ k, bl' k → bl k ∨ w.heap.size ≤ k
theorem GoesX.calm {r : Int × M} {c : Int} (h : GoesX false w b y bl n N A r c w') : c = r.1 ∧ Goes w b y bl n N r.2 w' := by
  obtain ⟨bl', g1, g2, g3⟩ := h
  obtain ⟨e, g4⟩ := g1.calm
  exact ⟨e, bl', g4, g2, g3⟩
theorem GoesX.same (h : FOk fz w b y bl n N A) (hb : Below w.heap.size w w') (c : Int) : GoesX fz w b y bl n (N + 1) A (c, A) c w' :=
  ⟨bl, .inl ⟨rfl, (h.below hb).more (Nat.le_succ N)⟩, Upd.of_below hb, fun _ hk => .inl hk⟩
theorem GoesX.after {r : Int × M} {c : Int} (hb : Below w.heap.size w w1) {bl' : Nat → Prop} (g : FRe fz w' b y bl' n N A r c) (hu : Upd (NoS w1 bl) w1 w') (hs : ∀ k, bl' k → bl k ∨ w1.heap.size ≤ k) (hbl : ∀ k, bl k → k < w.heap.size) : GoesX fz w b y bl n N A r c w' :=
  ⟨bl', g, upd_after hb hu hbl, fun k hk => (hs k hk).imp id (fun e => Nat.le_trans hb.size e)⟩
def quitC : List Chg := [⟨underT, [], true⟩]
set_option maxRecDepth 100000 in
set_option maxHeartbeats 1000000 in
theorem quit_any (h : FSt w b y bl n N A) (hbl : ∀ k, bl k → k < w.heap.size) (hN : N < 1000000000) :
    Calls Tryz.prog 21 #[.pointer (some ⟨y, 0, none⟩)] w fun e w' => e = .returned (.int .i64 (codeC n A quitC)) ∧ Goes w b y bl n (N + 1) (nextC n A quitC) w' := by
  have HC := Lib.hid (check_any h)
  have hba : Below w.heap.size w (w.alloc (.cells #[.string { data := #[117, 110, 100, 101, 114] }, .string { data := #[] }, .bool true] 99)) := below_alloc w _
  have hcm := fst_commit (cap := 1) (l := quitC) (h.below hba) hN (chgs_one (c := ⟨underT, [], true⟩) (heap_alloc_new w _)) (by decide) (by decide)
  have HCM := Lib.hid hcm
  have HB := Lib.hid hba
  clear hcm hba h
  go_enter Tryz.func21, Tryz.ntmps21
  go_wp2_with fail
  refine HC.out.mono ?_
  rintro e w1 ⟨rfl, rfl⟩
  go_wp2_with fail
  refine HCM.out.mono ?_
  rintro e w2 ⟨rfl, bl', g1, g2, g3⟩
  have HG := Lib.hid (Goes.after HB.out g1 g2 g3 hbl)
  clear g1 g2 g3
  go_wp2_with fail
  go_ret
  exact ⟨rfl, HG.out⟩
def beginT (n : Nat) (A : M) (v : Nat) (job : T) : (T × Nat × List T) × Int × M :=
  if (packT v job []).2 ≠ 0 then (([], 0, []), (packT v job []).2, A) else match (nowT A).1 with
    | some (x, j, l) => if x = v ∧ j = job then ((job, v, l), 0, A) else
        if oldT A v then (([], 0, []), 2, A) else if codeC n A [⟨underT, (packT v job []).1, false⟩] ≠ 0 then (([], 0, []), codeC n A [⟨underT, (packT v job []).1, false⟩], A) else ((job, v, []), 0, nextC n A [⟨underT, (packT v job []).1, false⟩])
    | none => if oldT A v then (([], 0, []), 2, A) else if codeC n A [⟨underT, (packT v job []).1, false⟩] ≠ 0 then (([], 0, []), codeC n A [⟨underT, (packT v job []).1, false⟩], A) else ((job, v, []), 0, nextC n A [⟨underT, (packT v job []).1, false⟩])
theorem begin_code {v : Nat} {job : T} (h : (beginT n A v job).2.1 ≠ 0) : (beginT n A v job).1 = ([], 0, []) := by
  revert h
  unfold beginT
  split
  · intro _; rfl
  · split
    · split
      · intro h; exact absurd rfl h
      · split
        · intro _; rfl
        · split
          · intro _; rfl
          · intro h; exact absurd rfl h
    · split
      · intro _; rfl
      · split
        · intro _; rfl
        · intro h; exact absurd rfl h
def BeginPost (fz : Bool) (w : World) (b y : Nat) (bl : Nat → Prop) (n N : Nat) (A : M) (r : (T × Nat × List T) × Int × M) (e : Ending) (w' : World) : Prop :=
  ∃ sl bl' u c, e = .returned (.tuple #[.agg #[.int .u64 ((u : T × Nat × List T).2.1 : Int), .string (bs u.1), sl], .int .i64 c]) ∧ RowAt w' 0 sl u.2.2 ∧ (∀ g, sl.ownBlock = some g → w.heap.size ≤ g ∧ ¬ bl' g) ∧
    (c = 0 → u = r.1) ∧ (c ≠ 0 → u = ([], 0, [])) ∧ FRe fz w' b y bl' n (N + 1) A r.2 c ∧ Upd (NoS w bl) w w' ∧ ∀ k, bl' k → bl k ∨ w.heap.size ≤ k
theorem packT_len {v : Nat} {job : T} {l : List T} (h : (packT v job l).2 = 0) : (packT v job l).1.length ≤ 65535 := by
  by_cases h1 : 64 < job.length
  · unfold packT at h
    rw [if_pos h1] at h
    cases h
  · cases hr : rowE l with
    | none =>
      unfold packT at h
      rw [if_neg h1, hr] at h
      cases h
    | some r =>
      have e : packT v job l = if 65535 < (Crc.sealT (Crc.le 8 v ++ (Crc.le 2 job.length ++ job) ++ r)).length then ([], 5) else (Crc.sealT (Crc.le 8 v ++ (Crc.le 2 job.length ++ job) ++ r), 0) := by
        unfold packT
        rw [if_neg h1, hr]
      rw [e] at h ⊢
      by_cases h2 : 65535 < (Crc.sealT (Crc.le 8 v ++ (Crc.le 2 job.length ++ job) ++ r)).length
      · rw [if_pos h2] at h
        cases h
      · rw [if_neg h2]
        exact Nat.not_lt.1 h2
set_option maxRecDepth 100000 in
theorem under_out2 {fn : Func} {q u : Tmp} (h : fn.results = #[.cell q 52, .tmp u]) (tmps : Array Value) (w : World) (g : Nat) (v : Int) (j : T) (sl : Value) (hq : tmps.getD q undef = .pointer (some ⟨g, 0, none⟩)) (c0 : w.cell? ⟨g, 0, none⟩ = some (.int .u64 v)) (c1 : w.cell? ⟨g, 1, none⟩ = some (.string (bs j))) (c2 : w.cell? ⟨g, 2, none⟩ = some sl) :
    (results fn tmps).run Tryz.prog w = .ok (.tuple #[.agg #[.int .u64 v, .string (bs j), sl], tmps.getD u undef]) w := by
  rw [results_cell_tmp h, hq]
  go_simp
-- BEGIN
theorem begin_zero (h : FOk fz w b y bl n N A) (hb : Below w.heap.size w w') (c : Int) (hc : c ≠ 0) : BeginPost fz w b y bl n N A (([], 0, []), c, A) (.returned (.tuple #[.agg #[.int .u64 0, .string (bs []), .slice none 0 0], .int .i64 c])) w' :=
  ⟨.slice none 0 0, bl, ([], 0, []), c, rfl, by unfold RowAt; rw [strCells_enc]; exact World.ownsRow_nil _ _ _ _, by simp [Value.ownBlock], fun e => absurd e hc, fun _ => rfl, .inl ⟨rfl, (h.below hb).more (Nat.le_succ N)⟩, Upd.of_below hb, fun _ hk => .inl hk⟩
theorem begin_end {w5 w6 : World} {bl' : Nat → Prop} {a0 b0 c0 : Value} {r : (T × Nat × List T) × Int × M} (hbl : ∀ k, bl k → k < w.heap.size) (hb5 : Below w.heap.size w w5) (hlt : w.heap.size < w5.heap.size) (hr6 : w6.heap[w.heap.size]? = some (.cells #[a0, b0, c0] 52)) {c : Int}
    (g1 : FRe fz w6 b y bl' n (N + 1) A r.2 c) (g2 : Upd (NoS w5 bl) w5 w6) (g3 : ∀ k, bl' k → bl k ∨ w5.heap.size ≤ k) (x : Nat) (j : T) (h0 : c = 0 → (j, x, []) = r.1) (h1 : c ≠ 0 → j = [] ∧ x = 0) :
    BeginPost fz w b y bl n N A r (.returned (.tuple #[.agg #[.int .u64 (x : Int), .string (bs j), .slice none 0 0], .int .i64 c])) (((w6.setCell ⟨w.heap.size, 0, none⟩ (.int .u64 (x : Int))).setCell ⟨w.heap.size, 1, none⟩ (.string (bs j))).setCell ⟨w.heap.size, 2, none⟩ (.slice none 0 0)) := by
  have hu7 := (((Upd.refl (fun k => k = w.heap.size) w6).setCell (p := ⟨w.heap.size, 0, none⟩) (.inl rfl) (.int .u64 (x : Int))).setCell (p := ⟨w.heap.size, 1, none⟩) (.inl rfl) (.string (bs j))).setCell (p := ⟨w.heap.size, 2, none⟩) (.inl rfl) (.slice none 0 0)
  refine ⟨.slice none 0 0, bl', (j, x, []), c, rfl, by unfold RowAt; rw [strCells_enc]; exact World.ownsRow_nil _ _ _ _, by simp [Value.ownBlock], h0, fun e => by obtain ⟨e1, e2⟩ := h1 e; rw [e1, e2], g1.upd hu7 (fun k hk e => ?_) (fun k hk e => ?_), ?_, fun k hk => (g3 k hk).imp id (fun e => Nat.le_trans hb5.size e)⟩
  · rw [e] at hk
    obtain ⟨cs, fz, h1⟩ := hk
    rw [hr6] at h1
    injection h1 with h1
    injection h1 with _ h2
    exact absurd h2 (by decide)
  · rcases g3 k hk with h1 | h1
    · have := hbl k h1; omega
    · omega
  · exact (upd_after hb5 g2 hbl).trans hu7 (fun k hk => .inr (by omega))
theorem begin_ok {w6 : World} {bl' : Nat → Prop} {code : Int} {A' : M} {v : Nat} {job : T} {r : (T × Nat × List T) × Int × M} (h : r = if code ≠ 0 then (([], 0, []), code, A) else ((job, v, []), 0, A')) (g : FRe fz w6 b y bl' n N A (code, A') 0) : FRe fz w6 b y bl' n N A r.2 0 ∧ (job, v, []) = r.1 := by
  obtain ⟨e, g2⟩ := g.zero
  have e : code = 0 := e
  subst e
  rw [if_neg (by simp)] at h
  subst h
  exact ⟨.inl ⟨rfl, g2⟩, rfl⟩
theorem begin_not {w6 : World} {bl' : Nat → Prop} {code c : Int} {A' : M} {v : Nat} {job : T} {r : (T × Nat × List T) × Int × M} (h : r = if code ≠ 0 then (([], 0, []), code, A) else ((job, v, []), 0, A')) (hA : code ≠ 0 → A' = A) (g : FRe fz w6 b y bl' n N A (code, A') c) (hc : c ≠ 0) : FRe fz w6 b y bl' n N A r.2 c := by
  rcases g with ⟨e, g2⟩ | ⟨e1, e2, e3, g2⟩
  · have e : c = code := e
    subst e
    rw [if_pos hc] at h
    subst h
    rw [hA hc] at g2
    exact .inl ⟨rfl, g2⟩
  · have e3 : code = 0 := e3
    subst e3
    rw [if_neg (by simp)] at h
    subst h
    exact .inr ⟨e1, e2, rfl, g2⟩
theorem nextC_not {l : List Chg} (h : codeC n A l ≠ 0) : nextC n A l = A := by
  unfold codeC at h
  unfold nextC
  split at h
  · rename_i h1; rw [if_neg (by rw [h1]; simp)]
  · split at h
    · rw [if_neg (by omega)]
    · exact absurd rfl h
set_option maxRecDepth 100000 in
set_option maxHeartbeats 8000000 in
theorem begin_any (h : FOk fz w b y bl n N A) (hbl : ∀ k, bl k → k < w.heap.size) (hN : N < 1000000000) (v : Nat) (hv : v < 18446744073709551616) (job : T) :
    Calls Tryz.prog 17 #[.pointer (some ⟨y, 0, none⟩), .int .u64 (v : Int), .string (bs job)] w fun e w' => BeginPost fz w b y bl n N A (beginT n A v job) e w' := by
  have hpack := fun W => pack_any v job [] none 0 W hv (fun i hi => by simp at hi) (by unfold maxLen; simp) (by simp [rowLen])
  have hlen := fun e => packT_len (v := v) (job := job) (l := []) e
  obtain ⟨S, hS⟩ : ∃ S, (packT v job []).1 = S := ⟨_, rfl⟩
  obtain ⟨E, hE⟩ : ∃ E, (packT v job []).2 = E := ⟨_, rfl⟩
  have hbeg : beginT n A v job = if E ≠ 0 then (([], 0, []), E, A) else match (nowT A).1 with
    | some (x, j, l) => if x = v ∧ j = job then ((job, v, l), 0, A) else
        if oldT A v then (([], 0, []), 2, A) else if codeC n A [⟨underT, S, false⟩] ≠ 0 then (([], 0, []), codeC n A [⟨underT, S, false⟩], A) else ((job, v, []), 0, nextC n A [⟨underT, S, false⟩])
    | none => if oldT A v then (([], 0, []), 2, A) else if codeC n A [⟨underT, S, false⟩] ≠ 0 then (([], 0, []), codeC n A [⟨underT, S, false⟩], A) else ((job, v, []), 0, nextC n A [⟨underT, S, false⟩]) := by unfold beginT; rw [hS, hE]
  rw [hS, hE] at hpack hlen
  have HPACK := Lib.hid hpack
  have HBEG := Lib.hid hbeg
  have HC := Lib.hid (fun W (hW : Below w.heap.size w W) => check_any (h.below hW))
  have H := Lib.hid h
  have HBL := Lib.hid hbl
  clear hpack hbeg h hS hE hbl
  by_cases hE0 : E = 0
  · have hSl := hlen hE0
    have HNOW := Lib.hid (fun W (hW : Below w.heap.size w W) => now_any (gets_of (H.out.below hW)))
    have HOLD := Lib.hid (fun W (hW : Below w.heap.size w W) => old_any (gets_of (H.out.below hW)) v)
    have HCOM := Lib.hid (fun W (hW : Below w.heap.size w W) => fok_commit (cap := 1) (l := [⟨underT, S, false⟩]) (H.out.below (hW.alloc hW.size (.cells #[.string { data := #[117, 110, 100, 101, 114] }, .string (bs S), .bool false] 99))) hN (chgs_one (c := ⟨underT, S, false⟩) (heap_alloc_new W _)) (by simp) (by simp [weigh, underT]; omega))
    have HBEG2 := Lib.hid HBEG.out
    rw [if_neg (by simp [hE0])] at HBEG2
    subst hE0
    clear hlen
    obtain ⟨r, hr⟩ : ∃ r, nowT A = r := ⟨_, rfl⟩
    obtain ⟨r1, cc⟩ := r
    rw [hr] at HBEG2 HNOW
    clear hr
    cases r1 with
    | none =>
      have HTAIL := Lib.hid (show beginT n A v job = if oldT A v then (([], 0, []), 2, A) else if codeC n A [⟨underT, S, false⟩] ≠ 0 then (([], 0, []), codeC n A [⟨underT, S, false⟩], A) else ((job, v, []), 0, nextC n A [⟨underT, S, false⟩]) from HBEG2.out)
      go_enter Tryz.func17, Tryz.ntmps17
      go_wp2_with fail
      refine (HC.out _ (below_alloc w _)).mono ?_
      rintro e w1 ⟨rfl, hw1⟩
      subst hw1
      go_wp2_with fail
      refine (HPACK.out _).mono ?_
      rintro e w2 ⟨rfl, hb2⟩
      obtain ⟨hr2, hb2', hlt2⟩ := new3 hb2
      have HB2 := Lib.hid hb2'
      have HR2 := Lib.hid hr2
      clear hb2 hr2 hb2'
      go_wp2_with fail
      refine (HNOW.out _ HB2.out).mono ?_
      intro e w3 h3
      obtain ⟨hb3, rfl⟩ := h3
      have HB3 := Lib.hid (HB2.out.trans (hb3.mono HB2.out.size))
      have HR3 := Lib.hid ((hb3.block _ hlt2).trans HR2.out)
      have hlt3 : w.heap.size < w3.heap.size := Nat.lt_of_lt_of_le hlt2 hb3.size
      clear hb3 hlt2
      go_wp2_with fail
      refine (HOLD.out _ (HB3.out.alloc HB3.out.size _)).mono ?_
      rintro e w5 ⟨rfl, hb5⟩
      obtain ⟨_, hb5', _⟩ := new3 hb5
      have hlt5 : w.heap.size < w5.heap.size := Nat.lt_of_lt_of_le hlt3 hb5'.size
      have HB5 := Lib.hid (HB3.out.trans (hb5'.mono HB3.out.size))
      have HR5 := Lib.hid ((hb5'.block _ hlt3).trans HR3.out)
      clear hb5 hb5'
      cases hold : oldT A v with
      | true =>
        have HT := Lib.hid (show beginT n A v job = (([], 0, []), 2, A) by rw [HTAIL.out, hold]; rfl)
        clear hold
        obtain ⟨c0, c1, c2, f0, f1, f2⟩ := row3 HR5.out
        go_wp2_with fail
        obtain ⟨d0, d1, d2, _⟩ := row3 (set3 HR5.out (.int .u64 0) (.string { data := #[] }) (.slice none 0 0))
        refine bodyPost_ret (v := .tuple #[.agg #[.int .u64 0, .string (bs []), .slice none 0 0], .int .i64 2]) (under_out2 Tryz.results17 _ _ w.heap.size 0 [] (.slice none 0 0) (by rfl) d0 d1 d2) rfl ?_
        rw [HT.out]
        exact begin_zero H.out (set3_below HB5.out (Nat.le_refl _) _ _ _) _ (by decide)
      | false =>
        have HTL := Lib.hid (show beginT n A v job = if codeC n A [⟨underT, S, false⟩] ≠ 0 then (([], 0, []), codeC n A [⟨underT, S, false⟩], A) else ((job, v, []), 0, nextC n A [⟨underT, S, false⟩]) by rw [HTAIL.out, hold]; rfl)
        clear hold
        go_wp2_with fail
        refine (HCOM.out _ HB5.out).mono ?_
        rintro e w6 ⟨K, rfl, bl', g1, g2, g3⟩
        have hba := HB5.out.alloc HB5.out.size (.cells #[.string { data := #[117, 110, 100, 101, 114] }, .string (bs S), .bool false] 99)
        have hlta : w.heap.size < (w5.alloc (.cells #[.string { data := #[117, 110, 100, 101, 114] }, .string (bs S), .bool false] 99)).heap.size := by rw [World.size_alloc]; omega
        have HRA := (((Below.refl w5.heap.size w5).alloc (Nat.le_refl _) (.cells #[.string { data := #[117, 110, 100, 101, 114] }, .string (bs S), .bool false] 99)).block _ hlt5).trans HR5.out
        have HR6 := Lib.hid ((g2.block w.heap.size hlta (fun e => by have := HBL.out _ e.1; omega)).trans HRA)
        have HG1 := Lib.hid g1; have HG2 := Lib.hid g2; have HG3 := Lib.hid g3; have HBA := Lib.hid hba
        clear g1 g2 g3 hba HRA
        by_cases hK0 : K = 0
        · subst hK0
          have HT := Lib.hid (begin_ok HTL.out HG1.out)
          obtain ⟨c0, c1, c2, f0, f1, f2⟩ := row3 HR6.out
          go_wp2_with fail
          obtain ⟨d0, d1, d2, _⟩ := row3 (set3 HR6.out (.int .u64 (v : Int)) (.string (bs job)) (.slice none 0 0))
          refine bodyPost_ret (v := .tuple #[.agg #[.int .u64 (v : Int), .string (bs job), .slice none 0 0], .int .i64 0]) (under_out2 Tryz.results17 _ _ w.heap.size v job (.slice none 0 0) (by rfl) d0 d1 d2) rfl ?_
          exact begin_end HBL.out HBA.out hlta HR6.out HT.out.1 HG2.out HG3.out v job (fun _ => HT.out.2) (fun e => absurd rfl e)
        · have HT := Lib.hid (begin_not HTL.out (nextC_not (n := n) (A := A) (l := [⟨underT, S, false⟩])) HG1.out hK0)
          obtain ⟨c0, c1, c2, f0, f1, f2⟩ := row3 HR6.out
          go_wp2_with fail
          obtain ⟨d0, d1, d2, _⟩ := row3 (set3 HR6.out (.int .u64 0) (.string { data := #[] }) (.slice none 0 0))
          refine bodyPost_ret (v := .tuple #[.agg #[.int .u64 0, .string (bs []), .slice none 0 0], .int .i64 K]) (under_out2 Tryz.results17 _ _ w.heap.size 0 [] (.slice none 0 0) (by rfl) d0 d1 d2) rfl ?_
          exact begin_end HBL.out HBA.out hlta HR6.out HT.out HG2.out HG3.out 0 [] (fun e => absurd e hK0) (fun _ => ⟨rfl, rfl⟩)
    | some p =>
      obtain ⟨x, j, l⟩ := p
      by_cases hx : x = v
      · by_cases hj : j = job
        · have HT := Lib.hid (show beginT n A v job = ((job, v, l), 0, A) by rw [HBEG2.out]; show (if x = v ∧ j = job then _ else _) = _; rw [if_pos ⟨hx, hj⟩])
          have hx' := hx.symm; have hj' := hj.symm
          subst hx' hj'
          go_enter Tryz.func17, Tryz.ntmps17
          go_wp2_with fail
          refine (HC.out _ (below_alloc w _)).mono ?_
          rintro e w1 ⟨rfl, hw1⟩
          subst hw1
          go_wp2_with fail
          refine (HPACK.out _).mono ?_
          rintro e w2 ⟨rfl, hb2⟩
          obtain ⟨hr2, hb2', hlt2⟩ := new3 hb2
          have HB2 := Lib.hid hb2'
          have HR2 := Lib.hid hr2
          clear hb2 hr2 hb2'
          go_wp2_with fail
          refine (HNOW.out _ HB2.out).mono ?_
          intro e w3 h3
          obtain ⟨hb3, sl, rfl, ho3, hg3⟩ := h3
          obtain ⟨q3, cap3, rfl⟩ := slice_len ho3
          have HO3 := Lib.hid ho3
          have HG3 := Lib.hid (show ∀ g, (Value.slice q3 l.length cap3).ownBlock = some g → w.heap.size ≤ g from fun g h => Nat.le_trans HB2.out.size (hg3 g h))
          have HB3 := Lib.hid (HB2.out.trans (hb3.mono HB2.out.size))
          have HR3 := Lib.hid ((hb3.block _ hlt2).trans HR2.out)
          have hlt3 : w.heap.size < w3.heap.size := Nat.lt_of_lt_of_le hlt2 hb3.size
          clear hb3 hlt2
          clear ho3 hg3
          obtain ⟨c0, c1, c2, f0, f1, f2⟩ := row3 HR3.out
          have HRA := Lib.hid (fun ob => (((Below.refl w3.heap.size w3).alloc (Nat.le_refl _) ob).block _ hlt3).trans HR3.out)
          have hx2 : ∀ ob, (w3.alloc ob).cell? ⟨w.heap.size, 0, none⟩ = some (.int .u64 0) ∧ (w3.alloc ob).cell? ⟨w.heap.size, 1, none⟩ = some (.string { data := #[] }) ∧ (w3.alloc ob).cell? ⟨w.heap.size, 2, none⟩ = some (.slice none 0 0) := fun ob => by
            have h1 := (((Below.refl w3.heap.size w3).alloc (Nat.le_refl _) ob).block _ hlt3).trans HR3.out
            obtain ⟨e0, e1, e2, _⟩ := row3 h1
            exact ⟨e0, e1, e2⟩
          go_wp2_with fail
          have hz1 := set3 HR3.out (.int .u64 (v : Int)) (.string (bs job)) (.slice q3 l.length cap3)
          have hz2 := (heap_alloc_old _ (.cells #[.int .u64 (v : Int), .string (bs job), .slice q3 l.length cap3] 52) (blk_lt hz1)).trans hz1
          obtain ⟨d0, d1, d2, _⟩ := row3 hz2
          refine bodyPost_ret (v := .tuple #[.agg #[.int .u64 (v : Int), .string (bs job), .slice q3 l.length cap3], .int .i64 0]) (under_out2 Tryz.results17 _ _ w.heap.size v job (.slice q3 l.length cap3) (by rfl) d0 d1 d2) rfl ?_
          rw [HT.out]
          have hbe0 := set3_below HB3.out (Nat.le_refl _) (.int .u64 (v : Int)) (.string (bs job)) (.slice q3 l.length cap3)
          have hbe := hbe0.alloc hbe0.size (.cells #[.int .u64 (v : Int), .string (bs job), .slice q3 l.length cap3] 52)
          exact ⟨.slice q3 l.length cap3, bl, (job, v, l), 0, rfl, (set3_row HO3.out HR3.out (by decide)).alloc _, fun g hg => ⟨HG3.out g hg, fun e => by have := HBL.out g e; have := HG3.out g hg; omega⟩, fun _ => rfl, fun e => absurd rfl e, .inl ⟨rfl, (H.out.below hbe).more (Nat.le_succ N)⟩, Upd.of_below hbe, fun _ hk => .inl hk⟩
        · have HTAIL := Lib.hid (show beginT n A v job = if oldT A v then (([], 0, []), 2, A) else if codeC n A [⟨underT, S, false⟩] ≠ 0 then (([], 0, []), codeC n A [⟨underT, S, false⟩], A) else ((job, v, []), 0, nextC n A [⟨underT, S, false⟩]) by rw [HBEG2.out]; show (if x = v ∧ j = job then _ else _) = _; rw [if_neg (fun e => hj e.2)])
          have hx' := hx.symm
          subst hx'
          have hjb : (j == job) = false := by simpa using hj
          go_enter Tryz.func17, Tryz.ntmps17
          go_wp2_with fail
          refine (HC.out _ (below_alloc w _)).mono ?_
          rintro e w1 ⟨rfl, hw1⟩
          subst hw1
          go_wp2_with fail
          refine (HPACK.out _).mono ?_
          rintro e w2 ⟨rfl, hb2⟩
          obtain ⟨hr2, hb2', hlt2⟩ := new3 hb2
          have HB2 := Lib.hid hb2'
          have HR2 := Lib.hid hr2
          clear hb2 hr2 hb2'
          go_wp2_with fail
          refine (HNOW.out _ HB2.out).mono ?_
          intro e w3 h3
          obtain ⟨hb3, sl, rfl, ho3, hg3⟩ := h3
          obtain ⟨q3, cap3, rfl⟩ := slice_len ho3
          have HB3 := Lib.hid (HB2.out.trans (hb3.mono HB2.out.size))
          have HR3 := Lib.hid ((hb3.block _ hlt2).trans HR2.out)
          have hlt3 : w.heap.size < w3.heap.size := Nat.lt_of_lt_of_le hlt2 hb3.size
          clear hb3 hlt2
          clear ho3 hg3
          go_wp2_with fail
          refine (HOLD.out _ (HB3.out.alloc HB3.out.size _)).mono ?_
          rintro e w5 ⟨rfl, hb5⟩
          obtain ⟨_, hb5', _⟩ := new3 hb5
          have hlt5 : w.heap.size < w5.heap.size := Nat.lt_of_lt_of_le hlt3 hb5'.size
          have HB5 := Lib.hid (HB3.out.trans (hb5'.mono HB3.out.size))
          have HR5 := Lib.hid ((hb5'.block _ hlt3).trans HR3.out)
          clear hb5 hb5'
          cases hold : oldT A v with
          | true =>
            have HT := Lib.hid (show beginT n A v job = (([], 0, []), 2, A) by rw [HTAIL.out, hold]; rfl)
            clear hold
            obtain ⟨c0, c1, c2, f0, f1, f2⟩ := row3 HR5.out
            go_wp2_with fail
            obtain ⟨d0, d1, d2, _⟩ := row3 (set3 HR5.out (.int .u64 0) (.string { data := #[] }) (.slice none 0 0))
            refine bodyPost_ret (v := .tuple #[.agg #[.int .u64 0, .string (bs []), .slice none 0 0], .int .i64 2]) (under_out2 Tryz.results17 _ _ w.heap.size 0 [] (.slice none 0 0) (by rfl) d0 d1 d2) rfl ?_
            rw [HT.out]
            exact begin_zero H.out (set3_below HB5.out (Nat.le_refl _) _ _ _) _ (by decide)
          | false =>
            have HTL := Lib.hid (show beginT n A v job = if codeC n A [⟨underT, S, false⟩] ≠ 0 then (([], 0, []), codeC n A [⟨underT, S, false⟩], A) else ((job, v, []), 0, nextC n A [⟨underT, S, false⟩]) by rw [HTAIL.out, hold]; rfl)
            clear hold
            go_wp2_with fail
            refine (HCOM.out _ HB5.out).mono ?_
            rintro e w6 ⟨K, rfl, bl', g1, g2, g3⟩
            have hba := HB5.out.alloc HB5.out.size (.cells #[.string { data := #[117, 110, 100, 101, 114] }, .string (bs S), .bool false] 99)
            have hlta : w.heap.size < (w5.alloc (.cells #[.string { data := #[117, 110, 100, 101, 114] }, .string (bs S), .bool false] 99)).heap.size := by rw [World.size_alloc]; omega
            have HRA := (((Below.refl w5.heap.size w5).alloc (Nat.le_refl _) (.cells #[.string { data := #[117, 110, 100, 101, 114] }, .string (bs S), .bool false] 99)).block _ hlt5).trans HR5.out
            have HR6 := Lib.hid ((g2.block w.heap.size hlta (fun e => by have := HBL.out _ e.1; omega)).trans HRA)
            have HG1 := Lib.hid g1; have HG2 := Lib.hid g2; have HG3 := Lib.hid g3; have HBA := Lib.hid hba
            clear g1 g2 g3 hba HRA
            by_cases hK0 : K = 0
            · subst hK0
              have HT := Lib.hid (begin_ok HTL.out HG1.out)
              obtain ⟨c0, c1, c2, f0, f1, f2⟩ := row3 HR6.out
              go_wp2_with fail
              obtain ⟨d0, d1, d2, _⟩ := row3 (set3 HR6.out (.int .u64 (v : Int)) (.string (bs job)) (.slice none 0 0))
              refine bodyPost_ret (v := .tuple #[.agg #[.int .u64 (v : Int), .string (bs job), .slice none 0 0], .int .i64 0]) (under_out2 Tryz.results17 _ _ w.heap.size v job (.slice none 0 0) (by rfl) d0 d1 d2) rfl ?_
              exact begin_end HBL.out HBA.out hlta HR6.out HT.out.1 HG2.out HG3.out v job (fun _ => HT.out.2) (fun e => absurd rfl e)
            · have HT := Lib.hid (begin_not HTL.out (nextC_not (n := n) (A := A) (l := [⟨underT, S, false⟩])) HG1.out hK0)
              obtain ⟨c0, c1, c2, f0, f1, f2⟩ := row3 HR6.out
              go_wp2_with fail
              obtain ⟨d0, d1, d2, _⟩ := row3 (set3 HR6.out (.int .u64 0) (.string { data := #[] }) (.slice none 0 0))
              refine bodyPost_ret (v := .tuple #[.agg #[.int .u64 0, .string (bs []), .slice none 0 0], .int .i64 K]) (under_out2 Tryz.results17 _ _ w.heap.size 0 [] (.slice none 0 0) (by rfl) d0 d1 d2) rfl ?_
              exact begin_end HBL.out HBA.out hlta HR6.out HT.out HG2.out HG3.out 0 [] (fun e => absurd e hK0) (fun _ => ⟨rfl, rfl⟩)
      · have HTAIL := Lib.hid (show beginT n A v job = if oldT A v then (([], 0, []), 2, A) else if codeC n A [⟨underT, S, false⟩] ≠ 0 then (([], 0, []), codeC n A [⟨underT, S, false⟩], A) else ((job, v, []), 0, nextC n A [⟨underT, S, false⟩]) by rw [HBEG2.out]; show (if x = v ∧ j = job then _ else _) = _; rw [if_neg (fun e => hx e.1)])
        have hxi : ¬ (x : Int) = (v : Int) := by omega
        go_enter Tryz.func17, Tryz.ntmps17
        go_wp2_with fail
        refine (HC.out _ (below_alloc w _)).mono ?_
        rintro e w1 ⟨rfl, hw1⟩
        subst hw1
        go_wp2_with fail
        refine (HPACK.out _).mono ?_
        rintro e w2 ⟨rfl, hb2⟩
        obtain ⟨hr2, hb2', hlt2⟩ := new3 hb2
        have HB2 := Lib.hid hb2'
        have HR2 := Lib.hid hr2
        clear hb2 hr2 hb2'
        go_wp2_with fail
        refine (HNOW.out _ HB2.out).mono ?_
        intro e w3 h3
        obtain ⟨hb3, sl, rfl, ho3, hg3⟩ := h3
        obtain ⟨q3, cap3, rfl⟩ := slice_len ho3
        have HB3 := Lib.hid (HB2.out.trans (hb3.mono HB2.out.size))
        have HR3 := Lib.hid ((hb3.block _ hlt2).trans HR2.out)
        have hlt3 : w.heap.size < w3.heap.size := Nat.lt_of_lt_of_le hlt2 hb3.size
        clear hb3 hlt2
        clear ho3 hg3
        go_wp2_with fail
        refine (HOLD.out _ (HB3.out.alloc HB3.out.size _)).mono ?_
        rintro e w5 ⟨rfl, hb5⟩
        obtain ⟨_, hb5', _⟩ := new3 hb5
        have hlt5 : w.heap.size < w5.heap.size := Nat.lt_of_lt_of_le hlt3 hb5'.size
        have HB5 := Lib.hid (HB3.out.trans (hb5'.mono HB3.out.size))
        have HR5 := Lib.hid ((hb5'.block _ hlt3).trans HR3.out)
        clear hb5 hb5'
        cases hold : oldT A v with
        | true =>
          have HT := Lib.hid (show beginT n A v job = (([], 0, []), 2, A) by rw [HTAIL.out, hold]; rfl)
          clear hold
          obtain ⟨c0, c1, c2, f0, f1, f2⟩ := row3 HR5.out
          go_wp2_with fail
          obtain ⟨d0, d1, d2, _⟩ := row3 (set3 HR5.out (.int .u64 0) (.string { data := #[] }) (.slice none 0 0))
          refine bodyPost_ret (v := .tuple #[.agg #[.int .u64 0, .string (bs []), .slice none 0 0], .int .i64 2]) (under_out2 Tryz.results17 _ _ w.heap.size 0 [] (.slice none 0 0) (by rfl) d0 d1 d2) rfl ?_
          rw [HT.out]
          exact begin_zero H.out (set3_below HB5.out (Nat.le_refl _) _ _ _) _ (by decide)
        | false =>
          have HTL := Lib.hid (show beginT n A v job = if codeC n A [⟨underT, S, false⟩] ≠ 0 then (([], 0, []), codeC n A [⟨underT, S, false⟩], A) else ((job, v, []), 0, nextC n A [⟨underT, S, false⟩]) by rw [HTAIL.out, hold]; rfl)
          clear hold
          go_wp2_with fail
          refine (HCOM.out _ HB5.out).mono ?_
          rintro e w6 ⟨K, rfl, bl', g1, g2, g3⟩
          have hba := HB5.out.alloc HB5.out.size (.cells #[.string { data := #[117, 110, 100, 101, 114] }, .string (bs S), .bool false] 99)
          have hlta : w.heap.size < (w5.alloc (.cells #[.string { data := #[117, 110, 100, 101, 114] }, .string (bs S), .bool false] 99)).heap.size := by rw [World.size_alloc]; omega
          have HRA := (((Below.refl w5.heap.size w5).alloc (Nat.le_refl _) (.cells #[.string { data := #[117, 110, 100, 101, 114] }, .string (bs S), .bool false] 99)).block _ hlt5).trans HR5.out
          have HR6 := Lib.hid ((g2.block w.heap.size hlta (fun e => by have := HBL.out _ e.1; omega)).trans HRA)
          have HG1 := Lib.hid g1; have HG2 := Lib.hid g2; have HG3 := Lib.hid g3; have HBA := Lib.hid hba
          clear g1 g2 g3 hba HRA
          by_cases hK0 : K = 0
          · subst hK0
            have HT := Lib.hid (begin_ok HTL.out HG1.out)
            obtain ⟨c0, c1, c2, f0, f1, f2⟩ := row3 HR6.out
            go_wp2_with fail
            obtain ⟨d0, d1, d2, _⟩ := row3 (set3 HR6.out (.int .u64 (v : Int)) (.string (bs job)) (.slice none 0 0))
            refine bodyPost_ret (v := .tuple #[.agg #[.int .u64 (v : Int), .string (bs job), .slice none 0 0], .int .i64 0]) (under_out2 Tryz.results17 _ _ w.heap.size v job (.slice none 0 0) (by rfl) d0 d1 d2) rfl ?_
            exact begin_end HBL.out HBA.out hlta HR6.out HT.out.1 HG2.out HG3.out v job (fun _ => HT.out.2) (fun e => absurd rfl e)
          · have HT := Lib.hid (begin_not HTL.out (nextC_not (n := n) (A := A) (l := [⟨underT, S, false⟩])) HG1.out hK0)
            obtain ⟨c0, c1, c2, f0, f1, f2⟩ := row3 HR6.out
            go_wp2_with fail
            obtain ⟨d0, d1, d2, _⟩ := row3 (set3 HR6.out (.int .u64 0) (.string { data := #[] }) (.slice none 0 0))
            refine bodyPost_ret (v := .tuple #[.agg #[.int .u64 0, .string (bs []), .slice none 0 0], .int .i64 K]) (under_out2 Tryz.results17 _ _ w.heap.size 0 [] (.slice none 0 0) (by rfl) d0 d1 d2) rfl ?_
            exact begin_end HBL.out HBA.out hlta HR6.out HT.out HG2.out HG3.out 0 [] (fun e => absurd e hK0) (fun _ => ⟨rfl, rfl⟩)
  · have HT := Lib.hid (show beginT n A v job = (([], 0, []), E, A) by rw [HBEG.out, if_pos hE0])
    clear hlen
    go_enter Tryz.func17, Tryz.ntmps17
    go_wp2_with fail
    refine (HC.out _ (below_alloc w _)).mono ?_
    rintro e w1 ⟨rfl, hw1⟩
    subst hw1
    go_wp2_with fail
    refine (HPACK.out _).mono ?_
    rintro e w2 ⟨rfl, hb2⟩
    obtain ⟨hr2, hb2', hlt2⟩ := new3 hb2
    have HB2 := Lib.hid hb2'
    have HR2 := Lib.hid hr2
    clear hb2 hr2 hb2'
    obtain ⟨c0, c1, c2, f0, f1, f2⟩ := row3 HR2.out
    go_wp2_with fail
    obtain ⟨d0, d1, d2, _⟩ := row3 (set3 HR2.out (.int .u64 0) (.string { data := #[] }) (.slice none 0 0))
    refine bodyPost_ret (v := .tuple #[.agg #[.int .u64 0, .string (bs []), .slice none 0 0], .int .i64 E]) (under_out2 Tryz.results17 _ _ w.heap.size 0 [] (.slice none 0 0) (by rfl) d0 d1 d2) rfl ?_
    rw [HT.out]
    exact begin_zero H.out (set3_below HB2.out (Nat.le_refl _) _ _ _) _ hE0
-- END
end
end Go.Proofs.YtoaihngckcbhiaaGreatDoor.Man
