/- ManE -/
import Derived.Test.YtoaihngckcbhiaaGreatDoorPkManD
import Derived.Test.YtoaihngckcbhiaaGreatDoorPkSameT
import Derived.Test.YtoaihngckcbhiaaGreatDoorPkManA
namespace Go.Proofs.YtoaihngckcbhiaaGreatDoor.Man
open Go.RowKit Go.Maps Wal Fil
section
variable {B : Nat} {w0 w w' : World} {b y n N : Nat} {A A' : M}
set_option maxRecDepth 100000 in
theorem memoNew_any (y : Nat) (w : World) : Calls Tryz.prog 56 #[.pointer (some ⟨y, 0, none⟩)] w fun e w' => ∃ p, e = .returned (.tuple #[.pointer (some ⟨p, 0, none⟩), .int .i64 0]) ∧ Below w.heap.size w w' := by
  go_enter Tryz.func56, Tryz.ntmps56
  go_wp2_with fail
  go_ret2
  exact ⟨_, rfl, below_alloc w _⟩
set_option maxRecDepth 100000 in
theorem made25_any (n : Nat) (h8 : 8 ≤ n) (hn : n ≤ 16384) (w : World) : Calls Tryz.prog 22 #[.int .i64 (n : Int)] w fun e w' => ∃ b y p, e = .returned (.tuple #[.pointer (some ⟨y, 0, none⟩), .pointer (some ⟨p, 0, none⟩)]) ∧ MyF w.heap.size w w' b y n 0 [] := by
  go_enter Tryz.func22, Tryz.ntmps22
  go_wp2_with fail
  refine (new_fst n (by omega) (by omega)).mono ?_
  rintro e w1 ⟨b, fp, rfl, hd1, hb1', hn1⟩
  have HD1 := Lib.hid hd1; have HB1 := Lib.hid hb1'; have HN1 := Lib.hid hn1
  clear hd1 hb1' hn1
  go_wp2_with fail
  refine (my_new HB1.out HB1.out.size (n := n) h8 hn HD1.out HN1.out).mono ?_
  rintro e w2 ⟨y, rfl, h2⟩
  have H2 := Lib.hid h2
  clear h2 HD1 HN1 HB1
  go_wp2_with fail
  refine (memoNew_any y _).mono ?_
  rintro e w3 ⟨p, rfl, hb3⟩
  have H3 := Lib.hid (H2.out.step hb3)
  clear hb3 H2
  go_wp2_with fail
  go_ret2
  exact ⟨b, y, p, rfl, H3.out⟩
set_option maxRecDepth 100000 in
theorem made32_any (n : Nat) (h8 : 8 ≤ n) (hn : n ≤ 16384) (w : World) : Calls Tryz.prog 6 #[.int .i64 (n : Int)] w fun e w' => ∃ b y, e = .returned (.pointer (some ⟨y, 0, none⟩)) ∧ MyF w.heap.size w w' b y n 0 [] := by
  go_enter Tryz.func6, Tryz.ntmps6
  go_wp2_with fail
  refine (made25_any n h8 hn _).mono ?_
  rintro e w1 ⟨b, y, p, rfl, h1⟩
  have H1 := Lib.hid h1
  clear h1
  go_wp2_with fail
  go_ret
  exact ⟨b, y, rfl, H1.out⟩
def KeepR (w w' : World) : Prop := ∀ (base : Nat) (v : Value) (l : List T), RowAt w base v l → RowAt w' base v l
theorem KeepR.upd {bl : Nat → Prop} (hu : Upd (NoS w bl) w w') : KeepR w w' := fun _ _ _ h => ownsRow_upd h hu (fun _ hg e => e.not (ownsRow_blk h hg) (by decide))
theorem my_pick (h : MyF B w0 w b y n N A) : ∃ bl, FSt w b y bl n N A ∧ (∀ k, bl k → B ≤ k) ∧ ∀ k, bl k → k < w.heap.size := by
  obtain ⟨h1, h2, bl, h3, h4⟩ := h
  exact ⟨_, h3.shrink, fun k hk => h4 k hk.1, fun k hk => hk.2⟩
theorem my_goes {bl : Nat → Prop} {N' : Nat} (h : MyF B w0 w b y n N A) (h4 : ∀ k, bl k → B ≤ k) (g : Goes w b y bl n N' A' w') : MyF B w0 w' b y n N' A' ∧ KeepR w w' := by
  obtain ⟨bl', g1, g2, g3⟩ := g
  exact ⟨MyF.turn h.1 h.2.1 h4 g1 g2 g3, KeepR.upd g2⟩
theorem my_quit (h : MyF B w0 w b y n N A) (hN : N < 1000000000) :
    Calls Tryz.prog 21 #[.pointer (some ⟨y, 0, none⟩)] w fun e w' => e = .returned (.int .i64 (codeC n A quitC)) ∧ MyF B w0 w' b y n (N + 1) (nextC n A quitC) ∧ KeepR w w' := by
  obtain ⟨bl, h1, h2, h3⟩ := my_pick h
  exact (quit_any h1 h3 hN).mono fun e w' ⟨he, hg⟩ => ⟨he, my_goes h h2 hg⟩
theorem my_done (h : MyF B w0 w b y n N A) (hN : N < 1000000000) {q : Option Addr} {cap : Nat} {k : List T} (hk : TextsAt w q k) (hq : q = none → cap = 0) (hkl : k.length ≤ 500000) (hks : ∀ t ∈ k, t.length ≤ 500000) :
    Calls Tryz.prog 18 #[.pointer (some ⟨y, 0, none⟩), .slice q k.length cap] w fun e w' => e = .returned (.int .i64 (doneT n A k).1) ∧ MyF B w0 w' b y n (N + 1) (doneT n A k).2 ∧ KeepR w w' := by
  obtain ⟨bl, h1, h2, h3⟩ := my_pick h
  exact (done_any h1 h3 hN hk hq hkl hks).mono fun e w' ⟨he, hg⟩ => ⟨he, my_goes h h2 hg⟩
theorem my_publish (h : MyF B w0 w b y n N A) (hN : N < 1000000000) {q : Option Addr} {cap : Nat} {outs : List T} (ho : TextsAt w q outs) (hol : outs.length ≤ 100000) (hmax : ∀ s ∈ outs, s.length ≤ 300000000000000) (v : Nat) (hv : v < 18446744073709551616) (job : T)
    (hsum : (∀ s ∈ outs, s.length ≤ 65531) → (outs.map List.length).sum ≤ 800000) :
    Calls Tryz.prog 16 #[.pointer (some ⟨y, 0, none⟩), .agg #[.int .u64 (v : Int), .string (bs job), .slice q outs.length cap]] w fun e w' => e = .returned (.int .i64 (pubT n A v job outs).1) ∧ MyF B w0 w' b y n (N + 1) (pubT n A v job outs).2 ∧ KeepR w w' := by
  obtain ⟨bl, h1, h2, h3⟩ := my_pick h
  exact (publish_any h1 h3 hN ho hol hmax v hv job hsum).mono fun e w' ⟨he, hg⟩ => ⟨he, my_goes h h2 hg⟩
set_option maxRecDepth 100000 in
theorem latNil_any (w : World) : Calls Tryz.prog 15 #[.pointer none] w fun e w' => e = .returned (.tuple #[.agg #[.int .u64 0, .string (bs []), .slice none 0 0], .bool false, .int .i64 1]) ∧ Below w.heap.size w w' := by
  have hr := heap_alloc_new w (.cells #[.int .u64 0, .string { data := #[] }, .slice none 0 0] 32)
  obtain ⟨c0, c1, c2, f0, f1, f2⟩ := row3 hr
  have HR := Lib.hid hr
  go_enter Tryz.func15, Tryz.ntmps15
  go_wp2_with fail
  refine bodyPost_ret (v := .tuple #[.agg #[.int .u64 0, .string (bs []), .slice none 0 0], .bool false, .int .i64 1]) (manifest_out Tryz.results15 _ _ w.heap.size 0 [] (.slice none 0 0) (by rfl) c0 c1 c2) rfl ?_
  exact ⟨rfl, below_alloc w _⟩
theorem same32_any {base base2 : Nat} {s1 s2 : Value} {v1 v2 : Nat} {j1 j2 : T} {l k : List T} (w : World) (h1 : RowAt w base s1 l) (h2 : RowAt w base2 s2 k) (hl : l.length ≤ 1000000) (hk : k.length ≤ 1000000) (he : v1 = v2 ∧ j1 = j2 ∧ l = k) :
    Calls Tryz.prog 19 #[.agg #[.int .u64 (v1 : Int), .string (bs j1), s1], .agg #[.int .u64 (v2 : Int), .string (bs j2), s2]] w fun e w' => e = .returned (.bool true) ∧ Below w.heap.size w w' := by
  obtain ⟨rfl, rfl, rfl⟩ := he
  obtain ⟨q1, cap1, rfl⟩ := slice_len h1
  obtain ⟨q2, cap2, rfl⟩ := slice_len h2
  have hb1 := below_alloc w (.cells #[.int .u64 (v1 : Int), .string (bs j1), .slice q1 l.length cap1] 32)
  have hb2 := hb1.alloc hb1.size (.cells #[.int .u64 (v1 : Int), .string (bs j1), .slice q2 l.length cap2] 32)
  have HS := Lib.hid (rsame_any l l q1 q2 cap1 cap2 _ ((textsAt_of_row h1).below hb2) ((textsAt_of_row h2).below hb2) (by unfold maxLen; omega) (by unfold maxLen; omega))
  have HB := Lib.hid hb2
  clear h1 h2 hb1 hb2
  go_enter Tryz.func19, Tryz.ntmps19
  go_wp2_with fail
  refine HS.out.mono ?_
  rintro e w1 ⟨rfl, hb⟩
  have HB1 := Lib.hid (HB.out.trans (hb.mono HB.out.size))
  clear hb
  go_wp2_with fail
  go_ret
  exact ⟨by simp, HB1.out⟩
end
end Go.Proofs.YtoaihngckcbhiaaGreatDoor.Man
namespace Go.Proofs.YtoaihngckcbhiaaGreatDoor.Man
open Go.RowKit Go.Maps Wal Fil
structure MyK (B : Nat) (w0 W : World) (b y n N : Nat) (A : M) (L : List (Nat × Obj)) : Prop where
  x : MyX B w0 W b y n N A (fun k => ∃ o, (k, o) ∈ L)
  at_ : ∀ k o, (k, o) ∈ L → W.heap[k]? = some o
section
variable {B : Nat} {w0 w w' : World} {b y n N : Nat} {A A' : M} {L : List (Nat × Obj)}
theorem MyK.of (h : MyF B w0 w b y n N A) : MyK B w0 w b y n N A [] := by
  obtain ⟨h1, h2, bl, h3, h4⟩ := h
  exact ⟨⟨h1, h2, fun k hk => by obtain ⟨o, ho⟩ := hk; simp at ho, bl, h3, fun k hk => ⟨h4 k hk, fun ⟨o, ho⟩ => by simp at ho⟩⟩, fun k o h => by simp at h⟩
theorem MyK.bel (h : MyK B w0 w b y n N A L) : Below B w0 w := h.x.1
theorem MyK.step (h : MyK B w0 w b y n N A L) (hb : Below w.heap.size w w') : MyK B w0 w' b y n N A L :=
  ⟨h.x.step hb, fun k o ho => (hb.block k (Array.getElem?_eq_some_iff.1 (h.at_ k o ho)).1).trans (h.at_ k o ho)⟩
theorem MyK.new (h : MyK B w0 w b y n N A L) (o : Obj) : MyK B w0 (w.alloc o) b y n N A ((w.heap.size, o) :: L) := by
  obtain ⟨⟨h1, h2, hx, bl, h3, h4⟩, ha⟩ := h
  have hb := below_alloc w o
  have hs : (w.alloc o).heap.size = w.heap.size + 1 := World.size_alloc _ _
  refine ⟨⟨h1.trans (hb.mono h2), Nat.le_trans h2 hb.size, fun k ⟨o', ho⟩ => ?_, fun k => bl k ∧ k < w.heap.size, h3.shrink.below hb, fun k hk => ⟨(h4 k hk.1).1, fun ⟨o', ho⟩ => ?_⟩⟩, fun k o' ho => ?_⟩
  · rcases List.mem_cons.1 ho with e | e
    · cases e; omega
    · have := hx k ⟨o', e⟩; omega
  · rcases List.mem_cons.1 ho with e | e
    · cases e; have := hk.2; omega
    · exact (h4 k hk.1).2 ⟨o', e⟩
  · rcases List.mem_cons.1 ho with e | e
    · cases e; exact heap_alloc_new w o
    · exact (hb.block k (Array.getElem?_eq_some_iff.1 (ha k o' e)).1).trans (ha k o' e)
theorem MyK.cell (h : MyK B w0 w b y n N A L) {k : Nat} {cs : Array Value} {t : TypeId} (hm : (k, .cells cs t) ∈ L) (i : Nat) : w.cell? ⟨k, i, none⟩ = cs[i]? := cell_of_row w k i cs t _ (h.at_ _ _ hm)
theorem MyK.pick (h : MyK B w0 w b y n N A L) : ∃ bl, FSt w b y bl n N A ∧ (∀ k, bl k → k < w.heap.size) ∧ ∀ {N' : Nat} {A' : M} {w' : World}, Goes w b y bl n N' A' w' → MyK B w0 w' b y n N' A' L ∧ KeepR w w' := by
  obtain ⟨⟨h1, h2, hx, bl, h3, h4⟩, ha⟩ := h
  refine ⟨_, h3.shrink, fun k hk => hk.2, fun {N' A' w'} ⟨bl', g1, g2, g3⟩ => ?_⟩
  obtain ⟨k1, k2⟩ := MyX.turn h1 h2 hx (fun k hk => h4 k hk.1) g1 g2 g3
  exact ⟨⟨k1, fun k o ho => (k2 k ⟨o, ho⟩).trans (ha k o ho)⟩, KeepR.upd g2⟩
theorem myk_quit (h : MyK B w0 w b y n N A L) (hN : N < 1000000000) :
    Calls Tryz.prog 21 #[.pointer (some ⟨y, 0, none⟩)] w fun e w' => e = .returned (.int .i64 (codeC n A quitC)) ∧ MyK B w0 w' b y n (N + 1) (nextC n A quitC) L ∧ KeepR w w' := by
  obtain ⟨bl, h1, h3, h2⟩ := h.pick
  exact (quit_any h1 h3 hN).mono fun e w' ⟨he, hg⟩ => ⟨he, h2 hg⟩
theorem myk_done (h : MyK B w0 w b y n N A L) (hN : N < 1000000000) {q : Option Addr} {cap : Nat} {k : List T} (hk : TextsAt w q k) (hq : q = none → cap = 0) (hkl : k.length ≤ 500000) (hks : ∀ t ∈ k, t.length ≤ 500000) :
    Calls Tryz.prog 18 #[.pointer (some ⟨y, 0, none⟩), .slice q k.length cap] w fun e w' => e = .returned (.int .i64 (doneT n A k).1) ∧ MyK B w0 w' b y n (N + 1) (doneT n A k).2 L ∧ KeepR w w' := by
  obtain ⟨bl, h1, h3, h2⟩ := h.pick
  exact (done_any h1 h3 hN hk hq hkl hks).mono fun e w' ⟨he, hg⟩ => ⟨he, h2 hg⟩
theorem myk_publish (h : MyK B w0 w b y n N A L) (hN : N < 1000000000) {q : Option Addr} {cap : Nat} {outs : List T} (ho : TextsAt w q outs) (hol : outs.length ≤ 100000) (hmax : ∀ s ∈ outs, s.length ≤ 300000000000000) (v : Nat) (hv : v < 18446744073709551616) (job : T)
    (hsum : (∀ s ∈ outs, s.length ≤ 65531) → (outs.map List.length).sum ≤ 800000) :
    Calls Tryz.prog 16 #[.pointer (some ⟨y, 0, none⟩), .agg #[.int .u64 (v : Int), .string (bs job), .slice q outs.length cap]] w fun e w' => e = .returned (.int .i64 (pubT n A v job outs).1) ∧ MyK B w0 w' b y n (N + 1) (pubT n A v job outs).2 L ∧ KeepR w w' := by
  obtain ⟨bl, h1, h3, h2⟩ := h.pick
  exact (publish_any h1 h3 hN ho hol hmax v hv job hsum).mono fun e w' ⟨he, hg⟩ => ⟨he, h2 hg⟩
theorem myk_begin (h : MyK B w0 w b y n N A L) (hN : N < 1000000000) (v : Nat) (hv : v < 18446744073709551616) (job : T) :
    Calls Tryz.prog 17 #[.pointer (some ⟨y, 0, none⟩), .int .u64 (v : Int), .string (bs job)] w fun e w' => ∃ sl, e = .returned (.tuple #[.agg #[.int .u64 ((beginT n A v job).1.2.1 : Int), .string (bs (beginT n A v job).1.1), sl], .int .i64 (beginT n A v job).2.1]) ∧
      RowAt w' 0 sl (beginT n A v job).1.2.2 ∧ MyK B w0 w' b y n (N + 1) (beginT n A v job).2.2 L ∧ KeepR w w' := by
  obtain ⟨bl, h1, h3, h2⟩ := h.pick
  refine (begin_any h1 h3 hN v hv job).mono ?_
  rintro e w' ⟨sl, bl', u, c, rfl, g1, _, q1, q2, q3, g4, g5⟩
  obtain ⟨hc, g3⟩ := q3.calm
  have hu : u = (beginT n A v job).1 := by
    by_cases e : c = 0
    · exact q1 e
    · rw [q2 e, begin_code (by rw [← hc]; exact e)]
  subst hc hu
  exact ⟨sl, rfl, g1, h2 ⟨bl', g3, g4, g5⟩⟩
theorem myk_latest (h : MyK B w0 w b y n N A L) : Calls Tryz.prog 15 #[.pointer (some ⟨y, 0, none⟩)] w fun e w' => LatPost w (latestT A) e w' := by
  obtain ⟨bl, h1, h3, h2⟩ := h.pick
  exact latest_any (gets_of h1)
end
end Go.Proofs.YtoaihngckcbhiaaGreatDoor.Man
namespace Go.Proofs.YtoaihngckcbhiaaGreatDoor.Man
open Go.RowKit Go.Maps Wal Fil
theorem lit_row {w : World} {base : Nat} (hb : base ≤ w.heap.size) (l : List T) (hl : l.length ≤ 1000) (cs : Array Value) (hc : cs = (strCells l).toArray) {g n : Nat} (hg : w.heap.size = g) (hn : l.length = n) : RowAt (w.alloc (.cells cs 9)) base (.slice (some ⟨g, 0, none⟩) n n) l := by
  subst hc hg hn
  have := World.ownsRow_lit (base := base) (e := 9) (size := 1) w (strCells l).toArray l.length hb (by unfold maxLen; omega) (by simp [strCells])
  exact this
theorem RowAt.alloc' {w : World} {base : Nat} {v : Value} {l : List T} (h : RowAt w base v l) (o : Obj) : RowAt (w.alloc o) base v l := row_below h (below_alloc w o)
set_option maxRecDepth 100000 in
set_option maxHeartbeats 800000 in
theorem alive32_any (w : World) : Calls Tryz.prog 5 #[] w fun e w' => e = .returned (.bool true) ∧ Below w.heap.size w w' := by
  obtain ⟨A1, A2, A3, A4, p1, p2, p3, p4, p5, p6, p7, p8, p9⟩ := alive_plain
  have P1 := Lib.hid p1; have P2 := Lib.hid p2; have P3 := Lib.hid p3; have P4 := Lib.hid p4; have P5 := Lib.hid p5; have P6 := Lib.hid p6; have P7 := Lib.hid p7; have P8 := Lib.hid p8; have P9 := Lib.hid p9
  clear p1 p2 p3 p4 p5 p6 p7 p8 p9
  go_enter Tryz.func5, Tryz.ntmps5
  go_wp2_with fail
  refine (made32_any 100 (by omega) (by omega) _).mono ?_
  rintro e w1 ⟨b, y, rfl, h1⟩
  have H1 := Lib.hid (MyK.of h1)
  clear h1
  go_wp2_with fail
  have hr := lit_row (base := 0) (w := w1) (Nat.zero_le _) abT (by decide) #[.string { data := #[97] }, .string { data := #[98] }] (by rw [strCells_enc]; rfl) rfl rfl
  have hp := myk_publish (cap := 2) (H1.out.step (below_alloc w1 _)) (by omega) (textsAt_of_row hr) (by decide) (by decide) 1 (by omega) jT (fun _ => by decide)
  rw [P1.out] at hp
  refine hp.mono ?_
  clear hr hp
  rintro e w2 ⟨rfl, h2, _⟩
  have H2 := Lib.hid h2
  clear h2 H1
  go_wp2_with fail
  have hp := myk_latest H2.out
  rw [P2.out] at hp
  refine hp.mono ?_
  clear hp
  rintro e w3 ⟨hb3, sl, rfl, ho3, _⟩
  obtain ⟨q3, cap3, rfl⟩ := slice_len ho3
  have H3 := Lib.hid ((H2.out.step hb3).new (.cells #[.int .u64 1, .string (bs jT), .slice q3 2 cap3] 32))
  have HO3 := Lib.hid ((show RowAt w3 0 (.slice q3 2 cap3) abT from ho3).alloc (.cells #[.int .u64 1, .string (bs jT), .slice q3 2 cap3] 32))
  clear hb3 ho3 H2
  go_wp2_with fail
  have hp := myk_publish (q := none) (cap := 0) (outs := []) H3.out (by omega) (fun i hi => by simp at hi) (by simp) (by simp) 1 (by omega) [] (fun _ => by simp)
  rw [P3.out] at hp
  refine hp.mono ?_
  clear hp
  rintro e w4 ⟨rfl, h4, k4⟩
  have H4 := Lib.hid h4
  have HO4 := Lib.hid (k4 _ _ _ HO3.out)
  clear h4 k4 H3 HO3
  go_wp2_with fail
  have hp := myk_begin H4.out (by omega) 2 (by omega) jT
  rw [P4.out] at hp
  refine hp.mono ?_
  clear hp
  rintro e w5 ⟨s5, rfl, r5, h5, k5⟩
  obtain ⟨q5, cap5, rfl⟩ := slice_len r5
  have H5 := Lib.hid (h5.new (.cells #[.int .u64 2, .string (bs jT), .slice q5 0 cap5] 52))
  have HO5 := Lib.hid ((k5 _ _ _ HO4.out).alloc (.cells #[.int .u64 2, .string (bs jT), .slice q5 0 cap5] 52))
  clear r5 h5 k5 H4 HO4
  go_wp2_with fail
  obtain ⟨W5, hW5⟩ : ∃ W, w5.alloc (.cells #[.int .u64 2, .string (bs jT), .slice q5 0 cap5] 52) = W := ⟨_, rfl⟩
  rw [hW5] at H5 HO5
  have hr := lit_row (base := 0) (w := W5) (Nat.zero_le _) [tT] (by decide) #[.string { data := #[116] }] (by rw [strCells_enc]; rfl) (g := w5.heap.size + 1) (n := 1) (by rw [← hW5]; exact World.size_alloc _ _) rfl
  have hp := myk_done (k := [tT]) (cap := 1) (H5.out.step (below_alloc W5 _)) (by omega) (textsAt_of_row hr) (fun e => by cases e) (by simp) (by simp [tT])
  rw [P5.out, ← hW5] at hp
  refine hp.mono ?_
  clear hp hr
  rintro e w6 ⟨rfl, h6, k6⟩
  have H6 := Lib.hid h6
  have HO6 := Lib.hid (k6 _ _ _ (by rw [hW5]; exact HO5.out.alloc _))
  clear h6 k6 H5 HO5 hW5
  go_wp2_with fail
  have hp := myk_begin H6.out (by omega) 2 (by omega) jT
  rw [P6.out] at hp
  refine hp.mono ?_
  clear hp
  rintro e w7 ⟨s7, rfl, r7, h7, k7⟩
  obtain ⟨q7, cap7, rfl⟩ := slice_len r7
  have H7 := Lib.hid (h7.new (.cells #[.int .u64 2, .string (bs jT), .slice q7 1 cap7] 52))
  have HO7 := Lib.hid ((k7 _ _ _ HO6.out).alloc (.cells #[.int .u64 2, .string (bs jT), .slice q7 1 cap7] 52))
  have HU7 := Lib.hid ((show RowAt w7 0 (.slice q7 1 cap7) [tT] from r7).alloc (.cells #[.int .u64 2, .string (bs jT), .slice q7 1 cap7] 52))
  clear r7 h7 k7 H6 HO6
  go_wp2_with fail
  have hp := myk_begin H7.out (by omega) 2 (by omega) kT
  rw [P7.out] at hp
  refine hp.mono ?_
  clear hp
  rintro e w8 ⟨s8, rfl, r8, h8, k8⟩
  obtain ⟨q8, cap8, rfl⟩ := slice_len r8
  have H8 := Lib.hid (h8.new (.cells #[.int .u64 2, .string (bs kT), .slice q8 0 cap8] 52))
  have HO8 := Lib.hid ((k8 _ _ _ HO7.out).alloc (.cells #[.int .u64 2, .string (bs kT), .slice q8 0 cap8] 52))
  have HU8 := Lib.hid (RowAt.alloc' (k8 _ _ _ HU7.out) (.cells #[.int .u64 2, .string (bs kT), .slice q8 0 cap8] 52))
  clear r8 h8 k8 H7 HO7 HU7
  go_wp2_with fail
  refine (latNil_any _).mono ?_
  rintro e w9 ⟨rfl, hb9⟩
  have H9 := Lib.hid ((H8.out.step hb9).new (.cells #[.int .u64 0, .string (bs []), .slice none 0 0] 32))
  have HO9 := Lib.hid (RowAt.alloc' (row_below HO8.out hb9) (.cells #[.int .u64 0, .string (bs []), .slice none 0 0] 32))
  have HU9 := Lib.hid (RowAt.alloc' (row_below HU8.out hb9) (.cells #[.int .u64 0, .string (bs []), .slice none 0 0] 32))
  clear hb9 H8 HO8 HU8
  have m0 := H9.out.cell (k := w3.heap.size) (cs := #[.int .u64 1, .string (bs jT), .slice q3 2 cap3]) (t := 32) (by simp) 0
  have m1 := H9.out.cell (k := w3.heap.size) (cs := #[.int .u64 1, .string (bs jT), .slice q3 2 cap3]) (t := 32) (by simp) 1
  have m2 := H9.out.cell (k := w3.heap.size) (cs := #[.int .u64 1, .string (bs jT), .slice q3 2 cap3]) (t := 32) (by simp) 2
  go_wp2_with fail
  have hr := lit_row (base := 0) (w := w9.alloc (.cells #[.int .u64 0, .string (bs []), .slice none 0 0] 32)) (Nat.zero_le _) abT (by decide) #[.string { data := #[97] }, .string { data := #[98] }] (by rw [strCells_enc]; rfl) (g := w9.heap.size + 1) (n := 2) (World.size_alloc _ _) rfl
  refine (same32_any (v1 := 1) (v2 := 1) (j1 := jT) (j2 := jT) (l := abT) (k := abT) (s1 := .slice q3 2 cap3) _ (RowAt.alloc' HO9.out _) hr (by decide) (by decide) ⟨rfl, rfl, rfl⟩).mono ?_
  rintro e w10 ⟨rfl, hb10⟩
  have H10 := Lib.hid ((H9.out.step (below_alloc _ (.cells #[.string { data := #[97] }, .string { data := #[98] }] 9))).step hb10)
  have HU10 := Lib.hid (row_below (RowAt.alloc' HU9.out (.cells #[.string { data := #[97] }, .string { data := #[98] }] 9)) hb10)
  clear hb10 H9 HO9 HU9 m0 m1 m2 hr
  have m2 := H10.out.cell (k := w7.heap.size) (cs := #[.int .u64 2, .string (bs jT), .slice q7 1 cap7]) (t := 52) (by simp) 2
  go_wp2_with fail
  have hr := lit_row (base := 0) (w := w10) (Nat.zero_le _) [tT] (by decide) #[.string { data := #[116] }] (by rw [strCells_enc]; rfl) rfl (n := 1) rfl
  have hsm := rsame_any [tT] [tT] q7 (some ⟨w10.heap.size, 0, none⟩) cap7 1 (w10.alloc (.cells #[.string { data := #[116] }] 9)) (textsAt_of_row (RowAt.alloc' HU10.out _)) (textsAt_of_row hr) (by decide) (by decide)
  refine hsm.mono ?_
  rintro e w11 ⟨rfl, hb11⟩
  have H11 := Lib.hid ((H10.out.step (below_alloc _ (.cells #[.string { data := #[116] }] 9))).step hb11)
  clear hb11 H10 HU10 m2 hr hsm
  have m2 := H11.out.cell (k := w8.heap.size) (cs := #[.int .u64 2, .string (bs kT), .slice q8 0 cap8]) (t := 52) (by simp) 2
  rw [show decide ([tT] = [tT]) = true by decide]
  go_wp2_with fail
  have hp := myk_quit H11.out (by omega)
  rw [P8.out] at hp
  refine hp.mono ?_
  clear hp
  rintro e w12 ⟨rfl, h12, _⟩
  have H12 := Lib.hid h12
  clear h12 H11 m2
  go_wp2_with fail
  have hr := lit_row (base := 0) (w := w12) (Nat.zero_le _) [tT] (by decide) #[.string { data := #[116] }] (by rw [strCells_enc]; rfl) rfl (n := 1) rfl
  have hp := myk_done (k := [tT]) (cap := 1) (H12.out.step (below_alloc w12 _)) (by omega) (textsAt_of_row hr) (fun e => by cases e) (by simp) (by simp [tT])
  rw [P9.out] at hp
  refine hp.mono ?_
  clear hp hr
  rintro e w13 ⟨rfl, h13, _⟩
  have H13 := Lib.hid h13.bel
  clear h13 H12
  go_wp2_with fail
  go_ret
  exact ⟨rfl, H13.out⟩
end Go.Proofs.YtoaihngckcbhiaaGreatDoor.Man
namespace Go.Proofs.YtoaihngckcbhiaaGreatDoor.Man
open Go.RowKit Go.Maps
abbrev T := List UInt8
structure Stp where
  what : Int
  n : Int
  v : Int
  job : T
  outs : List T
  tasks : List T
  text : T
structure StpIn (w : World) (q : Addr) (x : Stp) : Prop where
  c0 : w.cell? (q.add 0) = some (.int .i64 x.what)
  c1 : w.cell? (q.add 1) = some (.int .i64 x.n)
  c2 : w.cell? (q.add 2) = some (.int .u64 x.v)
  c3 : w.cell? (q.add 3) = some (.string (bs x.job))
  c4 : ∃ v, w.cell? (q.add 4) = some v ∧ TextsIn w v x.outs
  c5 : ∃ v, w.cell? (q.add 5) = some v ∧ TextsIn w v x.tasks
  c6 : w.cell? (q.add 6) = some (.string (bs x.text))
theorem StpIn.cells {w : World} {q : Addr} {x : Stp} (h : StpIn w q x) : w.cell? q = some (.int .i64 x.what) ∧ w.cell? ⟨q.block, q.off + 1, none⟩ = some (.int .i64 x.n) ∧ w.cell? ⟨q.block, q.off + 2, none⟩ = some (.int .u64 x.v) ∧ w.cell? ⟨q.block, q.off + 3, none⟩ = some (.string (bs x.job)) ∧
    (∃ v, w.cell? ⟨q.block, q.off + 4, none⟩ = some v ∧ TextsIn w v x.outs) ∧ (∃ v, w.cell? ⟨q.block, q.off + 5, none⟩ = some v ∧ TextsIn w v x.tasks) ∧ w.cell? ⟨q.block, q.off + 6, none⟩ = some (.string (bs x.text)) := by
  refine ⟨?_, h.c1, h.c2, h.c3, h.c4, h.c5, h.c6⟩
  rw [← add_zero' q]
  exact h.c0
def StpsIn (w : World) (a : Option Addr) (l : List Stp) : Prop := ∀ i, (h : i < l.length) → ∃ p : Addr, a = some p ∧ StpIn w (p.add (i * 7)) l[i]
theorem StpsIn.index {w : World} {a : Option Addr} {l : List Stp} (h : StpsIn w a l) (cap k : Nat) (hk : k < l.length) :
    ∃ q : Addr, (∀ W, (Instr.indexAt 22 (.slice a l.length cap) (.int .i64 (k : Int))).run Tryz.prog W = .ok (.pointer (some q)) W) ∧ StpIn w q l[k] := by
  obtain ⟨p, rfl, h1⟩ := h k hk
  exact ⟨_, fun W => run_index_slice Tryz.prog _ 34 Tryz.underlying22 7 (by kernel_rfl) p l.length cap k hk W, h1⟩
def tkCost (l : List T) : Nat := (l.map fun s => 1 + s.length).sum
def otCost (l : List T) : Nat := (l.map fun s => min s.length 8192).sum
theorem tk_snoc (l : List T) (k : Nat) (h : k < l.length) : tkCost (l.take (k + 1)) = tkCost (l.take k) + 1 + l[k].length := by
  unfold tkCost
  rw [List.take_succ_eq_append_getElem h, List.map_append, List.sum_append]
  simp; omega
theorem ot_snoc (l : List T) (k : Nat) (h : k < l.length) : otCost (l.take (k + 1)) = otCost (l.take k) + min l[k].length 8192 := by
  unfold otCost
  rw [List.take_succ_eq_append_getElem h, List.map_append, List.sum_append]
  simp
theorem tk_le (l : List T) (h : ∀ s ∈ l, s.length ≤ reachBytes) : tkCost l ≤ l.length * (reachBytes + 1) := by
  induction l with
  | nil => simp [tkCost]
  | cons x l ih =>
    have h1 := ih (fun s hs => h s (List.mem_cons_of_mem _ hs))
    have h2 := h x List.mem_cons_self
    have e : tkCost (x :: l) = (1 + x.length) + tkCost l := by simp [tkCost]
    rw [e, List.length_cons, Nat.add_mul]
    omega
theorem ot_le (l : List T) : otCost l ≤ l.length * 8192 := by
  induction l with
  | nil => simp [otCost]
  | cons x l ih =>
    have e : otCost (x :: l) = min x.length 8192 + otCost l := by simp [otCost]
    rw [e, List.length_cons, Nat.add_mul]
    omega
theorem tk_mem (l : List T) : ∀ s ∈ l, 1 + s.length ≤ tkCost l := by
  induction l with
  | nil => intro x hx; simp at hx
  | cons y l ih =>
    intro x hx
    have e : tkCost (y :: l) = (1 + y.length) + tkCost l := by simp [tkCost]
    rw [e]
    rcases List.mem_cons.1 hx with rfl | hx
    · omega
    · have := ih x hx; omega
def Stp.cost (x : Stp) : Nat := x.text.length + x.job.length + tkCost x.tasks + otCost x.outs
def costs (l : List Stp) : Nat := (l.map Stp.cost).sum
theorem costs_snoc (l : List Stp) (k : Nat) (h : k < l.length) : costs (l.take (k + 1)) = costs (l.take k) + l[k].cost := by
  unfold costs
  rw [List.take_succ_eq_append_getElem h, List.map_append, List.sum_append]
  simp
theorem costs_mem (l : List Stp) : ∀ x ∈ l, x.cost ≤ costs l := by
  induction l with
  | nil => intro x hx; simp at hx
  | cons y l ih =>
    intro x hx
    have e : costs (y :: l) = y.cost + costs l := by simp [costs]
    rw [e]
    rcases List.mem_cons.1 hx with rfl | hx
    · omega
    · have := ih x hx; omega
theorem costs_le (l : List Stp) (B : Nat) (h : ∀ x ∈ l, x.cost ≤ B) : costs l ≤ l.length * B := by
  induction l with
  | nil => simp [costs]
  | cons x l ih =>
    have h1 := ih (fun s hs => h s (List.mem_cons_of_mem _ hs))
    have h2 := h x List.mem_cons_self
    have e : costs (x :: l) = x.cost + costs l := by simp [costs]
    rw [e, List.length_cons, Nat.add_mul]
    omega
structure Light (l : List Stp) : Prop where
  cost : costs l ≤ 16384
  rows : ∀ x ∈ l, x.tasks.length ≤ 1100 ∧ x.outs.length ≤ 20
def Stp.fine (x : Stp) : Prop := x.text.length ≤ 2 * reachBytes ∧ x.job.length ≤ 2 * reachBytes ∧ ∀ s ∈ x.tasks, s.length ≤ reachBytes
theorem cost_fine32 {x : Stp} (h : x.fine) (h1 : x.tasks.length ≤ 1100) (h2 : x.outs.length ≤ 20) : x.cost ≤ 4 * reachBytes + 1100 * (reachBytes + 1) + 20 * 8192 := by
  have e1 := tk_le x.tasks h.2.2
  have e2 := ot_le x.outs
  have e3 : x.tasks.length * (reachBytes + 1) ≤ 1100 * (reachBytes + 1) := Nat.mul_le_mul_right _ h1
  have := h.1
  have := h.2.1
  unfold Stp.cost
  omega
def HeavyPost (N : Int) (l : List Stp) (w : World) (e : Ending) (w' : World) : Prop := ∃ h, e = .returned (.bool h) ∧ Below w.heap.size w w' ∧ (h = false → Light l ∧ 8 ≤ N ∧ N ≤ 200)
theorem StpIn.below {w w' : World} {q : Addr} {x : Stp} (h : StpIn w q x) (hb : Below w.heap.size w w') : StpIn w' q x := by
  obtain ⟨h0, h1, h2, h3, ⟨v4, h4, t4⟩, ⟨v5, h5, t5⟩, h6⟩ := h
  exact ⟨(hb.cell (block_lt_of_cell h0)).trans h0, (hb.cell (block_lt_of_cell h1)).trans h1, (hb.cell (block_lt_of_cell h2)).trans h2, (hb.cell (block_lt_of_cell h3)).trans h3,
    ⟨v4, (hb.cell (block_lt_of_cell h4)).trans h4, t4.below hb⟩, ⟨v5, (hb.cell (block_lt_of_cell h5)).trans h5, t5.below hb⟩, (hb.cell (block_lt_of_cell h6)).trans h6⟩
theorem StpsIn.below {w w' : World} {a : Option Addr} {l : List Stp} (h : StpsIn w a l) (hb : Below w.heap.size w w') : StpsIn w' a l := fun i hi => by
  obtain ⟨p, hp, h1⟩ := h i hi
  exact ⟨p, hp, h1.below hb⟩
set_option maxRecDepth 100000 in
set_option maxHeartbeats 8000000 in
theorem heavy32_any (N : Int) (a : Option Addr) (cap : Nat) (l : List Stp) (w : World) (hl : StpsIn w a l) (hlen : l.length ≤ 40) (hok : ∀ x ∈ l, x.fine) :
    Calls Tryz.prog 4 #[.int .i64 N, .slice a l.length cap] w fun e w' => HeavyPost N l w e w' := by
  have HL := Lib.hid hl
  have HF := Lib.hid hok
  clear hl hok
  go_enter Tryz.func4, Tryz.ntmps4
  go_wp2_with fail
  go_loopw [5, 6] (fun n i wr => ∃ k : Nat, k ≤ l.length ∧ i = .int .i64 k ∧ n = .int .i64 (costs (l.take k) : Nat) ∧ Below w.heap.size w wr ∧ ∀ x ∈ l.take k, x.tasks.length ≤ 1100 ∧ x.outs.length ≤ 20) (fun _ i _ => 100 - (intOf i).toNat)
  case atStart => exact ⟨0, by omega, rfl, rfl, Below.refl _ _, by simp⟩
  case round =>
    obtain ⟨k, hk, rfl, rfl, hb, hall⟩ := hrel
    have hcb := costs_le (l.take k) _ (fun x hx => cost_fine32 (HF.out x (List.mem_of_mem_take hx)) (hall x hx).1 (hall x hx).2)
    rw [List.length_take, Nat.min_eq_left hk] at hcb
    have hcb2 : costs (l.take k) ≤ 40 * (4 * reachBytes + 1100 * (reachBytes + 1) + 20 * 8192) := Nat.le_trans hcb (Nat.mul_le_mul_right _ (by omega))
    unfold reachBytes at hcb2
    have HALL := Lib.hid hall
    have HB := Lib.hid hb
    by_cases hlt : k < l.length
    · have hcb3 : costs (l.take k) ≤ 39 * (4 * reachBytes + 1100 * (reachBytes + 1) + 20 * 8192) := Nat.le_trans hcb (Nat.mul_le_mul_right _ (by omega))
      unfold reachBytes at hcb3
      obtain ⟨q, hidx, hat⟩ := (HL.out.below hb).index cap k hlt
      have HAT := Lib.hid hat
      obtain ⟨c0, c1, c2, c3, ⟨v4, c4, ⟨⟨oa, oc, rfl, hox, _⟩, hol, hos⟩⟩, ⟨v5, c5, ⟨⟨ta, tc, rfl, htx, _⟩, htl, hts⟩⟩, c6⟩ := hat.cells
      have hsn := costs_snoc l k hlt
      have hfk := HF.out l[k] (List.getElem_mem hlt)
      have hkt := hfk.1
      have hkj := hfk.2.1
      have hks := hfk.2.2
      unfold reachBytes at hkt hkj
      have htk : ∀ x ∈ l.take (k + 1), x ∈ l.take k ∨ x = l[k] := fun x hx => by
        rw [List.take_succ_eq_append_getElem hlt] at hx
        rcases List.mem_append.1 hx with h | h
        · exact .inl h
        · exact .inr (by simpa using h)
      have HOX := Lib.hid hox; have HTX := Lib.hid htx; have HTS := Lib.hid hks; have HSN := Lib.hid hsn; have HTK := Lib.hid htk
      unfold maxLen at htl hol
      clear hat c0 c1 c2 hfk htx hts hsn htk hox hos hks hall hb hcb hcb2
      generalize l[k] = x at *
      generalize hC : costs (l.take k) = C at *
      clear hC
      have hk100 : (k : Int) < 100 := by omega
      by_cases h11 : 1100 < x.tasks.length
      · have h11i : (1100 : Int) < (x.tasks.length : Int) := by omega
        go_wp2_with fail
        go_ret
        exact ⟨true, rfl, HB.out, fun h => by cases h⟩
      by_cases h20 : 20 < x.outs.length
      · have h11i : ¬ (1100 : Int) < (x.tasks.length : Int) := by omega
        have h20i : (20 : Int) < (x.outs.length : Int) := by omega
        go_wp2_with fail
        go_ret
        exact ⟨true, rfl, HB.out, fun h => by cases h⟩
      have h11i : ¬ (1100 : Int) < (x.tasks.length : Int) := by omega
      have h20i : ¬ (20 : Int) < (x.outs.length : Int) := by omega
      have hcx : C + x.text.length + x.job.length ≤ 9000000000000000000 := by omega
      go_wp2_with fail
      go_region
      go_wp2_with fail
      go_loop [5, 7] (fun n j => ∃ m : Nat, m ≤ x.tasks.length ∧ j = .int .i64 m ∧ n = .int .i64 ((C + x.text.length + x.job.length + tkCost (x.tasks.take m) : Nat) : Int)) (fun _ j => 1100 - (intOf j).toNat)
      case atStart => exact ⟨0, by omega, rfl, by simp [tkCost]⟩
      case round =>
        obtain ⟨m, hm, rfl, rfl⟩ := hrel
        have htc := tk_le (x.tasks.take m) (fun s hs => HTS.out s (List.mem_of_mem_take hs))
        rw [List.length_take, Nat.min_eq_left hm] at htc
        have htb : tkCost (x.tasks.take m) ≤ 1100 * (reachBytes + 1) := Nat.le_trans htc (Nat.mul_le_mul_right _ (by omega))
        unfold reachBytes at htb
        by_cases hmt : m < x.tasks.length
        · obtain ⟨q2, hidx2, hc2⟩ := (HTX.out).index tc m hmt
          have hsm := tk_snoc x.tasks m hmt
          have hsl := HTS.out x.tasks[m] (List.getElem_mem hmt)
          unfold reachBytes at hsl
          have HSM := Lib.hid hsm
          clear hsm htc
          generalize x.tasks[m] = s at *
          generalize tkCost (x.tasks.take m) = T at *
          have e0 : ((C + x.text.length + x.job.length + T : Nat) : Int) = (C : Int) + (x.text.length : Int) + (x.job.length : Int) + (T : Int) := by omega
          simp only [e0]
          clear e0
          go_wp2_with fail
          go_round
          case rel => exact ⟨m + 1, by omega, by go_num, by rw [HSM.out]; congr 1; omega⟩
          case measure => simp [intOf]; omega
        · obtain rfl : m = x.tasks.length := by omega
          rw [List.take_length]
          rw [List.take_length] at htb
          clear htc hmt
          generalize hTK : tkCost x.tasks = T at *
          have HTK2 := Lib.hid hTK
          clear hTK
          go_wp2_with fail
          go_loop [5, 8] (fun n j => ∃ m : Nat, m ≤ x.outs.length ∧ j = .int .i64 m ∧ n = .int .i64 ((C + x.text.length + x.job.length + T + otCost (x.outs.take m) : Nat) : Int)) (fun _ j => 20 - (intOf j).toNat)
          case atStart => exact ⟨0, by omega, rfl, by simp [otCost]⟩
          case round =>
            obtain ⟨m, hm, rfl, rfl⟩ := hrel
            have hob := ot_le (x.outs.take m)
            rw [List.length_take, Nat.min_eq_left hm] at hob
            have hob2 : otCost (x.outs.take m) ≤ 20 * 8192 := Nat.le_trans hob (Nat.mul_le_mul_right _ (by omega))
            clear hob
            by_cases hmt : m < x.outs.length
            · obtain ⟨q2, hidx2, hc2⟩ := (HOX.out).index oc m hmt
              have hsm := ot_snoc x.outs m hmt
              have HSM := Lib.hid hsm
              clear hsm
              generalize x.outs[m] = s at *
              generalize otCost (x.outs.take m) = O at *
              have e0 : ((C + x.text.length + x.job.length + T + O : Nat) : Int) = (C : Int) + (x.text.length : Int) + (x.job.length : Int) + (T : Int) + (O : Int) := by omega
              simp only [e0]
              clear e0
              go_wp2_with fail
              refine ⟨⟨m + 1, by omega, by go_num, ?_⟩, by simp [intOf]; omega⟩
              rw [HSM.out]
              congr 1
              omega
            · obtain rfl : m = x.outs.length := by omega
              rw [List.take_length]
              rw [List.take_length] at hob2
              have HR := Lib.hid (show ∀ y ∈ l.take (k + 1), y.tasks.length ≤ 1100 ∧ y.outs.length ≤ 20 from fun y hy => by
                rcases HTK.out y hy with h | h
                · exact HALL.out y h
                · subst h; omega)
              have hcost : (C + x.text.length + x.job.length + T + otCost x.outs : Nat) = costs (l.take (k + 1)) := by
                rw [HSN.out]
                unfold Stp.cost
                rw [HTK2.out]
                omega
              rw [hcost]
              clear hcost hmt
              go_wp2_with fail
              go_roundw
              case rel => exact ⟨k + 1, by omega, by go_num, rfl, HB.out.drew, HR.out⟩
              case measure => simp [intOf]; omega
    · obtain rfl : k = l.length := by omega
      rw [List.take_length] at hcb2 HALL ⊢
      have HP : Hid (∀ b, b = (decide (40 < (l.length : Int)) || decide (16384 < (costs l : Int)) || decide (200 < N) || decide (N < 8)) → HeavyPost N l w (.returned (.bool b)) wr) := Lib.hid (fun b hb => ⟨b, rfl, HB.out, fun h => by
        subst hb
        simp only [Bool.or_eq_false_iff, decide_eq_false_iff_not] at h
        exact ⟨⟨by omega, HALL.out⟩, by omega, by omega⟩⟩)
      have h40 : ¬ (40 : Int) < (l.length : Int) := by omega
      clear hcb hall hb
      generalize costs l = C at *
      by_cases h81 : 16384 < C
      · have h81i : (16384 : Int) < (C : Int) := by omega
        go_wp2_with fail
        go_ret
        exact HP.out _ (by simp; omega)
      have h81i : ¬ (16384 : Int) < (C : Int) := by omega
      by_cases h1 : 200 < N
      · go_wp2_with fail
        go_ret
        exact HP.out _ (by simp; omega)
      by_cases h2 : N < 8
      · go_wp2_with fail
        go_ret
        exact HP.out _ (by simp; omega)
      · go_wp2_with fail
        go_ret
        exact HP.out _ (by simp; omega)
end Go.Proofs.YtoaihngckcbhiaaGreatDoor.Man
namespace Go.Proofs.YtoaihngckcbhiaaGreatDoor.Man
open Go.RowKit Go.Maps Wal Fil
theorem prefix_lt {l : List T} {x : T} {k : Nat} (hk : k < l.length) (h : ∀ j, (hj : j < l.length) → j < k → l[j] < x) (hx : ¬ l[k] < x) :
    l.takeWhile (fun y => decide (y < x)) = l.take k ∧ l.dropWhile (fun y => decide (y < x)) = l.drop k := by
  induction l generalizing k with
  | nil => simp at hk
  | cons y l ih =>
    cases k with
    | zero =>
      have : ¬ y < x := hx
      rw [List.takeWhile_cons_of_neg (by simpa using this), List.dropWhile_cons_of_neg (by simpa using this)]
      exact ⟨rfl, rfl⟩
    | succ k =>
      have h0 : y < x := h 0 (by simp) (by omega)
      obtain ⟨g1, g2⟩ := ih (k := k) (by simpa using hk) (fun j hj hjk => h (j + 1) (by simpa using hj) (by omega)) hx
      rw [List.takeWhile_cons_of_pos (by simpa using h0), List.dropWhile_cons_of_pos (by simpa using h0), g1, g2]
      exact ⟨rfl, rfl⟩
theorem prefix_all {l : List T} {x : T} (h : ∀ j, (hj : j < l.length) → l[j] < x) : l.takeWhile (fun y => decide (y < x)) = l ∧ l.dropWhile (fun y => decide (y < x)) = [] := by
  induction l with
  | nil => exact ⟨rfl, rfl⟩
  | cons y l ih =>
    have h0 : y < x := h 0 (by simp)
    obtain ⟨g1, g2⟩ := ih (fun j hj => h (j + 1) (by simpa using hj))
    rw [List.takeWhile_cons_of_pos (by simpa using h0), List.dropWhile_cons_of_pos (by simpa using h0), g1, g2]
    exact ⟨rfl, rfl⟩
theorem putR_at {l : List T} {x : T} {k : Nat} (hk : k ≤ l.length) (h : ∀ j, (hj : j < l.length) → j < k → l[j] < x) (hx : ∀ hk : k < l.length, ¬ l[k] < x) :
    putR l x = if (∃ hk : k < l.length, l[k] = x) then l else l.take k ++ [x] ++ l.drop k := by
  unfold putR
  by_cases hlt : k < l.length
  · obtain ⟨g1, g2⟩ := prefix_lt hlt h (hx hlt)
    rw [g1, g2, List.head?_drop, List.getElem?_eq_getElem hlt]
    by_cases he : l[k] = x
    · rw [if_pos (by rw [he]), if_pos ⟨hlt, he⟩, List.take_append_drop]
    · rw [if_neg (by simpa using he), if_neg (fun ⟨_, e⟩ => he e)]
      simp
  · obtain rfl : k = l.length := by omega
    obtain ⟨g1, g2⟩ := prefix_all (fun j hj => h j hj hj)
    rw [g1, g2, if_neg (by simp), if_neg (fun ⟨e, _⟩ => hlt e)]
    simp
def addO (q : Option Addr) (cap k : Nat) : Option Addr := if cap = k then q else q.map (·.add k)
theorem slice_front (P : Program) (W : World) (t e : TypeId) (i : TypeInfo) (hu : P.underlying t = some (.slice e)) (hi : P.info? e = some i) (q : Option Addr) (n cap k : Nat) (hk : k ≤ n) (hc : n ≤ cap) :
    (Instr.slice t (.slice q n cap) none (some (.int .i64 (k : Int))) none).run P W = .ok (.slice q k cap) W := by
  cases q <;> simp [Instr.slice, run_underlying hu, Instr.sliceBounds, sizeOf, typeInfo, hi, go_sem] <;> omega
theorem slice_back (P : Program) (W : World) (t e : TypeId) (i : TypeInfo) (hu : P.underlying t = some (.slice e)) (hi : P.info? e = some i) (hs : i.size = 1) (q : Option Addr) (n cap k : Nat) (hk : k ≤ n) :
    (Instr.slice t (.slice q n cap) (some (.int .i64 (k : Int))) none none).run P W = .ok (.slice (addO q cap k) (n - k) (cap - k)) W := by
  cases q
  · simp [Instr.slice, run_underlying hu, Instr.sliceBounds, sizeOf, typeInfo, hi, go_sem, addO]
    exact fun h => absurd h (by omega)
  · simp [Instr.slice, run_underlying hu, Instr.sliceBounds, sizeOf, typeInfo, hi, hs, go_sem, addO]
    exact fun h => absurd h (by omega)
theorem texts_front {w : World} {q : Option Addr} {l : List T} (h : TextsAt w q l) (k : Nat) : TextsAt w q (l.take k) := fun i hi => by
  rw [List.length_take] at hi
  obtain ⟨p, hp, hc⟩ := h i (by omega)
  exact ⟨p, hp, by rw [hc, List.getElem_take]⟩
theorem texts_back {w : World} {q : Option Addr} {l : List T} (h : TextsAt w q l) {cap k : Nat} (hk : k ≤ l.length) (hc : l.length ≤ cap) : TextsAt w (addO q cap k) (l.drop k) := fun i hi => by
  rw [List.length_drop] at hi
  obtain ⟨p, hp, hcl⟩ := h (k + i) (by omega)
  refine ⟨p.add k, ?_, ?_⟩
  · unfold addO
    rw [if_neg (by omega), hp]
    rfl
  · rw [Addr.add_add, hcl, List.getElem_drop]
theorem row_lower {w : World} {base base2 : Nat} {v : Value} {l : List T} (h : RowAt w base v l) (hb : base2 ≤ base) : RowAt w base2 v l := by
  refine ⟨h.1, ?_⟩
  rcases h.2 with h2 | ⟨g, cap, cur, e0, hbb, h3⟩
  · exact .inl h2
  · exact .inr ⟨g, cap, cur, e0, Nat.le_trans hb hbb, h3⟩
section
variable {w w' : World}
set_option maxRecDepth 100000 in
set_option maxHeartbeats 4000000 in
theorem put26_any {base : Nat} {v : Value} {l : List T} (x : T) (h : RowAt w base v l) (hb : base ≤ w.heap.size) (hl : l.length ≤ 100000) :
    Calls Tryz.prog 128 #[v, .string (bs x)] w fun e w' => ∃ v', e = .returned v' ∧ RowAt w' base v' (putR l x) ∧ Below w.heap.size w w' := by
  obtain ⟨q, cap, rfl⟩ := slice_len h
  have htx := textsAt_of_row h
  have hlc : l.length ≤ cap := by
    rcases h.parts with ⟨e, e2⟩ | ⟨_, cap', e, _, hc, _⟩
    · rw [e2]; exact Nat.zero_le _
    · injection e with _ _ e; rw [e]; exact hc
  have hqc : q = none → cap = 0 := fun e => by
    rcases h.parts with ⟨e1, _⟩ | ⟨_, cap', e1, _⟩
    · injection e1
    · injection e1 with e1; rw [e1] at e; cases e
  obtain ⟨i0, hi0, hz0, hz1, hz2⟩ := info_parts str_info
  have hsf : ∀ (W : World) (k : Nat), k ≤ l.length → (Instr.slice 30 (.slice q l.length cap) none (some (.int .i64 (k : Int))) none).run Tryz.prog W = .ok (.slice q k cap) W := fun W k hk => slice_front Tryz.prog W _ 9 i0 Tryz.underlying30 hi0 q l.length cap k hk hlc
  have hsb : ∀ (W : World) (k : Nat), k ≤ l.length → (Instr.slice 30 (.slice q l.length cap) (some (.int .i64 (k : Int))) none none).run Tryz.prog W = .ok (.slice (addO q cap k) (l.length - k) (cap - k)) W := fun W k hk => slice_back Tryz.prog W _ 9 i0 Tryz.underlying30 hi0 hz1 q l.length cap k hk
  have HSF := Lib.hid hsf; have HSB := Lib.hid hsb; have HLC := Lib.hid hlc; have HQC := Lib.hid hqc
  clear hsf hsb hlc hqc
  have H := Lib.hid h
  clear h
  go_enter Tryz.func128, Tryz.ntmps128
  go_wp2_with fail
  go_loop [5] (fun i => ∃ k : Nat, k ≤ l.length ∧ i = .int .i64 (k : Int) ∧ ∀ j, (hj : j < l.length) → j < k → l[j] < x) (fun i => l.length - (intOf i).toNat)
  case atStart => exact ⟨0, Nat.zero_le _, rfl, fun j _ e => by omega⟩
  case round =>
    obtain ⟨k, hk, rfl, hall⟩ := hrel
    have HALL := Lib.hid hall
    clear hall
    by_cases hlt : k < l.length
    · obtain ⟨qk, hq1, hq2⟩ := htx.index cap k hlt
      obtain ⟨X, hX⟩ : ∃ X, l[k] = X := ⟨_, rfl⟩
      rw [hX] at hq2
      have HX := Lib.hid hX
      clear hX
      by_cases hXx : X < x
      · have hbl : Op.bytesLess X x = true := by rw [Go.Proofs.bytesLess_eq]; simpa using hXx
        go_wp2_with fail
        refine ⟨⟨k + 1, by omega, by go_num, fun j hj hjk => ?_⟩, by simp [intOf]; omega⟩
        by_cases e : j = k
        · subst e
          rw [HX.out]; exact hXx
        · exact HALL.out j hj (by omega)
      · have hbl : Op.bytesLess X x = false := by rw [Go.Proofs.bytesLess_eq]; simpa using hXx
        have hput := putR_at (l := l) (x := x) hk HALL.out (fun _ => by rw [HX.out]; exact hXx)
        by_cases hXe : X = x
        · have HP := Lib.hid (show putR l x = l by rw [hput, if_pos ⟨hlt, by rw [HX.out, hXe]⟩])
          subst hXe
          clear hput
          go_wp2_with fail
          go_ret
          exact ⟨_, rfl, by rw [HP.out]; exact H.out, Below.refl _ _⟩
        · have HP := Lib.hid (show putR l x = l.take k ++ [x] ++ l.drop k by rw [hput, if_neg (fun ⟨_, e⟩ => hXe (by rw [← HX.out, e]))])
          have hXeb : (X == x) = false := by simpa using hXe
          clear hput
          have hsf := fun W => HSF.out W k hk
          have hsb := fun W => HSB.out W k hk
          go_wp2_with (first
            | (at_builtin; refine wpList_append_texts rfl _ _ rfl w.heap.size (.slice none 0 0) [] (l.take k) rfl (by unfold RowAt; rw [strCells_enc]; exact World.ownsRow_nil _ _ _ _) q cap (by rw [List.length_take, Nat.min_eq_left hk]; rfl) (texts_front htx k) HQC.out (by rw [List.length_take, List.length_nil]; omega) (Nat.le_refl _) ?_; intro v1 w1 ho1 hg1 hat1; rw [List.nil_append] at ho1; unfold RowAt at ho1; rw [List.length_take, Nat.min_eq_left hk] at ho1; obtain ⟨q1, cap1, rfl⟩ := slice_len ho1; have HO1 := Lib.hid ho1; have HB1 := Lib.hid (((Below.refl _ w).grown hg1 (Nat.le_refl _) (fun j e => by cases e))); clear ho1 hg1 hat1)
            | (at_builtin; refine wpList_append_own_at _ rfl _ _ 30 rfl w.heap.size 9 i0 _ 1 16 Tryz.underlying30 hi0 hz0 hz1 hz2 rfl (by decide) (.slice q1 k cap1) k (strCells (l.take k)) rfl (HO1.out.alloc _) ⟨w1.heap.size, 0, none⟩ 1 1 [.string (bs x)] rfl rfl (cell_one_new _ _ _) (by simp [Value.oneCell']) (by unfold maxLen; omega) (by omega) (by rw [World.size_alloc]; have := HB1.out.size; omega) ?_; intro v2 w2 ho2 hg2 _ hat2; obtain ⟨g2, cap2, rfl⟩ := ownsRow_succ ho2; have HO2 := Lib.hid ho2; have HB2 := Lib.hid ((HB1.out.alloc HB1.out.size (.cells #[.string (bs x)] 9)).grown hg2 (by rw [World.size_alloc]; have := HB1.out.size; omega) (fun j hj => row_low HO1.out hj)); clear ho2 hg2 hat2)
            | (at_builtin; refine wpList_append_texts rfl _ _ rfl w.heap.size (.slice (some ⟨g2, 0, none⟩) (k + 1) cap2) (l.take k ++ [x]) (l.drop k) rfl (by unfold RowAt; rw [List.length_append, List.length_take, Nat.min_eq_left hk, strCells_snoc]; exact HO2.out) (addO q cap k) (cap - k) (by rw [List.length_drop]; rfl) ((texts_back htx hk HLC.out).below HB2.out) (fun e => by have := HQC.out; unfold addO at e; split at e; omega; cases q with | none => have := this rfl; omega | some _ => cases e) (by rw [List.length_append, List.length_take, List.length_drop, List.length_singleton]; omega) HB2.out.size ?_; intro v3 w3 ho3 hg3 hat3; have HO3 := Lib.hid ho3; have HB3 := Lib.hid (HB2.out.grown hg3 HB2.out.size (fun j hj => row_low HO2.out hj)); clear ho3 hg3 hat3))
          go_ret
          exact ⟨_, rfl, by rw [HP.out]; exact row_lower HO3.out hb, HB3.out⟩
    · have HP := Lib.hid (show putR l x = l.take k ++ [x] ++ l.drop k by rw [putR_at (l := l) (x := x) hk HALL.out (fun e => absurd e hlt), if_neg (fun ⟨e, _⟩ => hlt e)])
      have hsf := fun W => HSF.out W k hk
      have hsb := fun W => HSB.out W k hk
      go_wp2_with (first
        | (at_builtin; refine wpList_append_texts rfl _ _ rfl w.heap.size (.slice none 0 0) [] (l.take k) rfl (by unfold RowAt; rw [strCells_enc]; exact World.ownsRow_nil _ _ _ _) q cap (by rw [List.length_take, Nat.min_eq_left hk]; rfl) (texts_front htx k) HQC.out (by rw [List.length_take, List.length_nil]; omega) (Nat.le_refl _) ?_; intro v1 w1 ho1 hg1 hat1; rw [List.nil_append] at ho1; unfold RowAt at ho1; rw [List.length_take, Nat.min_eq_left hk] at ho1; obtain ⟨q1, cap1, rfl⟩ := slice_len ho1; have HO1 := Lib.hid ho1; have HB1 := Lib.hid (((Below.refl _ w).grown hg1 (Nat.le_refl _) (fun j e => by cases e))); clear ho1 hg1 hat1)
        | (at_builtin; refine wpList_append_own_at _ rfl _ _ 30 rfl w.heap.size 9 i0 _ 1 16 Tryz.underlying30 hi0 hz0 hz1 hz2 rfl (by decide) (.slice q1 k cap1) k (strCells (l.take k)) rfl (HO1.out.alloc _) ⟨w1.heap.size, 0, none⟩ 1 1 [.string (bs x)] rfl rfl (cell_one_new _ _ _) (by simp [Value.oneCell']) (by unfold maxLen; omega) (by omega) (by rw [World.size_alloc]; have := HB1.out.size; omega) ?_; intro v2 w2 ho2 hg2 _ hat2; obtain ⟨g2, cap2, rfl⟩ := ownsRow_succ ho2; have HO2 := Lib.hid ho2; have HB2 := Lib.hid ((HB1.out.alloc HB1.out.size (.cells #[.string (bs x)] 9)).grown hg2 (by rw [World.size_alloc]; have := HB1.out.size; omega) (fun j hj => row_low HO1.out hj)); clear ho2 hg2 hat2)
        | (at_builtin; refine wpList_append_texts rfl _ _ rfl w.heap.size (.slice (some ⟨g2, 0, none⟩) (k + 1) cap2) (l.take k ++ [x]) (l.drop k) rfl (by unfold RowAt; rw [List.length_append, List.length_take, Nat.min_eq_left hk, strCells_snoc]; exact HO2.out) (addO q cap k) (cap - k) (by rw [List.length_drop]; rfl) ((texts_back htx hk HLC.out).below HB2.out) (fun e => by have := HQC.out; unfold addO at e; split at e; omega; cases q with | none => have := this rfl; omega | some _ => cases e) (by rw [List.length_append, List.length_take, List.length_drop, List.length_singleton]; omega) HB2.out.size ?_; intro v3 w3 ho3 hg3 hat3; have HO3 := Lib.hid ho3; have HB3 := Lib.hid (HB2.out.grown hg3 HB2.out.size (fun j hj => row_low HO2.out hj)); clear ho3 hg3 hat3))
      go_ret
      exact ⟨_, rfl, by rw [HP.out]; exact row_lower HO3.out hb, HB3.out⟩
theorem putR_length (l : List T) (x : T) : (putR l x).length ≤ l.length + 1 := by
  induction l with
  | nil => simp [putR]
  | cons y l ih =>
    rw [putR_cons]
    split
    · simpa using ih
    · split <;> simp
set_option maxRecDepth 100000 in
set_option maxHeartbeats 2000000 in
theorem rising26_any {q : Option Addr} {cap : Nat} {l : List T} (h : TextsAt w q l) (hl : l.length ≤ 50000) :
    Calls Tryz.prog 82 #[.slice q l.length cap] w fun e w' => ∃ v', e = .returned v' ∧ RowAt w' w.heap.size v' (risingR l) ∧ Below w.heap.size w w' := by
  have H := Lib.hid h
  clear h
  go_enter Tryz.func82, Tryz.ntmps82
  go_wp2_with fail
  go_loopw [3, 4] (fun ov i wr => ∃ (k : Nat) (o : List T), k ≤ l.length ∧ i = .int .i64 (k : Int) ∧ o = (l.take k).foldl putR [] ∧ o.length ≤ k ∧ RowAt wr w.heap.size ov o ∧ Below w.heap.size w wr) (fun _ i _ => l.length - (intOf i).toNat)
  case atStart => exact ⟨0, [], Nat.zero_le _, rfl, rfl, Nat.le_refl _, by unfold RowAt; rw [strCells_enc]; exact World.ownsRow_nil _ _ _ _, Below.refl _ _⟩
  case round =>
    obtain ⟨k, o, hk, rfl, ho, hok, hrow, hb⟩ := hrel
    have HO := Lib.hid ho; have HR := Lib.hid hrow; have HB := Lib.hid hb
    clear ho hrow hb
    by_cases hlt : k < l.length
    · obtain ⟨qk, hq1, hq2⟩ := (H.out.below HB.out).index cap k hlt
      obtain ⟨X, hX⟩ : ∃ X, l[k] = X := ⟨_, rfl⟩
      rw [hX] at hq2
      have HX := Lib.hid hX
      clear hX
      go_wp2_with fail
      refine (put26_any X HR.out HB.out.size (by omega)).mono ?_
      rintro e w1 ⟨v1, rfl, ho1, hb1⟩
      have HO1 := Lib.hid ho1
      have HB1 := Lib.hid (HB.out.trans (hb1.mono HB.out.size))
      clear ho1 hb1
      go_wp2_with fail
      refine ⟨⟨k + 1, putR o X, by omega, by go_num, ?_, ?_, HO1.out, HB1.out⟩, by simp [intOf]; omega⟩
      · rw [List.take_succ_eq_append_getElem hlt, List.foldl_append, ← HO.out, HX.out]
        rfl
      · have := putR_length o X
        omega
    · obtain rfl : k = l.length := by omega
      go_wp2_with fail
      go_ret
      refine ⟨_, rfl, ?_, HB.out⟩
      have e := HO.out
      rw [List.take_length] at e
      unfold risingR
      rw [← e]
      exact HR.out
end
end Go.Proofs.YtoaihngckcbhiaaGreatDoor.Man
