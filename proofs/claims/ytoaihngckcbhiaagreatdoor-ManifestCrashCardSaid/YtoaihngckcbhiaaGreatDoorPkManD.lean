/- ManD -/
import Derived.Test.YtoaihngckcbhiaaGreatDoorPkManC
namespace Go.Proofs.YtoaihngckcbhiaaGreatDoor.Man
open Go.RowKit Go.Maps Wal Fil
attribute [local go_sem] Oper.semAt_some
def pubT (n : Nat) (A : M) (v : Nat) (job : T) (l : List T) : Int × M :=
  if ∃ s ∈ l, 65531 < s.length then (5, A)
  else if (packT v job (l.map Sha.shaS)).2 ≠ 0 ∨ 16 < l.length then (5, A)
  else if oldT A v then (2, A)
  else (codeC n A (pubC (packT v job (l.map Sha.shaS)).1 l l.length (16 - l.length)), nextC n A (pubC (packT v job (l.map Sha.shaS)).1 l l.length (16 - l.length)))
def appendN (ats : Array TypeId) (ty : TypeId) (args : Array Value) : Sem Value := Builtin.append_ ats ty args
theorem append_named (ats : Array TypeId) (ty : TypeId) (args : Array Value) : Builtin.append_ ats ty args = appendN ats ty args := rfl
attribute [local go_sem ↓] append_named
theorem chgAppend_run {W : World} {base : Nat} {v : Value} {l : List Chg} (c : Chg) (h : W.ownsRow base 99 3 v l.length (chgCells l)) (hn : l.length ≤ 1000000) (hb : base ≤ W.heap.size) :
    ∃ g cap w2, (appendN #[85, 85] 85 #[v, .slice (some ⟨W.heap.size, 0, none⟩) 1 1]).run Tryz.prog (W.alloc (.cells #[.string (bs c.name), .string (bs c.data), .bool c.gone] 99)) = .ok (.slice (some ⟨g, 0, none⟩) (l.length + 1) cap) w2 ∧
      w2.ownsRow base 99 3 (.slice (some ⟨g, 0, none⟩) (l.length + 1) cap) (l.length + 1) (chgCells l ++ [.string (bs c.name), .string (bs c.data), .bool c.gone]) ∧
      (W.alloc (.cells #[.string (bs c.name), .string (bs c.data), .bool c.gone] 99)).grownBy w2 v.ownBlock := by
  obtain ⟨i0, hi0, hz0, hz1, hz2⟩ := info_parts chg_info3
  obtain ⟨v', w2, h1, h2, h3, _, _⟩ := run_append_own_at (P := Tryz.prog) (W.alloc (.cells #[.string (bs c.name), .string (bs c.data), .bool c.gone] 99)) base 85 85 99 i0 _ 3 40 Tryz.underlying85 hi0 hz0 hz1 hz2 rfl (by decide) v l.length _ (h.alloc _) ⟨W.heap.size, 0, none⟩ 1 1 [.string (bs c.name), .string (bs c.data), .bool c.gone] rfl
    (by intro j u hj; rw [add_plain, cell_new_row]; exact (Array.getElem?_toList ▸ hj)) (by simp [Value.oneCell']) (by unfold maxLen; omega) (by omega) (by simp; omega)
  obtain ⟨g, cap, rfl⟩ := ownsRow_succ h2
  exact ⟨g, cap, w2, h1, h2, h3⟩
def startC (S : T) : Array Value := #[.string { data := #[109, 97, 110, 105, 102, 101, 115, 116] }, .string (bs S), .bool false, .string { data := #[117, 110, 100, 101, 114] }, .string { data := #[] }, .bool true]
theorem inC_start {w w3 : World} {M : Array Value} (hb : Below w.heap.size w w3) (hr : w3.heap[w.heap.size]? = some (.cells M 32)) (S : T) (outs : List T) :
    InC w (w3.heap.size + 1) M ((w3.alloc (.cells (startC S) 99)).alloc (.cells #[.slice (some ⟨w3.heap.size, 0, none⟩) 2 2] 85)) (pubC S outs 0 0) (.slice (some ⟨w3.heap.size, 0, none⟩) 2 2) := by
  have h1 := hb.alloc hb.size (.cells (startC S) 99)
  have hs : (w3.alloc (.cells (startC S) 99)).heap.size = w3.heap.size + 1 := World.size_alloc _ _
  have h2 := h1.alloc h1.size (.cells #[.slice (some ⟨w3.heap.size, 0, none⟩) 2 2] 85)
  have hlt := blk_lt hr
  have h3 := heap_alloc_new (w3.alloc (.cells (startC S) 99)) (.cells #[.slice (some ⟨w3.heap.size, 0, none⟩) 2 2] 85)
  rw [hs] at h3
  refine ⟨h2, (heap_alloc_old _ _ (by omega)).trans ((heap_alloc_old _ _ hlt).trans hr), by have := hb.size; omega, h3, ?_⟩
  have h4 := (World.ownsRow_lit (base := w.heap.size) (e := 99) (size := 3) w3 (startC S) 2 hb.size (by unfold maxLen; omega) rfl).alloc (.cells #[.slice (some ⟨w3.heap.size, 0, none⟩) 2 2] 85)
  have e : chgCells (pubC S outs 0 0) = (startC S).toList := by unfold chgCells pubC startC; rfl
  rw [e]
  exact h4
theorem chg_one (a b : T) (g : Bool) : ∀ u ∈ [Value.string (bs a), .string (bs b), .bool g], u.oneCell' = true := by
  intro u hu
  simp at hu
  rcases hu with rfl | rfl | rfl <;> rfl
theorem sumMap_le {l : List Chg} {f : Chg → Nat} {c B : Nat} (hl : l.length ≤ c) (h : ∀ x ∈ l, f x ≤ B) : (l.map f).sum ≤ c * B := by
  have : ∀ l : List Chg, (∀ x ∈ l, f x ≤ B) → (l.map f).sum ≤ l.length * B := by
    intro l
    induction l with
    | nil => intro _; simp
    | cons x l ih =>
      intro h
      have h1 := ih fun t ht => h t (List.mem_cons_of_mem _ ht)
      have h2 := h x (by simp)
      rw [List.map_cons, List.sum_cons, List.length_cons, Nat.succ_mul]
      omega
  exact Nat.le_trans (this l h) (Nat.mul_le_mul_right B hl)
theorem weigh_append (a b : List Chg) : weigh (a ++ b) = weigh a + weigh b := by unfold weigh; rw [List.map_append, List.sum_append]
theorem outs_weigh (l : List T) (hl : l.length ≤ 16) : ∀ k, k ≤ l.length → weigh ((List.range k).map (outG l)) ≤ k * 1012 + ((l.take k).map List.length).sum := by
  intro k
  induction k with
  | zero => intro _; simp [weigh]
  | succ k ih =>
    intro hk
    have h1 := ih (by omega)
    rw [List.range_succ, List.map_append, weigh_append, List.take_succ_eq_append_getElem (by omega), List.map_append, List.sum_append]
    have h2 : weigh (List.map (outG l) [k]) ≤ 1012 + (List.map List.length [l[k]'(by omega)]).sum := by
      have h3 := outT_length k (by omega)
      unfold outG
      simp only [weigh, List.map_cons, List.map_nil, List.sum_cons, List.sum_nil, Crc.seal_length]
      rw [List.getD_eq_getElem?_getD, List.getElem?_eq_getElem (by omega), Option.getD_some]
      omega
    omega
theorem pubC_weigh (S : T) (l : List T) (hS : S.length ≤ 65535) (hl : l.length ≤ 16) (_ : ∀ s ∈ l, s.length ≤ 65531) (hsum : (l.map List.length).sum ≤ 800000) : weigh (pubC S l l.length (16 - l.length)) ≤ 900000 := by
  unfold pubC
  rw [weigh_append, weigh_append]
  have e1 : weigh [⟨manT, S, false⟩, ⟨underT, [], true⟩] ≤ 100 + 65535 := by
    simp [weigh, manT, underT]
    omega
  have e2 := outs_weigh l hl l.length (Nat.le_refl _)
  rw [List.take_length] at e2
  have e3 : weigh ((List.range (16 - l.length)).map (goneG l.length)) ≤ 16 * 1008 := by
    unfold weigh
    refine sumMap_le (by simp) (fun x hx => ?_)
    obtain ⟨j, hj, rfl⟩ := List.mem_map.1 hx
    have := List.mem_range.1 hj
    have h3 := outT_length (l.length + j) (by omega)
    show 8 + (outT (l.length + j)).length + ([] : T).length ≤ 1008
    simp
    omega
  omega
def PubJ (w : World) (cB : Nat) (M : Array Value) (S : T) (outs : List T) (Bx : Nat) (j : Nat) (W : World) : Prop := ∃ cv, InC w cB M W (pubC S outs outs.length j) cv ∧ W.heap[Bx]? = some (.cells #[.int .i64 (outs.length : Int)] 3)
theorem pubJ_cells {w : World} {cB : Nat} {M : Array Value} {S : T} {outs : List T} {Bx B : Nat} (hB : w.heap.size ≤ B) (j : Nat) : OfCells B (PubJ w cB M S outs Bx j) :=
  ⟨fun A l o o' hl ⟨cv, hI, hb⟩ ho hc => ⟨cv, hI.put ho hc (by omega), put_other hb ho hc⟩, fun A o ⟨cv, hI, hb⟩ => ⟨cv, hI.alloc o, (heap_alloc_old A o (blk_lt hb)).trans hb⟩⟩
theorem goIa_cells {w : World} {cB : Nat} {M : Array Value} {S : T} {outs : List T} {Bx B k0 : Nat} (hB : w.heap.size ≤ B) (xs : List Nat) : OfCells B (GoIa k0 (PubJ w cB M S outs Bx) xs) :=
  ⟨fun A l o o' hl hI ho hc => ⟨hI.1, (pubJ_cells hB _).1 A l o o' hl hI.2 ho hc⟩, fun A o hI => ⟨hI.1, (pubJ_cells hB _).2 A o hI.2⟩⟩
theorem goIy_cells {w : World} {cB : Nat} {M : Array Value} {S : T} {outs : List T} {Bx B k0 : Nat} (hB : w.heap.size ≤ B) (xs : List Nat) (x : Nat) : OfCells B (GoIy k0 (PubJ w cB M S outs Bx) xs x) :=
  ⟨fun A l o o' hl hI ho hc => ⟨hI.1, hI.2.1, (pubJ_cells hB _).1 A l o o' hl hI.2.2 ho hc⟩, fun A o hI => ⟨hI.1, hI.2.1, (pubJ_cells hB _).2 A o hI.2.2⟩⟩
theorem textsAt_below {w w' : World} {a : Option Addr} {l : List T} (h : TextsAt w a l) (hb : Below w.heap.size w w') : TextsAt w' a l := h.below hb
theorem InC.other {w W W1 W2 : World} {cB k : Nat} {M cs : Array Value} {l : List Chg} {v v' : Value} {t : TypeId} (h : InC w cB M W l v) (hb : Below W.heap.size W W1) (hg : W1.grownBy W2 v.ownBlock) (hk : W.heap[k]? = some (.cells cs t)) (h1 : t ≠ 85) (h2 : t ≠ 99) :
    (W2.setCell ⟨cB, 0, none⟩ v').heap[k]? = some (.cells cs t) := by
  have hkW := (hb.block _ (blk_lt hk)).trans hk
  have hk2 : W2.heap[k]? = some (.cells cs t) := (hg.block k (blk_lt hkW) (fun e => by
    obtain ⟨c2, fz, h3⟩ := ownsRow_blk (h.below hb).row e.symm
    rw [hkW] at h3
    injection h3 with h3
    injection h3 with _ h3
    exact h2 h3)).trans hkW
  have hu := (Upd.refl (fun i => i = cB) W2).setCell (p := ⟨cB, 0, none⟩) (.inl rfl) v'
  refine (hu.block k (blk_lt hk2) (fun e => ?_)).trans hk2
  have h4 := h.box
  rw [← e, hk] at h4
  injection h4 with h4
  injection h4 with _ h4
  exact h1 h4
def noPanic (Q : Exit → Act → World → Prop) : Exit → Act → World → Prop
  | .panic _, _, _ => False
  | e, a, w => Q e a w
theorem wp_noPanic {P : Program} {c : Code} {Q : Exit → Act → World → Prop} {a : Act} {w : World} (h : c.wp P (noPanic Q) a w) : c.wp P Q a w :=
  Code.wp_mono (fun e a w h => by cases e <;> first | exact h | exact h.elim) h
theorem goes_put {fz : Bool} {w W w6 : World} {b y n N D : Nat} {bl bl' : Nat → Prop} {A : M} {r : Int × M} {c : Int} {o o' : Obj} (hb : Below w.heap.size w W) (g1 : FRe fz w6 b y bl' n N A r c) (g2 : Upd (NoS W bl) W w6) (g3 : ∀ k, bl' k → bl k ∨ W.heap.size ≤ k)
    (hbl : ∀ k, bl k → k < w.heap.size) (hD : w.heap.size ≤ D) (hDk : W.heap[D]? = some o) (hc : o.isCells = false) : GoesX fz w b y bl n N A r c (w6.putObj D o') := by
  have hDW := (Array.getElem?_eq_some_iff.1 hDk).1
  have hD6 : w6.heap[D]? = some o := (g2.block D hDW (fun e => by have := hbl D e.1; omega)).trans hDk
  have hu : Upd (fun i => i = D) w6 (w6.putObj D o') := Upd.of_grownBy (F := fun i => i = D) (grownBy_putObj' w6 D o') (fun i e => by cases e; rfl)
  refine ⟨bl', g1.upd hu (fun k hk e => ?_) (fun k hk e => ?_), (upd_after hb g2 hbl).trans hu (fun k e => .inr (by omega)), fun k hk => (g3 k hk).imp id (fun e => Nat.le_trans hb.size e)⟩
  · rw [e] at hk
    obtain ⟨cs, fz, h⟩ := hk
    rw [hD6] at h
    injection h with h
    subst h
    cases hc
  · rcases g3 k hk with f | f
    · have := hbl k f; omega
    · omega
section
variable {w : World} {b y n N : Nat} {bl : Nat → Prop} {A : M}
set_option maxRecDepth 100000 in
set_option maxHeartbeats 8000000 in
theorem publish_anyX {fz : Bool} (h : FOk fz w b y bl n N A) (hbl : ∀ k, bl k → k < w.heap.size) (hN : N < 1000000000) {q : Option Addr} {cap : Nat} {outs : List T} (ho : TextsAt w q outs) (hol : outs.length ≤ 100000) (hmax : ∀ s ∈ outs, s.length ≤ 300000000000000) (v : Nat) (hv : v < 18446744073709551616) (job : T)
    (hsum : (∀ s ∈ outs, s.length ≤ 65531) → (outs.map List.length).sum ≤ 800000) :
    Calls Tryz.prog 16 #[.pointer (some ⟨y, 0, none⟩), .agg #[.int .u64 (v : Int), .string (bs job), .slice q outs.length cap]] w fun e w' => ∃ c : Int, e = .returned (.int .i64 c) ∧ GoesX fz w b y bl n (N + 1) A (pubT n A v job outs) c w' := by
  have HC := Lib.hid (fun W (hW : Below w.heap.size w W) => check_any (h.below hW))
  have H := Lib.hid h
  have HBL := Lib.hid hbl
  have HO := Lib.hid ho
  have HSUM := Lib.hid hsum
  clear h hbl ho hsum
  refine (callsIn_wide (n := 3)).1 ?_
  refine callsIn_of_wp_marks Tryz.func16 rfl trivial ?_ rfl
  simp only [Tryz.ntmps16, List.size_toArray, List.length_cons, List.length_nil, Nat.reduceAdd, Nat.reduceSub, Array.replicate_succ, Array.replicate_zero, List.push_toArray, List.append_toArray, List.nil_append, List.cons_append]
  refine wpIn_wide.2 ?_
  go_wp2_with fail
  refine (HC.out _ (below_alloc w _)).mono ?_
  rintro e w1 ⟨rfl, hw1⟩
  subst hw1
  obtain ⟨M, hM⟩ : ∃ M : Array Value, #[Value.int .u64 (v : Int), .string (bs job), .slice q outs.length cap] = M := ⟨_, rfl⟩
  have HM := Lib.hid hM
  have hw1 : w.heap.size < (w.alloc (.cells #[.int .u64 (v : Int), .string (bs job), .slice q outs.length cap] 32)).heap.size := by rw [World.size_alloc]; omega
  have HR1 := Lib.hid (heap_alloc_new w (.cells #[.int .u64 (v : Int), .string (bs job), .slice q outs.length cap] 32))
  have HB1 := Lib.hid (below_alloc w (.cells #[.int .u64 (v : Int), .string (bs job), .slice q outs.length cap] 32))
  clear hM
  generalize w.alloc (.cells #[.int .u64 (v : Int), .string (bs job), .slice q outs.length cap] 32) = w1 at *
  obtain ⟨c0, c1, c2, f0, f1, f2⟩ := row3 HR1.out
  go_wp2_with fail
  have hsh0 : ([] : List T) = (outs.take 0).map Sha.shaS := by simp
  go_loopw [7, 27] (fun sv i wr => ∃ (k : Nat) (l : List T), k ≤ outs.length ∧ l.length = k ∧ l = (outs.take k).map Sha.shaS ∧ i = .int .i64 (k : Int) ∧ wr.ownsRow (w.heap.size + 1) 9 1 sv k (strCells l) ∧ Below w.heap.size w wr ∧ wr.heap[w.heap.size]? = some (.cells #[.int .u64 (v : Int), .string (bs job), .slice q outs.length cap] 32) ∧ (∀ s ∈ outs.take k, s.length ≤ 65531))
    (fun _ i _ => outs.length - (intOf i).toNat)
  case atStart => exact ⟨0, [], Nat.zero_le _, rfl, hsh0, rfl, by rw [strCells_nil]; exact World.ownsRow_nil _ _ _ _, HB1.out, HR1.out, by simp⟩
  case round =>
    obtain ⟨k, l, hk, hlk, hls, rfl, hown, hb, hr, hsm⟩ := hrel
    obtain ⟨qs, caps, rfl⟩ := slice_len hown
    obtain ⟨i0, hi0, hz0, hz1, hz2⟩ := info_parts str_info
    have HR := Lib.hid hr; have HOWN := Lib.hid hown; have HB := Lib.hid hb; have HLS := Lib.hid hls; have HLK := Lib.hid hlk; have HSM := Lib.hid hsm
    clear hr hown hb hls hlk hsm c0 c1 c2 f0 f1 f2 hsh0
    by_cases hlt : k < outs.length
    · obtain ⟨qa, hq1, hq2⟩ := (textsAt_below HO.out HB.out).index cap k hlt
      obtain ⟨X, hX⟩ : ∃ X, outs[k] = X := ⟨_, rfl⟩
      rw [hX] at hq2
      have hXm : (X.length : Int) + 4 ≤ 9223372036854775807 := by have := hmax X (hX ▸ List.getElem_mem hlt); omega
      have hXm0 : -9223372036854775808 ≤ (X.length : Int) + 4 := by omega
      by_cases hlong : 65531 < X.length
      · have hlongi : (65535 : Int) < (X.length : Int) + 4 := by omega
        have HT := Lib.hid (show pubT n A v job outs = (5, A) by unfold pubT; rw [if_pos ⟨X, hX ▸ List.getElem_mem hlt, hlong⟩])
        go_wp2_with fail
        refine ⟨_, (by simp [results, Tryz.results16, go_sem]; rfl), ?_⟩
        rw [HT.out]
        exact ⟨_, rfl, GoesX.same H.out HB.out _⟩
      · have hlongi : ¬ (65535 : Int) < (X.length : Int) + 4 := by omega
        have hXl : X.length ≤ 1000000 := by omega
        have hneb := row_ne_low HOWN.out (Nat.lt_succ_self w.heap.size)
        have hltr := blk_lt HR.out
        go_wp2_with fail
        refine (sha_any X hXl _).mono ?_
        rintro e w4 ⟨rfl, hb4⟩
        have HB4 := Lib.hid (HB.out.trans (hb4.mono HB.out.size))
        have HR4 := Lib.hid ((hb4.block _ hltr).trans HR.out)
        have hlt4 : w.heap.size < w4.heap.size := Nat.lt_of_lt_of_le hltr hb4.size
        have HO4 := Lib.hid (row_below HOWN.out hb4)
        clear hb4
        have h4a : w.heap.size < (w4.alloc (.cells #[.string (bs (Sha.shaS X))] 9)).heap.size := by rw [World.size_alloc]; omega
        have HR4a := Lib.hid ((((Below.refl w4.heap.size w4).alloc (Nat.le_refl _) (.cells #[.string (bs (Sha.shaS X))] 9)).block _ hlt4).trans HR4.out)
        go_wp2_with (at_builtin; refine wpList_append_own_at _ rfl _ _ 30 rfl (w.heap.size + 1) 9 i0 _ 1 16 Tryz.underlying30 hi0 hz0 hz1 hz2 rfl (by decide) _ _ _ rfl (HO4.out.alloc _) ⟨w4.heap.size, 0, none⟩ 1 1 [.string (bs (Sha.shaS X))] rfl rfl (cell_one_new _ _ _) (by simp [Value.oneCell']) (by unfold maxLen; omega) (by omega) (by simp; omega) ?_; intro v' w8 hown' hgrow _ hat; obtain ⟨g', cap', rfl⟩ := ownsRow_succ hown'; have HR8 := Lib.hid ((hgrow.block w.heap.size h4a hneb).trans HR4a.out); have HOW8 := Lib.hid hown'; have HGR := Lib.hid hgrow; clear hown' hgrow hat)
        refine ⟨⟨k + 1, l ++ [Sha.shaS X], by omega, by rw [List.length_append, HLK.out]; rfl, ?_, by go_num, ?_, ?_, HR8.out, ?_⟩, by simp [intOf]; omega⟩
        · rw [List.take_succ_eq_append_getElem hlt, List.map_append, ← HLS.out, hX]; rfl
        · rw [strCells_snoc]; exact HOW8.out
        · exact (HB4.out.alloc HB4.out.size _).grown HGR.out (by rw [World.size_alloc]; omega) (fun j hj => by
            have := row_low HO4.out hj
            omega)
        · intro s hs
          rw [List.take_succ_eq_append_getElem hlt, List.mem_append, List.mem_singleton, hX] at hs
          rcases hs with e | e
          · exact HSM.out s e
          · rw [e]; omega
    · obtain rfl : k = outs.length := by omega
      have hsml : ∀ s ∈ outs, s.length ≤ 65531 := by have := HSM.out; rwa [List.take_length] at this
      have hall : l = outs.map Sha.shaS := by rw [HLS.out, List.take_length]
      have hrl := rowLen_le (c := 100000) (B := 32) (l := l) (by rw [HLK.out]; exact hol) (fun t ht => by
        rw [hall] at ht
        obtain ⟨u, _, rfl⟩ := List.mem_map.1 ht
        exact Nat.le_of_eq (Sha.shaS_length u))
      have hrow : RowAt wr (w.heap.size + 1) (.slice qs outs.length caps) l := by unfold RowAt; rw [HLK.out]; exact HOWN.out
      have hpk := pack_any v job l qs caps wr hv (textsAt_of_row (n := outs.length) (c := caps) hrow) (by rw [HLK.out]; unfold maxLen; omega) (by omega)
      rw [HLK.out] at hpk
      obtain ⟨S, hS⟩ : ∃ S, (packT v job l).1 = S := ⟨_, rfl⟩
      obtain ⟨E, hE⟩ : ∃ E, (packT v job l).2 = E := ⟨_, rfl⟩
      have hSl : E = 0 → S.length ≤ 65535 := fun e => by rw [← hS]; exact packT_len (by rw [hE]; exact e)
      have HTT := Lib.hid (show pubT n A v job outs = if E ≠ 0 ∨ 16 < outs.length then (5, A) else if oldT A v then (2, A) else (codeC n A (pubC S outs outs.length (16 - outs.length)), nextC n A (pubC S outs outs.length (16 - outs.length))) by
        unfold pubT
        rw [if_neg (fun ⟨s, h1, h2⟩ => by have := hsml s h1; omega), ← hall, hS, hE])
      rw [hS, hE] at hpk
      have HPK := Lib.hid hpk
      have HSML := Lib.hid hsml
      clear hpk hS hE hrl hall hsml
      obtain ⟨c0, c1, c2, f0, f1, f2⟩ := row3 HR.out
      go_wp2_with fail
      refine HPK.out.mono ?_
      rintro e w2 ⟨rfl, hb2⟩
      have HB2 := Lib.hid (HB.out.trans (hb2.mono HB.out.size))
      have HR2 := Lib.hid ((hb2.block _ (blk_lt HR.out)).trans HR.out)
      clear hb2 c0 c1 c2 f0 f1 f2
      by_cases hE0 : E = 0
      · subst hE0
        have HSL := Lib.hid (hSl rfl)
        clear hSl
        by_cases h16 : 16 < outs.length
        · have HT := Lib.hid (show pubT n A v job outs = (5, A) by rw [HTT.out, if_pos (.inr h16)])
          have h16i : (16 : Int) < (outs.length : Int) := by omega
          go_wp2_with fail
          refine ⟨_, (by simp [results, Tryz.results16, go_sem]; rfl), ?_⟩
          rw [HT.out]
          exact ⟨_, rfl, GoesX.same H.out HB2.out _⟩
        · have h16i : ¬ (16 : Int) < (outs.length : Int) := by omega
          have HOLD := Lib.hid (old_any (gets_of (H.out.below HB2.out)) v)
          obtain ⟨c0, c1, c2, f0, f1, f2⟩ := row3 HR2.out
          go_wp2_with fail
          refine HOLD.out.mono ?_
          rintro e w3 ⟨rfl, hb3⟩
          have HB3 := Lib.hid (HB2.out.trans (hb3.mono HB2.out.size))
          have HR3 := Lib.hid ((hb3.block _ (blk_lt HR2.out)).trans HR2.out)
          clear hb3 c0 c1 c2 f0 f1 f2
          cases hold : oldT A v with
          | true =>
            have HT := Lib.hid (show pubT n A v job outs = (2, A) by rw [HTT.out, if_neg (fun e => e.elim (fun e => e rfl) h16), if_pos hold])
            go_wp2_with fail
            refine ⟨_, (by simp [results, Tryz.results16, go_sem]; rfl), ?_⟩
            rw [HT.out]
            exact ⟨_, rfl, GoesX.same H.out HB3.out _⟩
          | false =>
            have HT := Lib.hid (show pubT n A v job outs = (codeC n A (pubC S outs outs.length (16 - outs.length)), nextC n A (pubC S outs outs.length (16 - outs.length))) by rw [HTT.out, if_neg (fun e => e.elim (fun e => e rfl) h16), if_neg (by rw [hold]; simp)])
            have hSl := HSL.out
            clear hold
            have hIN := inC_start (w := w) (w3 := w3) (M := #[.int .u64 (v : Int), .string (bs job), .slice q outs.length cap]) HB3.out HR3.out S outs
            unfold startC at hIN
            have HIN := Lib.hid hIN
            obtain ⟨c0, c1, c2, f0, f1, f2⟩ := row3 hIN.man
            clear hIN
            go_wp2_with fail
            generalize (w3.alloc (.cells #[.string { data := #[109, 97, 110, 105, 102, 101, 115, 116] }, .string (bs S), .bool false, .string { data := #[117, 110, 100, 101, 114] }, .string { data := #[] }, .bool true] 99)).alloc (.cells #[.slice (some ⟨w3.heap.size, 0, none⟩) 2 2] 85) = w4 at *
            obtain ⟨cB, hcB⟩ : ∃ cB, w3.heap.size + 1 = cB := ⟨_, rfl⟩
            rw [hcB] at HIN ⊢
            clear c0 c1 c2 f0 f1 f2 hcB
            go_loopw [69] (fun i wr => ∃ (k : Nat) (cv : Value), k ≤ outs.length ∧ i = .int .i64 (k : Int) ∧ InC w cB #[.int .u64 (v : Int), .string (bs job), .slice q outs.length cap] wr (pubC S outs k 0) cv)
              (fun i _ => outs.length - (intOf i).toNat)
            case atStart => exact ⟨0, _, Nat.zero_le _, rfl, HIN.out⟩
            case round =>
              obtain ⟨k, cv, hk, rfl, hI⟩ := hrel
              obtain ⟨i0, hi0, hz0, hz1, hz2⟩ := info_parts chg_info3
              obtain ⟨l, hl⟩ : ∃ l, pubC S outs k 0 = l := ⟨_, rfl⟩
              have hll : l.length = 2 + k := by rw [← hl, pubC_length, Nat.add_zero]
              rw [hl] at hI
              have HI := Lib.hid hI
              have HL := Lib.hid hl
              clear hl
              by_cases hlt : k < outs.length
              · obtain ⟨qa, hq1, hq2⟩ := (textsAt_below HO.out hI.bel).index cap k hlt
                obtain ⟨X, hX⟩ : ∃ X, outs[k] = X := ⟨_, rfl⟩
                rw [hX] at hq2
                have hXl : X.length ≤ 1099511627776 := by have := HSML.out X (hX ▸ List.getElem_mem hlt); omega
                have HX := Lib.hid (show (⟨outT k, Crc.sealT X, false⟩ : Chg) = outG outs k by unfold outG; rw [List.getD_eq_getElem?_getD, List.getElem?_eq_getElem hlt, Option.getD_some, hX])
                have cb : wr.cell? ⟨cB, 0, none⟩ = some cv := by rw [cell_of_row _ _ _ _ _ _ hI.box]; rfl
                have hcblt := blk_lt hI.box
                have hk100 : k < 100 := by omega
                have HSEAL := Lib.hid (fun W => seal_any X W hXl)
                clear hI hX
                go_wp2_with fail
                refine wp_noPanic ?_
                go_region_law
                  (first
                    | (go_simp; go_at_call 46; refine (out_any k hk100 _).mono ?_; intro e w5 h5; obtain ⟨rfl, h5⟩ := h5; have h5' := h5.symm; clear h5; subst h5'; go_wp2_with fail)
                    | (refine step_append_lies _ (by rfl) _ _ _ (by rfl) w.heap.size 99 i0 _ 3 40 Tryz.underlying85 hi0 hz0 hz1 hz2 (by rfl) (by omega) cv l.length (chgCells l) (by rfl) (HI6.out.row.alloc _) ⟨w6.heap.size, 0, none⟩ 1 1 [.string (bs (outT k)), .string (bs (Crc.sealT X)), .bool false] (by rfl) (by rfl) (World.news_of_block (cs := #[.string (bs (outT k)), .string (bs (Crc.sealT X)), .bool false]) (t := 99) (fr := (0, 0)) (heap_alloc_new w6 _)) (chg_one _ _ _) (by omega) (by unfold maxLen; omega) (by omega) (by rw [World.size_alloc]; omega) (w6.heap.size + 1) (by simp) ?_; intro gg cap2 w7 hown7 hgrow hat hlt7; have hbx7 := (hgrow.block cB (by rw [World.size_alloc]; omega) (fun e => (HI6.out.ne e.symm).1 rfl)).trans (HI6.out.alloc _).box; have hc7 : w7.cell? ⟨cB, 0, none⟩ = some cv := (by rw [cell_of_row _ _ _ _ _ _ hbx7]; rfl); have hf7 := frozen_of_row w7 cB 0 _ _ hbx7)
                    | (go_simp; go_at_call 52; refine (HSEAL.out _).mono ?_; rintro e w6 ⟨rfl, hb6⟩; have hb6' : Below wr.heap.size wr w6 := ((Below.refl _ wr).drew).trans (hb6.mono (Nat.le_refl _)); have hi6 := HI.out.below hb6'; have HB6 := Lib.hid hb6'; have HI6 := Lib.hid hi6; have cb6 : w6.cell? ⟨cB, 0, none⟩ = some cv := (by rw [cell_of_row _ _ _ _ _ _ hi6.box]; rfl); have hcb6 := blk_lt hi6.box; have hs6 := hi6.bel.size; clear hb6 hb6' hi6; go_wp2_with fail))
                all_goals
                  have HADD := Lib.hid (HI.out.add (HB6.out.alloc HB6.out.size _) hgrow ⟨outT k, Crc.sealT X, false⟩ hown7)
                  rw [hll] at HADD
                  clear hown7 hgrow hat hbx7
                  dsimp only [noPanic]
                  go_wp2_with fail
                  go_roundw
                  case rel => exact ⟨k + 1, _, by omega, by go_num, by rw [pubC_out, HL.out, ← HX.out]; exact HADD.out⟩
                  case measure => simp [intOf]; omega
              · obtain rfl : k = outs.length := by omega
                go_wp2_with fail
                refine (goneF_any outs.length _).mono ?_
                rintro e w5 ⟨rfl, hw5⟩
                subst hw5
                go_wp2_with fail
                have HBX := Lib.hid (heap_alloc_new wr (.cells #[.int .i64 (outs.length : Int)] 3))
                have HIU := Lib.hid (HI.out.alloc (.cells #[.int .i64 (outs.length : Int)] 3))
                rw [← HL.out] at HIU
                obtain ⟨Bx, hBx⟩ : ∃ Bx, wr.heap.size = Bx := ⟨_, rfl⟩
                rw [hBx] at HBX ⊢
                obtain ⟨U, hU⟩ : ∃ U, wr.alloc (.cells #[.int .i64 (outs.length : Int)] 3) = U := ⟨_, rfl⟩
                rw [hU] at HBX HIU ⊢
                clear hBx hU HI HL hI hll hi0 hz0 hz1 hz2
                refine (wpIn_wide (n := 3)).1 ?_
                refine wp_range_slot (s := 15) (by omega) (gf := 113) (lb := #[.pointer (some ⟨Bx, 0, none⟩)]) rfl (enters_of Tryz.func113 (by kernel_rfl) rfl) (e := fun x : Nat => .int .i64 (x : Int))
                  (Ia := GoIa outs.length (PubJ w cB #[.int .u64 (v : Int), .string (bs job), .slice q outs.length cap] S outs Bx)) (Iy := GoIy outs.length (PubJ w cB #[.int .u64 (v : Int), .string (bs job), .slice q outs.length cap] S outs Bx))
                  (fun xs => goIa_cells HIU.out.bel.size xs) (fun xs x => goIy_cells HIU.out.bel.size xs x)
                  (gone_two 2 (by omega) Bx outs.length (by omega) (fun j W hJ => by obtain ⟨_, _, hb⟩ := hJ; rw [cell_of_row _ _ _ _ _ _ hb]; rfl) U) ⟨Nat.zero_le _, _, HIU.out, HBX.out⟩
                  ?assign ?body ?done
                case assign =>
                  intro l x W K hK
                  simp only [List.setIfInBounds_toArray, List.set_cons_zero, List.set_cons_succ] at hK ⊢
                  gi_wp2
                  exact hK
                case body =>
                  intro l pre x W hy
                  obtain ⟨hp1, hp2, cv', hIc, hBxc⟩ := hy
                  obtain ⟨L, hL⟩ : ∃ L, pubC S outs outs.length pre.length = L := ⟨_, rfl⟩
                  have hLl : L.length = 2 + outs.length + pre.length := by rw [← hL, pubC_length]
                  rw [hL] at hIc
                  have HLL := Lib.hid hL
                  have hx100 : x < 100 := by omega
                  obtain ⟨gg, cap2, w7, hr7, ho7, hg7⟩ := chgAppend_run (W := W.drew) ⟨outT x, [], true⟩ hIc.row.drew (by omega) hIc.bel.size
                  have hbx7 := (hg7.block cB (by rw [World.size_alloc]; exact Nat.lt_succ_of_lt (blk_lt hIc.box)) (fun e => (hIc.ne e.symm).1 rfl)).trans (show (W.drew.alloc _).heap[cB]? = _ from (hIc.below ((Below.refl _ W).drew)).alloc _ |>.box)
                  have hc7 : w7.cell? ⟨cB, 0, none⟩ = some cv' := by rw [cell_of_row _ _ _ _ _ _ hbx7]; rfl
                  have hf7 := frozen_of_row w7 cB 0 _ _ hbx7
                  have cb : W.cell? ⟨cB, 0, none⟩ = some cv' := by rw [cell_of_row _ _ _ _ _ _ hIc.box]; rfl
                  have hr7' : (appendN #[85, 85] 85 #[cv', .slice (some ⟨W.heap.size, 0, none⟩) 1 1]).run Tryz.prog (W.alloc (.cells #[.string (bs (outT x)), .string { data := #[] }, .bool true] 99)).drew = .ok (.slice (some ⟨gg, 0, none⟩) (L.length + 1) cap2) w7 := hr7
                  clear hr7
                  have hcblt := blk_lt hIc.box
                  have hmix : Tryz.prog.follows .mixedOrders = true := by kernel_rfl
                  have HIC := Lib.hid hIc
                  have HO7 := Lib.hid ho7; have HG7 := Lib.hid hg7; have HP2 := Lib.hid hp2; have HBXC := Lib.hid hBxc
                  clear hIc ho7 hg7 hbx7 hL hp2 hBxc
                  simp only [List.setIfInBounds_toArray, List.set_cons_zero, List.set_cons_succ]
                  gi_wp2
                  gi_region_with_o (refine ⟨trivial, (CallsIn.inRound l (callsIn_wide.2 (out_any x hx100 _))).mono ?_⟩; intro e w5 h5; obtain ⟨rfl, h5⟩ := h5; have h5' := h5.symm; clear h5; subst h5'; gi_wp2)
                  all_goals
                    have HADD := Lib.hid (HIC.out.add (W1 := W.drew.alloc (.cells #[.string (bs (outT x)), .string (bs []), .bool true] 99)) ((below_drawn W 1).alloc (Nat.le_refl _) _) HG7.out ⟨outT x, [], true⟩ HO7.out)
                    have HKO := Lib.hid (HIC.out.keeps (W1 := W.drew.alloc (.cells #[.string (bs (outT x)), .string (bs []), .bool true] 99)) ((below_drawn W 1).alloc (Nat.le_refl _) _) HG7.out (.slice (some ⟨gg, 0, none⟩) (L.length + 1) cap2))
                    rw [hLl] at HADD HKO
                    refine ⟨HKO.out, by rw [List.length_append]; show pre.length + 1 ≤ _; omega, .slice (some ⟨gg, 0, none⟩) (2 + outs.length + pre.length + 1) cap2, ?_, ?_⟩
                    · rw [List.length_append]
                      show InC _ _ _ _ (pubC S outs outs.length (pre.length + 1)) _
                      rw [pubC_gone, HLL.out, show goneG outs.length pre.length = ⟨outT x, [], true⟩ by unfold goneG; rw [HP2.out]]
                      exact HADD.out
                    · exact HIC.out.other (W1 := W.drew.alloc (.cells #[.string (bs (outT x)), .string (bs []), .bool true] 99)) ((below_drawn W 1).alloc (Nat.le_refl _) _) HG7.out HBXC.out (by decide) (by decide)
                case done =>
                  intro D xs W hD hS hI hK
                  have hS' : xs.length = 16 - outs.length := hS
                  obtain ⟨_, cv', hIc, hBxc⟩ := hI
                  rw [hS'] at hIc
                  have HIC := Lib.hid hIc
                  have HK := Lib.hid hK
                  have HD := Lib.hid (show w.heap.size ≤ D from Nat.le_trans HIU.out.bel.size hD)
                  have hcl := pubC_length S outs outs.length (16 - outs.length)
                  obtain ⟨qc, capc, rfl⟩ := slice_len hIc.row
                  have hcom := fok_commit (cap := capc) (H.out.below hIc.bel) hN (ChgsAt.of_row hIc.row) (by omega) (pubC_weigh S outs hSl (by omega) HSML.out (HSUM.out HSML.out))
                  have cb : W.cell? ⟨cB, 0, none⟩ = some (.slice qc (pubC S outs outs.length (16 - outs.length)).length capc) := by rw [cell_of_row _ _ _ _ _ _ hIc.box]; rfl
                  have HCOM := Lib.hid hcom
                  clear hIc hBxc hS hS' hK hD hcom HIU HBX
                  rw [hcl] at HCOM cb
                  dsimp only
                  go_wp2_with fail
                  refine HCOM.out.mono ?_
                  rintro e w8 ⟨c8, rfl, bl', g1, g2, g3⟩
                  have hK8 : w8.heap[D]? = some (.deferred (some [])) := (g2.block D (Array.getElem?_eq_some_iff.1 HK.out).1 (fun e => by have := HBL.out D e.1; have := HD.out; omega)).trans HK.out
                  have HG := Lib.hid (goes_put (o' := .deferred none) HIC.out.bel g1 g2 g3 HBL.out HD.out HK.out rfl)
                  clear g1 g2 g3 cb
                  go_wp2_with fail
                  refine ⟨by simp, .inl ⟨_, _, rfl, run_takeDeferred hK8, ?_⟩⟩
                  rw [HT.out]
                  exact ⟨_, (by simp [results, Tryz.results16, go_sem]), _, rfl, HG.out⟩
      · have HT := Lib.hid (show pubT n A v job outs = (5, A) by rw [HTT.out, if_pos (.inl hE0)])
        go_wp2_with fail
        refine ⟨_, (by simp [results, Tryz.results16, go_sem]; rfl), ?_⟩
        rw [HT.out]
        exact ⟨_, rfl, GoesX.same H.out HB2.out _⟩
theorem publish_any (h : FSt w b y bl n N A) (hbl : ∀ k, bl k → k < w.heap.size) (hN : N < 1000000000) {q : Option Addr} {cap : Nat} {outs : List T} (ho : TextsAt w q outs) (hol : outs.length ≤ 100000) (hmax : ∀ s ∈ outs, s.length ≤ 300000000000000) (v : Nat) (hv : v < 18446744073709551616) (job : T)
    (hsum : (∀ s ∈ outs, s.length ≤ 65531) → (outs.map List.length).sum ≤ 800000) :
    Calls Tryz.prog 16 #[.pointer (some ⟨y, 0, none⟩), .agg #[.int .u64 (v : Int), .string (bs job), .slice q outs.length cap]] w fun e w' => e = .returned (.int .i64 (pubT n A v job outs).1) ∧ Goes w b y bl n (N + 1) (pubT n A v job outs).2 w' :=
  (publish_anyX h hbl hN ho hol hmax v hv job hsum).mono fun e w' ⟨c, he, hg⟩ => by
    obtain ⟨rfl, g⟩ := hg.calm
    exact ⟨he, g⟩
end
end Go.Proofs.YtoaihngckcbhiaaGreatDoor.Man
namespace Go.Proofs.YtoaihngckcbhiaaGreatDoor.Man
open Wal Fil
theorem rowE_nil : rowE [] = some (Crc.le 2 0) := by unfold rowE; simp [textsE]
theorem packT_code (v : Nat) (job : T) (l : List T) : (packT v job l).2 = 0 ∨ (packT v job l).2 = 5 := by
  unfold packT
  split
  · exact .inr rfl
  · split
    · exact .inr rfl
    · split
      · exact .inr rfl
      · exact .inl rfl
theorem packT_long {v : Nat} {job : T} {l : List T} (h : 64 < job.length) : packT v job l = ([], 5) := by unfold packT; rw [if_pos h]
theorem packT_nil {v : Nat} {job : T} (h : job.length ≤ 64) : packT v job [] = (Crc.sealT (Crc.le 8 v ++ (Crc.le 2 job.length ++ job) ++ Crc.le 2 0), 0) := by
  have h1 : (Crc.sealT (Crc.le 8 v ++ (Crc.le 2 job.length ++ job) ++ Crc.le 2 0)).length ≤ 65535 := by
    rw [Crc.seal_length]
    simp only [List.length_append, Crc.le_length]
    omega
  unfold packT
  rw [if_neg (by omega), rowE_nil]
  show (if 65535 < (Crc.sealT (Crc.le 8 v ++ (Crc.le 2 job.length ++ job) ++ Crc.le 2 0)).length then _ else _) = _
  rw [if_neg (by omega)]
theorem packT_nil_len {v : Nat} {job : T} (h : job.length ≤ 64) : (packT v job []).1.length ≤ 80 := by
  rw [packT_nil h]
  show (Crc.sealT _).length ≤ 80
  rw [Crc.seal_length]
  simp only [List.length_append, Crc.le_length]
  omega
theorem unpack_pack {v : Nat} {job : T} {l : List T} (h : (packT v job l).2 = 0) (hv : v < 18446744073709551616) : unpackT (packT v job l).1 = some (v, job, l) := by
  by_cases hj : 64 < job.length
  · rw [packT_long hj] at h; cases h
  · cases hr : rowE l with
    | none =>
      unfold packT at h
      rw [if_neg hj, hr] at h
      cases h
    | some r =>
      have e : packT v job l = if 65535 < (Crc.sealT (Crc.le 8 v ++ (Crc.le 2 job.length ++ job) ++ r)).length then ([], 5) else (Crc.sealT (Crc.le 8 v ++ (Crc.le 2 job.length ++ job) ++ r), 0) := by
        unfold packT
        rw [if_neg hj, hr]
      rw [e] at h ⊢
      by_cases h2 : 65535 < (Crc.sealT (Crc.le 8 v ++ (Crc.le 2 job.length ++ job) ++ r)).length
      · rw [if_pos h2] at h; cases h
      · rw [if_neg h2]
        have ht : textE job = some (Crc.le 2 job.length ++ job) := by unfold textE; rw [if_pos (by omega)]
        have e1 : (Crc.le 8 v ++ (Crc.le 2 job.length ++ job) ++ r).take 8 = Crc.le 8 v := by
          rw [List.append_assoc]; exact List.take_left' (Crc.le_length 8 v)
        have e2 : (Crc.le 8 v ++ (Crc.le 2 job.length ++ job) ++ r).drop 8 = (Crc.le 2 job.length ++ job) ++ r := by
          rw [List.append_assoc]; exact List.drop_left' (Crc.le_length 8 v)
        have e3 := readT_of r ht
        show unpackT (Crc.sealT (Crc.le 8 v ++ (Crc.le 2 job.length ++ job) ++ r)) = _
        unfold unpackT
        rw [Crc.openT_seal]
        rw [if_neg (by simp only [List.length_append, Crc.le_length]; omega)]
        simp only [e1, e2, e3]
        rw [if_neg hj, List.drop_left, readRow_of hr, Option.map_some, Crc.val_le, Nat.mod_eq_of_lt (by show v < 256 ^ 8; omega)]
theorem must_gone {l : List Chg} {n : Nat} {A : M} (h : l.all Chg.may = true) : (codeC n A l = 0 ∧ nextC n A l = made A l ∧ used (made A l) ≤ roomN n) ∨ (codeC n A l = 4 ∧ roomN n < used (made A l)) := by
  unfold codeC nextC
  rw [if_neg (by rw [h]; simp)]
  by_cases h2 : roomN n < used (made A l)
  · exact .inr ⟨if_pos h2, h2⟩
  · exact .inl ⟨if_neg h2, if_pos ⟨h, by omega⟩, by omega⟩
theorem may_under {S : T} (h : S.length ≤ 65535) : [(⟨underT, S, false⟩ : Chg)].all Chg.may = true := by
  simp [Chg.may, mayB, underT]
  omega
theorem room100 : roomN 100 = 2748 := by decide
theorem old_none {A : M} (h : Fil.get A manT = none) (v : Nat) : oldT A v = false := by unfold oldT latestT; rw [h]
end Go.Proofs.YtoaihngckcbhiaaGreatDoor.Man
namespace Go.Proofs.YtoaihngckcbhiaaGreatDoor.Man
open Wal Fil
theorem find_name {l : List Chg} {c : Chg} (h : c ∈ l) (hu : ∀ d ∈ l, d.name = c.name → d = c) : l.find? (fun d => d.name == c.name) = some c := by
  induction l with
  | nil => simp at h
  | cons x l ih =>
    by_cases hx : x.name = c.name
    · rw [List.find?_cons_of_pos (by simpa using hx), hu x (by simp) hx]
    · rw [List.find?_cons_of_neg (by simpa using hx)]
      refine ih ?_ (fun d hd => hu d (List.mem_cons_of_mem _ hd))
      rcases List.mem_cons.1 h with e | e
      · exact absurd (by rw [e]) hx
      · exact e
theorem get_made_mem {F : M} (hF : Up F) {l : List Chg} {c : Chg} (h : c ∈ l) (hu : ∀ d ∈ l, d.name = c.name → d = c) : Fil.get (made F l) c.name = if c.gone then none else some c.data := by
  rw [get_made hF, find_name (List.mem_reverse.2 h) (fun d hd => hu d (List.mem_reverse.1 hd))]
theorem get_made_not {F : M} (hF : Up F) {l : List Chg} {k : T} (h : ∀ d ∈ l, d.name ≠ k) : Fil.get (made F l) k = Fil.get F k := by
  rw [get_made hF, List.find?_eq_none.2 (fun d hd => by simpa using h d (List.mem_reverse.1 hd))]
theorem outT_inj16 : ∀ i j : Fin 16, outT i.1 = outT j.1 → i = j := by decide +kernel
theorem outT_ne16 : ∀ i : Fin 16, outT i.1 ≠ manT ∧ outT i.1 ≠ underT ∧ (outT i.1).length ≤ 6 ∧ outT i.1 ≠ [] := by decide +kernel
theorem man_ne_under : manT ≠ underT := by decide
theorem outT_inj {i j : Nat} (hi : i < 16) (hj : j < 16) (h : outT i = outT j) : i = j := by
  have := outT_inj16 ⟨i, hi⟩ ⟨j, hj⟩ h
  exact congrArg (·.1) this
theorem outT_ne {i : Nat} (hi : i < 16) : outT i ≠ manT ∧ outT i ≠ underT ∧ (outT i).length ≤ 6 ∧ outT i ≠ [] := outT_ne16 ⟨i, hi⟩
theorem mem_pubC {S : T} {l : List T} (hl : l.length ≤ 16) {c : Chg} : c ∈ pubC S l l.length (16 - l.length) ↔ c = ⟨manT, S, false⟩ ∨ c = ⟨underT, [], true⟩ ∨ (∃ k, k < l.length ∧ c = outG l k) ∨ ∃ j, j < 16 ∧ l.length ≤ j ∧ c = ⟨outT j, [], true⟩ := by
  unfold pubC
  simp only [List.mem_append, List.mem_cons, List.not_mem_nil, or_false, List.mem_map, List.mem_range]
  constructor
  · rintro (((h | h) | ⟨k, hk, rfl⟩) | ⟨j, hj, rfl⟩)
    · exact .inl h
    · exact .inr (.inl h)
    · exact .inr (.inr (.inl ⟨k, hk, rfl⟩))
    · exact .inr (.inr (.inr ⟨l.length + j, by omega, by omega, rfl⟩))
  · rintro (h | h | ⟨k, hk, rfl⟩ | ⟨j, hj, hl2, rfl⟩)
    · exact .inl (.inl (.inl h))
    · exact .inl (.inl (.inr h))
    · exact .inl (.inr ⟨k, hk, rfl⟩)
    · exact .inr ⟨j - l.length, by omega, by unfold goneG; rw [Nat.add_sub_cancel' hl2]⟩
theorem pubC_once {S : T} {l : List T} (hl : l.length ≤ 16) {c d : Chg} (hc : c ∈ pubC S l l.length (16 - l.length)) (hd : d ∈ pubC S l l.length (16 - l.length)) (h : d.name = c.name) : d = c := by
  rcases (mem_pubC hl).1 hc with rfl | rfl | ⟨k, hk, rfl⟩ | ⟨k, hk, hk2, rfl⟩ <;> rcases (mem_pubC hl).1 hd with rfl | rfl | ⟨j, hj, rfl⟩ | ⟨j, hj, hj2, rfl⟩
  · rfl
  · exact absurd h.symm man_ne_under
  · exact absurd h (outT_ne (by omega)).1
  · exact absurd h (outT_ne (by omega)).1
  · exact absurd h man_ne_under
  · rfl
  · exact absurd h (outT_ne (by omega)).2.1
  · exact absurd h (outT_ne (by omega)).2.1
  · exact absurd h.symm (outT_ne (i := k) (by omega)).1
  · exact absurd h.symm (outT_ne (i := k) (by omega)).2.1
  · rw [outT_inj (i := j) (j := k) (by omega) (by omega) h]
  · have := outT_inj (i := j) (j := k) (by omega) (by omega) h; omega
  · exact absurd h.symm (outT_ne (i := k) (by omega)).1
  · exact absurd h.symm (outT_ne (i := k) (by omega)).2.1
  · have := outT_inj (i := j) (j := k) (by omega) (by omega) h; omega
  · rw [outT_inj (i := j) (j := k) (by omega) (by omega) h]
theorem pubC_may {S : T} {l : List T} (hS : S.length ≤ 65535) (hl : l.length ≤ 16) (hs : ∀ s ∈ l, s.length ≤ 65531) : (pubC S l l.length (16 - l.length)).all Chg.may = true := by
  rw [List.all_eq_true]
  intro c hc
  rcases (mem_pubC hl).1 hc with rfl | rfl | ⟨k, hk, rfl⟩ | ⟨j, hj, _, rfl⟩
  · simp [Chg.may, mayB, manT]; omega
  · decide
  · obtain ⟨_, _, h3, h4⟩ := outT_ne (i := k) (by omega)
    have h5 : (l[k]?.getD []).length ≤ 65531 := by
      rw [List.getElem?_eq_getElem hk, Option.getD_some]
      exact hs _ (List.getElem_mem hk)
    simp [Chg.may, mayB, outG, Crc.seal_length, h4]
    omega
  · obtain ⟨_, _, h3, h4⟩ := outT_ne hj
    simp [Chg.may, mayB, h4]
    omega
def OurN (k : T) : Prop := k = manT ∨ k = underT ∨ ∃ j, j < 16 ∧ k = outT j
def Ours (A : M) : Prop := ∀ p ∈ A, OurN p.1
structure Pub (A : M) (S : T) (l : List T) : Prop where
  up : Up A
  mem : ∀ p, p ∈ A ↔ p = (manT, S) ∨ ∃ k, k < l.length ∧ p = (outT k, Crc.sealT (l.getD k []))
theorem pub_made {A : M} (hA : Up A) (hO : Ours A) {S : T} {l : List T} (hl : l.length ≤ 16) : Pub (made A (pubC S l l.length (16 - l.length))) S l := by
  have hu := hA.made (pubC S l l.length (16 - l.length))
  refine ⟨hu, fun p => ⟨fun hp => ?_, fun hp => ?_⟩⟩
  · have hg := get_mem hu (k := p.1) (v := p.2) hp
    by_cases hex : ∃ d ∈ pubC S l l.length (16 - l.length), d.name = p.1
    · obtain ⟨d, hd, hn⟩ := hex
      have h1 := get_made_mem hA hd (fun e he => pubC_once hl hd he)
      rw [hn, hg] at h1
      rcases (mem_pubC hl).1 hd with rfl | rfl | ⟨k, hk, rfl⟩ | ⟨j, hj, hj2, rfl⟩
      · refine .inl (Prod.ext hn.symm ?_)
        simpa using h1
      · simp at h1
      · refine .inr ⟨k, hk, Prod.ext hn.symm ?_⟩
        simpa [outG] using h1
      · simp at h1
    · have hno : ∀ d ∈ pubC S l l.length (16 - l.length), d.name ≠ p.1 := fun d hd e => hex ⟨d, hd, e⟩
      rw [get_made_not hA hno] at hg
      have h2 := hO _ (get_some hg)
      exfalso
      rcases h2 with e | e | ⟨j, hj, e⟩
      · exact hno ⟨manT, S, false⟩ ((mem_pubC hl).2 (.inl rfl)) e.symm
      · exact hno ⟨underT, [], true⟩ ((mem_pubC hl).2 (.inr (.inl rfl))) e.symm
      · by_cases hjl : j < l.length
        · exact hno (outG l j) ((mem_pubC hl).2 (.inr (.inr (.inl ⟨j, hjl, rfl⟩)))) e.symm
        · exact hno ⟨outT j, [], true⟩ ((mem_pubC hl).2 (.inr (.inr (.inr ⟨j, hj, by omega, rfl⟩)))) e.symm
  · rcases hp with rfl | ⟨k, hk, rfl⟩
    · have hc : (⟨manT, S, false⟩ : Chg) ∈ pubC S l l.length (16 - l.length) := (mem_pubC hl).2 (.inl rfl)
      have h1 := get_made_mem hA hc (fun e he => pubC_once hl hc he)
      exact get_some (by simpa using h1)
    · have hc : outG l k ∈ pubC S l l.length (16 - l.length) := (mem_pubC hl).2 (.inr (.inr (.inl ⟨k, hk, rfl⟩)))
      have h1 := get_made_mem hA hc (fun e he => pubC_once hl hc he)
      exact get_some (by simpa [outG] using h1)
def pubL (S : T) (l : List T) : M := (manT, S) :: (List.range l.length).map fun k => (outT k, Crc.sealT (l.getD k []))
theorem Pub.perm {A : M} {S : T} {l : List T} (h : Pub A S l) (hl : l.length ≤ 16) : A.Perm (pubL S l) := by
  refine (List.perm_ext_iff_of_nodup ?_ ?_).2 (fun p => ?_)
  · have hu := h.up
    unfold Up at hu
    refine List.nodup_iff_pairwise_ne.2 (List.Pairwise.imp (R := fun a b : T × T => a.1 < b.1) (S := fun a b => a ≠ b) (fun {a b} hlt e => ?_) hu)
    rw [e] at hlt
    exact lt_irr _ hlt
  · refine List.nodup_cons.2 ⟨fun e => ?_, ?_⟩
    · obtain ⟨k, hk, e⟩ := List.mem_map.1 e
      have := List.mem_range.1 hk
      exact (outT_ne (i := k) (by omega)).1 (congrArg Prod.fst e)
    · rw [List.nodup_iff_pairwise_ne, List.pairwise_map]
      refine (List.nodup_iff_pairwise_ne.1 List.nodup_range).imp_of_mem (fun {i j} hi hj hne e => hne ?_)
      have h1 := List.mem_range.1 hi
      have h2 := List.mem_range.1 hj
      exact outT_inj (by omega) (by omega) (congrArg Prod.fst e)
  · rw [h.mem p]
    unfold pubL
    simp only [List.mem_cons, List.mem_map, List.mem_range]
    exact or_congr Iff.rfl ⟨fun ⟨k, hk, e⟩ => ⟨k, hk, e.symm⟩, fun ⟨k, hk, e⟩ => ⟨k, hk, e.symm⟩⟩
theorem Pub.man {A : M} {S : T} {l : List T} (h : Pub A S l) : Fil.get A manT = some S := get_mem h.up ((h.mem _).2 (.inl rfl))
theorem Pub.out {A : M} {S : T} {l : List T} (h : Pub A S l) {k : Nat} (hk : k < l.length) : Fil.get A (outT k) = some (Crc.sealT (l.getD k [])) := get_mem h.up ((h.mem _).2 (.inr ⟨k, hk, rfl⟩))
theorem Pub.under {A : M} {S : T} {l : List T} (h : Pub A S l) (hl : l.length ≤ 16) : Fil.get A underT = none := get_none.2 fun p hp e => by
  rcases (h.mem p).1 hp with rfl | ⟨k, hk, rfl⟩
  · exact man_ne_under e
  · exact (outT_ne (i := k) (by omega)).2.1 e
theorem outs_all {A : M} (l : List T) (h : ∀ k, k < l.length → Fil.get A (outT k) = some (Crc.sealT (l.getD k []))) : ∀ j, j ≤ l.length → outsT A (l.length - j) ((l.drop (l.length - j)).map Sha.shaS) = some (l.drop (l.length - j)) := by
  intro j
  induction j with
  | zero => intro _; simp [outsT]
  | succ j ih =>
    intro hj
    have hk : l.length - (j + 1) < l.length := by omega
    have h1 := ih (by omega)
    have e : l.length - j = l.length - (j + 1) + 1 := by omega
    rw [e] at h1
    rw [List.drop_eq_getElem_cons hk, List.map_cons]
    unfold outsT
    rw [h _ hk, List.getD_eq_getElem?_getD, List.getElem?_eq_getElem hk, Option.getD_some]
    simp only [Crc.openT_seal]
    rw [if_pos (by simp), h1]
    rfl
theorem Pub.latest {A : M} {S : T} {l : List T} (h : Pub A S l) (hl : l.length ≤ 16) {v : Nat} {job : T} (hu : unpackT S = some (v, job, l.map Sha.shaS)) : latestT A = (some (v, job, l), 0) := by
  have ho := outs_all (A := A) l (fun k hk => h.out hk) l.length (Nat.le_refl _)
  rw [Nat.sub_self, List.drop_zero] at ho
  unfold latestT
  simp only [h.man, hu, List.length_map]
  rw [if_neg (by omega), ho]
  rfl
theorem Pub.old {A : M} {S : T} {l : List T} (h : Pub A S l) (hl : l.length ≤ 16) {v : Nat} {job : T} (hu : unpackT S = some (v, job, l.map Sha.shaS)) (x : Nat) : oldT A x = decide (x ≤ v) := by
  unfold oldT
  rw [h.latest hl hu]
theorem Pub.now {A : M} {S : T} {l : List T} (h : Pub A S l) (hl : l.length ≤ 16) : nowT A = (none, 0) := by
  unfold nowT
  rw [h.under hl]
theorem perm_used {A B : M} (h : A.Perm B) : used A = used B := by
  unfold used
  induction h with
  | nil => rfl
  | cons x _ ih => simp only [List.map_cons, List.sum_cons] at ih ⊢; omega
  | swap x y l => simp only [List.map_cons, List.sum_cons]; omega
  | trans _ _ h1 h2 => exact h1.trans h2
theorem ours_nil : Ours [] := fun p hp => by simp at hp
end Go.Proofs.YtoaihngckcbhiaaGreatDoor.Man
namespace Go.Proofs.YtoaihngckcbhiaaGreatDoor.Man
open Wal Fil
theorem textsE_some {l : List T} (h : ∀ s ∈ l, s.length ≤ 65535) : ∃ r, textsE l = some r := by
  induction l with
  | nil => exact ⟨_, rfl⟩
  | cons x l ih =>
    obtain ⟨r, hr⟩ := ih (fun s hs => h s (List.mem_cons_of_mem _ hs))
    have hx : textE x = some (Crc.le 2 x.length ++ x) := by unfold textE; rw [if_pos (h x (by simp))]
    exact ⟨(Crc.le 2 x.length ++ x) ++ r, by simp [textsE, hx, hr]⟩
theorem rowE_some {l : List T} (h : ∀ s ∈ l, s.length ≤ 65535) (hl : l.length ≤ 65535) : ∃ r, rowE l = some r ∧ r.length = rowLen l := by
  obtain ⟨r, hr⟩ := textsE_some h
  refine ⟨Crc.le 2 l.length ++ r, ?_, ?_⟩
  · unfold rowE
    rw [if_pos hl, hr]
    rfl
  · rw [← textsE_length hr]
    simp [Crc.le_length]
theorem pack_ok {v : Nat} {job : T} {l : List T} {c B : Nat} (hj : job.length ≤ 64) (hl : l.length ≤ c) (h : ∀ s ∈ l, s.length ≤ B) (hB : B ≤ 65535) (hc : c * (2 + B) ≤ 65000) : (packT v job l).2 = 0 ∧ (packT v job l).1.length ≤ 80 + c * (2 + B) := by
  have hrl := rowLen_le hl h
  have hc2 : c ≤ c * (2 + B) := Nat.le_mul_of_pos_right c (by omega)
  obtain ⟨r, hr, hrr⟩ := rowE_some (fun s hs => Nat.le_trans (h s hs) hB) (show l.length ≤ 65535 by omega)
  have e : packT v job l = if 65535 < (Crc.sealT (Crc.le 8 v ++ (Crc.le 2 job.length ++ job) ++ r)).length then ([], 5) else (Crc.sealT (Crc.le 8 v ++ (Crc.le 2 job.length ++ job) ++ r), 0) := by
    unfold packT
    rw [if_neg (by omega), hr]
  have hlen : (Crc.sealT (Crc.le 8 v ++ (Crc.le 2 job.length ++ job) ++ r)).length ≤ 80 + c * (2 + B) := by
    rw [Crc.seal_length]
    simp only [List.length_append, Crc.le_length]
    omega
  rw [e, if_neg (by omega)]
  exact ⟨rfl, hlen⟩
theorem sums_len (l : List T) : ∀ s ∈ l.map Sha.shaS, s.length ≤ 32 := fun s hs => by
  obtain ⟨u, _, rfl⟩ := List.mem_map.1 hs
  exact Nat.le_of_eq (Sha.shaS_length u)
theorem pack_sums {v : Nat} {job : T} {l : List T} (hj : job.length ≤ 64) (hl : l.length ≤ 16) : (packT v job (l.map Sha.shaS)).2 = 0 ∧ (packT v job (l.map Sha.shaS)).1.length ≤ 700 := by
  obtain ⟨h1, h2⟩ := pack_ok (v := v) (job := job) (l := l.map Sha.shaS) (c := 16) (B := 32) hj (by rw [List.length_map]; exact hl) (sums_len l) (by omega) (by omega)
  exact ⟨h1, by omega⟩
theorem publish_fits {A : M} {n v : Nat} {job : T} {l : List T} (hA : Up A) (hO : Ours A) (hv : v < 18446744073709551616) (hj : job.length ≤ 64) (hl : l.length ≤ 16) (hs : ∀ s ∈ l, s.length ≤ 65531) (hold : oldT A v = false) :
    ((pubT n A v job l).1 = 0 ∧ ∃ S, Pub (pubT n A v job l).2 S l ∧ unpackT S = some (v, job, l.map Sha.shaS) ∧ S.length ≤ 700) ∨ ((pubT n A v job l).1 = 4 ∧ ∃ S, S.length ≤ 700 ∧ roomN n < used (pubL S l)) := by
  obtain ⟨hp, hSl⟩ := pack_sums (v := v) hj hl
  have hpub := pub_made hA hO (S := (packT v job (l.map Sha.shaS)).1) hl
  have hb : pubT n A v job l = (codeC n A (pubC (packT v job (l.map Sha.shaS)).1 l l.length (16 - l.length)), nextC n A (pubC (packT v job (l.map Sha.shaS)).1 l l.length (16 - l.length))) := by
    unfold pubT
    rw [if_neg (fun ⟨s, h1, h2⟩ => by have := hs s h1; omega), if_neg (fun e => e.elim (fun e => e hp) (by omega)), hold, if_neg (by simp)]
  rcases must_gone (n := n) (A := A) (pubC_may (S := (packT v job (l.map Sha.shaS)).1) (by omega) hl hs) with ⟨g1, g2, _⟩ | ⟨g1, g2⟩
  · rw [hb, g1, g2]
    refine .inl ⟨rfl, _, ?_, unpack_pack hp hv, hSl⟩
    dsimp only
    exact hpub
  · rw [hb, g1]
    exact .inr ⟨rfl, _, hSl, by rw [← perm_used (hpub.perm hl)]; exact g2⟩
theorem publish_old {A : M} {n v : Nat} {job : T} (hj : job.length ≤ 64) (hold : oldT A v = true) : pubT n A v job [] = (2, A) := by
  have hp : (packT v job []).2 = 0 := by rw [packT_nil hj]
  unfold pubT
  rw [if_neg (by simp)]
  simp only [List.map_nil, List.length_nil]
  rw [if_neg (fun e => e.elim (fun e => e hp) (by omega)), if_pos hold]
theorem outs_congr {A B : M} : ∀ (l : List T) (k : Nat), (∀ j, k ≤ j → j < k + l.length → Fil.get A (outT j) = Fil.get B (outT j)) → outsT A k l = outsT B k l
  | [], k, _ => by unfold outsT; rfl
  | s :: l, k, h => by
    unfold outsT
    rw [h k (Nat.le_refl _) (by simp), outs_congr l (k + 1) (fun j h1 h2 => h j (by omega) (by simp at h2 ⊢; omega))]
theorem latest_congr {A B : M} (h : ∀ k, k ≠ underT → Fil.get A k = Fil.get B k) : latestT A = latestT B := by
  unfold latestT
  rw [h manT man_ne_under]
  cases hg : Fil.get B manT with
  | none => rfl
  | some d =>
    simp only
    cases hu : unpackT d with
    | none => rfl
    | some p =>
      obtain ⟨v, job, l⟩ := p
      simp only
      by_cases hl : 16 < l.length
      · rw [if_pos hl, if_pos hl]
      · rw [if_neg hl, if_neg hl, outs_congr l 0 (fun j _ h2 => h _ (outT_ne (i := j) (by omega)).2.1)]
theorem old_congr {A B : M} (h : ∀ k, k ≠ underT → Fil.get A k = Fil.get B k) (v : Nat) : oldT A v = oldT B v := by unfold oldT; rw [latest_congr h]
theorem made_one_under (A : M) (S : T) : made A [⟨underT, S, false⟩] = Fil.put underT S A := rfl
theorem made_quit (A : M) : made A quitC = Fil.del underT A := rfl
structure Und (A : M) (v : Nat) (job : T) (l : List T) : Prop where
  up : Up A
  now : nowT A = (some (v, job, l), 0)
theorem und_put {A : M} (hA : Up A) {S : T} {v : Nat} {job : T} {l : List T} (h : unpackT S = some (v, job, l)) (hl : l.length ≤ 1000) (hu : Ups l) : Und (Fil.put underT S A) v job l := by
  refine ⟨hA.put _ _, ?_⟩
  have hg : Fil.get (Fil.put underT S A) underT = some S := by rw [get_put hA, if_pos rfl]
  unfold nowT
  simp only [hg, h]
  rw [if_neg (fun e => e.elim (by omega) (fun e => e (riseT_of_up hu).symm))]
theorem put_under_other {A : M} (hA : Up A) (S : T) : ∀ k, k ≠ underT → Fil.get (Fil.put underT S A) k = Fil.get A k := fun k hk => by rw [get_put hA, if_neg hk]
theorem begin_new {A : M} {n v : Nat} {job : T} (hA : Up A) (hj : job.length ≤ 64) (hnow : ∀ l c, nowT A ≠ (some (v, job, l), c)) (hold : oldT A v = false) (hn : used A + 100 ≤ roomN n) :
    ∃ S, beginT n A v job = ((job, v, []), 0, Fil.put underT S A) ∧ S.length ≤ 80 ∧ (v < 18446744073709551616 → unpackT S = some (v, job, [])) := by
  have hp : (packT v job []).2 = 0 := by rw [packT_nil hj]
  have hl := packT_nil_len (v := v) hj
  have hus := used_made hA [⟨underT, (packT v job []).1, false⟩]
  have hw : weigh [(⟨underT, (packT v job []).1, false⟩ : Chg)] ≤ 100 := by simp [weigh, underT]; omega
  have hb : beginT n A v job = if oldT A v then (([], 0, []), 2, A) else if codeC n A [⟨underT, (packT v job []).1, false⟩] ≠ 0 then (([], 0, []), codeC n A [⟨underT, (packT v job []).1, false⟩], A) else ((job, v, []), 0, nextC n A [⟨underT, (packT v job []).1, false⟩]) := by
    unfold beginT
    rw [if_neg (by rw [hp]; simp)]
    cases hq : nowT A with
    | mk o c =>
      cases o with
      | none => rfl
      | some p =>
        obtain ⟨x, j, l⟩ := p
        simp only
        rw [if_neg]
        rintro ⟨rfl, rfl⟩
        exact hnow l c hq
  rw [hold, if_neg (by simp)] at hb
  rcases must_gone (n := n) (A := A) (may_under (S := (packT v job []).1) (by omega)) with ⟨g1, g2, _⟩ | ⟨_, g2⟩
  · rw [g1, g2, if_neg (by simp), made_one_under] at hb
    exact ⟨_, hb, hl, fun hv => unpack_pack hp hv⟩
  · omega
theorem Und.again {A : M} {n v : Nat} {job : T} {l : List T} (h : Und A v job l) (hj : job.length ≤ 64) : beginT n A v job = ((job, v, l), 0, A) := by
  unfold beginT
  rw [if_neg (by rw [packT_nil hj]; simp), h.now]
  simp
theorem Und.done {A : M} {n v : Nat} {job : T} {l k : List T} {S : T} {c B : Nat} (h : Und A v job l) (hv : v < 18446744073709551616) (hj : job.length ≤ 64) (hS : (packT v job (riseT (l ++ k))).1 = S) (hl : (riseT (l ++ k)).length ≤ c) (hB : ∀ s ∈ riseT (l ++ k), s.length ≤ B) (hB2 : B ≤ 65535) (hc : c * (2 + B) ≤ 65000) (hc2 : c ≤ 1000) (hne : (riseT (l ++ k)).length ≠ l.length) (hn : used A + 100 + c * (2 + B) ≤ roomN n) :
    doneT n A k = (0, Fil.put underT S A) ∧ Und (Fil.put underT S A) v job (riseT (l ++ k)) ∧ S.length ≤ 80 + c * (2 + B) := by
  obtain ⟨hp, hSl⟩ := pack_ok (v := v) (job := job) hj hl hB hB2 hc
  rw [hS] at hSl
  have hus := used_made h.up [⟨underT, S, false⟩]
  have hw : weigh [(⟨underT, S, false⟩ : Chg)] ≤ 100 + c * (2 + B) := by simp [weigh, underT]; omega
  have hd : doneT n A k = if 1000 < (riseT (l ++ k)).length then (4, A) else if (packT v job (riseT (l ++ k))).2 ≠ 0 ∨ (riseT (l ++ k)).length = l.length then ((packT v job (riseT (l ++ k))).2, A) else (codeC n A [⟨underT, S, false⟩], nextC n A [⟨underT, S, false⟩]) := by
    unfold doneT
    rw [h.now]
    simp only [hS]
  rw [if_neg (by omega), if_neg (fun e => e.elim (fun e => e hp) hne)] at hd
  rcases must_gone (n := n) (A := A) (may_under (S := S) (by omega)) with ⟨g1, g2, _⟩ | ⟨_, g2⟩
  · rw [g1, g2, made_one_under] at hd
    refine ⟨hd, und_put h.up ?_ (by omega) (riseT_up _), hSl⟩
    rw [← hS]
    exact unpack_pack hp hv
  · omega
def tT : T := [116]
def jT : T := [106]
def kT : T := [107]
def abT : List T := [[97], [98]]
theorem used_put {A : M} (hA : Up A) {S : T} {c : Nat} (hS : S.length ≤ c) : used (Fil.put underT S A) ≤ used A + 13 + c := by
  have h1 := used_made hA [⟨underT, S, false⟩]
  have h2 : weigh [(⟨underT, S, false⟩ : Chg)] = 13 + S.length := by simp [weigh, underT]
  rw [made_one_under] at h1
  omega
theorem abT_used {S : T} (h : S.length ≤ 700) : used (pubL S abT) ≤ 800 := by
  have h0 := (outT_ne (i := 0) (by omega)).2.2.1
  have h1 := (outT_ne (i := 1) (by omega)).2.2.1
  have e : pubL S abT = [(manT, S), (outT 0, Crc.sealT [97]), (outT 1, Crc.sealT [98])] := rfl
  rw [e]
  simp only [used, cost, List.map_cons, List.map_nil, List.sum_cons, List.sum_nil, Crc.seal_length]
  simp [manT]
  omega
theorem alive_plain : ∃ A1 A2 A3 A4, pubT 100 [] 1 jT abT = (0, A1) ∧ latestT A1 = (some (1, jT, abT), 0) ∧ pubT 100 A1 1 [] [] = (2, A1) ∧ beginT 100 A1 2 jT = ((jT, 2, []), 0, A2) ∧ doneT 100 A2 [tT] = (0, A3) ∧
    beginT 100 A3 2 jT = ((jT, 2, [tT]), 0, A3) ∧ beginT 100 A3 2 kT = ((kT, 2, []), 0, A4) ∧ codeC 100 A4 quitC = 0 ∧ doneT 100 (nextC 100 A4 quitC) [tT] = (3, nextC 100 A4 quitC) := by
  have hjT : jT.length ≤ 64 := by decide
  have hkT : kT.length ≤ 64 := by decide
  rcases (publish_fits (n := 100) (v := 1) (job := jT) (l := abT) Up.nil ours_nil (by omega) hjT (by decide) (by decide) (old_none rfl 1)).symm with ⟨_, S, h1, h2⟩ | ⟨p1, S, p2, p3, p4⟩
  · have := abT_used h1
    rw [room100] at h2
    omega
  obtain ⟨A1, hA1⟩ : ∃ A1, (pubT 100 [] 1 jT abT).2 = A1 := ⟨_, rfl⟩
  rw [hA1] at p2
  have e1 : pubT 100 [] 1 jT abT = (0, A1) := Prod.ext p1 hA1
  have hl16 : abT.length ≤ 16 := by decide
  have u1 : used A1 ≤ 800 := by rw [perm_used (p2.perm hl16)]; exact abT_used p4
  obtain ⟨S2, b1, b2, b3⟩ := begin_new (n := 100) (v := 2) (job := jT) p2.up hjT (fun l c => by rw [p2.now hl16]; simp) (by rw [p2.old hl16 p3]; decide) (by rw [room100]; omega)
  have n2 := und_put p2.up (b3 (by omega)) (by simp) List.Pairwise.nil
  have u2 := used_put p2.up b2
  have hr : riseT ([] ++ [tT]) = [tT] := riseT_of_up (List.pairwise_singleton _ _)
  obtain ⟨d1, d2, d3⟩ := n2.done (n := 100) (k := [tT]) (c := 1) (B := 1) (by omega) hjT rfl (by rw [hr]; simp) (by rw [hr]; simp [tT]) (by omega) (by omega) (by omega) (by rw [hr]; simp) (by rw [room100]; omega)
  rw [hr] at d1 d2 d3
  have u3 := used_put n2.up d3
  have o3 : oldT (Fil.put underT (packT 2 jT [tT]).1 (Fil.put underT S2 A1)) 2 = false := by
    rw [old_congr (put_under_other n2.up _), old_congr (put_under_other p2.up _), p2.old hl16 p3]
    decide
  obtain ⟨S4, c1, c2, c3⟩ := begin_new (n := 100) (v := 2) (job := kT) d2.up hkT (fun l c => by rw [d2.now]; simp [jT, kT]) o3 (by rw [room100]; omega)
  have u4 := used_put d2.up c2
  have n4 := und_put d2.up (c3 (by omega)) (by simp) List.Pairwise.nil
  have q1 := used_made n4.up quitC
  have q2 : weigh quitC = 13 := by decide
  refine ⟨A1, _, _, _, e1, p2.latest hl16 p3, publish_old (by simp) (by rw [p2.old hl16 p3]; decide), b1, d1, d2.again hjT, c1, ?_, ?_⟩
  · rcases must_gone (n := 100) (A := Fil.put underT S4 (Fil.put underT (packT 2 jT [tT]).1 (Fil.put underT S2 A1))) (l := quitC) (by decide) with ⟨g1, _, _⟩ | ⟨_, g2⟩
    · exact g1
    · rw [room100] at g2
      omega
  · rcases must_gone (n := 100) (A := Fil.put underT S4 (Fil.put underT (packT 2 jT [tT]).1 (Fil.put underT S2 A1))) (l := quitC) (by decide) with ⟨_, g1, _⟩ | ⟨_, g2⟩
    · rw [g1, made_quit]
      unfold doneT nowT
      rw [get_del n4.up, if_pos rfl]
      rfl
    · rw [room100] at g2
      omega
end Go.Proofs.YtoaihngckcbhiaaGreatDoor.Man
namespace Go.Proofs.YtoaihngckcbhiaaGreatDoor.Man
open Wal Fil
end Go.Proofs.YtoaihngckcbhiaaGreatDoor.Man
