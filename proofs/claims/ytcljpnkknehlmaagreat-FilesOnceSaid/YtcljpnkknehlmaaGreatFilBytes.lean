/- maslin/files: bytes, walked. -/
import Derived.Test.YtcljpnkknehlmaaGreatFilNames
namespace Go.Proofs.YtcljpnkknehlmaaGreat
open Go.RowKit Go.Maps Go.Sort Go.Shelf
open Fil
attribute [local go_sem] Oper.semAt_some

/-- What a round of bytes may turn: the builder, and what bytes there are. -/
def BytesQ (B m Bx : Nat) (W : World) (k : Nat) : Prop := k = B ∨ (k ≠ m ∧ k ≠ Bx ∧ BlkOf W k 5)
theorem BuiltAt.kind {w : World} {b : Nat} {l : List UInt8} {fp : Nat → Prop} (h : BuiltAt w b l fp) {k : Nat} (hk : fp k) : k = b ∨ BlkOf w k 5 := by
  obtain ⟨p, v, _, _, h3, _, _, rfl⟩ := h
  rcases hk with hk | hk
  · exact .inl hk
  · exact .inr (ownsRow_blk h3 hk)
theorem BuiltAt.blk {w : World} {b : Nat} {l : List UInt8} {fp : Nat → Prop} (h : BuiltAt w b l fp) : BlkOf w b 129 := by
  obtain ⟨p, v, h1, _⟩ := h
  exact ⟨_, _, h1⟩
theorem keepsFrom_upd {F : Nat → Prop} {W W' : World} (n : Nat) (hu : Upd F W W') (hF : ∀ k, F k → ¬ NoCells W k) : KeepsFrom n W W' :=
  ⟨hu.size, fun k o _ ho hc => (hu.block k (blk_lt ho) (fun h => hF k h ⟨o, ho, hc⟩)).trans ho⟩
theorem ent_len (x : Ent) : x.1.1.length ≤ 32 ∧ x.1.2.length ≤ 65535 := by
  have h := x.2
  unfold mayB at h
  simp at h
  exact ⟨h.2.1, h.2.2⟩
theorem ents_len (pre : List Ent) : ((pre.map (·.1)).flatMap entryB).length ≤ 65575 * pre.length := by
  rw [flat_length]
  induction pre with
  | nil => simp
  | cons x pre ih =>
    have := ent_len x
    have hc : cost x.1 = 8 + x.1.1.length + x.1.2.length := rfl
    rw [List.map_cons, List.map_cons, List.sum_cons, List.length_cons]
    omega
set_option maxRecDepth 100000 in
set_option maxHeartbeats 2000000 in
theorem fbytes_any {w : World} {m : Nat} {F : M} (h : FilMap w m F) (hg : Fil.Good F) (hc : used F ≤ 1000000) :
    Calls Tryz.prog 58 #[.map (some m)] w fun e w' => e = .returned (.string (bs (Fil.bytes F))) ∧ Below w.heap.size w w' := by
  have hmlt := h.lt
  have hul := used_len F
  have hlenF : F.length ≤ 1000000 := by omega
  have hln := h.below ((Below.refl w.heap.size w).alloc (Nat.le_refl _) (.cells #[.pointer none, .slice none 0 0] 129))
  have hlen0 := fun ty => hln.len ty
  have HM := Lib.hid hln; have HG := Lib.hid hg; have HC := Lib.hid hc; have HUL := Lib.hid hul
  have HB0 := Lib.hid ((Below.refl w.heap.size w).alloc (Nat.le_refl _) (.cells #[.pointer none, .slice none 0 0] 129))
  have HBU := Lib.hid (BuiltAt.made w)
  clear h hg hc hul hln
  refine (callsIn_wide (n := 6)).1 ?_
  refine callsIn_of_wp_marks Tryz.func58 rfl trivial ?_ rfl
  simp only [Tryz.ntmps58, List.size_toArray, List.length_cons, List.length_nil, Nat.reduceAdd, Nat.reduceSub, Array.replicate_succ, Array.replicate_zero, List.push_toArray, List.append_toArray, List.nil_append, List.cons_append]
  gi_wp2
  refine ⟨trivial, (callsIn_wide.2 (fnum_any F.length _ (by omega))).mono ?_⟩
  rintro e w1 ⟨rfl, hb⟩
  have HBU1 := Lib.hid (HBU.out.upd (Upd.of_below (F := fun _ => False) hb) (fun _ _ f => f))
  have HB1 := Lib.hid (HB0.out.trans (hb.mono HB0.out.size))
  have HM1 := Lib.hid (HM.out.below hb)
  clear hb
  gi_wp2
  refine ⟨trivial, (callsIn_wide.2 (bwriteS_any HBU1.out (Crc.le 4 F.length) (by simp [Crc.le_length]))).mono ?_⟩
  rintro e w2 ⟨rfl, fp2, hbu2, hu2, hs2⟩
  have hfp2 : ∀ k, fp2 k → w.heap.size ≤ k := fun k hk => by
    rcases hs2 k hk with h | h
    · rcases h with rfl | h
      · exact Nat.le_refl _
      · simp [Value.ownBlock] at h
    · exact Nat.le_trans HB1.out.size h
  have hB0fp : ∀ k, (k = w.heap.size ∨ (Value.slice none 0 0).ownBlock = some k) → k = w.heap.size := fun k hk => by
    rcases hk with h | h
    · exact h
    · simp [Value.ownBlock] at h
  have HB2 := Lib.hid (below_upd HB1.out hu2 (fun k hk => by rw [hB0fp k hk]; exact Nat.le_refl _) HB1.out.size)
  have HM2 := Lib.hid (HM1.out.upd hu2 (fun hk => by have := hB0fp m hk; omega))
  have HBU2 := Lib.hid hbu2; have HFP2 := Lib.hid hfp2
  clear HBU1 HB1 HM1 hbu2 hu2 hs2 hfp2 hB0fp HBU HB0 HM hlen0
  gi_wp2
  refine ⟨trivial, (callsIn_wide.2 (fsorted_any _ _)).mono ?_⟩
  rintro e w3 ⟨rfl, rfl⟩
  have hX0 : Boxed (w2.alloc (.cells #[.map (some m)] 53)) w2.heap.size 53 (.map (some m)) := Boxed.new w2 _ _
  have hbx : Below w2.heap.size w2 (w2.alloc (.cells #[.map (some m)] 53)) := (Below.refl _ _).alloc (Nat.le_refl _) _
  have hM0 := HM2.out.below hbx
  have hbu0 := HBU2.out.upd (Upd.of_below (F := fun _ => False) hbx) (fun _ _ f => f)
  have hb0 := HB2.out.trans (hbx.mono HB2.out.size)
  have hsz0 : (w2.alloc (.cells #[.map (some m)] 53)).heap.size = w2.heap.size + 1 := by rw [World.size_alloc]
  have hbB : w.heap.size < w2.heap.size := HBU2.out.lt _ HBU2.out.own
  obtain ⟨L, hL⟩ := ents_of F HG.out
  have hLL : L.length = F.length := by rw [← hL, List.length_map]
  generalize w2.alloc (.cells #[.map (some m)] 53) = W0 at *
  generalize w2.heap.size = Bx at *
  have hseq := fsorted_stops 5 (by omega) (BytesQ w.heap.size m Bx) (Bx + 1) Bx m F L hL W0 hX0.cell hM0 hlenF (by omega) (fun W k hk => by
      rcases hk with rfl | ⟨h1, h2, _⟩
      · omega
      · exact ⟨h1, h2⟩)
    (fun W W' g hW hW' hg hbl hq => by
      have h1 := hW.size
      rcases hq with rfl | ⟨_, _, h3⟩
      · omega
      · exact BlkOf.ne hbl h3 (by decide) rfl)
  have HSEQ := Lib.hid hseq; have HM0 := Lib.hid hM0; have HBU0 := Lib.hid hbu0; have HB0 := Lib.hid hb0
  clear hseq hM0 hbu0 hb0 hbx HM2 HBU2 HB2
  gi_wp2
  refine wpIn_rangeFunc_ownH (n := 6) rfl (by omega) (gf := 65) (lb := #[.pointer (some ⟨Bx, 0, none⟩)]) rfl trivial (enters_of Tryz.func65 (by kernel_rfl) rfl) HSEQ.out (fun h k => h.trans k)
    (fun W l o o' hl ho hc _ => Turns.putObj (by omega) ho hc (fun k hk => ?hputQ)) (Below.refl _ _) (fun _ => rfl)
    (fun pre W => (FilMap W m F ∧ Boxed W Bx 53 (.map (some m)) ∧ ∃ fp, BuiltAt W w.heap.size (Crc.le 4 F.length ++ (pre.map (·.1)).flatMap entryB) fp ∧ ∀ k, fp k → w.heap.size ≤ k) ∧ Below w.heap.size w W)
    (fun _ _ _ => False)
    (fun s A B row hs hg hr => ?hown)
    (fun _ _ _ _ _ hs _ _ => hs)
    ⟨⟨HM0.out, hX0, fp2, by rw [List.map_nil, List.flatMap_nil, List.append_nil]; exact HBU0.out, HFP2.out⟩, HB0.out⟩
    (fun x a' _ => a' = { tmps := #[.map (some m), undef, .string { data := #[] }, .pointer (some ⟨w.heap.size, 0, none⟩), .string (bs x.1.1), .string (bs x.1.2), .map (some m), .int .i64 (F.length : Int), .string (bs (Crc.le 4 F.length)), .tuple #[.int .i64 4, .nilIface], .map (some m), .func (.func 65) #[] #[.pointer (some ⟨Bx, 0, none⟩)], .string (bs x.1.1), .string (bs x.1.2), undef, undef, undef, undef, undef, undef, undef, undef, undef, undef, undef, undef, undef], defers := [] })
    (fun x a' _ X Y row hs hg hr => hs)
    ?assign ?body ?done ?stop
  case hputQ =>
    have hlt : l < W.heap.size := blk_lt ho
    by_cases e : k = l
    · exact .inl (.inr ⟨by omega, o, by rw [e]; exact ho, hc⟩)
    · refine .inl (.inl ?_)
      have hu := Upd.of_grownBy (F := fun k => k = l) (grownBy_putObj' W l o') (fun k e => by cases e; rfl)
      rcases hk with hk | ⟨h1, h2, h3⟩
      · exact .inl hk
      · refine .inr ⟨h1, h2, ?_⟩
        obtain ⟨cs, fr, h4⟩ := h3
        by_cases hk2 : k < W.heap.size
        · exact ⟨cs, fr, (hu.block k hk2 e).symm.trans h4⟩
        · exact absurd (blk_lt h4) (by rw [show (W.putObj l o').heap.size = W.heap.size by simp [World.putObj]]; exact hk2)
  case hown =>
    have hu := upd_noCells hg hr
    obtain ⟨⟨g1, g2, fp, g3, g4⟩, g5⟩ := hs
    refine ⟨⟨g1.upd hu (fun h => by have := g1.lt; omega), box_upd g2 hu (fun h => (box_blk g2).noCells h.2), fp, g3.upd hu (fun k hk h => ?_), g4⟩, below_upd g5 hu (fun i hi => by omega) g5.size⟩
    rcases g3.kind hk with rfl | hk
    · exact g3.blk.noCells h.2
    · exact hk.noCells h.2
  case assign =>
    rintro l pre x W K hI hK
    unfold encE
    gi_wp2
    exact hK _ _ ((KeepsOthers.refl _).from _) ⟨Upd.refl _ _, fun k hk => .inl (.inl hk)⟩ hI rfl
  case body =>
    rintro l pre x a' W hl ⟨r, hr⟩ ⟨⟨g1, g2, fp, g3, g4⟩, g5⟩ rfl hlt
    have HG1 := Lib.hid g1; have HG2 := Lib.hid g2; have HG3 := Lib.hid g3; have HG4 := Lib.hid g4; have HG5 := Lib.hid g5
    have h611 : 1 ≤ 6 - 1 - 1 := by omega
    obtain ⟨hx1, hx2⟩ := ent_len x
    have hpl := ents_len pre
    have hpl2 : pre.length ≤ 1000000 := by omega
    clear g1 g2 g3 g4 g5 hr
    gi_wp2
    refine ⟨trivial, (CallsIn.inRound l (callsIn_wide.2 (fnum_any x.1.1.length _ (by omega)))).mono ?_⟩
    rintro e w4 ⟨rfl, hb4⟩
    gi_wp2
    refine ⟨trivial, (CallsIn.inRound l (callsIn_wide.2 (fnum_any x.1.2.length _ (by omega)))).mono ?_⟩
    rintro e w5 ⟨rfl, hb5⟩
    have HB45 := Lib.hid (hb4.trans (hb5.mono hb4.size))
    clear hb4 hb5
    have HBU5 := Lib.hid (HG3.out.upd (Upd.of_below (F := fun _ => False) HB45.out) (fun _ _ f => f))
    gi_wp2
    refine ⟨trivial, (CallsIn.inRound l (callsIn_wide.2 (bwriteS_any HBU5.out (Crc.le 4 x.1.1.length ++ (x.1.1 ++ (Crc.le 4 x.1.2.length ++ x.1.2))) (by simp only [List.length_append, Crc.le_length]; omega)))).mono ?_⟩
    rintro e w6 ⟨rfl, fp6, hbu6, hu6, hs6⟩
    have HU6 := Lib.hid ((Upd.of_below (F := fp) HB45.out).trans hu6 (fun k hk => .inl hk))
    have HBU6 := Lib.hid hbu6; have HS6 := Lib.hid hs6
    clear hbu6 hu6 hs6
    gi_wp2
    have hkind : ∀ k, fp k → k = w.heap.size ∨ BlkOf W k 5 := fun k hk => HG3.out.kind hk
    have hfpQ : ∀ k, fp k → BytesQ w.heap.size m Bx W k := fun k hk => by
      rcases hkind k hk with h | h
      · exact .inl h
      · refine .inr ⟨fun e => ?_, fun e => ?_, h⟩
        · subst e; exact HG1.out.noBlk h
        · subst e; exact BlkOf.ne h (box_blk HG2.out) (by decide) rfl
    have hu : Upd (May (BytesQ w.heap.size m Bx) (Bx + 1) W) W w6 := HU6.out.mono (fun k hk => .inl (hfpQ k hk))
    refine ⟨keepsFrom_upd _ HU6.out (fun k hk h => ?_), Turns.of_kind hu (fun k hk he hq => ?_), ⟨HG1.out.upd HU6.out (fun hk => ?_), box_upd HG2.out HU6.out (fun hk => ?_), fp6, ?_, fun k hk => ?_⟩, below_upd HG5.out HU6.out (fun k hk => HG4.out k hk) HG5.out.size⟩
    · rcases hkind k hk with rfl | h2
      · exact HG3.out.blk.noCells h
      · exact h2.noCells h
    · rcases hq with rfl | ⟨h1, h2, cs, fr, h3⟩
      · exact .inl rfl
      · exact .inr ⟨h1, h2, cs, fr, he.symm.trans h3⟩
    · have := HG4.out m hk; omega
    · rcases hkind _ hk with h2 | h2
      · omega
      · exact BlkOf.ne h2 (box_blk HG2.out) (by decide) rfl
    · rw [List.map_append, List.flatMap_append, List.map_cons, List.map_nil, List.flatMap_cons, List.flatMap_nil, List.append_nil, ← List.append_assoc]
      exact HBU6.out
    · rcases HS6.out k hk with h | h
      · exact HG4.out k h
      · exact Nat.le_trans HG5.out.size (Nat.le_trans HB45.out.size h)
  case done =>
    rintro DD ys W hDD rfl ⟨⟨g1, g2, fp, g3, g4⟩, g5⟩ hK
    have HG3 := Lib.hid g3; have HG4 := Lib.hid g4; have HG5 := Lib.hid g5
    clear g1 g2 g3 g4 g5
    gi_wp2
    refine ⟨trivial, (callsIn_wide.2 (bstring_any HG3.out)).mono ?_⟩
    rintro e w6 ⟨rfl, hu6⟩
    gi_wp2
    have hK2 : w6.heap[DD]? = some (.deferred (some [])) := (hu6.block DD (blk_lt hK) (fun h => by
      rcases HG3.out.kind h with e | e
      · omega
      · exact e.noCells ⟨_, hK, rfl⟩)).trans hK
    refine ⟨by simp, .inl ⟨_, _, rfl, run_takeDeferred hK2, ?_⟩⟩
    have hu : Upd (fun k => k = DD) w6 (w6.putObj DD (.deferred none)) := Upd.of_grownBy (grownBy_putObj' w6 DD (.deferred none)) (fun k e => by cases e; rfl)
    have hb6 := below_upd HG5.out hu6 (fun k hk => HG4.out k hk) HG5.out.size
    exact ⟨_, (by simp [results, Tryz.results58, go_sem]; rfl), rfl, below_upd hb6 hu (fun k hk => by subst hk; omega) hb6.size⟩
  case stop =>
    rintro DD c pre W _ _ h _
    exact h.elim
end Go.Proofs.YtcljpnkknehlmaaGreat
