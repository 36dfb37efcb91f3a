/- maslinlaw05: a disk and a log of the statement's own; alive, walked. -/
import Derived.Test.YthbdflmckfgleaaWalSame
import Derived.Test.YthbdflmckfgleaaDiskAlive
namespace Go.Proofs.Ythbdflmckfgleaa
open Go.RowKit Go.Maps
open Wal

/-- A disk and a log, from block B on; what lay below B is as it was. -/
structure MyLog (B : Nat) (w0 w : World) (b : Nat) (D : Dsk) (fp : Nat → Prop) (x : Nat) (gv : Value) (L : WLog) : Prop where
  my : MyDisk B w0 w b D fp
  wal : WalIn w x b gv L
  wnew : ∀ k, walBlocks x gv k → B ≤ k
section
variable {B : Nat} {w0 w w' : World} {b x : Nat} {D D' : Dsk} {fp fp' : Nat → Prop} {gv gv' : Value} {L L' : WLog}
theorem MyLog.step (h : MyLog B w0 w b D fp x gv L) (hb : Below w.heap.size w w') : MyLog B w0 w' b D fp x gv L := ⟨h.my.step hb, h.wal.below hb, h.wnew⟩
theorem MyLog.fits (h : MyLog B w0 w b D fp x gv L) : B ≤ w.heap.size := Nat.le_trans h.my.size h.my.below.size
theorem MyLog.turn (h : MyLog B w0 w b D fp x gv L) (hd : DiskAt w' b D' fp') (hl : WalIn w' x b gv' L') (hu : Upd (fun k => fp k ∨ walBlocks x gv k) w w') (hs : Stays fp fp' w) (hs2 : Stays (walBlocks x gv) (walBlocks x gv') w) : MyLog B w0 w' b D' fp' x gv' L' := by
  have hsz := h.fits
  refine ⟨⟨hd, fun k hk => ?_, below_upd h.my.below hu (fun k hk => hk.elim (h.my.new k) (h.wnew k)) hsz, h.my.size⟩, hl, fun k hk => ?_⟩
  · rcases hs k hk with h1 | h1
    · exact h.my.new k h1
    · omega
  · rcases hs2 k hk with h1 | h1
    · exact h.wnew k h1
    · omega
/-- What is done to the disk alone. -/
theorem MyLog.turnD (h : MyLog B w0 w b D fp x gv L) (hd : DiskAt w' b D' fp') (hu : Upd fp w w') (hs : Stays fp fp' w) : MyLog B w0 w' b D' fp' x gv L :=
  h.turn hd (h.wal.disk h.my.disk hu) (hu.mono (fun _ => .inl)) hs (fun _ => .inl)
theorem append_log {l : List (List UInt8)} {a : Option Addr} {cap : Nat} (h : MyLog B w0 w b D fp x gv L) (hx : TextsAt w a l) (hap : ∀ p, a = some p → l ≠ [] → ¬ fp p.block ∧ ¬ walBlocks x gv p.block) (hlen : l.length ≤ 1000000) (hsum : rowLen l ≤ 1000000) (hloose : D.loose.length ≤ 300000000) (hgl : L.groups.length ≤ 1000000) :
    Calls Try.prog 49 #[.pointer (some ⟨x, 0, none⟩), .slice a l.length cap] w fun e w' => e = .returned (.int .i64 (wappend D L l).2.2) ∧ ∃ fp' gv', MyLog B w0 w' b (wappend D L l).1 fp' x gv' (wappend D L l).2.1 :=
  (append_any h.my.disk h.wal hx hap hlen hsum (by omega) hgl).mono (by
    rintro e w' ⟨rfl, fp', gv', h1, h2, h3, h4, h5⟩
    exact ⟨rfl, fp', gv', h.turn h1 h2 h3 h4 h5⟩)
theorem reset_log (h : MyLog B w0 w b D fp x gv L) (hloose : D.loose.length ≤ 300000000) :
    Calls Try.prog 50 #[.pointer (some ⟨x, 0, none⟩)] w fun e w' => e = .returned (.int .i64 (wreset D L).2.2) ∧ ∃ fp' gv', MyLog B w0 w' b (wreset D L).1 fp' x gv' (wreset D L).2.1 :=
  (reset_any h.my.disk h.wal (by omega)).mono (by
    rintro e w' ⟨rfl, fp', gv', h1, h2, h3, h4, h5⟩
    exact ⟨rfl, fp', gv', h.turn h1 h2 h3 h4 h5⟩)
/-- What is done to a log, and its disk, leaves another log. -/
theorem WalIn.past {x2 b2 : Nat} {gv2 : Value} {L2 : WLog} (h2 : WalIn w x2 b2 gv2 L2) (h : WalIn w x b gv L) (hd : DiskAt w b D fp) (hu : Upd (fun k => fp k ∨ walBlocks x gv k) w w') (hn : ∀ k, walBlocks x2 gv2 k → ¬ walBlocks x gv k) : WalIn w' x2 b2 gv2 L2 :=
  h2.upd hu (fun k hk hf => by
    rcases hf with hf | (rfl | hf)
    · exact (hd.kinds k hf).1 hk
    · exact BlkOf.ne hk ⟨_, _, h.struct⟩ (by decide) rfl
    · obtain ⟨cs, h1, _⟩ := h.groups
      exact BlkOf.ne hk (ownsRow_blk h1 hf) (by decide) rfl)
    (fun k hk hf => hf.elim (fun hf => h2.apart2 hd k hf hk) (hn k hk))
end
/-- Some texts, as the walk lays them. -/
theorem texts_lit {w : World} {g : Nat} {l : List (List UInt8)} {C : Array Value} (h : w.heap[g]? = some (.cells C 9)) (hC : C.toList = strCells l) : TextsAt w (some ⟨g, 0, none⟩) l := fun i hi => by
  refine ⟨_, rfl, ?_⟩
  rw [add_plain, cell_of_row w g _ _ _ _ h, ← Array.getElem?_toList, hC, strCells_get l i hi]
theorem rowOk_lit {w : World} {g n cap : Nat} {l : List (List UInt8)} {C : Array Value} (h : w.heap[g]? = some (.cells C 9)) (hC : C.toList = strCells l) (hn : n = l.length) : RowOk w (.slice (some ⟨g, 0, none⟩) n cap) l := by
  subst hn
  refine ⟨_, cap, rfl, fun i hi => ⟨g, 0, rfl, ⟨_, _, h⟩, ?_⟩⟩
  rw [Nat.zero_add, cell_of_row w g _ _ _ _ h, ← Array.getElem?_toList, hC, strCells_get l i hi]
theorem groups_lit {w : World} {g : Nat} {v : Value} {l : List (List UInt8)} (h : w.heap[g]? = some (.cells #[v] 31)) (hv : RowOk w v l) : GroupsAt w (.slice (some ⟨g, 0, none⟩) 1 1) [l] := by
  refine ⟨[v], ⟨rfl, .inr ⟨g, 1, #[v], rfl, Nat.zero_le _, h, Nat.le_refl _, by unfold maxLen; omega, rfl, rfl⟩⟩, rfl, fun u hu => by rw [List.mem_singleton] at hu; subst hu; exact hv.one, fun i hi hi' => ?_⟩
  obtain rfl : i = 0 := by simpa using hi
  exact hv

/-! ### The chapter's example, in plain mathematics -/
def avL0 : WLog := ⟨0, 4, 0, 0, [], 0⟩
def avT : List (List UInt8) := [[97], [98]]
def avF : List (List UInt8) := [fill [120] (64 * 4)]
def avD1 : Dsk := (wappend (Dsk.new 4) avL0 avT).1
def avL1 : WLog := ⟨0, 4, 0, 1, [avT], 0⟩
def avD2 : Dsk := (wreset avD1 avL1).1
def avL2 : WLog := ⟨0, 4, 1, 0, [], 0⟩
theorem avE1 : wappend (Dsk.new 4) avL0 avT = (avD1, avL1, 0) := by
  have h : (wappend (Dsk.new 4) avL0 avT).2 = (avL1, 0) := by kernel_rfl
  rw [← h]; rfl
theorem avE2 : wreset avD1 avL1 = (avD2, avL2, 0) := by
  have h : (wreset avD1 avL1).2 = (avL2, 0) := by kernel_rfl
  rw [← h]; rfl
theorem avE3 : wappend avD1 avL1 avF = (avD1, avL1, 4) := by
  have h : (groupE avF).map List.length = some 320 := by kernel_rfl
  unfold wappend
  cases hg : groupE avF with
  | none => rw [hg] at h; cases h
  | some s =>
    rw [hg] at h
    simp at h
    rw [if_neg (by decide)]
    simp only [h]
    rfl
theorem avN : groupV avT = ((groupV avT).1, 0) ∧ (groupV avT).1.length / 64 = 1 := by
  constructor
  · have h : (groupV avT).2 = 0 := by kernel_rfl
    rw [← h]
  · kernel_rfl
theorem avO0 : (Dsk.new 4).openW 0 4 = (some avL0, 0) := by
  have hs := Sound.new 4 (by decide) (by decide)
  have h := (hs.calm rfl).2.2
  unfold Dsk.openW
  rw [if_neg (by decide), if_neg (by decide)]
  have e : openS (Dsk.text (Dsk.new 4).now (0 : Int).toNat (4 : Int).toNat) (4 : Int).toNat = some (0, 0, []) := h
  rw [e]
  rfl
theorem avS1 : Sound avD1 avL1 := by
  have := (Sound.new 4 (by decide) (by decide)).append avT
  rw [show (⟨0, 4, 0, 0, [], 0⟩ : WLog) = avL0 from rfl, avE1] at this
  exact this
theorem Sound.openW {D : Dsk} {L : WLog} (h : Sound D L) (hf : L.fault = 0) : D.openW 0 (L.n : Int) = (some L, 0) := by
  obtain ⟨h1, h2, h3⟩ := h.calm hf
  have hn := h.n
  have hm := h.min
  have ha := h.at0
  unfold Dsk.openW
  rw [if_neg (by omega), if_neg (by simp [h2]), Int.toNat_natCast]
  have e : Dsk.text D.now (0 : Int).toNat L.n = Dsk.text D.base 0 L.n := by unfold Dsk.now; rw [h1]; rfl
  rw [e, h3]
  obtain ⟨f, n, g, u, G, ft⟩ := L
  simp only at ha hf
  subst ha; subst hf
  rfl
theorem avO1 : avD1.openW 0 4 = (some avL1, 0) := avS1.openW rfl
theorem avO2 : avD2.openW 3 2 = (none, 2) := by
  have h : avD2.n = 4 := by kernel_rfl
  unfold Dsk.openW
  rw [if_pos (by rw [h]; decide)]
theorem avM1 : avD1.loose.length ≤ 1000 := by
  have h : avD1.loose.length = 0 := by kernel_rfl
  omega
theorem open_log {B : Nat} {w0 w : World} {b : Nat} {D : Dsk} {fp : Nat → Prop} (h : MyDisk B w0 w b D fp) (a n : Int) (ha : -9223372036854775808 ≤ a ∧ a ≤ 9223372036854775807) (hn : -9223372036854775808 ≤ n ∧ n ≤ 9223372036854775807) {L : WLog} {k : Int} (ho : D.openW a n = (some L, k)) :
    Calls Try.prog 44 #[.pointer (some ⟨b, 0, none⟩), .int .i64 a, .int .i64 n] w fun e w' => ∃ x gv, e = .returned (.tuple #[.pointer (some ⟨x, 0, none⟩), .int .i64 k]) ∧ MyLog B w0 w' b D fp x gv L ∧ Below w.heap.size w w' ∧ ∀ q, walBlocks x gv q → w.heap.size ≤ q :=
  (walOpen_any h.disk a n ha hn).mono (by
    intro e w' hp
    unfold OpenPost at hp
    rw [ho] at hp
    obtain ⟨x, gv, rfl, h1, h2, h3⟩ := hp
    exact ⟨x, gv, rfl, ⟨h.step h2, h1, fun k hk => Nat.le_trans (Nat.le_trans h.size h.below.size) (h3 k hk)⟩, h2, h3⟩)
theorem open_none {B : Nat} {w0 w : World} {b : Nat} {D : Dsk} {fp : Nat → Prop} (h : MyDisk B w0 w b D fp) (a n : Int) (ha : -9223372036854775808 ≤ a ∧ a ≤ 9223372036854775807) (hn : -9223372036854775808 ≤ n ∧ n ≤ 9223372036854775807) {k : Int} (ho : D.openW a n = (none, k)) :
    Calls Try.prog 44 #[.pointer (some ⟨b, 0, none⟩), .int .i64 a, .int .i64 n] w fun e w' => e = .returned (.tuple #[.pointer none, .int .i64 k]) ∧ Below w.heap.size w w' :=
  (walOpen_any h.disk a n ha hn).mono (by
    intro e w' hp
    unfold OpenPost at hp
    rw [ho] at hp
    exact hp)

set_option maxRecDepth 100000 in
set_option maxHeartbeats 4000000 in
theorem alive5_any (w : World) : Calls Try.prog 42 #[] w fun e w' => e = .returned (.bool true) ∧ Below w.heap.size w w' := by
  have ha1 : ({ data := #[97] } : ByteArray) = bs [97] := rfl
  have hb1 : ({ data := #[98] } : ByteArray) = bs [98] := rfl
  have hx1 : ({ data := #[120] } : ByteArray) = bs [120] := rfl
  go_enter Try.func42, Try.ntmps42
  go_wp2_with fail
  refine (new_my (Below.refl w.heap.size w) (Nat.le_refl _) 4 (by omega) (by omega)).mono ?_
  rintro e w1 ⟨b, fp, rfl, h1⟩
  have H1 := Lib.hid h1
  clear h1
  go_wp2_with fail
  refine (open_log H1.out 0 4 (by omega) (by omega) avO0).mono ?_
  rintro e w2 ⟨x, gv, rfl, h2, _, _⟩
  have H2 := Lib.hid h2
  clear h2
  go_wp2_with fail
  have ht3 := texts_lit (l := avT) (heap_alloc_new w2 (.cells #[.string (bs [97]), .string (bs [98])] 9)) (by unfold avT strCells; rfl)
  refine (walNeed_any avT (some ⟨w2.heap.size, 0, none⟩) 2 _ ht3 (by unfold maxLen avT; decide) (by decide)).mono ?_
  rw [avN.2, show (groupV avT).2 = 0 from by rw [avN.1]]
  rintro e w3 ⟨rfl, hb⟩
  have H3 := Lib.hid ((H2.out.step ((Below.refl _ _).alloc (Nat.le_refl _) _)).step hb)
  clear hb ht3
  go_wp2_with fail
  have ht4 := texts_lit (l := avT) (heap_alloc_new w3 (.cells #[.string (bs [97]), .string (bs [98])] 9)) (by unfold avT strCells; rfl)
  have hl3 := H3.out.my.disk.lt
  have hx3 := H3.out.wal.lt
  refine (append_log (H3.out.step ((Below.refl _ _).alloc (Nat.le_refl _) _)) ht4 (fun p hp _ => by cases hp; exact ⟨fun h => Nat.lt_irrefl _ (hl3 _ h), fun h => Nat.lt_irrefl _ (hx3 _ h)⟩) (by decide) (by decide) (by decide) (by decide)).mono ?_
  rw [avE1]
  rintro e w4 ⟨rfl, fp4, gv4, h4⟩
  have H4 := Lib.hid h4
  clear h4 ht4 hl3 hx3
  go_wp2_with fail
  refine (walRoom_any H4.out.wal).mono ?_
  rw [show ((avL1.n - 1 - avL1.used : Nat) : Int) = 2 from rfl]
  rintro e w5 ⟨rfl, hb⟩
  have H5 := Lib.hid (H4.out.step hb)
  clear hb
  go_wp2_with fail
  refine (fill_any [120] 4 _ (by decide) (by omega) (by omega)).mono ?_
  rintro e w6 ⟨rfl, hb⟩
  have H6 := Lib.hid (H5.out.step hb)
  clear hb
  go_wp2_with fail
  have ht7 := texts_lit (l := avF) (heap_alloc_new w6 (.cells #[.string (bs (fill [120] (64 * 4)))] 9)) (by unfold avF strCells; rfl)
  have hl6 := H6.out.my.disk.lt
  have hx6 := H6.out.wal.lt
  refine (append_log (H6.out.step ((Below.refl _ _).alloc (Nat.le_refl _) _)) ht7 (fun p hp _ => by cases hp; exact ⟨fun h => Nat.lt_irrefl _ (hl6 _ h), fun h => Nat.lt_irrefl _ (hx6 _ h)⟩) (by decide) (by unfold rowLen avF; simp [fill_length]) (by have := avM1; omega) (by decide)).mono ?_
  rw [avE3]
  rintro e w7 ⟨rfl, fp7, gv7, h7⟩
  have H7 := Lib.hid h7
  clear h7 ht7 hl6 hx6
  go_wp2_with fail
  refine (open_log H7.out.my 0 4 (by omega) (by omega) avO1).mono ?_
  rintro e w8 ⟨y, gy, rfl, h8, hb8, hn8⟩
  have H8 := Lib.hid (H7.out.step hb8)
  have HY := Lib.hid h8.wal
  have HYN := Lib.hid hn8
  have HXN := Lib.hid H7.out.wal.lt
  clear h8 hb8 hn8
  go_wp2_with fail
  refine (reset_any H8.out.my.disk H8.out.wal (by have := avM1; omega)).mono ?_
  rintro e w9 ⟨rfl, fp9, gv9, g1, g2, g3, g4, g5⟩
  have HY9 := Lib.hid (HY.out.past H8.out.wal H8.out.my.disk g3 (fun k hk hf => by have := HYN.out k hk; have := HXN.out k hf; omega))
  rw [avE2] at g1 g2 ⊢
  have H9 := Lib.hid (H8.out.turn g1 g2 g3 g4 g5)
  clear g1 g2 g3 g4 g5
  go_wp2_with fail
  refine (walOpen_nil 0 4 _).mono ?_
  rintro e w10 ⟨rfl, rfl⟩
  go_wp2_with fail
  refine (open_none H9.out.my 3 2 (by omega) (by omega) avO2).mono ?_
  rintro e w11 ⟨rfl, hb⟩
  have H11 := Lib.hid (H9.out.step hb)
  have HY11 := Lib.hid (HY9.out.below hb)
  clear hb
  go_wp2_with fail
  refine (walGroups_any HY11.out (by decide) (fun l hl => by have hl2 : l ∈ [avT] := hl; rw [List.mem_singleton] at hl2; subst hl2; decide)).mono ?_
  rintro e w12 ⟨v12, rfl, hg12, hb, _⟩
  have H12 := Lib.hid (H11.out.step hb)
  have HG12 := Lib.hid (show GroupsAt w12 v12 [avT] from hg12)
  clear hb hg12
  go_wp2_with fail
  have hA := heap_alloc_new w12 (.cells #[.string (bs [97]), .string (bs [98])] 9)
  have hBe := (Below.refl (w12.heap.size + 1) (w12.alloc (.cells #[.string (bs [97]), .string (bs [98])] 9))).alloc (by rw [World.size_alloc]; omega) (.cells #[.slice (some ⟨w12.heap.size, 0, none⟩) 2 2] 31)
  have hC := heap_alloc_new (w12.alloc (.cells #[.string (bs [97]), .string (bs [98])] 9)) (.cells #[.slice (some ⟨w12.heap.size, 0, none⟩) 2 2] 31)
  rw [World.size_alloc] at hC
  have hrow := rowOk_lit (cap := 2) (n := 2) (l := avT) ((hBe.block w12.heap.size (by omega)).trans hA) (by unfold avT strCells; rfl) rfl
  have hgl := groups_lit hC hrow
  have hbl : Below w12.heap.size w12 ((w12.alloc (.cells #[.string (bs [97]), .string (bs [98])] 9)).alloc (.cells #[.slice (some ⟨w12.heap.size, 0, none⟩) 2 2] 31)) := ((Below.refl _ _).alloc (Nat.le_refl _) _).alloc (by rw [World.size_alloc]; omega) _
  refine (rsame5_same [avT] v12 (.slice (some ⟨w12.heap.size + 1, 0, none⟩) 1 1) _ (HG12.out.below hbl) hgl (by decide) (fun l hl => by rw [List.mem_singleton] at hl; subst hl; unfold maxLen avT; decide)).mono ?_
  rintro e w13 ⟨rfl, hb⟩
  have H13 := Lib.hid ((H12.out.step hbl).step hb)
  clear hb hA hBe hC hrow hgl hbl
  go_wp2_with fail
  refine (walGen_any H13.out.wal).mono ?_
  rw [show ((avL2.gen : Nat) : Int) = 1 from rfl]
  rintro e w14 ⟨rfl, rfl⟩
  go_wp2_with fail
  refine (walRoom_any H13.out.wal).mono ?_
  rw [show ((avL2.n - 1 - avL2.used : Nat) : Int) = 3 from rfl]
  rintro e w14 ⟨rfl, hb⟩
  have H14 := Lib.hid (H13.out.step hb)
  clear hb
  go_wp2_with fail
  refine (walGroups_any H14.out.wal (by decide) (fun l hl => by cases hl)).mono ?_
  rintro e w15 ⟨v15, rfl, hg15, hb, _⟩
  have H15 := Lib.hid (H14.out.step hb)
  obtain ⟨q15, c15, rfl⟩ := (show GroupsAt w15 v15 [] from hg15).slice
  clear hb hg15
  go_wp2_with fail
  go_ret
  exact ⟨rfl, H15.out.my.below⟩
end Go.Proofs.Ythbdflmckfgleaa
