/- FilOpenW -/
import Derived.Test.YtoaihngckcbhiaaGreatDoorPkFilCommit
import Derived.Test.YtoaihngckcbhiaaGreatDoorPkFilMade2
import Derived.Test.YtoaihngckcbhiaaGreatDoorPkWalOpen2
namespace Go.Proofs.YtoaihngckcbhiaaGreatDoor
open Go.RowKit Go.Maps
open Fil
theorem groupsE_small : ∀ {L : List (List (List UInt8))} {S : List UInt8}, Wal.groupsE L = some S → 64 * L.length ≤ S.length ∧ ∀ l ∈ L, rowLen l ≤ S.length
  | [], S, h => by simp [Wal.groupsE] at h; subst h; simp
  | t :: L, S, h => by
    simp only [Wal.groupsE] at h
    cases h1 : Wal.groupE t with
    | none => rw [h1] at h; cases h
    | some a =>
      rw [h1] at h
      simp only [Option.bind_some] at h
      cases h2 : Wal.groupsE L with
      | none => rw [h2] at h; cases h
      | some b =>
        rw [h2] at h
        simp only [Option.map_some, Option.some.injEq] at h
        subst h
        obtain ⟨g1, g2⟩ := groupsE_small h2
        obtain ⟨_, g4⟩ := Wal.groupE_length h1
        obtain ⟨c, hc, e⟩ := Wal.groupE_some h1
        have g5 := rowE_length hc
        have g6 : c.length ≤ a.length := by rw [e, Wal.pad_length, List.length_append, Crc.le_length]; omega
        rw [List.length_append, List.length_cons]
        refine ⟨by omega, fun l hl => ?_⟩
        rcases List.mem_cons.1 hl with rfl | hl
        · omega
        · have := g2 l hl; omega
theorem row_small (l : List T) : 2 * l.length ≤ rowLen l ∧ ∀ s ∈ l, s.length ≤ rowLen l := by
  unfold rowLen
  induction l with
  | nil => simp
  | cons x l ih =>
    obtain ⟨h1, h2⟩ := ih
    simp only [List.map_cons, List.sum_cons, List.length_cons]
    refine ⟨by omega, fun s hs => ?_⟩
    rcases List.mem_cons.1 hs with rfl | hs
    · omega
    · have := h2 s hs; omega
theorem log_small {D : Dsk} (hF : D.Fine) {g u : Nat} {G : List (List T)} {n : Nat} (h1 : 1 ≤ n) (hn : 1 + n ≤ D.n) (h : Wal.openS (Dsk.text D.now 1 n) n = some (g, u, G)) : g < 18446744073709551616 ∧ G.length ≤ 20000 ∧ ∀ l ∈ G, l.length ≤ 1000000 ∧ ∀ s ∈ l, s.length ≤ 2000000 := by
  have hn2 := hF.n2
  have hlen : (Dsk.text D.now 1 n).length = 64 * n := Dsk.text_length hF.now 1 n (by omega)
  obtain ⟨b1, b2, b3, _⟩ := Wal.openS_some h (by rw [hlen]; exact Nat.le_refl _) h1
  have hS : (((Dsk.text D.now 1 n).drop 64).take (64 * u)).length ≤ 64 * n := by rw [List.length_take, List.length_drop, hlen]; omega
  obtain ⟨c1, c2⟩ := groupsE_small b3
  refine ⟨b2, by omega, fun l hl => ?_⟩
  have := c2 l hl
  obtain ⟨d1, d2⟩ := row_small l
  exact ⟨by omega, fun s hs => by have := d2 s hs; omega⟩
theorem loadS_some {f : Nat → T} {log size a num : Nat} {A : M} (h : loadS f log size = some (a, num, A)) : (f 0 = Wal.pad [0] ∧ a = 0 ∧ num = 0 ∧ A = []) ∨ (a ≤ 1 ∧ f 0 = Fil.mark a num ∧ num = Crc.val (((f 0).take 13).drop 5) ∧ ∃ t r, cut (Dsk.text f (begin_ log size a) size) = some (t, r) ∧ Fil.read t = some A) := by
  unfold loadS at h
  by_cases h2 : f 0 = Wal.pad [0]
  · rw [if_pos h2] at h
    simp only [Option.some.injEq, Prod.mk.injEq] at h
    exact .inl ⟨h2, h.1.symm, h.2.1.symm, h.2.2.symm⟩
  · rw [if_neg h2] at h
    by_cases h3 : ((f 0).getD 4 0).toNat ≤ 1 ∧ f 0 = Fil.mark ((f 0).getD 4 0).toNat (Crc.val (((f 0).take 13).drop 5))
    · rw [if_pos h3] at h
      cases hc : cut (Dsk.text f (begin_ log size ((f 0).getD 4 0).toNat) size) with
      | none => rw [hc] at h; cases h
      | some p =>
        rw [hc] at h
        simp only [Option.bind_some] at h
        obtain ⟨m, hm, e⟩ := Option.map_eq_some_iff.1 h
        simp only [Prod.mk.injEq] at e
        obtain ⟨e1, e2, e3⟩ := e
        rw [e1, e2] at h3
        rw [e1] at hc
        exact .inr ⟨h3.1, h3.2, e2.symm, p.1, p.2, hc, by rw [hm, e3]⟩
    · rw [if_neg h3] at h
      cases h
theorem openF_some {D D' : Dsk} {F : St} {k : Int} (h : openF D = (some F, D', k)) : k = 0 ∧ 8 ≤ D.n ∧ D.down = false ∧ ∃ a num A g u G cs, loadS D.now (lg D.n) (sz D.n) = some (a, num, A) ∧ Wal.openS (Dsk.text D.now 1 (lg D.n)) (lg D.n) = some (g, u, G) ∧ ¬ (0 < num ∧ g < num - 1) ∧ ungroups G = some cs ∧
    ((g < num ∧ wreset D ⟨1, lg D.n, g, u, G, 0⟩ = (D', F.w, 0) ∧ F = ⟨lg D.n, sz D.n, a, A, F.w, 0⟩) ∨ (¬ g < num ∧ D' = D ∧ F = ⟨lg D.n, sz D.n, a, madeAll A cs, ⟨1, lg D.n, g, u, G, 0⟩, 0⟩)) := by
  unfold openF at h
  by_cases h8 : D.n < 8
  · rw [if_pos h8] at h; simp at h
  rw [if_neg h8] at h
  by_cases hd : D.down = true
  · rw [if_pos hd] at h; simp at h
  rw [if_neg hd] at h
  cases h1 : loadS D.now (lg D.n) (sz D.n) with
  | none => rw [h1] at h; simp at h
  | some p =>
    obtain ⟨a, num, A⟩ := p
    rw [h1] at h
    simp only at h
    cases h2 : Wal.openS (Dsk.text D.now 1 (lg D.n)) (lg D.n) with
    | none => rw [h2] at h; simp at h
    | some p =>
      obtain ⟨g, u, G⟩ := p
      rw [h2] at h
      simp only at h
      by_cases h3 : 0 < num ∧ g < num - 1
      · rw [if_pos h3] at h; simp at h
      rw [if_neg h3] at h
      cases h4 : ungroups G with
      | none => rw [h4] at h; simp at h
      | some cs =>
        rw [h4] at h
        simp only at h
        by_cases h5 : g < num
        · rw [if_pos h5] at h
          by_cases h6 : (wreset D ⟨1, lg D.n, g, u, G, 0⟩).2.2 = 0
          · rw [if_pos h6] at h
            simp only [Prod.mk.injEq, Option.some.injEq] at h
            obtain ⟨e1, e2, e3⟩ := h
            subst e1
            exact ⟨e3.symm, by omega, by simpa using hd, a, num, A, g, u, G, cs, rfl, rfl, h3, h4, .inl ⟨h5, Prod.ext e2 (Prod.ext rfl h6), rfl⟩⟩
          · rw [if_neg h6] at h; simp at h
        · rw [if_neg h5] at h
          simp only [Prod.mk.injEq, Option.some.injEq] at h
          obtain ⟨e1, e2, e3⟩ := h
          exact ⟨e3.symm, by omega, by simpa using hd, a, num, A, g, u, G, cs, rfl, rfl, h3, h4, .inr ⟨h5, e2.symm, e1.symm⟩⟩
theorem ungroup_len : ∀ (n : Nat) (l : List T) (cs : List Chg), l.length ≤ n → ungroup l = some cs → 2 * cs.length = l.length := by
  intro n
  induction n with
  | zero =>
    intro l cs hl h
    have : l = [] := List.eq_nil_of_length_eq_zero (by omega)
    subst this
    simp only [ungroup, Option.some.injEq] at h
    subst h; rfl
  | succ n ih =>
    intro l cs hl h
    match l, hl, h with
    | [], _, h => simp only [ungroup, Option.some.injEq] at h; subst h; rfl
    | [_], _, h => simp [ungroup] at h
    | [] :: _ :: _, _, h => simp [ungroup] at h
    | (b :: n') :: d :: R, hl, h =>
      simp only [ungroup] at h
      split at h
      · obtain ⟨cs', h1, h2⟩ := Option.map_eq_some_iff.1 h
        subst h2
        have := ih R cs' (by simp at hl; omega) h1
        simp; omega
      · cases h
theorem ungroups_get : ∀ {G : List (List T)} {cs : List (List Chg)}, ungroups G = some cs → cs.length = G.length ∧ ∀ k (h : k < G.length) (h' : k < cs.length), ungroup G[k] = some cs[k]
  | [], cs, h => by simp only [ungroups, Option.some.injEq] at h; subst h; exact ⟨rfl, fun k hk => by simp at hk⟩
  | g :: G, cs, h => by
    simp only [ungroups] at h
    cases h1 : ungroup g with
    | none => rw [h1] at h; cases h
    | some c =>
      rw [h1] at h
      simp only [Option.bind_some] at h
      obtain ⟨cs', h2, h3⟩ := Option.map_eq_some_iff.1 h
      subst h3
      obtain ⟨g1, g2⟩ := ungroups_get h2
      refine ⟨by simp [g1], fun k hk hk' => ?_⟩
      cases k with
      | zero => exact h1
      | succ k => exact g2 k (by simpa using hk) (by simpa using hk')
theorem madeAll_take (A : M) (cs : List (List Chg)) (k : Nat) (h : k < cs.length) : madeAll A (cs.take (k + 1)) = made (madeAll A (cs.take k)) cs[k] := by
  rw [List.take_succ_eq_append_getElem h, madeAll_snoc]
theorem madeAll_len (A : M) (cs : List (List Chg)) (b : Nat) (hb : ∀ c ∈ cs, c.length ≤ b) : (madeAll A cs).length ≤ A.length + cs.length * b := by
  induction cs generalizing A with
  | nil => simp [madeAll]
  | cons c cs ih =>
    have h1 := ih (made A c) (fun x hx => hb x (List.mem_cons_of_mem _ hx))
    have h2 := made_length A c
    have h3 := hb c List.mem_cons_self
    show (madeAll (made A c) cs).length ≤ _
    rw [List.length_cons, Nat.succ_mul]
    omega
theorem GroupsAt.index {w : World} {q : Option Addr} {c : Nat} {L : List (List T)} (h : GroupsAt w (.slice q L.length c) L) (k : Nat) (hk : k < L.length) :
    ∃ p : Addr, (∀ W, (Instr.indexAt 83 (.slice q L.length c) (.int .i64 (k : Int))).run Tryz.prog W = .ok (.pointer (some p)) W) ∧ ∃ ar cr, w.cell? p = some (.slice ar L[k].length cr) ∧ TextsAt w ar L[k] := by
  obtain ⟨cs, h1, h2, h3, h4⟩ := h
  rcases h1.2 with ⟨e1, e2⟩ | ⟨g, cap, cur, e1, _⟩
  · omega
  · injection e1 with e1 e2 e3
    subst e1
    have hck : k < cs.length := by omega
    obtain ⟨ar, cr, er, ht⟩ := (h4 k hk hck).texts
    have hc := h1.cells (g := g) rfl k cs[k] (List.getElem?_eq_getElem hck)
    rw [add_plain, er] at hc
    refine ⟨⟨g, k, Option.none⟩, fun W => ?_, ar, cr, hc, ht⟩
    have := run_index_slice Tryz.prog 83 30 Tryz.underlying83 1 (by kernel_rfl) ⟨g, 0, Option.none⟩ L.length c k hk W
    rw [Nat.mul_one, add_plain] at this
    exact this
set_option maxRecDepth 100000 in
theorem fload_any {w : World} {y log size b : Nat} {D : Dsk} {fp : Nat → Prop} (hd : DiskAt w b D fp) (hy : w.heap[y]? = some (.cells (rawRow log size 0 b none none) 68)) (hup : D.down = false) {a num : Nat} {A : M} (hl : loadS D.now log size = some (a, num, A))
    (hlog : log ≤ 16384) (hsize : size ≤ 8192) (hfit : ∀ a, a ≤ 1 → begin_ log size a + size ≤ D.n) :
    Calls Tryz.prog 27 #[.pointer (some ⟨y, 0, none⟩)] w fun e w' => LoadPost w y log size b a num A e w' := by
  rcases loadS_some hl with ⟨h0, rfl, rfl, rfl⟩ | ⟨ha, h0, hn, t, r, hc, hr⟩
  · exact fload_zero hd hy hup h0
  · have hv : num < 18446744073709551616 := by
      rw [hn]
      refine Nat.lt_of_lt_of_le (Crc.val_lt _) ?_
      have hlen : (((D.now 0).take 13).drop 5).length ≤ 8 := by rw [List.length_drop, List.length_take]; omega
      exact Nat.le_trans (Nat.pow_le_pow_right (by decide) hlen) (by decide)
    exact fload_mark hd hy hup ha hv h0 hlog hsize (hfit a ha) hc hr
theorem readE_len : ∀ (n : Nat) (lo : Option T) (s : T) (r : M × T), readE n lo s = some r → 8 * r.1.length + r.2.length ≤ s.length
  | 0, lo, s, r, h => by simp only [readE, Option.some.injEq] at h; subst h; simp
  | n + 1, lo, s, r, h => by
    simp only [readE] at h
    cases h1 : cut s with
    | none => rw [h1] at h; cases h
    | some p =>
      rw [h1] at h
      simp only [Option.bind_some] at h
      cases h2 : cut p.2 with
      | none => rw [h2] at h; cases h
      | some q =>
        rw [h2] at h
        simp only [Option.bind_some] at h
        split at h
        · obtain ⟨r', h3, h4⟩ := Option.map_eq_some_iff.1 h
          subst h4
          have g1 := cut_some (p := p.1) (q := p.2) h1
          have g2 := cut_some (p := q.1) (q := q.2) h2
          have g3 := readE_len n _ _ _ h3
          simp only [List.length_cons]
          omega
        · cases h
theorem read_len {s : T} {A : M} (h : Fil.read s = some A) : 8 * A.length ≤ s.length := by
  unfold Fil.read at h
  split at h
  · cases h
  · cases h1 : readE (Crc.val (s.take 4)) none (s.drop 4) with
    | none => rw [h1] at h; cases h
    | some r =>
      rw [h1] at h
      simp only [Option.bind_some] at h
      split at h
      · have := readE_len _ _ _ _ h1
        simp only [Option.some.injEq] at h
        subst h
        rw [List.length_drop] at this
        omega
      · cases h
theorem loadS_len {D : Dsk} (hF : D.Fine) {log size a num : Nat} {A : M} (h : loadS D.now log size = some (a, num, A)) (hsize : size ≤ 8192) (hfit : ∀ a, a ≤ 1 → begin_ log size a + size ≤ D.n) : a ≤ 1 ∧ A.length ≤ 100000 := by
  rcases loadS_some h with ⟨_, h1, _, rfl⟩ | ⟨ha, _, _, t, r, hc, hr⟩
  · exact ⟨by omega, by simp⟩
  · have h1 := cut_some hc
    have h2 := read_len hr
    rw [Dsk.text_length hF.now _ _ (hfit a ha)] at h1
    exact ⟨ha, by omega⟩
end Go.Proofs.YtoaihngckcbhiaaGreatDoor
namespace Go.Proofs.YtoaihngckcbhiaaGreatDoor
open Go.RowKit Go.Maps
open Fil
def FOpenPost (w : World) (b : Nat) (fp : Nat → Prop) (F : St) (D' : Dsk) (e : Ending) (w' : World) : Prop :=
  ∃ y m x gv fp', e = .returned (.tuple #[.pointer (some ⟨y, 0, none⟩), .int .i64 0]) ∧ DiskAt w' b D' fp' ∧ FilIn w' y b m x gv F ∧ ¬ fp' m ∧ Upd fp w w' ∧ Stays fp fp' w ∧ ∀ k, filBlocks y m x gv k → w.heap.size ≤ k
theorem GroupsAt.slice5 {w : World} {v : Value} {L : List (List T)} (h : GroupsAt w v L) : ∃ q cap, v = .slice q L.length cap := by
  obtain ⟨cs, h1, _⟩ := h
  exact slice_len h1
set_option maxRecDepth 100000 in
theorem FilIn.ofRaw {W : World} {y mb x b log size a : Nat} {gv : Value} {L : WLog} {A : M} (hy : W.heap[y]? = some (.cells (rawRow log size a b (some mb) none) 68)) (hm : FilMap W mb A) (hw : WalIn W x b gv L) (h1 : log ≤ 16384) (h2 : size ≤ 16384) (h3 : 1 ≤ size) (h4 : a ≤ 1) :
    FilIn (W.setCell ⟨y, 5, none⟩ (.pointer (some ⟨x, 0, none⟩))) y b mb x gv ⟨log, size, a, A, L, 0⟩ := by
  have hu : Upd (fun k => k = y) W (W.setCell ⟨y, 5, none⟩ (.pointer (some ⟨x, 0, none⟩))) := (Upd.refl (fun k => k = y) W).setCell (p := ⟨y, 5, none⟩) (.inl rfl) _
  have hb : BlkOf W y 68 := ⟨_, _, hy⟩
  exact ⟨heap_setCell_same W y 5 _ _ _ hy, hm.upd hu (fun e => hm.noBlk (e ▸ hb)), hw.upd hu (fun k hk e => by subst e; exact BlkOf.ne hk hb (by decide) rfl) (fun k hk e => by
    subst e
    rcases hk with h | h
    · exact BlkOf.ne hb (h ▸ ⟨_, _, hw.struct⟩ : BlkOf W k 135) (by decide) rfl
    · obtain ⟨cs', g1, _⟩ := hw.groups
      exact BlkOf.ne hb (ownsRow_blk g1 h) (by decide) rfl), ⟨h1, h2, h3, h4⟩⟩
set_option maxRecDepth 100000 in
set_option maxHeartbeats 8000000 in
theorem fopen_any {w : World} {b : Nat} {D D' : Dsk} {fp : Nat → Prop} {F : St} (hd : DiskAt w b D fp) (h : openF D = (some F, D', 0)) (hloose : D.loose.length ≤ 300000000) :
    Calls Tryz.prog 11 #[.pointer (some ⟨b, 0, none⟩)] w fun e w' => FOpenPost w b fp F D' e w' := by
  obtain ⟨_, h8, hup, a, num, A, g, u, G, cs, hl, ho, hng, hcs, hend⟩ := openF_some h
  have hfine := hd.fine
  have hn2 := hfine.n2
  obtain ⟨l1, l2, l3⟩ := lg_sz h8
  have HD := Lib.hid hd
  obtain ⟨s1, s2, s3⟩ := log_small hfine (by omega) (by omega) ho
  have HS := Lib.hid (fun (V : World) (h : DiskAt V b D fp) => sectors_any h)
  have hlg : (max ((D.n : Int) / 8) 2) = ((lg D.n : Nat) : Int) := by unfold lg; omega
  have hsz : ((D.n : Int) - 1 - ((lg D.n : Nat) : Int)) / 2 = ((sz D.n : Nat) : Int) := by unfold sz; omega
  have h8' : ¬ (D.n : Int) < 8 := by omega
  clear hd
  go_enter Tryz.func11, Tryz.ntmps11
  go_wp2_with fail
  refine (HS.out _ HD.out).mono ?_
  rintro e w1 ⟨rfl, rfl⟩
  go_wp2_with fail
  refine (HS.out _ HD.out).mono ?_
  rintro e w1 ⟨rfl, rfl⟩
  go_wp2_with fail
  have hy0 := heap_alloc_new w (.cells (rawRow (lg D.n) 0 0 b none none) 68)
  have hb0 : Below w.heap.size w (w.alloc (.cells (rawRow (lg D.n) 0 0 b none none) 68)).drew := ((Below.refl w.heap.size w).alloc (Nat.le_refl _) _).drew
  have HB0 := Lib.hid hb0
  have HY0 := Lib.hid (show (w.alloc (.cells (rawRow (lg D.n) 0 0 b none none) 68)).drew.heap[w.heap.size]? = _ from hy0)
  have e1 : IntKind.i64.wrap ((D.n : Int) - 1) = (D.n : Int) - 1 := IntWalk.i64_in _ (by omega)
  have e2 : IntKind.i64.wrap ((D.n : Int) - 1 - ((lg D.n : Nat) : Int)) = (D.n : Int) - 1 - ((lg D.n : Nat) : Int) := IntWalk.i64_in _ (by omega)
  have e3 : IntKind.i64.wrap (((D.n : Int) - 1 - ((lg D.n : Nat) : Int)).tdiv 2) = ((sz D.n : Nat) : Int) := by
    rw [Int.tdiv_eq_ediv_of_nonneg (by omega), hsz]
    exact IntWalk.i64_in _ (by omega)
  have hset : (rawRow (lg D.n) 0 0 b none none).setIfInBounds 2 (.int .i64 (IntKind.i64.wrap (((D.n : Int) - 1 - ((lg D.n : Nat) : Int)).tdiv 2))) = rawRow (lg D.n) (sz D.n) 0 b none none := by rw [e3]; rfl
  have HSET := Lib.hid hset
  have HY1 := Lib.hid (show (w.alloc (.cells ((rawRow (lg D.n) 0 0 b none none).setIfInBounds 2 (.int .i64 (IntKind.i64.wrap (((D.n : Int) - 1 - ((lg D.n : Nat) : Int)).tdiv 2)))) 68)).drew.heap[w.heap.size]? = some (.cells (rawRow (lg D.n) (sz D.n) 0 b none none) 68) by rw [hset]; exact heap_alloc_new w _)
  have HD0 := Lib.hid (HD.out.below hb0)
  obtain ⟨_, d1, d2, _, _, _, _, df⟩ := raw_cells HY0.out
  have df2 := df 2
  clear df hy0 hb0 hset e3
  go_region_held3 (fun W => W.cell? ⟨w.heap.size, 1, none⟩ = some (.int .i64 ((lg D.n : Nat) : Int)))
    (first | exact (raw_cells HY0.out).2.1 | exact (raw_cells HY1.out).2.1)
    (first
      | (go_at_call 26; refine (HS.out _ HD0.out).mono ?_; rintro e w1 ⟨rfl, rfl⟩))
  all_goals
    clear d1 d2 df2
    go_wp2_with fail
    have hset2 : (rawRow (lg D.n) 0 0 b none none).setIfInBounds 2 (.int .i64 (((D.n : Int) - 1 - ((lg D.n : Nat) : Int)) / 2)) = rawRow (lg D.n) (sz D.n) 0 b none none := by rw [hsz]; rfl
    rw [hset2]
    have HY2 := Lib.hid (show (w.alloc (.cells (rawRow (lg D.n) (sz D.n) 0 b none none) 68)).drew.heap[w.heap.size]? = _ from heap_alloc_new w _)
    have HB2 := Lib.hid (show Below w.heap.size w (w.alloc (.cells (rawRow (lg D.n) (sz D.n) 0 b none none) 68)).drew from ((Below.refl w.heap.size w).alloc (Nat.le_refl _) _).drew)
    have HD2 := Lib.hid (HD.out.below HB2.out)
    clear hset2 HSET HY1 HY0 HB0 HD0 e1 e2
    generalize (w.alloc (.cells (rawRow (lg D.n) (sz D.n) 0 b none none) 68)).drew = w2 at *
    refine (fload_any HD2.out HY2.out hup hl (by omega) (by omega) (fun a ha => by
      unfold begin_
      have : a * sz D.n ≤ 1 * sz D.n := Nat.mul_le_mul_right _ ha
      omega)).mono ?_
    rintro e w3 ⟨mb, rfl, hy3, hm3, hu3, hn3⟩
    have HY3 := Lib.hid hy3; have HM3 := Lib.hid hm3
    have HMB := Lib.hid (show w.heap.size ≤ mb from Nat.le_trans HB2.out.size hn3)
    have HB3 := Lib.hid (below_upd HB2.out hu3 (fun k e => by subst e; exact Nat.le_refl _) HB2.out.size)
    have HD3 := Lib.hid (HD.out.below HB3.out)
    clear hy3 hm3 hu3 hn3 HY2 HB2 HD2
    obtain ⟨_, d1, _⟩ := raw_cells HY3.out
    have hW : D.openW 1 ((lg D.n : Nat) : Int) = (some ⟨1, lg D.n, g, u, G, 0⟩, 0) := by
      unfold Dsk.openW
      rw [if_neg (by omega), if_neg (by simp [hup])]
      show (match Wal.openS (Dsk.text D.now 1 (lg D.n)) (lg D.n) with
        | none => ((none, 50) : Option WLog × Int)
        | some (g, u, l) => (some (⟨1, lg D.n, g, u, l, 0⟩ : WLog), (0 : Int))) = _
      rw [ho]
    have hwo := walOpen_any HD3.out 1 ((lg D.n : Nat) : Int) (by omega) (by omega)
    unfold OpenPost at hwo
    rw [hW] at hwo
    have HWO := Lib.hid hwo
    clear hwo hW
    go_wp2_with fail
    refine HWO.out.mono ?_
    rintro e w4 ⟨x, gv, rfl, hw4, hb4, hn4⟩
    have HX4 := Lib.hid (show ∀ k, walBlocks x gv k → w.heap.size ≤ k from fun k hk => Nat.le_trans HB3.out.size (hn4 k hk))
    have HB4 := Lib.hid (HB3.out.trans (hb4.mono HB3.out.size))
    have HY4 := Lib.hid ((hb4.block w.heap.size (blk_lt HY3.out)).trans HY3.out)
    have HM4 := Lib.hid (HM3.out.below hb4)
    have HW4 := Lib.hid hw4
    have HGEN := Lib.hid (fun (V : World) (h : WalIn V x b gv ⟨1, lg D.n, g, u, G, 0⟩) => walGen_any h)
    have HGRP := Lib.hid (walGroups_any hw4 (by show G.length ≤ _; omega) (fun l hl => by have := (s3 l hl).1; omega))
    clear hw4 hb4 hn4 HB3 HY3 HM3 HD3 HWO d1
    have hun := ungroups_get hcs
    have HUN := Lib.hid hun
    have HS3 := Lib.hid s3
    obtain ⟨ha1, hAl⟩ := loadS_len hfine hl (by omega) (fun a ha => by
      unfold begin_
      have : a * sz D.n ≤ 1 * sz D.n := Nat.mul_le_mul_right _ ha
      omega)
    have HLD := Lib.hid hl; have HHO := Lib.hid ho
    clear s3 hl ho hun hlg hsz h8'
    rcases hend with ⟨hlt, hre, hF⟩ | ⟨hge, e, rfl⟩
    · have h1 : (0 : Int) < (num : Int) := by omega
      have hw1 : IntKind.u64.wrap ((num : Int) - 1) = ((num - 1 : Nat) : Int) := by
        have : num ≤ 18446744073709551616 := by omega
        simp [IntKind.wrap, IntKind.bits, IntKind.signed]; omega
      have hq1 : ¬ g < num - 1 := by omega
      have hq2 : g < num := hlt
      have HRE := Lib.hid hre
      generalize hL2 : F.w = L2 at *
      clear hre
      subst hF
      clear hng hL2
      go_wp2_with fail
      refine (HGEN.out _ HW4.out).mono ?_
      rintro e w4' ⟨rfl, rfl⟩
      go_wp2_with fail
      refine HGRP.out.mono ?_
      rintro e w5 ⟨v5, rfl, hg5, hb5, hv5⟩
      obtain ⟨q5, c5, rfl⟩ := hg5.slice5
      have HG5 := Lib.hid hg5
      have HB5 := Lib.hid (HB4.out.trans (hb5.mono HB4.out.size))
      have HY5 := Lib.hid ((hb5.block w.heap.size (blk_lt HY4.out)).trans HY4.out)
      have HM5 := Lib.hid (HM4.out.below hb5)
      have HW5 := Lib.hid (HW4.out.below hb5)
      obtain ⟨es, ck, hes⟩ := HM5.out.is
      have HES := Lib.hid hes
      have HPT := Lib.hid (show ∀ (F : Nat → Prop) (W : World), Upd F w5 W → (∀ k, F k → k = mb) → WalIn W x b gv ⟨1, lg D.n, g, u, G, 0⟩ from fun F W hu hF => HW5.out.upd hu (fun k hk e => by rw [hF k e] at hk; exact HM5.out.noBlk hk) (fun k hk e => by
        rw [hF k e] at hk
        rcases hk with h | h
        · exact HM5.out.noBlk (t := 135) (h ▸ ⟨_, _, HW5.out.struct⟩)
        · obtain ⟨cs', h1, _⟩ := HW5.out.groups
          exact HM5.out.noBlk (ownsRow_blk h1 h)))
      clear hg5 hb5 hv5 hes HY4 HM4 HW4 HGRP
      go_wp2_with fail
      go_loopw [9, 10, 11, 75] (fun _ _ _ i wr => ∃ k : Nat, k ≤ G.length ∧ i = .int .i64 k ∧ FilMap wr mb A ∧ Upd (fun k => k = mb) w5 wr) (fun _ _ _ i _ => G.length - (intOf i).toNat)
      case atStart => exact ⟨0, Nat.zero_le _, rfl, HM5.out, Upd.refl _ _⟩
      case round =>
        obtain ⟨k, hk, rfl, hm, hu⟩ := hrel
        by_cases hlt : k < G.length
        · have hkc : k < cs.length := by rw [HUN.out.1]; exact hlt
          obtain ⟨p, hix, ar, cr, hc, htx⟩ := HG5.out.index k hlt
          have hc' : wr.cell? p = some (.slice ar G[k].length cr) := (hu.cell (block_lt_of_cell hc) (ne_map hc HES.out)).trans hc
          have htx' : TextsAt wr ar G[k] := htx.upd hu (fun p' hp' hne => by
            obtain ⟨p2, hp2, h3⟩ := htx 0 (List.length_pos_iff.2 hne)
            rw [hp'] at hp2
            injection hp2 with hp2
            subst hp2
            have := ne_map h3 HES.out
            rwa [add_block] at this)
          have hGk := HS3.out _ (List.getElem_mem hlt)
          have hug := HUN.out.2 k hlt hkc
          have hmay := ungroup_may _ _ _ (Nat.le_refl _) hug
          have hul := ungroup_len _ _ _ (Nat.le_refl _) hug
          have hfu := fungroup_any (cap := cr) htx' (by omega) (fun s hs => by have := hGk.2 s hs; omega)
          unfold UngroupPost at hfu
          rw [hug] at hfu
          have hcl : cs[k].length ≤ 1000000 := by omega
          have HFU := Lib.hid hfu; have HMAY := Lib.hid hmay
          have HM := Lib.hid hm; have HU := Lib.hid hu
          clear hc htx htx' hug hmay hul hfu hm hu
          generalize G[k] = Gk at *
          generalize cs[k] = ck at *
          clear hkc
          go_wp2_with fail
          refine HFU.out.mono ?_
          rintro e w6 ⟨q6, c6, rfl, hr6, hb6⟩
          have HL6 := Lib.hid (ChgsAt.of_row hr6)
          have HM6 := Lib.hid (HM.out.below hb6)
          have HU6 := Lib.hid (HU.out.trans (Upd.of_below (F := fun k => k = mb) hb6) (fun i hi => .inl hi))
          clear hr6 hb6 hc'
          have hw6 := HPT.out _ _ HU6.out (fun k e => e)
          have hy6 := (HU6.out.block w.heap.size (blk_lt HY5.out) (fun e => HM5.out.noBlk (t := 68) (e ▸ ⟨_, _, HY5.out⟩))).trans HY5.out
          obtain ⟨_, _, _, _, d4, _⟩ := raw_cells hy6
          have HW6 := Lib.hid hw6
          clear hw6 hy6
          go_wp2_with fail
          refine (HGEN.out _ HW6.out).mono ?_
          rintro e w7 ⟨rfl, rfl⟩
          go_wp2_with fail
          go_roundw
          case rel => exact ⟨k + 1, by omega, by go_num, HM6.out, HU6.out⟩
          case measure => simp [intOf]; omega
        · obtain rfl : k = G.length := by omega
          have HM := Lib.hid hm; have HU := Lib.hid hu
          clear hm hu
          have hw6 := HPT.out _ _ HU.out (fun k e => e)
          have hy6 := (HU.out.block w.heap.size (blk_lt HY5.out) (fun e => HM5.out.noBlk (t := 68) (e ▸ ⟨_, _, HY5.out⟩))).trans HY5.out
          have HW6 := Lib.hid hw6
          have HY6 := Lib.hid hy6
          clear hw6 hy6
          go_wp2_with fail
          refine (HGEN.out _ HW6.out).mono ?_
          rintro e w7 ⟨rfl, rfl⟩
          have hb7 := below_upd HB5.out HU.out (fun k e => by subst e; exact HMB.out) HB5.out.size
          have HB7 := Lib.hid hb7
          have hrs := reset_any (HD.out.below hb7) HW6.out (by omega)
          rw [HRE.out] at hrs
          have HRS := Lib.hid hrs
          clear hb7 hrs
          go_wp2_with fail
          refine HRS.out.mono ?_
          rintro e w9 ⟨rfl, fp9, gv9, g1, g2, g3, g4, g5⟩
          have HOLD := Lib.hid (show ∀ k, w.heap.size ≤ k → ¬ fp k from fun k hk e => by have := HD.out.lt _ e; omega)
          have hny : ¬ (fp w.heap.size ∨ walBlocks x gv w.heap.size) := by
            rintro (e | e | e)
            · exact HOLD.out _ (Nat.le_refl _) e
            · exact BlkOf.ne (⟨_, _, HY6.out⟩ : BlkOf _ w.heap.size 68) (e ▸ ⟨_, _, HW6.out.struct⟩ : BlkOf _ w.heap.size 135) (by decide) rfl
            · obtain ⟨cs', h1, _⟩ := HW6.out.groups
              exact BlkOf.ne (⟨_, _, HY6.out⟩ : BlkOf _ w.heap.size 68) (ownsRow_blk h1 e) (by decide) rfl
          have hnm : ¬ (fp mb ∨ walBlocks x gv mb) := by
            rintro (e | e | e)
            · exact HOLD.out _ HMB.out e
            · exact HM.out.noBlk (t := 135) (e ▸ ⟨_, _, HW6.out.struct⟩)
            · obtain ⟨cs', h1, _⟩ := HW6.out.groups
              exact HM.out.noBlk (ownsRow_blk h1 e)
          have hy9 := (g3.block w.heap.size (blk_lt HY6.out) hny).trans HY6.out
          have HY9 := Lib.hid hy9
          have HM9 := Lib.hid (HM.out.upd g3 hnm)
          have HG1 := Lib.hid g1; have HG2 := Lib.hid g2; have HG3 := Lib.hid g3; have HG4 := Lib.hid g4; have HG5 := Lib.hid g5
          have HMLT := Lib.hid HM.out.lt
          clear g1 g2 g3 g4 g5 hny hnm hy9
          obtain ⟨_, _, _, _, _, d5, _, df⟩ := raw_cells HY9.out
          have df5 := df 5
          clear df
          go_wp2_with fail
          go_ret2
          have hst : Stays fp fp9 w := fun i hi => (HG4.out i hi).imp id (fun e => Nat.le_trans HB7.out.size e)
          refine ⟨w.heap.size, mb, x, gv9, fp9, rfl, HG1.out.upd ((Upd.refl (fun k => k = w.heap.size) _).setCell (p := ⟨w.heap.size, 5, none⟩) (.inl rfl) _) (fun k hk e => by subst e; exact HG1.out.noBlk _ hk (by decide) (by decide) ⟨_, _, HY9.out⟩), FilIn.ofRaw HY9.out HM9.out HG2.out (by omega) (by omega) (by omega) ha1, fun e => (HG4.out mb e).elim (HOLD.out _ HMB.out) (fun f => by have := HMLT.out; omega), ((Upd.of_below HB7.out).trans HG3.out (fun i hi => hi.elim .inl (fun e => .inr (HX4.out i e)))).setCell (p := ⟨w.heap.size, 5, none⟩) (.inr (Nat.le_refl _)) _, hst, ?_⟩
          rintro k (rfl | rfl | hk)
          · exact Nat.le_refl _
          · exact HMB.out
          · exact (HG5.out k hk).elim (HX4.out k) (fun e => Nat.le_trans HB7.out.size e)
    · have e := e.symm
      subst e
      by_cases h0 : num = 0
      · subst h0
        clear hng hge
        go_wp2_with fail
        refine HGRP.out.mono ?_
        rintro e w5 ⟨v5, rfl, hg5, hb5, hv5⟩
        obtain ⟨q5, c5, rfl⟩ := hg5.slice5
        have HG5 := Lib.hid hg5
        have HB5 := Lib.hid (HB4.out.trans (hb5.mono HB4.out.size))
        have HY5 := Lib.hid ((hb5.block w.heap.size (blk_lt HY4.out)).trans HY4.out)
        have HM5 := Lib.hid (HM4.out.below hb5)
        have HW5 := Lib.hid (HW4.out.below hb5)
        obtain ⟨es, ck, hes⟩ := HM5.out.is
        have HES := Lib.hid hes
        have HPT := Lib.hid (show ∀ (F : Nat → Prop) (W : World), Upd F w5 W → (∀ k, F k → k = mb) → WalIn W x b gv ⟨1, lg D.n, g, u, G, 0⟩ from fun F W hu hF => HW5.out.upd hu (fun k hk e => by rw [hF k e] at hk; exact HM5.out.noBlk hk) (fun k hk e => by
          rw [hF k e] at hk
          rcases hk with h | h
          · exact HM5.out.noBlk (t := 135) (h ▸ ⟨_, _, HW5.out.struct⟩)
          · obtain ⟨cs', h1, _⟩ := HW5.out.groups
            exact HM5.out.noBlk (ownsRow_blk h1 h)))
        clear hg5 hb5 hv5 hes HY4 HM4 HW4 HGRP
        go_wp2_with fail
        go_loopw [9, 10, 11, 75] (fun _ _ _ i wr => ∃ k : Nat, k ≤ G.length ∧ i = .int .i64 k ∧ FilMap wr mb (madeAll A (cs.take k)) ∧ Upd (fun k => k = mb) w5 wr) (fun _ _ _ i _ => G.length - (intOf i).toNat)
        case atStart => exact ⟨0, Nat.zero_le _, rfl, HM5.out, Upd.refl _ _⟩
        case round =>
          obtain ⟨k, hk, rfl, hm, hu⟩ := hrel
          by_cases hlt : k < G.length
          · have hkc : k < cs.length := by rw [HUN.out.1]; exact hlt
            obtain ⟨p, hix, ar, cr, hc, htx⟩ := HG5.out.index k hlt
            have hc' : wr.cell? p = some (.slice ar G[k].length cr) := (hu.cell (block_lt_of_cell hc) (ne_map hc HES.out)).trans hc
            have htx' : TextsAt wr ar G[k] := htx.upd hu (fun p' hp' hne => by
              obtain ⟨p2, hp2, h3⟩ := htx 0 (List.length_pos_iff.2 hne)
              rw [hp'] at hp2
              injection hp2 with hp2
              subst hp2
              have := ne_map h3 HES.out
              rwa [add_block] at this)
            have hGk := HS3.out _ (List.getElem_mem hlt)
            have hug := HUN.out.2 k hlt hkc
            have hmay := ungroup_may _ _ _ (Nat.le_refl _) hug
            have hul := ungroup_len _ _ _ (Nat.le_refl _) hug
            have hfu := fungroup_any (cap := cr) htx' (by omega) (fun s hs => by have := hGk.2 s hs; omega)
            unfold UngroupPost at hfu
            rw [hug] at hfu
            have HMA := Lib.hid (madeAll_take A cs k hkc)
            have hlen := madeAll_len A (cs.take k) 1000000 (fun c hc => by
              obtain ⟨j, hj, rfl⟩ := List.getElem_of_mem (List.mem_of_mem_take hc)
              have h1 := HUN.out.2 j (by rw [← HUN.out.1]; exact hj) hj
              have h2 := ungroup_len _ _ _ (Nat.le_refl _) h1
              have h3 := (HS3.out _ (List.getElem_mem (by rw [← HUN.out.1]; exact hj : j < G.length))).1
              omega)
            have hck : (cs.take k).length ≤ 20000 := by rw [List.length_take]; omega
            have hlen2 : (madeAll A (cs.take k)).length ≤ 1000000000000000 := by
              refine Nat.le_trans hlen ?_
              have : (cs.take k).length * 1000000 ≤ 20000 * 1000000 := Nat.mul_le_mul_right _ hck
              omega
            have hcl : cs[k].length ≤ 1000000 := by omega
            have HFU := Lib.hid hfu; have HMAY := Lib.hid hmay
            have HM := Lib.hid hm; have HU := Lib.hid hu; have HL2 := Lib.hid hlen2
            clear hc htx htx' hug hmay hul hfu hlen hlen2 hm hu hck
            generalize G[k] = Gk at *
            generalize cs[k] = ck at *
            clear hkc
            go_wp2_with fail
            refine HFU.out.mono ?_
            rintro e w6 ⟨q6, c6, rfl, hr6, hb6⟩
            have HL6 := Lib.hid (ChgsAt.of_row hr6)
            have HM6 := Lib.hid (HM.out.below hb6)
            have HU6 := Lib.hid (HU.out.trans (Upd.of_below (F := fun k => k = mb) hb6) (fun i hi => .inl hi))
            clear hr6 hb6 hc'
            have hw6 := HPT.out _ _ HU6.out (fun k e => e)
            have hy6 := (HU6.out.block w.heap.size (blk_lt HY5.out) (fun e => HM5.out.noBlk (t := 68) (e ▸ ⟨_, _, HY5.out⟩))).trans HY5.out
            obtain ⟨_, _, _, _, d4, _⟩ := raw_cells hy6
            have HW6 := Lib.hid hw6
            clear hw6 hy6
            go_wp2_with fail
            refine (HGEN.out _ HW6.out).mono ?_
            rintro e w7 ⟨rfl, rfl⟩
            go_wp2_with fail
            refine (fmade_any (cap := c6) HM6.out HL6.out hcl HL2.out (fun c hc => by
              have := HMAY.out c hc
              unfold Chg.may mayB at this
              simp at this
              unfold maxLen
              omega)).mono ?_
            rintro e w8 ⟨rfl, hm8, hu8⟩
            have HM8 := Lib.hid hm8; have HU8 := Lib.hid (HU6.out.trans hu8 (fun i hi => .inl hi))
            clear hm8 hu8 d4
            go_wp2_with fail
            go_roundw
            case rel => exact ⟨k + 1, by omega, by go_num, by rw [HMA.out]; exact HM8.out, HU8.out⟩
            case measure => simp [intOf]; omega
          · obtain rfl : k = G.length := by omega
            have hts : cs.take G.length = cs := by rw [← HUN.out.1, List.take_length]
            rw [hts] at hm
            have HM := Lib.hid hm; have HU := Lib.hid hu
            clear hts hm hu
            have hw6 := HPT.out _ _ HU.out (fun k e => e)
            have hy6 := (HU.out.block w.heap.size (blk_lt HY5.out) (fun e => HM5.out.noBlk (t := 68) (e ▸ ⟨_, _, HY5.out⟩))).trans HY5.out
            have HW6 := Lib.hid hw6
            have HY6 := Lib.hid hy6
            clear hw6 hy6
            go_wp2_with fail
            refine (HGEN.out _ HW6.out).mono ?_
            rintro e w7 ⟨rfl, rfl⟩
            obtain ⟨_, _, _, _, _, d5, _, df⟩ := raw_cells HY6.out
            have df5 := df 5
            clear df
            go_wp2_with fail
            go_ret2
            have hb7 := below_upd HB5.out HU.out (fun k e => by subst e; exact HMB.out) HB5.out.size
            refine ⟨w.heap.size, mb, x, gv, fp, rfl, (HD.out.below hb7).upd ((Upd.refl (fun k => k = w.heap.size) _).setCell (p := ⟨w.heap.size, 5, none⟩) (.inl rfl) _) (fun k hk e => by subst e; have := HD.out.lt _ hk; omega), FilIn.ofRaw HY6.out HM.out HW6.out (by omega) (by omega) (by omega) ha1, fun e => by have := HD.out.lt _ e; have := HMB.out; omega, (Upd.of_below hb7).setCell (p := ⟨w.heap.size, 5, none⟩) (.inr (Nat.le_refl _)) _, fun _ h => .inl h, ?_⟩
            rintro k (rfl | rfl | hk)
            · exact Nat.le_refl _
            · exact HMB.out
            · exact HX4.out k hk
      · have h1 : (0 : Int) < (num : Int) := by omega
        have hw1 : IntKind.u64.wrap ((num : Int) - 1) = ((num - 1 : Nat) : Int) := by
          simp [IntKind.wrap, IntKind.bits, IntKind.signed]; omega
        have hq1 : ¬ g < num - 1 := by omega
        have hq2 : num ≤ g := by omega
        clear hng hge h0
        go_wp2_with fail
        refine (HGEN.out _ HW4.out).mono ?_
        rintro e w4' ⟨rfl, rfl⟩
        go_wp2_with fail
        refine HGRP.out.mono ?_
        rintro e w5 ⟨v5, rfl, hg5, hb5, hv5⟩
        obtain ⟨q5, c5, rfl⟩ := hg5.slice5
        have HG5 := Lib.hid hg5
        have HB5 := Lib.hid (HB4.out.trans (hb5.mono HB4.out.size))
        have HY5 := Lib.hid ((hb5.block w.heap.size (blk_lt HY4.out)).trans HY4.out)
        have HM5 := Lib.hid (HM4.out.below hb5)
        have HW5 := Lib.hid (HW4.out.below hb5)
        obtain ⟨es, ck, hes⟩ := HM5.out.is
        have HES := Lib.hid hes
        have HPT := Lib.hid (show ∀ (F : Nat → Prop) (W : World), Upd F w5 W → (∀ k, F k → k = mb) → WalIn W x b gv ⟨1, lg D.n, g, u, G, 0⟩ from fun F W hu hF => HW5.out.upd hu (fun k hk e => by rw [hF k e] at hk; exact HM5.out.noBlk hk) (fun k hk e => by
          rw [hF k e] at hk
          rcases hk with h | h
          · exact HM5.out.noBlk (t := 135) (h ▸ ⟨_, _, HW5.out.struct⟩)
          · obtain ⟨cs', h1, _⟩ := HW5.out.groups
            exact HM5.out.noBlk (ownsRow_blk h1 h)))
        clear hg5 hb5 hv5 hes HY4 HM4 HW4 HGRP
        go_wp2_with fail
        go_loopw [9, 10, 11, 75] (fun _ _ _ i wr => ∃ k : Nat, k ≤ G.length ∧ i = .int .i64 k ∧ FilMap wr mb (madeAll A (cs.take k)) ∧ Upd (fun k => k = mb) w5 wr) (fun _ _ _ i _ => G.length - (intOf i).toNat)
        case atStart => exact ⟨0, Nat.zero_le _, rfl, HM5.out, Upd.refl _ _⟩
        case round =>
          obtain ⟨k, hk, rfl, hm, hu⟩ := hrel
          by_cases hlt : k < G.length
          · have hkc : k < cs.length := by rw [HUN.out.1]; exact hlt
            obtain ⟨p, hix, ar, cr, hc, htx⟩ := HG5.out.index k hlt
            have hc' : wr.cell? p = some (.slice ar G[k].length cr) := (hu.cell (block_lt_of_cell hc) (ne_map hc HES.out)).trans hc
            have htx' : TextsAt wr ar G[k] := htx.upd hu (fun p' hp' hne => by
              obtain ⟨p2, hp2, h3⟩ := htx 0 (List.length_pos_iff.2 hne)
              rw [hp'] at hp2
              injection hp2 with hp2
              subst hp2
              have := ne_map h3 HES.out
              rwa [add_block] at this)
            have hGk := HS3.out _ (List.getElem_mem hlt)
            have hug := HUN.out.2 k hlt hkc
            have hmay := ungroup_may _ _ _ (Nat.le_refl _) hug
            have hul := ungroup_len _ _ _ (Nat.le_refl _) hug
            have hfu := fungroup_any (cap := cr) htx' (by omega) (fun s hs => by have := hGk.2 s hs; omega)
            unfold UngroupPost at hfu
            rw [hug] at hfu
            have HMA := Lib.hid (madeAll_take A cs k hkc)
            have hlen := madeAll_len A (cs.take k) 1000000 (fun c hc => by
              obtain ⟨j, hj, rfl⟩ := List.getElem_of_mem (List.mem_of_mem_take hc)
              have h1 := HUN.out.2 j (by rw [← HUN.out.1]; exact hj) hj
              have h2 := ungroup_len _ _ _ (Nat.le_refl _) h1
              have h3 := (HS3.out _ (List.getElem_mem (by rw [← HUN.out.1]; exact hj : j < G.length))).1
              omega)
            have hck : (cs.take k).length ≤ 20000 := by rw [List.length_take]; omega
            have hlen2 : (madeAll A (cs.take k)).length ≤ 1000000000000000 := by
              refine Nat.le_trans hlen ?_
              have : (cs.take k).length * 1000000 ≤ 20000 * 1000000 := Nat.mul_le_mul_right _ hck
              omega
            have hcl : cs[k].length ≤ 1000000 := by omega
            have HFU := Lib.hid hfu; have HMAY := Lib.hid hmay
            have HM := Lib.hid hm; have HU := Lib.hid hu; have HL2 := Lib.hid hlen2
            clear hc htx htx' hug hmay hul hfu hlen hlen2 hm hu hck
            generalize G[k] = Gk at *
            generalize cs[k] = ck at *
            clear hkc
            go_wp2_with fail
            refine HFU.out.mono ?_
            rintro e w6 ⟨q6, c6, rfl, hr6, hb6⟩
            have HL6 := Lib.hid (ChgsAt.of_row hr6)
            have HM6 := Lib.hid (HM.out.below hb6)
            have HU6 := Lib.hid (HU.out.trans (Upd.of_below (F := fun k => k = mb) hb6) (fun i hi => .inl hi))
            clear hr6 hb6 hc'
            have hw6 := HPT.out _ _ HU6.out (fun k e => e)
            have hy6 := (HU6.out.block w.heap.size (blk_lt HY5.out) (fun e => HM5.out.noBlk (t := 68) (e ▸ ⟨_, _, HY5.out⟩))).trans HY5.out
            obtain ⟨_, _, _, _, d4, _⟩ := raw_cells hy6
            have HW6 := Lib.hid hw6
            clear hw6 hy6
            go_wp2_with fail
            refine (HGEN.out _ HW6.out).mono ?_
            rintro e w7 ⟨rfl, rfl⟩
            go_wp2_with fail
            refine (fmade_any (cap := c6) HM6.out HL6.out hcl HL2.out (fun c hc => by
              have := HMAY.out c hc
              unfold Chg.may mayB at this
              simp at this
              unfold maxLen
              omega)).mono ?_
            rintro e w8 ⟨rfl, hm8, hu8⟩
            have HM8 := Lib.hid hm8; have HU8 := Lib.hid (HU6.out.trans hu8 (fun i hi => .inl hi))
            clear hm8 hu8 d4
            go_wp2_with fail
            go_roundw
            case rel => exact ⟨k + 1, by omega, by go_num, by rw [HMA.out]; exact HM8.out, HU8.out⟩
            case measure => simp [intOf]; omega
          · obtain rfl : k = G.length := by omega
            have hts : cs.take G.length = cs := by rw [← HUN.out.1, List.take_length]
            rw [hts] at hm
            have HM := Lib.hid hm; have HU := Lib.hid hu
            clear hts hm hu
            have hw6 := HPT.out _ _ HU.out (fun k e => e)
            have hy6 := (HU.out.block w.heap.size (blk_lt HY5.out) (fun e => HM5.out.noBlk (t := 68) (e ▸ ⟨_, _, HY5.out⟩))).trans HY5.out
            have HW6 := Lib.hid hw6
            have HY6 := Lib.hid hy6
            clear hw6 hy6
            go_wp2_with fail
            refine (HGEN.out _ HW6.out).mono ?_
            rintro e w7 ⟨rfl, rfl⟩
            obtain ⟨_, _, _, _, _, d5, _, df⟩ := raw_cells HY6.out
            have df5 := df 5
            clear df
            go_wp2_with fail
            go_ret2
            have hb7 := below_upd HB5.out HU.out (fun k e => by subst e; exact HMB.out) HB5.out.size
            refine ⟨w.heap.size, mb, x, gv, fp, rfl, (HD.out.below hb7).upd ((Upd.refl (fun k => k = w.heap.size) _).setCell (p := ⟨w.heap.size, 5, none⟩) (.inl rfl) _) (fun k hk e => by subst e; have := HD.out.lt _ hk; omega), FilIn.ofRaw HY6.out HM.out HW6.out (by omega) (by omega) (by omega) ha1, fun e => by have := HD.out.lt _ e; have := HMB.out; omega, (Upd.of_below hb7).setCell (p := ⟨w.heap.size, 5, none⟩) (.inr (Nat.le_refl _)) _, fun _ h => .inl h, ?_⟩
            rintro k (rfl | rfl | hk)
            · exact Nat.le_refl _
            · exact HMB.out
            · exact HX4.out k hk
end Go.Proofs.YtoaihngckcbhiaaGreatDoor
