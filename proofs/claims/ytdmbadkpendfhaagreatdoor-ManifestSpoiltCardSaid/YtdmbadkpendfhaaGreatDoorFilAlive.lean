/- Files on a disk at rest, with the blocks that they take: what the statements' walks need of them. maslinlaw06: alive, long, walked. -/
import Derived.Test.YtdmbadkpendfhaaGreatDoorFilOpenW
import Derived.Test.YtdmbadkpendfhaaGreatDoorFilNames2
namespace Go.Proofs.YtdmbadkpendfhaaGreatDoor.Fil
theorem costs_del (k : T) (F : M) : ((del k F).map cost).sum ≤ (F.map cost).sum := by
  unfold del
  induction F with
  | nil => simp
  | cons p F ih =>
    rw [List.filter_cons]
    split
    · simp only [List.map_cons, List.sum_cons]; omega
    · simp only [List.map_cons, List.sum_cons]; omega
theorem used_on {F : M} (hu : Up F) (c : Chg) : used (Chg.on F c) ≤ used F + (8 + c.name.length + c.data.length) := by
  unfold Chg.on used
  have hd := costs_del c.name F
  split
  · omega
  · have hp := ((put_perm (v := c.data) hu c.name).map cost).sum_nat
    rw [hp, List.map_cons, List.sum_cons]
    have : cost (c.name, c.data) = 8 + c.name.length + c.data.length := rfl
    omega
/-- What changes bring at most. -/
def weigh (l : List Chg) : Nat := (l.map fun c => 8 + c.name.length + c.data.length).sum
theorem weigh_mem {l : List Chg} {c : Chg} (h : c ∈ l) : 8 + c.name.length + c.data.length ≤ weigh l := by
  unfold weigh
  induction l with
  | nil => simp at h
  | cons x l ih =>
    rw [List.map_cons, List.sum_cons]
    rcases List.mem_cons.1 h with rfl | h
    · omega
    · have := ih h; omega
theorem used_made {F : M} (hu : Up F) (l : List Chg) : used (made F l) ≤ used F + weigh l := by
  induction l generalizing F with
  | nil => exact Nat.le_add_right _ _
  | cons c l ih =>
    have h1 := ih (hu.on c)
    have h2 := used_on hu c
    show used (made (Chg.on F c) l) ≤ _
    unfold weigh at h1 ⊢
    rw [List.map_cons, List.sum_cons]
    omega
theorem group_weigh (l : List Chg) : rowLen (group l) ≤ 2 + weigh l := by
  unfold rowLen weigh group
  induction l with
  | nil => simp
  | cons c l ih =>
    simp only [List.flatMap_cons, List.map_append, List.sum_append, List.map_cons, List.sum_cons, List.map_nil, List.sum_nil, List.length_cons] at ih ⊢
    omega
/-- How much files may hold. -/
def roomN (n : Nat) : Nat := sz n * 64 - 4
/-- What Commit answers, and what there is then, where the disk does not stand still. -/
def codeC (n : Nat) (A : M) (l : List Chg) : Int := if l.all Chg.may = false then 2 else if roomN n < used (made A l) then 4 else 0
def nextC (n : Nat) (A : M) (l : List Chg) : M := if l.all Chg.may = true ∧ used (made A l) ≤ roomN n then made A l else A
end Go.Proofs.YtdmbadkpendfhaaGreatDoor.Fil
namespace Go.Proofs.YtdmbadkpendfhaaGreatDoor
open Go.RowKit Go.Maps
open Fil

/-- Files at rest on a disk that does not stand still. -/
def FSt (w : World) (b y : Nat) (bl : Nat → Prop) (n N : Nat) (A : M) : Prop :=
  ∃ D fp m x gv F, DiskAt w b D fp ∧ FilIn w y b m x gv F ∧ ¬ fp m ∧ Fil.Calm D F ∧ D.left = -1 ∧ D.n = n ∧ F.w.gen ≤ N ∧ F.m = A ∧ (∀ k, fp k ∨ filBlocks y m x gv k → bl k)
def NoS (w : World) (bl : Nat → Prop) (k : Nat) : Prop := bl k ∧ ¬ BlkOf w k 9
section
variable {w w' : World} {b y : Nat} {bl : Nat → Prop} {n N : Nat} {A : M}
theorem FSt.upd {P : Nat → Prop} (h : FSt w b y bl n N A) (hu : Upd P w w') (hs : ∀ k, BlkOf w k 9 → ¬ P k) (hP : ∀ k, bl k → ¬ P k) : FSt w' b y bl n N A := by
  obtain ⟨D, fp, m, x, gv, F, h1, h2, h3, h4, h5, h6, h7, h8, h9⟩ := h
  exact ⟨D, fp, m, x, gv, F, h1.upd hu (fun k hk => hP k (h9 k (.inl hk))), h2.upd hu hs (fun k hk => hP k (h9 k (.inr hk))), h3, h4, h5, h6, h7, h8, h9⟩
theorem FSt.below (h : FSt w b y bl n N A) (hb : Below w.heap.size w w') : FSt w' b y bl n N A := h.upd (Upd.of_below (F := fun _ => False) hb) (fun _ _ f => f) (fun _ _ f => f)
theorem FSt.more {N' : Nat} (h : FSt w b y bl n N A) (hN : N ≤ N') : FSt w b y bl n N' A := by
  obtain ⟨D, fp, m, x, gv, F, h1, h2, h3, h4, h5, h6, h7, h8, h9⟩ := h
  exact ⟨D, fp, m, x, gv, F, h1, h2, h3, h4, h5, h6, by omega, h8, h9⟩
theorem FSt.up (h : FSt w b y bl n N A) : Up A ∧ Fil.Good A ∧ used A ≤ roomN n ∧ 8 ≤ n ∧ n ≤ 16384 := by
  obtain ⟨D, fp, m, x, gv, F, h1, h2, h3, h4, h5, h6, h7, h8, h9⟩ := h
  subst h8 h6
  refine ⟨h4.up, h4.good, ?_, h4.n8, h4.disk.fine.n2⟩
  have := h4.room
  unfold St.room at this
  rw [h4.size] at this
  exact this
theorem roomN_le {n : Nat} (h : n ≤ 16384) : roomN n ≤ 524288 := by unfold roomN sz lg; omega
/-- A disk's blocks, and files', are none of texts. -/
theorem noS_of {D : Dsk} {fp : Nat → Prop} {m x : Nat} {gv : Value} {F : St} (hd : DiskAt w b D fp) (hf : FilIn w y b m x gv F) (h9 : ∀ k, fp k ∨ filBlocks y m x gv k → bl k) (k : Nat) (hk : fp k ∨ k = y ∨ walBlocks x gv k) : NoS w bl k := by
  refine ⟨h9 k (hk.imp id (fun e => e.elim .inl (fun e => .inr (.inr e)))), fun hb => ?_⟩
  rcases hk with e | e | e
  · exact hd.noBlk _ e (by decide) (by decide) hb
  · subst e; exact BlkOf.ne hb hf.blk (by decide) rfl
  · rcases hf.wal.kind e with g | g
    · exact BlkOf.ne hb g (by decide) rfl
    · exact BlkOf.ne hb g (by decide) rfl
theorem groups_small {D : Dsk} {F : St} (h : Fil.Calm D F) : F.w.groups.length ≤ 20000 := by
  have hw := h.wal
  unfold logAt at hw
  obtain ⟨g1, g2, g3⟩ := lg_sz h.n8
  rw [h.wfrom, h.wn, h.log, ← h.disk.now] at hw
  exact (log_small h.disk.fine (by omega) (by omega) hw).2.1
set_option maxRecDepth 100000 in
theorem fst_commit {a : Option Addr} {cap : Nat} {l : List Chg} (h : FSt w b y bl n N A) (hN : N < 1000000000) (hL : ChgsAt w a l) (hlen : l.length ≤ 100000) (hw : weigh l ≤ 900000) :
    Calls Tryz.prog 17 #[.pointer (some ⟨y, 0, none⟩), .slice a l.length cap] w fun e w' => e = .returned (.int .i64 (codeC n A l)) ∧ ∃ bl', FSt w' b y bl' n (N + 1) (nextC n A l) ∧ Upd (NoS w bl) w w' ∧ ∀ k, bl' k → bl k ∨ w.heap.size ≤ k := by
  have hup := h.up
  obtain ⟨D, fp, m, x, gv, F, h1, h2, h3, h4, h5, h6, h7, h8, h9⟩ := h
  have hok : ∀ c ∈ l, c.name.length ≤ 1000000 ∧ c.data.length ≤ maxLen := fun c hc => by
    have := weigh_mem hc
    unfold maxLen
    omega
  have hroom := roomN_le hup.2.2.2.2
  have hus := used_made hup.1 l
  have hrr : F.room = roomN n := by unfold St.room roomN; rw [h4.size, h6]
  have hgw := group_weigh l
  have hul := used_len A
  have key : Calls Tryz.prog 17 #[.pointer (some ⟨y, 0, none⟩), .slice a l.length cap] w fun e w' => CommitPost w y b m x gv fp (commitS D F l) e w' := by
    have hloose : D.loose.length = 0 := by rw [h4.disk.loose]; rfl
    by_cases hall : l.all Chg.may = true
    · exact fcommit_in h1 h2 h3 hL hlen hok h4.good (by rw [h8]; omega) (by rw [h8]; omega) (by rw [h4.size]; have := h4.disk.fine.n2; unfold sz; omega) (by omega) (by omega) (by have := groups_small h4; omega) h4.fault hall
    · exact fcommit_bad h1 h2 h3 hL hlen (fun c hc => ⟨Nat.le_trans (hok c hc).1 (by unfold maxLen; omega), (hok c hc).2⟩) h4.fault (by simpa using hall)
  refine key.mono ?_
  rintro e w' ⟨m', ⟨he, fp', gv', p1, p2, p3, p4, p5, p6⟩, hm'⟩
  obtain ⟨D', F', c1, c2, c3, c4, c5, c6, c7, c8⟩ := commit_ok h4 h5 (by omega) l
  rw [c1] at he p1 p2
  rw [h8] at he c8
  rw [hrr] at he c8
  refine ⟨he, fun k => bl k ∨ w.heap.size ≤ k, ⟨D', fp', m', x, gv', F', p1, p2, p3, c2, c3, c4.trans h6, by omega, c8, ?_⟩, p4.mono (fun k hk => noS_of h1 h2 h9 k hk), fun k hk => hk⟩
  rintro k (hk | hk | hk | hk)
  · exact (p5 k hk).imp (fun e => h9 k (.inl e)) id
  · exact .inl (h9 k (.inr (.inl hk)))
  · subst hk
    exact hm'.imp (fun e => h9 _ (.inr (.inr (.inl e)))) id
  · exact (p6 k hk).imp (fun e => h9 k (.inr (.inr (.inr e)))) id
theorem calm_left {D : Dsk} (h : D.Calm) : D.loose.length = 0 := by rw [h.loose]; rfl
set_option maxRecDepth 100000 in
theorem fst_open {D D' : Dsk} {fp : Nat → Prop} {F : St} (hd : DiskAt w b D fp) (h : Opens D F D') (hleft : D'.left = -1) (hloose : D.loose.length ≤ 300000000) (hN : F.w.gen ≤ N) :
    Calls Tryz.prog 24 #[.pointer (some ⟨b, 0, none⟩)] w fun e w' => ∃ y bl', e = .returned (.tuple #[.pointer (some ⟨y, 0, none⟩), .int .i64 0]) ∧ FSt w' b y bl' D.n N F.m ∧ Upd fp w w' ∧ (∀ k, bl' k → fp k ∨ w.heap.size ≤ k) ∧ w.heap.size ≤ y :=
  (fopen_any hd h.1 hloose).mono (by
    rintro e w' ⟨y, m, x, gv, fp', rfl, p1, p2, p3, p4, p5, p6⟩
    refine ⟨y, fun k => fp k ∨ w.heap.size ≤ k, rfl, ⟨D', fp', m, x, gv, F, p1, p2, p3, h.2.1, hleft, h.2.2, hN, rfl, ?_⟩, p4, fun k hk => hk, p6 y (.inl rfl)⟩
    rintro k (hk | hk)
    · exact p5 k hk
    · exact .inr (p6 k hk))
theorem fst_new (n : Nat) (hn : 8 ≤ n) (hn2 : n ≤ 16384) {fp : Nat → Prop} (hd : DiskAt w b (Dsk.new n) fp) :
    Calls Tryz.prog 24 #[.pointer (some ⟨b, 0, none⟩)] w fun e w' => ∃ y bl', e = .returned (.tuple #[.pointer (some ⟨y, 0, none⟩), .int .i64 0]) ∧ FSt w' b y bl' n 0 [] ∧ Upd fp w w' ∧ (∀ k, bl' k → fp k ∨ w.heap.size ≤ k) ∧ w.heap.size ≤ y :=
  fst_open (N := 0) hd (Fil.Calm.new hn hn2).opens rfl (by show (0 : Nat) ≤ _; omega) (Nat.le_refl 0)
set_option maxRecDepth 100000 in
/-- The same disk is opened once more: what there was stays, beside it. -/
theorem fst_again (h : FSt w b y bl n N A) :
    Calls Tryz.prog 24 #[.pointer (some ⟨b, 0, none⟩)] w fun e w' => ∃ y2 bl1 bl2, e = .returned (.tuple #[.pointer (some ⟨y2, 0, none⟩), .int .i64 0]) ∧ FSt w' b y bl1 n N A ∧ FSt w' b y2 bl2 n N A ∧ Upd (NoS w bl) w w' ∧ (∀ k, bl1 k → bl k ∨ w.heap.size ≤ k) ∧ (∀ k, bl2 k → bl k ∨ w.heap.size ≤ k) ∧ w.heap.size ≤ y2 := by
  obtain ⟨D, fp, m, x, gv, F, h1, h2, h3, h4, h5, h6, h7, h8, h9⟩ := h
  have hl := calm_left h4.disk
  refine (fopen_any h1 h4.opens.1 (by omega)).mono ?_
  rintro e w' ⟨y2, m2, x2, gv2, fp', rfl, p1, p2, p3, p4, p5, p6⟩
  have hml := h2.map.lt
  have hup : Upd (NoS w bl) w w' := p4.mono (fun k hk => noS_of h1 h2 h9 k (.inl hk))
  refine ⟨y2, fun k => bl k ∨ w.heap.size ≤ k, fun k => bl k ∨ w.heap.size ≤ k, rfl, ⟨D, fp', m, x, gv, F, p1, h2.upd p4 (fun k hk e => h1.noBlk _ e (by decide) (by decide) hk) (files_apart h1 h2 h3), fun e => (p5 m e).elim h3 (fun f => by omega), h4, h5, h6, h7, h8, ?_⟩, ⟨D, fp', m2, x2, gv2, F, p1, p2, p3, h4, h5, h6, h7, h8, ?_⟩, hup, fun k hk => hk, fun k hk => hk, p6 y2 (.inl rfl)⟩
  · rintro k (hk | hk)
    · exact (p5 k hk).imp (fun e => h9 k (.inl e)) id
    · exact .inl (h9 k (.inr hk))
  · rintro k (hk | hk)
    · exact (p5 k hk).imp (fun e => h9 k (.inl e)) id
    · exact .inr (p6 k hk)
theorem fst_crash (h : FSt w b y bl n N A) (keep : List UInt8) (hk : keep.length ≤ 1000000000) :
    Calls Tryz.prog 23 #[.pointer (some ⟨b, 0, none⟩), .string (bs keep)] w fun e w' => e = .returned (.int .i64 0) ∧ ∃ bl', FSt w' b y bl' n N A ∧ Upd (NoS w bl) w w' ∧ ∀ k, bl' k → bl k ∨ w.heap.size ≤ k := by
  obtain ⟨D, fp, m, x, gv, F, h1, h2, h3, h4, h5, h6, h7, h8, h9⟩ := h
  have hl := calm_left h4.disk
  have hml := h2.map.lt
  refine (crash_any h1 keep (by omega) hk).mono ?_
  rintro e w' ⟨rfl, fp', p1, p2, p3⟩
  refine ⟨rfl, fun k => bl k ∨ w.heap.size ≤ k, ⟨D.crash keep, fp', m, x, gv, F, p1, h2.upd p2 (fun k hk e => h1.noBlk _ e (by decide) (by decide) hk) (files_apart h1 h2 h3), fun e => (p3 m e).elim h3 (fun f => by omega), h4.crash keep, rfl, h6, h7, h8, ?_⟩, p2.mono (fun k hk => noS_of h1 h2 h9 k (.inl hk)), fun k hk => hk⟩
  rintro k (hk | hk)
  · exact (p3 k hk).imp (fun e => h9 k (.inl e)) id
  · exact .inl (h9 k (.inr hk))
theorem fst_get (h : FSt w b y bl n N A) (k : T) (hk : k.length ≤ maxLen) :
    Calls Tryz.prog 16 #[.pointer (some ⟨y, 0, none⟩), .string (bs k)] w fun e w' => e = .returned (.tuple #[.string (bs ((Fil.get A k).getD [])), .bool (Fil.get A k).isSome]) ∧ FSt w' b y bl n N A ∧ Below w.heap.size w w' := by
  have h0 := h
  obtain ⟨D, fp, m, x, gv, F, h1, h2, h3, h4, h5, h6, h7, h8, h9⟩ := h
  refine (fget_any h2 k hk).mono ?_
  rintro e w' ⟨rfl, hb⟩
  rw [h8]
  exact ⟨rfl, h0.below hb, hb⟩
theorem fst_room (h : FSt w b y bl n N A) :
    Calls Tryz.prog 48 #[.pointer (some ⟨y, 0, none⟩)] w fun e w' => e = .returned (.int .i64 (roomN n : Int)) ∧ w = w' := by
  obtain ⟨D, fp, m, x, gv, F, h1, h2, h3, h4, h5, h6, h7, h8, h9⟩ := h
  have hrr : F.room = roomN n := by unfold St.room roomN; rw [h4.size, h6]
  refine (froom_any h2).mono ?_
  rintro e w' ⟨rfl, rfl⟩
  rw [hrr]
  exact ⟨rfl, rfl⟩
theorem fst_names (h : FSt w b y bl n N A) :
    Calls Tryz.prog 15 #[.pointer (some ⟨y, 0, none⟩)] w fun e w' => ∃ v, e = .returned v ∧ w'.ownsRow 0 9 1 v A.length (strCells (A.map (·.1))) ∧ FSt w' b y bl n N A ∧ Below w.heap.size w w' ∧ ∀ k, v.ownBlock = some k → w.heap.size ≤ k := by
  have h0 := h
  have hup := h.up
  have hroom := roomN_le hup.2.2.2.2
  have hul := used_len A
  obtain ⟨D, fp, m, x, gv, F, h1, h2, h3, h4, h5, h6, h7, h8, h9⟩ := h
  refine (fnames_any h2 h4.good (by rw [h8]; omega)).mono ?_
  rw [h8]
  rintro e w' ⟨v, rfl, p1, p2, p3⟩
  exact ⟨v, rfl, p1, h0.below p2, p2, p3⟩
/-- Changes, as the walk lays them. -/
theorem chgs_one {W : World} {g : Nat} {c : Chg} (h : W.heap[g]? = some (.cells #[.string (bs c.name), .string (bs c.data), .bool c.gone] 52)) : ChgsAt W (some ⟨g, 0, none⟩) [c] := fun i hi => by
  obtain rfl : i = 0 := by simpa using hi
  refine ⟨⟨g, 0, none⟩, rfl, ?_⟩
  constructor
  · rw [add_plain, add_plain, cell_of_row W g _ _ _ _ h]; rfl
  · rw [add_plain, add_plain, cell_of_row W g _ _ _ _ h]; rfl
  · rw [add_plain, add_plain, cell_of_row W g _ _ _ _ h]; rfl
end
end Go.Proofs.YtdmbadkpendfhaaGreatDoor

namespace Go.Proofs.YtdmbadkpendfhaaGreatDoor
open Go.RowKit Go.Maps
open Fil

theorem FSt.shrink {w : World} {b y : Nat} {bl : Nat → Prop} {n N : Nat} {A : M} (h : FSt w b y bl n N A) : FSt w b y (fun k => bl k ∧ k < w.heap.size) n N A := by
  obtain ⟨D, fp, m, x, gv, F, h1, h2, h3, h4, h5, h6, h7, h8, h9⟩ := h
  exact ⟨D, fp, m, x, gv, F, h1, h2, h3, h4, h5, h6, h7, h8, fun k hk => ⟨h9 k hk, hk.elim (h1.lt k) (h2.lt k)⟩⟩
/-- Files of a statement's own, from block B on, beside blocks X that are not theirs. -/
def MyX (B : Nat) (w0 w : World) (b y n N : Nat) (A : M) (X : Nat → Prop) : Prop := Below B w0 w ∧ B ≤ w.heap.size ∧ (∀ k, X k → k < w.heap.size) ∧ ∃ bl, FSt w b y bl n N A ∧ ∀ k, bl k → B ≤ k ∧ ¬ X k
/-- Blocks that stay. -/
def Kept (X : Nat → Prop) (w w' : World) : Prop := ∀ k, X k → w'.heap[k]? = w.heap[k]?
section
variable {B : Nat} {w0 w w' : World} {b y n N : Nat} {A : M} {X : Nat → Prop}
theorem MyX.step (h : MyX B w0 w b y n N A X) (hb : Below w.heap.size w w') : MyX B w0 w' b y n N A X := by
  obtain ⟨h1, h2, hx, bl, h3, h4⟩ := h
  exact ⟨h1.trans (hb.mono h2), Nat.le_trans h2 hb.size, fun k hk => Nat.lt_of_lt_of_le (hx k hk) hb.size, bl, h3.below hb, h4⟩
theorem MyX.kept (h : MyX B w0 w b y n N A X) (hb : Below w.heap.size w w') : Kept X w w' := fun k hk => hb.block k (h.2.2.1 k hk)
theorem MyX.turn {bl bl' : Nat → Prop} {A' : M} {N' y' : Nat} (h1 : Below B w0 w) (h2 : B ≤ w.heap.size) (hx : ∀ k, X k → k < w.heap.size) (h4 : ∀ k, bl k → B ≤ k ∧ ¬ X k) (g : FSt w' b y' bl' n N' A') (hu : Upd (NoS w bl) w w') (hs : ∀ k, bl' k → bl k ∨ w.heap.size ≤ k) : MyX B w0 w' b y' n N' A' X ∧ Kept X w w' :=
  ⟨⟨below_upd h1 hu (fun k hk => (h4 k hk.1).1) h2, Nat.le_trans h2 hu.size, fun k hk => Nat.lt_of_lt_of_le (hx k hk) hu.size, bl', g, fun k hk => (hs k hk).elim (h4 k) (fun e => ⟨Nat.le_trans h2 e, fun f => by have := hx k f; omega⟩)⟩,
    fun k hk => hu.block k (hx k hk) (fun f => (h4 k f.1).2 hk)⟩
theorem myx_commit {a : Option Addr} {cap : Nat} {l : List Chg} (h : MyX B w0 w b y n N A X) (hN : N < 1000000000) (hL : ChgsAt w a l) (hlen : l.length ≤ 100000) (hw : weigh l ≤ 900000) :
    Calls Tryz.prog 17 #[.pointer (some ⟨y, 0, none⟩), .slice a l.length cap] w fun e w' => e = .returned (.int .i64 (codeC n A l)) ∧ MyX B w0 w' b y n (N + 1) (nextC n A l) X ∧ Kept X w w' := by
  obtain ⟨h1, h2, hx, bl, h3, h4⟩ := h
  refine (fst_commit h3 hN hL hlen hw).mono ?_
  rintro e w' ⟨rfl, bl', g1, g2, g3⟩
  exact ⟨rfl, MyX.turn h1 h2 hx h4 g1 g2 g3⟩
theorem myx_crash (h : MyX B w0 w b y n N A X) (keep : List UInt8) (hk : keep.length ≤ 1000000000) :
    Calls Tryz.prog 23 #[.pointer (some ⟨b, 0, none⟩), .string (bs keep)] w fun e w' => e = .returned (.int .i64 0) ∧ MyX B w0 w' b y n N A X ∧ Kept X w w' := by
  obtain ⟨h1, h2, hx, bl, h3, h4⟩ := h
  refine (fst_crash h3 keep hk).mono ?_
  rintro e w' ⟨rfl, bl', g1, g2, g3⟩
  exact ⟨rfl, MyX.turn h1 h2 hx h4 g1 g2 g3⟩
theorem myx_again (h : MyX B w0 w b y n N A X) :
    Calls Tryz.prog 24 #[.pointer (some ⟨b, 0, none⟩)] w fun e w' => ∃ y2, e = .returned (.tuple #[.pointer (some ⟨y2, 0, none⟩), .int .i64 0]) ∧ MyX B w0 w' b y2 n N A X ∧ Kept X w w' := by
  obtain ⟨h1, h2, hx, bl, h3, h4⟩ := h
  refine (fst_again h3).mono ?_
  rintro e w' ⟨y2, bl1, bl2, rfl, g1, g2, g3, g4, g5, _⟩
  exact ⟨y2, rfl, MyX.turn h1 h2 hx h4 g2 g3 g5⟩
theorem myx_get (h : MyX B w0 w b y n N A X) (k : T) (hk : k.length ≤ maxLen) :
    Calls Tryz.prog 16 #[.pointer (some ⟨y, 0, none⟩), .string (bs k)] w fun e w' => e = .returned (.tuple #[.string (bs ((Fil.get A k).getD [])), .bool (Fil.get A k).isSome]) ∧ Below w.heap.size w w' := by
  obtain ⟨h1, h2, hx, bl, h3, h4⟩ := h
  refine (fst_get h3 k hk).mono ?_
  rintro e w' ⟨rfl, g1, g2⟩
  exact ⟨rfl, g2⟩
theorem myx_room (h : MyX B w0 w b y n N A X) : Calls Tryz.prog 48 #[.pointer (some ⟨y, 0, none⟩)] w fun e w' => e = .returned (.int .i64 (roomN n : Int)) ∧ w = w' := by
  obtain ⟨h1, h2, hx, bl, h3, h4⟩ := h
  exact fst_room h3
end
theorem new_fst {w : World} (n : Nat) (h1 : 1 ≤ n) (h2 : n ≤ 16384) :
    Calls Tryz.prog 75 #[.int .i64 n] w fun e w' => ∃ b fp, e = .returned (.tuple #[.pointer (some ⟨b, 0, none⟩), .int .i64 0]) ∧ DiskAt w' b (Dsk.new n) fp ∧ Below w.heap.size w w' ∧ ∀ k, fp k → w.heap.size ≤ k := new_ok n w h1 h2
/-- Files of a statement's own, from block B on; what lay below B is as it was. -/
def MyF (B : Nat) (w0 w : World) (b y n N : Nat) (A : M) : Prop := Below B w0 w ∧ B ≤ w.heap.size ∧ ∃ bl, FSt w b y bl n N A ∧ ∀ k, bl k → B ≤ k
section
variable {B : Nat} {w0 w w' : World} {b y n N : Nat} {A : M}
theorem MyF.step (h : MyF B w0 w b y n N A) (hb : Below w.heap.size w w') : MyF B w0 w' b y n N A := by
  obtain ⟨h1, h2, bl, h3, h4⟩ := h
  exact ⟨h1.trans (hb.mono h2), Nat.le_trans h2 hb.size, bl, h3.below hb, h4⟩
theorem MyF.turn {bl bl' : Nat → Prop} {A' : M} {N' y' : Nat} (h1 : Below B w0 w) (h2 : B ≤ w.heap.size) (h4 : ∀ k, bl k → B ≤ k) (g : FSt w' b y' bl' n N' A') (hu : Upd (NoS w bl) w w') (hs : ∀ k, bl' k → bl k ∨ w.heap.size ≤ k) : MyF B w0 w' b y' n N' A' :=
  ⟨below_upd h1 hu (fun k hk => h4 k hk.1) h2, Nat.le_trans h2 hu.size, bl', g, fun k hk => (hs k hk).elim (h4 k) (fun e => Nat.le_trans h2 e)⟩
theorem my_commit {a : Option Addr} {cap : Nat} {l : List Chg} (h : MyF B w0 w b y n N A) (hN : N < 1000000000) (hL : ChgsAt w a l) (hlen : l.length ≤ 100000) (hw : weigh l ≤ 900000) :
    Calls Tryz.prog 17 #[.pointer (some ⟨y, 0, none⟩), .slice a l.length cap] w fun e w' => e = .returned (.int .i64 (codeC n A l)) ∧ MyF B w0 w' b y n (N + 1) (nextC n A l) := by
  obtain ⟨h1, h2, bl, h3, h4⟩ := h
  refine (fst_commit h3 hN hL hlen hw).mono ?_
  rintro e w' ⟨rfl, bl', g1, g2, g3⟩
  exact ⟨rfl, MyF.turn h1 h2 h4 g1 g2 g3⟩
theorem my_crash (h : MyF B w0 w b y n N A) (keep : List UInt8) (hk : keep.length ≤ 1000000000) :
    Calls Tryz.prog 23 #[.pointer (some ⟨b, 0, none⟩), .string (bs keep)] w fun e w' => e = .returned (.int .i64 0) ∧ MyF B w0 w' b y n N A := by
  obtain ⟨h1, h2, bl, h3, h4⟩ := h
  refine (fst_crash h3 keep hk).mono ?_
  rintro e w' ⟨rfl, bl', g1, g2, g3⟩
  exact ⟨rfl, MyF.turn h1 h2 h4 g1 g2 g3⟩
theorem my_again (h : MyF B w0 w b y n N A) :
    Calls Tryz.prog 24 #[.pointer (some ⟨b, 0, none⟩)] w fun e w' => ∃ y2, e = .returned (.tuple #[.pointer (some ⟨y2, 0, none⟩), .int .i64 0]) ∧ MyF B w0 w' b y n N A ∧ MyF B w0 w' b y2 n N A := by
  obtain ⟨h1, h2, bl, h3, h4⟩ := h
  refine (fst_again h3).mono ?_
  rintro e w' ⟨y2, bl1, bl2, rfl, g1, g2, g3, g4, g5, _⟩
  exact ⟨y2, rfl, MyF.turn h1 h2 h4 g1 g3 g4, MyF.turn h1 h2 h4 g2 g3 g5⟩
theorem my_new {fp : Nat → Prop} (h1 : Below B w0 w) (h2 : B ≤ w.heap.size) (hn : 8 ≤ n) (hn2 : n ≤ 16384) (hd : DiskAt w b (Dsk.new n) fp) (hf : ∀ k, fp k → B ≤ k) :
    Calls Tryz.prog 24 #[.pointer (some ⟨b, 0, none⟩)] w fun e w' => ∃ y, e = .returned (.tuple #[.pointer (some ⟨y, 0, none⟩), .int .i64 0]) ∧ MyF B w0 w' b y n 0 [] := by
  refine (fst_new n hn hn2 hd).mono ?_
  rintro e w' ⟨y, bl', rfl, g1, g2, g3, _⟩
  exact ⟨y, rfl, below_upd h1 g2 hf h2, Nat.le_trans h2 g2.size, bl', g1, fun k hk => (g3 k hk).elim (hf k) (fun e => Nat.le_trans h2 e)⟩
theorem my_get (h : MyF B w0 w b y n N A) (k : T) (hk : k.length ≤ maxLen) :
    Calls Tryz.prog 16 #[.pointer (some ⟨y, 0, none⟩), .string (bs k)] w fun e w' => e = .returned (.tuple #[.string (bs ((Fil.get A k).getD [])), .bool (Fil.get A k).isSome]) ∧ Below w.heap.size w w' := by
  obtain ⟨h1, h2, bl, h3, h4⟩ := h
  refine (fst_get h3 k hk).mono ?_
  rintro e w' ⟨rfl, g1, g2⟩
  exact ⟨rfl, g2⟩
theorem my_room (h : MyF B w0 w b y n N A) : Calls Tryz.prog 48 #[.pointer (some ⟨y, 0, none⟩)] w fun e w' => e = .returned (.int .i64 (roomN n : Int)) ∧ w = w' := by
  obtain ⟨h1, h2, bl, h3, h4⟩ := h
  exact fst_room h3
/-- What lies above the files is none of theirs. -/
theorem MyF.beside (h : MyF B w0 w b y n N A) (hb : Below w.heap.size w w') : MyX B w0 w' b y n N A (fun k => w.heap.size ≤ k ∧ k < w'.heap.size) := by
  obtain ⟨h1, h2, bl, h3, h4⟩ := h
  exact ⟨h1.trans (hb.mono h2), Nat.le_trans h2 hb.size, fun k hk => hk.2, _, h3.shrink.below hb, fun k hk => ⟨h4 k hk.1, fun e => by have := hk.2; omega⟩⟩
theorem below_alloc (w : World) (o : Obj) : Below w.heap.size w (w.alloc o) := (Below.refl _ _).alloc (Nat.le_refl _) _
end
/-- The changes of the chapter's example. -/
def avC1 : Chg := ⟨[97], [120, 121, 122], false⟩
def avC2 : Chg := ⟨[97], [], true⟩
def avC3 : Chg := ⟨[], [], false⟩
theorem av6a : codeC 40 [] [avC1] = 0 ∧ nextC 40 [] [avC1] = [([97], [120, 121, 122])] := by constructor <;> decide
theorem av6b : codeC 40 [([97], [120, 121, 122])] [avC2] = 0 ∧ nextC 40 [([97], [120, 121, 122])] [avC2] = [] := by constructor <;> decide
theorem av6c : codeC 40 [] [avC3] = 2 := by decide
theorem avR : roomN 40 = 1084 := by decide
theorem avU : used [([97], [120, 121, 122])] = 16 ∧ used ([] : M) = 4 := by constructor <;> rfl
end Go.Proofs.YtdmbadkpendfhaaGreatDoor
