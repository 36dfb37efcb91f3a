/- FilAlive -/
import Derived.Test.YtoaihngckcbhiaaGreatDoorPkFilOpenW
import Derived.Test.YtoaihngckcbhiaaGreatDoorPkFilNames2
namespace Go.Proofs.YtoaihngckcbhiaaGreatDoor.Fil
theorem costs_del (k : T) (F : M) : ((del k F).map cost).sum ≤ (F.map cost).sum := by
  unfold del
  induction F with
  | nil => simp
  | cons p F ih =>
    rw [List.filter_cons]
    split
    · simp only [List.map_cons, List.sum_cons]; omega
    · simp only [List.map_cons, List.sum_cons]; omega
theorem used_on {F : M} (hu : Up F) (c : Chg) : used (Chg.on F c) ≤ used F + (8 + c.name.length + c.data.length) := by
  unfold Chg.on used
  have hd := costs_del c.name F
  split
  · omega
  · have hp := ((put_perm (v := c.data) hu c.name).map cost).sum_nat
    rw [hp, List.map_cons, List.sum_cons]
    have : cost (c.name, c.data) = 8 + c.name.length + c.data.length := rfl
    omega
def weigh (l : List Chg) : Nat := (l.map fun c => 8 + c.name.length + c.data.length).sum
theorem weigh_mem {l : List Chg} {c : Chg} (h : c ∈ l) : 8 + c.name.length + c.data.length ≤ weigh l := by
  unfold weigh
  induction l with
  | nil => simp at h
  | cons x l ih =>
    rw [List.map_cons, List.sum_cons]
    rcases List.mem_cons.1 h with rfl | h
    · omega
    · have := ih h; omega
theorem used_made {F : M} (hu : Up F) (l : List Chg) : used (made F l) ≤ used F + weigh l := by
  induction l generalizing F with
  | nil => exact Nat.le_add_right _ _
  | cons c l ih =>
    have h1 := ih (hu.on c)
    have h2 := used_on hu c
    show used (made (Chg.on F c) l) ≤ _
    unfold weigh at h1 ⊢
    rw [List.map_cons, List.sum_cons]
    omega
theorem group_weigh (l : List Chg) : rowLen (group l) ≤ 2 + weigh l := by
  unfold rowLen weigh group
  induction l with
  | nil => simp
  | cons c l ih =>
    simp only [List.flatMap_cons, List.map_append, List.sum_append, List.map_cons, List.sum_cons, List.map_nil, List.sum_nil, List.length_cons] at ih ⊢
    omega
def roomN (n : Nat) : Nat := sz n * 64 - 4
def codeC (n : Nat) (A : M) (l : List Chg) : Int := if l.all Chg.may = false then 2 else if roomN n < used (made A l) then 4 else 0
def nextC (n : Nat) (A : M) (l : List Chg) : M := if l.all Chg.may = true ∧ used (made A l) ≤ roomN n then made A l else A
end Go.Proofs.YtoaihngckcbhiaaGreatDoor.Fil
namespace Go.Proofs.YtoaihngckcbhiaaGreatDoor
open Go.RowKit Go.Maps
open Fil
def FOk (fz : Bool) (w : World) (b y : Nat) (bl : Nat → Prop) (n N : Nat) (A : M) : Prop :=
  ∃ D fp m x gv F, DiskAt w b D fp ∧ FilIn w y b m x gv F ∧ ¬ fp m ∧ Fil.Calm D F ∧ (fz = false → D.left = -1) ∧ D.n = n ∧ F.w.gen ≤ N ∧ F.m = A ∧ (∀ k, fp k ∨ filBlocks y m x gv k → bl k)
abbrev FSt := FOk false
def kindsF : List TypeId := [72, 123, 68, 135, 30]
def NoS (w : World) (bl : Nat → Prop) (k : Nat) : Prop := bl k ∧ ∀ t, BlkOf w k t → t ∈ kindsF
theorem NoS.not {w : World} {bl : Nat → Prop} {k : Nat} {t : TypeId} (h : NoS w bl k) (hb : BlkOf w k t) (ht : t ∉ kindsF) : False := ht (h.2 t hb)
section
variable {w w' : World} {b y : Nat} {bl : Nat → Prop} {n N : Nat} {A : M} {fz : Bool}
theorem FOk.upd {P : Nat → Prop} (h : FOk fz w b y bl n N A) (hu : Upd P w w') (hs : ∀ k, BlkOf w k 9 → ¬ P k) (hP : ∀ k, bl k → ¬ P k) : FOk fz w' b y bl n N A := by
  obtain ⟨D, fp, m, x, gv, F, h1, h2, h3, h4, h5, h6, h7, h8, h9⟩ := h
  exact ⟨D, fp, m, x, gv, F, h1.upd hu (fun k hk => hP k (h9 k (.inl hk))), h2.upd hu hs (fun k hk => hP k (h9 k (.inr hk))), h3, h4, h5, h6, h7, h8, h9⟩
theorem FOk.below (h : FOk fz w b y bl n N A) (hb : Below w.heap.size w w') : FOk fz w' b y bl n N A := h.upd (Upd.of_below (F := fun _ => False) hb) (fun _ _ f => f) (fun _ _ f => f)
theorem FOk.more {N' : Nat} (h : FOk fz w b y bl n N A) (hN : N ≤ N') : FOk fz w b y bl n N' A := by
  obtain ⟨D, fp, m, x, gv, F, h1, h2, h3, h4, h5, h6, h7, h8, h9⟩ := h
  exact ⟨D, fp, m, x, gv, F, h1, h2, h3, h4, h5, h6, by omega, h8, h9⟩
theorem FOk.up (h : FOk fz w b y bl n N A) : Up A ∧ Fil.Good A ∧ used A ≤ roomN n ∧ 8 ≤ n ∧ n ≤ 16384 := by
  obtain ⟨D, fp, m, x, gv, F, h1, h2, h3, h4, h5, h6, h7, h8, h9⟩ := h
  subst h8 h6
  refine ⟨h4.up, h4.good, ?_, h4.n8, h4.disk.fine.n2⟩
  have := h4.room
  unfold St.room at this
  rw [h4.size] at this
  exact this
theorem roomN_le {n : Nat} (h : n ≤ 16384) : roomN n ≤ 524288 := by unfold roomN sz lg; omega
theorem noS_of {D : Dsk} {fp : Nat → Prop} {m x : Nat} {gv : Value} {F : St} (hd : DiskAt w b D fp) (hf : FilIn w y b m x gv F) (h9 : ∀ k, fp k ∨ filBlocks y m x gv k → bl k) (k : Nat) (hk : fp k ∨ k = y ∨ walBlocks x gv k) : NoS w bl k := by
  refine ⟨h9 k (hk.imp id (fun e => e.elim .inl (fun e => .inr (.inr e)))), fun t hb => ?_⟩
  unfold kindsF
  rcases hk with e | e | e
  · by_cases h1 : t = 72
    · subst h1; simp
    · by_cases h2 : t = 123
      · subst h2; simp
      · exact (hd.noBlk _ e h1 h2 hb).elim
  · subst e
    by_cases h1 : t = 68
    · subst h1; simp
    · exact (BlkOf.ne hb hf.blk h1 rfl).elim
  · rcases hf.wal.kind e with g | g
    · by_cases h1 : t = 135
      · subst h1; simp
      · exact (BlkOf.ne hb g h1 rfl).elim
    · by_cases h1 : t = 30
      · subst h1; simp
      · exact (BlkOf.ne hb g h1 rfl).elim
theorem Upd.noS {bl : Nat → Prop} (hu : Upd (NoS w bl) w w') {k : Nat} {t : TypeId} {cs : Array Value} {fr : Nat × Nat} (h : w.heap[k]? = some (.cells cs t fr)) (ht : t ∉ kindsF) : w'.heap[k]? = some (.cells cs t fr) :=
  (hu.block k (blk_lt h) (fun e => e.not ⟨_, _, h⟩ ht)).trans h
theorem groups_small {D : Dsk} {F : St} (h : Fil.Calm D F) : F.w.groups.length ≤ 20000 := by
  have hw := h.wal
  unfold logAt at hw
  obtain ⟨g1, g2, g3⟩ := lg_sz h.n8
  rw [h.wfrom, h.wn, h.log, ← h.disk.now] at hw
  exact (log_small h.disk.fine (by omega) (by omega) hw).2.1
def FDn (w : World) (b y : Nat) (bl : Nat → Prop) (n N : Nat) (A A' : M) : Prop :=
  ∃ D fp m x gv F, DiskAt w b D fp ∧ FilIn w y b m x gv F ∧ ¬ fp m ∧ F.fault = 40 ∧ D.loose.length ≤ 100000000 ∧ D.n = n ∧ (Fil.Good A ∧ used A ≤ roomN n ∧ n ≤ 16384) ∧ F.m = A ∧ (∀ keep, ∃ F' D', Opens (D.crash keep) F' D' ∧ D'.left = -1 ∧ F'.w.gen ≤ N ∧ (F'.m = A ∨ F'.m = A')) ∧ (∀ k, fp k ∨ filBlocks y m x gv k → bl k)
theorem FDn.upd {P : Nat → Prop} {A' : M} (h : FDn w b y bl n N A A') (hu : Upd P w w') (hs : ∀ k, BlkOf w k 9 → ¬ P k) (hP : ∀ k, bl k → ¬ P k) : FDn w' b y bl n N A A' := by
  obtain ⟨D, fp, m, x, gv, F, h1, h2, h3, h4, h5, h6, h7, h8, h9, h10⟩ := h
  exact ⟨D, fp, m, x, gv, F, h1.upd hu (fun k hk => hP k (h10 k (.inl hk))), h2.upd hu hs (fun k hk => hP k (h10 k (.inr hk))), h3, h4, h5, h6, h7, h8, h9, h10⟩
def FRe (fz : Bool) (w : World) (b y : Nat) (bl : Nat → Prop) (n N : Nat) (A : M) (r : Int × M) (c : Int) : Prop :=
  (c = r.1 ∧ FOk fz w b y bl n N r.2) ∨ (fz = true ∧ c = 40 ∧ r.1 = 0 ∧ FDn w b y bl n N A r.2)
theorem FRe.upd {P : Nat → Prop} {r : Int × M} {c : Int} (h : FRe fz w b y bl n N A r c) (hu : Upd P w w') (hs : ∀ k, BlkOf w k 9 → ¬ P k) (hP : ∀ k, bl k → ¬ P k) : FRe fz w' b y bl n N A r c :=
  h.imp (fun e => ⟨e.1, e.2.upd hu hs hP⟩) (fun e => ⟨e.1, e.2.1, e.2.2.1, e.2.2.2.upd hu hs hP⟩)
theorem FRe.calm {r : Int × M} {c : Int} (h : FRe false w b y bl n N A r c) : c = r.1 ∧ FSt w b y bl n N r.2 := by
  rcases h with h | ⟨h, _⟩
  · exact h
  · cases h
theorem FRe.zero {r : Int × M} (h : FRe fz w b y bl n N A r 0) : r.1 = 0 ∧ FOk fz w b y bl n N r.2 := by
  rcases h with h | ⟨_, h, _⟩
  · exact ⟨h.1.symm, h.2⟩
  · cases h
theorem doS_small (l : List (Dsk → Dsk × Int)) (D : Dsk) (h : ∀ f ∈ l, ∀ D, (f D).1.loose.length ≤ D.loose.length + 1000000) (hl : l.length ≤ 4) : (doS l D).1.loose.length ≤ D.loose.length + 4000000 := by
  have := doS_loose 1000000 l D h
  omega
theorem reset_small (D : Dsk) (L : WLog) : (wreset D L).1.loose.length ≤ D.loose.length + 4000000 := by
  have hd := doS_small L.racts D (fun f hf D => by
    unfold WLog.racts at hf
    simp only [List.mem_cons, List.not_mem_nil, or_false] at hf
    rcases hf with rfl | rfl
    · have := Dsk.write_loose D (L.from_ : Int) (Wal.mark ((L.gen + 1) % 18446744073709551616) 0)
      rw [Wal.mark_length] at this
      show (D.write (L.from_ : Int) (Wal.mark ((L.gen + 1) % 18446744073709551616) 0)).1.loose.length ≤ _
      omega
    · have := Dsk.flush_loose D
      omega) (by show 2 ≤ 4; omega)
  unfold wreset
  split
  · show D.loose.length ≤ _; omega
  · split <;> exact hd
theorem append_small (D : Dsk) (L : WLog) (l : List T) (hl : rowLen l ≤ 10000000) : (wappend D L l).1.loose.length ≤ D.loose.length + 4000000 := by
  unfold wappend
  split
  · show D.loose.length ≤ _; omega
  · split
    · show D.loose.length ≤ _; omega
    · rename_i s hs
      have hsm : s.length ≤ rowLen l + 68 := by
        have := groupV_length l
        unfold groupV at this
        rw [hs] at this
        exact this
      have hd := doS_small (L.acts s) D (fun f hf D => by
        unfold WLog.acts at hf
        simp only [List.mem_cons, List.not_mem_nil, or_false] at hf
        rcases hf with rfl | rfl | rfl | rfl
        · have := Dsk.write_loose D ((L.from_ + 1 + L.used : Nat) : Int) s
          show (D.write ((L.from_ + 1 + L.used : Nat) : Int) s).1.loose.length ≤ _
          omega
        · have := Dsk.flush_loose D
          omega
        · have := Dsk.write_loose D (L.from_ : Int) (Wal.mark L.gen (L.used + s.length / 64))
          rw [Wal.mark_length] at this
          show (D.write (L.from_ : Int) (Wal.mark L.gen (L.used + s.length / 64))).1.loose.length ≤ _
          omega
        · have := Dsk.flush_loose D
          omega) (by show 4 ≤ 4; omega)
      split
      · show D.loose.length ≤ _; omega
      · split <;> exact hd
theorem laid_small (D : Dsk) (F : St) (m : M) (hu : used m ≤ 10000000) : (laidS D F m).1.loose.length ≤ D.loose.length + 8000000 := by
  have ha := areaB_length m
  have hd := doS_small (laidActs F m) D (fun f hf D => by
    unfold laidActs at hf
    simp only [List.mem_cons, List.not_mem_nil, or_false] at hf
    rcases hf with rfl | rfl | rfl | rfl
    · have := Dsk.write_loose D ((begin_ F.log F.size (1 - F.area) : Nat) : Int) (areaB m)
      show (D.write ((begin_ F.log F.size (1 - F.area) : Nat) : Int) (areaB m)).1.loose.length ≤ _
      omega
    · have := Dsk.flush_loose D
      omega
    · have := Dsk.write_loose D ((0 : Nat) : Int) (Fil.mark (1 - F.area) ((F.w.gen + 1) % 18446744073709551616))
      rw [Fil.mark_length] at this
      show (D.write ((0 : Nat) : Int) (Fil.mark (1 - F.area) ((F.w.gen + 1) % 18446744073709551616))).1.loose.length ≤ _
      omega
    · have := Dsk.flush_loose D
      omega) (by show 4 ≤ 4; omega)
  have hr := reset_small (doS (laidActs F m) D).1 F.w
  unfold laidS
  split
  · split
    · show (wreset (doS (laidActs F m) D).1 F.w).1.loose.length ≤ _; omega
    · show (wreset (doS (laidActs F m) D).1 F.w).1.loose.length ≤ _; omega
  · show (doS (laidActs F m) D).1.loose.length ≤ _; omega
theorem commit_small (D : Dsk) (F : St) (l : List Chg) (h1 : rowLen (group l) ≤ 10000000) (h2 : used (made F.m l) ≤ 10000000) : (commitS D F l).1.loose.length ≤ D.loose.length + 8000000 := by
  have ha := append_small D F.w (group l) h1
  have hl := laid_small D F (made F.m l) h2
  unfold commitS
  split
  · show D.loose.length ≤ _; omega
  · split
    · show D.loose.length ≤ _; omega
    · split
      · show D.loose.length ≤ _; omega
      · split
        · split
          · show (wappend D F.w (group l)).1.loose.length ≤ _; omega
          · show (wappend D F.w (group l)).1.loose.length ≤ _; omega
        · exact hl
set_option maxRecDepth 100000 in
theorem fok_commit {a : Option Addr} {cap : Nat} {l : List Chg} (h : FOk fz w b y bl n N A) (hN : N < 1000000000) (hL : ChgsAt w a l) (hlen : l.length ≤ 100000) (hw : weigh l ≤ 900000) :
    Calls Tryz.prog 42 #[.pointer (some ⟨y, 0, none⟩), .slice a l.length cap] w fun e w' => ∃ c : Int, e = .returned (.int .i64 c) ∧ ∃ bl', FRe fz w' b y bl' n (N + 1) A (codeC n A l, nextC n A l) c ∧ Upd (NoS w bl) w w' ∧ ∀ k, bl' k → bl k ∨ w.heap.size ≤ k := by
  have hup := h.up
  obtain ⟨D, fp, m, x, gv, F, h1, h2, h3, h4, h5, h6, h7, h8, h9⟩ := h
  have hok : ∀ c ∈ l, c.name.length ≤ 1000000 ∧ c.data.length ≤ maxLen := fun c hc => by
    have := weigh_mem hc
    unfold maxLen
    omega
  have hroom := roomN_le hup.2.2.2.2
  have hus := used_made hup.1 l
  have hrr : F.room = roomN n := by unfold St.room roomN; rw [h4.size, h6]
  have hgw := group_weigh l
  have hul := used_len A
  have hloose : D.loose.length = 0 := by rw [h4.disk.loose]; rfl
  have hsm := commit_small D F l (by omega) (by rw [h8]; omega)
  have key : Calls Tryz.prog 42 #[.pointer (some ⟨y, 0, none⟩), .slice a l.length cap] w fun e w' => CommitPost w y b m x gv fp (commitS D F l) e w' := by
    by_cases hall : l.all Chg.may = true
    · exact fcommit_in h1 h2 h3 hL hlen hok h4.good (by rw [h8]; omega) (by rw [h8]; omega) (by rw [h4.size]; have := h4.disk.fine.n2; unfold sz; omega) (by omega) (by omega) (by have := groups_small h4; omega) h4.fault hall
    · exact fcommit_bad h1 h2 h3 hL hlen (fun c hc => ⟨Nat.le_trans (hok c hc).1 (by unfold maxLen; omega), (hok c hc).2⟩) h4.fault (by simpa using hall)
  refine key.mono ?_
  rintro e w' ⟨m', ⟨he, fp', gv', p1, p2, p3, p4, p5, p6⟩, hm'⟩
  refine ⟨_, he, fun k => bl k ∨ w.heap.size ≤ k, ?_, p4.mono (fun k hk => noS_of h1 h2 h9 k hk), fun k hk => hk⟩
  have hbl : ∀ k, fp' k ∨ filBlocks y m' x gv' k → bl k ∨ w.heap.size ≤ k := by
    rintro k (hk | hk | hk | hk)
    · exact (p5 k hk).imp (fun e => h9 k (.inl e)) id
    · exact .inl (h9 k (.inr (.inl hk)))
    · subst hk
      exact hm'.imp (fun e => h9 _ (.inr (.inr (.inl e)))) id
    · exact (p6 k hk).imp (fun e => h9 k (.inr (.inr (.inr e)))) id
  by_cases hall : l.all Chg.may = true
  · by_cases hr : used (made F.m l) ≤ F.room
    · have hc := commit_any h4 (by omega) hall hr
      have hcode : codeC n A l = 0 := by unfold codeC; rw [if_neg (by simp [hall]), if_neg (by rw [← h8, ← hrr]; omega)]
      have hnext : nextC n A l = made A l := by unfold nextC; rw [if_pos ⟨hall, by rw [← h8, ← hrr]; exact hr⟩]
      rw [hcode, hnext]
      rcases hc.out with ⟨o1, o2, o3, o4, o5⟩ | ⟨o1, o2, o3, o4, o5, o6⟩
      · exact .inl ⟨o1, _, fp', m', x, gv', _, p1, p2, p3, o2, fun e => o5 (h5 e), hc.n.trans h6, by omega, by rw [← h8]; exact o3, hbl⟩
      · refine .inr ⟨?_, o1, rfl, _, fp', m', x, gv', _, p1, p2, p3, o3, by omega, hc.n.trans h6, ⟨hup.2.1, hup.2.2.1, hup.2.2.2.2⟩, o4.trans h8, fun keep => ?_, hbl⟩
        · cases fz with
          | false => exact absurd (h5 rfl) o2
          | true => rfl
        · obtain ⟨F', D', q1, q2, q3, q4⟩ := o6 keep
          exact ⟨F', D', q1, q2, by omega, by rw [← h8]; exact q4⟩
    · have e1 : commitS D F l = (D, F, 4) := by
        unfold commitS
        rw [if_neg (by simp [h4.fault]), if_neg (by simp [hall]), if_pos (by omega)]
      have hcode : codeC n A l = 4 := by unfold codeC; rw [if_neg (by simp [hall]), if_pos (by rw [← h8, ← hrr]; omega)]
      have hnext : nextC n A l = A := by unfold nextC; rw [if_neg (fun e => hr (by rw [h8, hrr]; exact e.2))]
      rw [e1] at p1 p2 ⊢
      rw [hcode, hnext]
      exact .inl ⟨rfl, D, fp', m', x, gv', F, p1, p2, p3, h4, h5, h6, by omega, h8, hbl⟩
  · have hl2 : l.all Chg.may = false := by simpa using hall
    have e1 : commitS D F l = (D, F, 2) := by
      unfold commitS
      rw [if_neg (by simp [h4.fault]), if_pos hl2]
    have hcode : codeC n A l = 2 := by unfold codeC; rw [if_pos hl2]
    have hnext : nextC n A l = A := by unfold nextC; rw [if_neg (fun e => hall e.1)]
    rw [e1] at p1 p2 ⊢
    rw [hcode, hnext]
    exact .inl ⟨rfl, D, fp', m', x, gv', F, p1, p2, p3, h4, h5, h6, by omega, h8, hbl⟩
theorem fst_commit {a : Option Addr} {cap : Nat} {l : List Chg} (h : FSt w b y bl n N A) (hN : N < 1000000000) (hL : ChgsAt w a l) (hlen : l.length ≤ 100000) (hw : weigh l ≤ 900000) :
    Calls Tryz.prog 42 #[.pointer (some ⟨y, 0, none⟩), .slice a l.length cap] w fun e w' => e = .returned (.int .i64 (codeC n A l)) ∧ ∃ bl', FSt w' b y bl' n (N + 1) (nextC n A l) ∧ Upd (NoS w bl) w w' ∧ ∀ k, bl' k → bl k ∨ w.heap.size ≤ k :=
  (fok_commit h hN hL hlen hw).mono fun e w' ⟨c, he, bl', g1, g2⟩ => by
    obtain ⟨rfl, g3⟩ := g1.calm
    exact ⟨he, bl', g3, g2⟩
theorem FOk.loosen (h : FSt w b y bl n N A) : FOk true w b y bl n N A := by
  obtain ⟨D, fp, m, x, gv, F, h1, h2, h3, h4, h5, h6⟩ := h
  exact ⟨D, fp, m, x, gv, F, h1, h2, h3, h4, (fun e => by cases e), h6⟩
set_option maxRecDepth 100000 in
theorem fst_open {D D' : Dsk} {fp : Nat → Prop} {F : St} (hd : DiskAt w b D fp) (h : Opens D F D') (hleft : D'.left = -1) (hloose : D.loose.length ≤ 300000000) (hN : F.w.gen ≤ N) :
    Calls Tryz.prog 11 #[.pointer (some ⟨b, 0, none⟩)] w fun e w' => ∃ y bl', e = .returned (.tuple #[.pointer (some ⟨y, 0, none⟩), .int .i64 0]) ∧ FSt w' b y bl' D.n N F.m ∧ Upd fp w w' ∧ (∀ k, bl' k → fp k ∨ w.heap.size ≤ k) ∧ w.heap.size ≤ y :=
  (fopen_any hd h.1 hloose).mono (by
    rintro e w' ⟨y, m, x, gv, fp', rfl, p1, p2, p3, p4, p5, p6⟩
    refine ⟨y, fun k => fp k ∨ w.heap.size ≤ k, rfl, ⟨D', fp', m, x, gv, F, p1, p2, p3, h.2.1, fun _ => hleft, h.2.2, hN, rfl, ?_⟩, p4, fun k hk => hk, p6 y (.inl rfl)⟩
    rintro k (hk | hk)
    · exact p5 k hk
    · exact .inr (p6 k hk))
theorem fst_new (n : Nat) (hn : 8 ≤ n) (hn2 : n ≤ 16384) {fp : Nat → Prop} (hd : DiskAt w b (Dsk.new n) fp) :
    Calls Tryz.prog 11 #[.pointer (some ⟨b, 0, none⟩)] w fun e w' => ∃ y bl', e = .returned (.tuple #[.pointer (some ⟨y, 0, none⟩), .int .i64 0]) ∧ FSt w' b y bl' n 0 [] ∧ Upd fp w w' ∧ (∀ k, bl' k → fp k ∨ w.heap.size ≤ k) ∧ w.heap.size ≤ y :=
  fst_open (N := 0) hd (Fil.Calm.new hn hn2).opens rfl (by show (0 : Nat) ≤ _; omega) (Nat.le_refl 0)
theorem fst_get (h : FOk fz w b y bl n N A) (k : T) (hk : k.length ≤ maxLen) :
    Calls Tryz.prog 44 #[.pointer (some ⟨y, 0, none⟩), .string (bs k)] w fun e w' => e = .returned (.tuple #[.string (bs ((Fil.get A k).getD [])), .bool (Fil.get A k).isSome]) ∧ FOk fz w' b y bl n N A ∧ Below w.heap.size w w' := by
  have h0 := h
  obtain ⟨D, fp, m, x, gv, F, h1, h2, h3, h4, h5, h6, h7, h8, h9⟩ := h
  refine (fget_any h2 k hk).mono ?_
  rintro e w' ⟨rfl, hb⟩
  rw [h8]
  exact ⟨rfl, h0.below hb, hb⟩
theorem chgs_one {W : World} {g : Nat} {c : Chg} (h : W.heap[g]? = some (.cells #[.string (bs c.name), .string (bs c.data), .bool c.gone] 99)) : ChgsAt W (some ⟨g, 0, none⟩) [c] := fun i hi => by
  obtain rfl : i = 0 := by simpa using hi
  refine ⟨⟨g, 0, none⟩, rfl, ?_⟩
  constructor
  · rw [add_plain, add_plain, cell_of_row W g _ _ _ _ h]; rfl
  · rw [add_plain, add_plain, cell_of_row W g _ _ _ _ h]; rfl
  · rw [add_plain, add_plain, cell_of_row W g _ _ _ _ h]; rfl
end
end Go.Proofs.YtoaihngckcbhiaaGreatDoor
namespace Go.Proofs.YtoaihngckcbhiaaGreatDoor
open Go.RowKit Go.Maps
open Fil
theorem FOk.shrink {w : World} {b y : Nat} {bl : Nat → Prop} {n N : Nat} {A : M} {fz : Bool} (h : FOk fz w b y bl n N A) : FOk fz w b y (fun k => bl k ∧ k < w.heap.size) n N A := by
  obtain ⟨D, fp, m, x, gv, F, h1, h2, h3, h4, h5, h6, h7, h8, h9⟩ := h
  exact ⟨D, fp, m, x, gv, F, h1, h2, h3, h4, h5, h6, h7, h8, fun k hk => ⟨h9 k hk, hk.elim (h1.lt k) (h2.lt k)⟩⟩
def MyX (B : Nat) (w0 w : World) (b y n N : Nat) (A : M) (X : Nat → Prop) : Prop := Below B w0 w ∧ B ≤ w.heap.size ∧ (∀ k, X k → k < w.heap.size) ∧ ∃ bl, FSt w b y bl n N A ∧ ∀ k, bl k → B ≤ k ∧ ¬ X k
def Kept (X : Nat → Prop) (w w' : World) : Prop := ∀ k, X k → w'.heap[k]? = w.heap[k]?
section
variable {B : Nat} {w0 w w' : World} {b y n N : Nat} {A : M} {X : Nat → Prop}
theorem MyX.step (h : MyX B w0 w b y n N A X) (hb : Below w.heap.size w w') : MyX B w0 w' b y n N A X := by
  obtain ⟨h1, h2, hx, bl, h3, h4⟩ := h
  exact ⟨h1.trans (hb.mono h2), Nat.le_trans h2 hb.size, fun k hk => Nat.lt_of_lt_of_le (hx k hk) hb.size, bl, h3.below hb, h4⟩
theorem MyX.turn {bl bl' : Nat → Prop} {A' : M} {N' y' : Nat} (h1 : Below B w0 w) (h2 : B ≤ w.heap.size) (hx : ∀ k, X k → k < w.heap.size) (h4 : ∀ k, bl k → B ≤ k ∧ ¬ X k) (g : FSt w' b y' bl' n N' A') (hu : Upd (NoS w bl) w w') (hs : ∀ k, bl' k → bl k ∨ w.heap.size ≤ k) : MyX B w0 w' b y' n N' A' X ∧ Kept X w w' :=
  ⟨⟨below_upd h1 hu (fun k hk => (h4 k hk.1).1) h2, Nat.le_trans h2 hu.size, fun k hk => Nat.lt_of_lt_of_le (hx k hk) hu.size, bl', g, fun k hk => (hs k hk).elim (h4 k) (fun e => ⟨Nat.le_trans h2 e, fun f => by have := hx k f; omega⟩)⟩,
    fun k hk => hu.block k (hx k hk) (fun f => (h4 k f.1).2 hk)⟩
end
theorem new_fst {w : World} (n : Nat) (h1 : 1 ≤ n) (h2 : n ≤ 16384) :
    Calls Tryz.prog 55 #[.int .i64 n] w fun e w' => ∃ b fp, e = .returned (.tuple #[.pointer (some ⟨b, 0, none⟩), .int .i64 0]) ∧ DiskAt w' b (Dsk.new n) fp ∧ Below w.heap.size w w' ∧ ∀ k, fp k → w.heap.size ≤ k := new_ok n w h1 h2
def MyF (B : Nat) (w0 w : World) (b y n N : Nat) (A : M) : Prop := Below B w0 w ∧ B ≤ w.heap.size ∧ ∃ bl, FSt w b y bl n N A ∧ ∀ k, bl k → B ≤ k
section
variable {B : Nat} {w0 w w' : World} {b y n N : Nat} {A : M}
theorem MyF.step (h : MyF B w0 w b y n N A) (hb : Below w.heap.size w w') : MyF B w0 w' b y n N A := by
  obtain ⟨h1, h2, bl, h3, h4⟩ := h
  exact ⟨h1.trans (hb.mono h2), Nat.le_trans h2 hb.size, bl, h3.below hb, h4⟩
theorem MyF.turn {bl bl' : Nat → Prop} {A' : M} {N' y' : Nat} (h1 : Below B w0 w) (h2 : B ≤ w.heap.size) (h4 : ∀ k, bl k → B ≤ k) (g : FSt w' b y' bl' n N' A') (hu : Upd (NoS w bl) w w') (hs : ∀ k, bl' k → bl k ∨ w.heap.size ≤ k) : MyF B w0 w' b y' n N' A' :=
  ⟨below_upd h1 hu (fun k hk => h4 k hk.1) h2, Nat.le_trans h2 hu.size, bl', g, fun k hk => (hs k hk).elim (h4 k) (fun e => Nat.le_trans h2 e)⟩
theorem my_new {fp : Nat → Prop} (h1 : Below B w0 w) (h2 : B ≤ w.heap.size) (hn : 8 ≤ n) (hn2 : n ≤ 16384) (hd : DiskAt w b (Dsk.new n) fp) (hf : ∀ k, fp k → B ≤ k) :
    Calls Tryz.prog 11 #[.pointer (some ⟨b, 0, none⟩)] w fun e w' => ∃ y, e = .returned (.tuple #[.pointer (some ⟨y, 0, none⟩), .int .i64 0]) ∧ MyF B w0 w' b y n 0 [] := by
  refine (fst_new n hn hn2 hd).mono ?_
  rintro e w' ⟨y, bl', rfl, g1, g2, g3, _⟩
  exact ⟨y, rfl, below_upd h1 g2 hf h2, Nat.le_trans h2 g2.size, bl', g1, fun k hk => (g3 k hk).elim (hf k) (fun e => Nat.le_trans h2 e)⟩
theorem below_alloc (w : World) (o : Obj) : Below w.heap.size w (w.alloc o) := (Below.refl _ _).alloc (Nat.le_refl _) _
end
end Go.Proofs.YtoaihngckcbhiaaGreatDoor
