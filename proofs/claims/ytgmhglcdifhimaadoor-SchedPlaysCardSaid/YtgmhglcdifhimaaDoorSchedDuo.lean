/- A master, and the document's, of the same picks. -/
import Derived.Test.YtgmhglcdifhimaaDoorSchedRefDo2
import Derived.Test.YtgmhglcdifhimaaDoorSchedRefAsk
namespace Go.Proofs.YtgmhglcdifhimaaDoor
open Go.RowKit Go.Maps Go.Sort
open Tsk

/-- The program's master, and the document's. -/
structure DuoM (w0 w : World) (P p m : Nat) (lv : Value) (nvs : List Value) (vv : Value) (R r : Nat) (Mp Mr : Sch.Master) (k : Nat) : Prop where
  my : MyM w0 w P p m lv nvs vv Mp k
  vr : ∃ vv', RMast w R r vv' Mr ∧ ∀ g, vv'.ownBlock = some g → ¬ mastBlocks P p m lv vv g
  nR : w0.heap.size ≤ R
  nr : w0.heap.size ≤ r
  pos : 0 < w0.heap.size
section
variable {w0 w w' w1 : World} {P p m R r k j : Nat} {lv vv vv' vv2 : Value} {nvs : List Value} {Mp Mr M2 : Sch.Master}
theorem DuoM.step (h : DuoM w0 w P p m lv nvs vv R r Mp Mr k) (hb : Below w.heap.size w w') : DuoM w0 w' P p m lv nvs vv R r Mp Mr k := by
  obtain ⟨vv', hr, ha⟩ := h.vr
  exact ⟨h.my.step hb, ⟨vv', hr.below hb, ha⟩, h.nR, h.nr, h.pos⟩
theorem refTy_ne {t : TypeId} (h : RefTy t ∨ t = 69) : t ≠ 79 ∧ t ≠ 4 ∧ t ≠ 83 ∧ t ≠ 87 := by
  refine ⟨?_, ?_, ?_, ?_⟩ <;> (intro e; subst e; revert h; unfold RefTy; decide)
theorem DuoM.left (h : DuoM w0 w P p m lv nvs vv R r Mp Mr k) (q : Sch.Pick) (v : List UInt8) (ht : MastTo w w' P p m lv nvs vv (Mp.do_ q v).1) : DuoM w0 w' P p m lv nvs vv R r (Mp.do_ q v).1 Mr (k + 1) := by
  obtain ⟨vv', hr, ha⟩ := h.vr
  refine ⟨h.my.done q v ht, ⟨vv', hr.upd ht.upd (fun i t hb hty => ?_) ha, ha⟩, h.nR, h.nr, h.pos⟩
  obtain ⟨n1, n2, n3, n4⟩ := refTy_ne hty
  exact h.my.mast.notOf hb n1 n2 n3 n4
theorem DuoM.right (h : DuoM w0 w P p m lv nvs vv R r Mp Mr k) (hr : RMast w R r vv' Mr) (ha : ∀ g, vv'.ownBlock = some g → ¬ mastBlocks P p m lv vv g) (ht : RMastTo w w' R r vv' vv2 M2) : DuoM w0 w' P p m lv nvs vv R r Mp M2 k := by
  have hF : ∀ i, mastBlocks P p m lv vv i → ¬ (i = R ∨ i = r) := fun i hi e => by
    rcases e with e | e
    · exact h.my.mast.notOf hr.struct.blk (by decide) (by decide) (by decide) (by decide) (e ▸ hi)
    · exact h.my.mast.notOf hr.board.blk (by decide) (by decide) (by decide) (by decide) (e ▸ hi)
  refine ⟨⟨h.my.mast.upd ht.upd hF (fun i hb => hr.notOf hb (by decide) (by decide)) (fun e => ?_), h.my.fine, h.my.slim, below_upd h.my.below ht.upd (fun i e => ?_) h.my.below.size, h.my.new⟩, ⟨vv2, ht.mast, fun g hg hm => ?_⟩, h.nR, h.nr, h.pos⟩
  · have := h.nR; have := h.nr; have := h.pos; omega
  · rcases e with e | e
    · rw [e]; exact h.nR
    · rw [e]; exact h.nr
  · rcases ht.fresh g hg with e | e
    · exact ha g e hm
    · have := h.my.mast.lt g hm; omega
/-- Writing into an event that was made since. -/
theorem DuoM.wrote {g i : Nat} {cs : List Value} (h : DuoM w0 w P p m lv nvs vv R r Mp Mr k) (he : RowAt w g 42 cs) (hg : w0.heap.size ≤ g) (a : Value) : DuoM w0 (w.setCell ⟨g, i, none⟩ a) P p m lv nvs vv R r Mp Mr k := by
  obtain ⟨vv', hr, ha⟩ := h.vr
  have hu : Upd (fun k => k = g) w (w.setCell ⟨g, i, none⟩ a) := (Upd.refl (fun k => k = g) w).setCell (p := ⟨g, i, none⟩) (.inl rfl) _
  refine ⟨⟨h.my.mast.upd hu (fun i hi e => h.my.mast.notOf he.blk (by decide) (by decide) (by decide) (by decide) (e ▸ hi)) (fun i hb e => BlkOf.ne (e ▸ hb : BlkOf w g _) he.blk (by decide) rfl) (fun e => by have := h.pos; omega), h.my.fine, h.my.slim, below_upd h.my.below hu (fun i e => by rw [e]; exact hg) h.my.below.size, h.my.new⟩, ⟨vv', hr.upd hu (fun i t hb ht e => BlkOf.ne (e ▸ hb : BlkOf w g t) he.blk (by intro e2; subst e2; revert ht; unfold RefTy; decide) rfl) (fun i hi e => BlkOf.ne (e ▸ ownsRow_blk hr.row hi : BlkOf w g _) he.blk (by decide) rfl), ha⟩, h.nR, h.nr, h.pos⟩
/-- Events that lie somewhere stay. -/
def EvKept (w w' : World) : Prop := ∀ g cs, RowAt w g 42 cs → RowAt w' g 42 cs
/-- The program's pick. -/
theorem DuoM.pdo (h : DuoM w0 w P p m lv nvs vv R r Mp Mr k) (hk : k ≤ 1000000) (d : Nat) (hd : d < 256) (x t : Int) (s : List UInt8) :
    Calls Tryd.prog 17 #[.pointer (some ⟨P, 0, none⟩), .agg #[.int .u8 (d : Int), .int .i64 x, .int .i64 t], .string (bs s)] w fun e w' => e = .returned (ansV (Mp.do_ ⟨d, x, t⟩ s).2) ∧ DuoM w0 w' P p m lv nvs vv R r (Mp.do_ ⟨d, x, t⟩ s).1 Mr (k + 1) ∧ EvKept w w' :=
  (h.my.do_ hk d hd x t s).mono fun _ _ ⟨he, ht⟩ => ⟨he, h.left _ _ ht, fun _ _ hg => hg.upd ht.upd (h.my.mast.notOf hg.blk (by decide) (by decide) (by decide) (by decide))⟩
/-- The document's pick. -/
theorem DuoM.rdo (h : DuoM w0 w P p m lv nvs vv R r Mp Mr k) (hF : Mr.b.Fine j) (hj : j ≤ 1000000) (hl : Mr.lives.length ≤ 16) (d : Nat) (hd : d < 256) (x t : Int) (s : List UInt8) :
    Calls Tryd.prog 27 #[.pointer (some ⟨R, 0, none⟩), .agg #[.int .u8 (d : Int), .int .i64 x, .int .i64 t], .string (bs s)] w fun e w' => e = .returned (ansV (Mr.do_ ⟨d, x, t⟩ s).2) ∧ DuoM w0 w' P p m lv nvs vv R r Mp (Mr.do_ ⟨d, x, t⟩ s).1 k ∧ EvKept w w' := by
  obtain ⟨vv', hr, ha⟩ := h.vr
  exact (rdo_any hr hF hj hl d hd x t s).mono fun e w' ⟨he, vv2, ht⟩ => ⟨he, h.right hr ha ht, fun g cs hg => hg.upd ht.upd (hr.notOf hg.blk (by decide) (by decide))⟩
theorem DuoM.pnext (h : DuoM w0 w P p m lv nvs vv R r Mp Mr k) (hk : k ≤ 1000000) :
    Calls Tryd.prog 22 #[.pointer (some ⟨P, 0, none⟩)] w fun e w' => e = .returned (pickOut Mp.next) ∧ Below w.heap.size w w' := next_any h.my.mast h.my.fine hk h.my.slim
theorem DuoM.rnext (h : DuoM w0 w P p m lv nvs vv R r Mp Mp k) (hk : k ≤ 1000000) :
    Calls Tryd.prog 28 #[.pointer (some ⟨R, 0, none⟩)] w fun e w' => e = .returned (pickOut Mp.next) ∧ Below w.heap.size w w' := by
  obtain ⟨vv', hr, _⟩ := h.vr
  exact rnext_any hr h.my.fine hk h.my.slim
theorem DuoM.palive (h : DuoM w0 w P p m lv nvs vv R r Mp Mr k) : Calls Tryd.prog 23 #[.pointer (some ⟨P, 0, none⟩)] w (IntsPost w (numsI (whoL Mp.lives fun _ => true))) := malive_any h.my.mast h.my.slim
theorem DuoM.pidle (h : DuoM w0 w P p m lv nvs vv R r Mp Mr k) : Calls Tryd.prog 24 #[.pointer (some ⟨P, 0, none⟩)] w (IntsPost w (numsI (whoL Mp.lives (idleF Mp.b)))) := idle_any h.my.mast h.my.slim
theorem DuoM.ralive (h : DuoM w0 w P p m lv nvs vv R r Mp Mp k) (hk : k ≤ 1000000) : Calls Tryd.prog 31 #[.pointer (some ⟨R, 0, none⟩), .bool false] w (IntsPost w (numsI (whoL Mp.lives fun _ => true))) := by
  obtain ⟨vv', hr, _⟩ := h.vr
  exact ralive_any hr h.my.fine hk h.my.slim false
theorem DuoM.ridle (h : DuoM w0 w P p m lv nvs vv R r Mp Mp k) (hk : k ≤ 1000000) : Calls Tryd.prog 31 #[.pointer (some ⟨R, 0, none⟩), .bool true] w (IntsPost w (numsI (whoL Mp.lives (idleF Mp.b)))) := by
  obtain ⟨vv', hr, _⟩ := h.vr
  exact ralive_any hr h.my.fine hk h.my.slim true
/-- The values: of all tasks, or of none. -/
def valsOf (b : Board) : List (List UInt8) := if b.done then b.l.map (·.value) else []
def ValsPost (w : World) (b : Board) (e : Ending) (w' : World) : Prop := ∃ q cap, e = .returned (.tuple #[.slice q (valsOf b).length cap, .bool b.done]) ∧ StrsAt w' q (valsOf b) ∧ Below w.heap.size w w'
theorem vals_len {b : Board} (hF : b.Fine k) : (valsOf b).length ≤ 4096 := by
  unfold valsOf
  split
  · rw [List.length_map]; exact hF.len
  · exact Nat.zero_le _
theorem DuoM.pvals (h : DuoM w0 w P p m lv nvs vv R r Mp Mr k) : Calls Tryd.prog 18 #[.pointer (some ⟨P, 0, none⟩)] w (ValsPost w Mp.b) := by
  unfold ValsPost valsOf
  cases hd : Mp.b.done with
  | false => exact (values_no h.my.mast h.my.fine.len hd).mono fun e w' ⟨he, hb⟩ => ⟨none, 0, he, fun i hi => absurd hi (Nat.not_lt_zero _), hb⟩
  | true => exact (values_yes h.my.mast h.my.fine.len hd).mono fun e w' ⟨q, cap, he, hs, hb⟩ => ⟨q, cap, he, hs, hb⟩
theorem DuoM.rvals (h : DuoM w0 w P p m lv nvs vv R r Mp Mp k) : Calls Tryd.prog 29 #[.pointer (some ⟨R, 0, none⟩)] w (ValsPost w Mp.b) := by
  obtain ⟨vv', hr, _⟩ := h.vr
  unfold ValsPost valsOf
  cases hd : Mp.b.done with
  | false => exact (rvalues_no hr h.my.fine hd).mono fun e w' ⟨he, hb⟩ => ⟨none, 0, he, fun i hi => absurd hi (Nat.not_lt_zero _), hb⟩
  | true => exact (rvalues_yes hr h.my.fine hd).mono fun e w' ⟨q, cap, he, hs, hb⟩ => ⟨q, cap, he, hs, hb⟩
theorem DuoM.pready (h : DuoM w0 w P p m lv nvs vv R r Mp Mr k) (hk : k ≤ 1000000) : Calls Tryd.prog 32 #[.pointer (some ⟨p, 0, none⟩)] w (IntsPost w (numsI Mp.b.ready)) := by
  have := ready_any h.my.mast.board h.my.fine hk
  exact this.mono fun e w' ⟨q, cap, he, hs, hb, hn⟩ => ⟨q, cap, by rw [numsI_len]; exact he, hs, hb, hn⟩
theorem DuoM.rready (h : DuoM w0 w P p m lv nvs vv R r Mp Mp k) (hk : k ≤ 1000000) : Calls Tryd.prog 33 #[.pointer (some ⟨r, 0, none⟩)] w (IntsPost w (numsI Mp.b.ready)) := by
  obtain ⟨vv', hr, _⟩ := h.vr
  exact hr.rready h.my.fine hk
theorem DuoM.pdone (h : DuoM w0 w P p m lv nvs vv R r Mp Mr k) : Calls Tryd.prog 34 #[.pointer (some ⟨p, 0, none⟩)] w fun e w' => e = .returned (.bool Mp.b.done) ∧ Below w.heap.size w w' := done_any h.my.mast.board h.my.fine.len
theorem DuoM.rdone (h : DuoM w0 w P p m lv nvs vv R r Mp Mp k) : Calls Tryd.prog 35 #[.pointer (some ⟨r, 0, none⟩)] w fun e w' => e = .returned (.bool Mp.b.done) ∧ w = w' := by
  obtain ⟨vv', hr, _⟩ := h.vr
  exact hr.rdone h.my.fine
theorem DuoM.rcell (h : DuoM w0 w P p m lv nvs vv R r Mp Mr k) : w.cell? ⟨R, 0, none⟩ = some (.pointer (some ⟨r, 0, none⟩)) := by
  obtain ⟨vv', hr, _⟩ := h.vr
  exact hr.cells.1
theorem DuoM.same_who (h : DuoM w0 w P p m lv nvs vv R r Mp Mr k) (f : Int → Bool) {qa qb : Option Addr} (ca cb : Nat) (h1 : IntsAt w' qa (numsI (whoL Mp.lives f))) (hb : Below w'.heap.size w' w) (h2 : IntsAt w qb (numsI (whoL Mp.lives f))) :
    Calls Tryd.prog 30 #[.slice qa (numsI (whoL Mp.lives f)).length ca, .slice qb (numsI (whoL Mp.lives f)).length cb] w fun e w' => e = .returned (.bool true) ∧ Below w.heap.size w w' := by
  have hl : (numsI (whoL Mp.lives f)).length ≤ 1000000000 := by
    have h1 : (whoL Mp.lives f).length ≤ Mp.lives.length := whoTo_len Mp.lives f Mp.lives.length
    have h2 := h.my.slim
    rw [numsI_len]; omega
  have := same30_any qa qb ca cb _ _ w (h1.below hb) h2 hl hl
  rw [decide_eq_true rfl] at this
  exact this
theorem same_ready {b : Board} (hF : b.Fine k) {qa qb : Option Addr} (ca cb : Nat) (h1 : IntsAt w' qa (numsI b.ready)) (hb : Below w'.heap.size w' w) (h2 : IntsAt w qb (numsI b.ready)) :
    Calls Tryd.prog 30 #[.slice qa (numsI b.ready).length ca, .slice qb (numsI b.ready).length cb] w fun e w' => e = .returned (.bool true) ∧ Below w.heap.size w w' := by
  have hl : (numsI b.ready).length ≤ 1000000000 := by
    have h1 : b.ready.length ≤ b.l.length := readyTo_len b b.l.length
    have h2 := hF.len
    rw [numsI_len]; omega
  have := same30_any qa qb ca cb _ _ w (h1.below hb) h2 hl hl
  rw [decide_eq_true rfl] at this
  exact this
theorem same_vals {b : Board} (hF : b.Fine k) {qa qb : Option Addr} (ca cb : Nat) (h1 : StrsAt w' qa (valsOf b)) (hb : Below w'.heap.size w' w) (h2 : StrsAt w qb (valsOf b)) :
    Calls Tryd.prog 20 #[.slice qa (valsOf b).length ca, .slice qb (valsOf b).length cb] w fun e w' => e = .returned (.bool true) ∧ Below w.heap.size w w' := by
  have hl : (valsOf b).length ≤ 1000000000 := by have := vals_len hF; omega
  have := same01_any qa qb ca cb _ _ w (h1.below hb) h2 hl hl
  rw [decide_eq_true rfl] at this
  exact this
end
end Go.Proofs.YtgmhglcdifhimaaDoor
