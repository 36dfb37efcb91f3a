/- sched.Master: what it is, and what each pick does. No program in sight. How a master lies in memory. -/
import Derived.Test.YtgmhglcdifhimaaDoorTaskPlain
import Derived.Test.YtgmhglcdifhimaaDoorTaskNeedsLaw
namespace Go.Proofs.YtgmhglcdifhimaaDoor
open Tsk
namespace Sch
structure Pick where
  d : Nat
  w : Int
  t : Int
structure Master where
  b : Board
  lives : List Bool
/-- What a pick comes to: the task, whether it was done first, and the number of the failure. -/
structure Ans where
  t : Int
  first : Bool
  e : Int
def none_ (e : Int) : Ans := ⟨0, false, e⟩
def Master.list (m : Master) (s : Int) : List Nat := (List.range m.b.l.length).filter fun t => m.b.state t == s
/-- Which of n, round. -/
def round (t : Int) (n : Nat) : Nat := ((t.tmod n + n).tmod n).toNat
def Master.begin (m : Master) (w t : Int) (s : Int) : Master × Ans :=
  if m.b.failed.isSome then (m, none_ 301)
  else if (m.b.at_ w).isSome then (m, none_ 300)
  else if m.list s = [] then (m, none_ 3)
  else
    let x := (m.list s).getD (round t (m.list s).length) 0
    ({ m with b := (m.b.start x w).1 }, ⟨x, false, (m.b.start x w).2⟩)
def Master.at_ (m : Master) (w : Int) : Int := (((m.b.at_ w).getD 0 : Nat) : Int)
def Master.finish (m : Master) (w : Int) (v : List UInt8) : Master × Ans :=
  ({ m with b := (m.b.commit w v).1 }, if (m.b.commit w v).2.2 = 0 then ⟨m.at_ w, (m.b.commit w v).2.1, 0⟩ else none_ (m.b.commit w v).2.2)
def Master.fail (m : Master) (w : Int) : Master × Ans :=
  ({ m with b := (m.b.fail w).1 }, if (m.b.fail w).2 = 0 then ⟨m.at_ w, false, 0⟩ else none_ (m.b.fail w).2)
def Master.die (m : Master) (w : Nat) : Master × Ans := (⟨(m.b.fail w).1, m.lives.set w false⟩, ⟨m.at_ w, false, 0⟩)
def Master.wake (m : Master) (w : Nat) : Master × Ans := if m.lives.getD w false then (m, none_ 2) else (⟨m.b, m.lives.set w true⟩, none_ 0)
def Master.does (m : Master) (d : Nat) (w : Nat) (t : Int) (v : List UInt8) : Master × Ans :=
  if d = 0 then m.begin w t 1 else if d = 1 then m.begin w t 2 else if d = 2 then m.finish w v else if d = 3 then m.fail w else if d = 4 then m.die w else m.wake w
def Master.do_ (m : Master) (p : Pick) (v : List UInt8) : Master × Ans :=
  if 6 ≤ p.d ∨ p.w < 0 ∨ (m.lives.length : Int) ≤ p.w then (m, none_ 2)
  else if m.lives.getD p.w.toNat false = false ∧ p.d ≠ 5 then (m, none_ 310)
  else m.does p.d p.w.toNat p.t v
end Sch
end Go.Proofs.YtgmhglcdifhimaaDoor

namespace Go.Proofs.YtgmhglcdifhimaaDoor
open Go.RowKit Go.Maps
open Tsk

/-- What the program's table of picks holds. -/
def Doors (w : World) : Prop :=
  w.cell? ⟨0, 0, none⟩ = some (.func (.func 117) #[] #[]) ∧ w.cell? ⟨0, 1, none⟩ = some (.func (.func 118) #[] #[]) ∧ w.cell? ⟨0, 2, none⟩ = some (.func (.func 119) #[] #[]) ∧
  w.cell? ⟨0, 3, none⟩ = some (.func (.func 120) #[] #[]) ∧ w.cell? ⟨0, 4, none⟩ = some (.func (.func 121) #[] #[]) ∧ w.cell? ⟨0, 5, none⟩ = some (.func (.func 122) #[] #[])
theorem Doors.upd {F : Nat → Prop} {w w' : World} (h : Doors w) (hu : Upd F w w') (h0 : 0 < w.heap.size) (hF : ¬ F 0) : Doors w' := by
  obtain ⟨h1, h2, h3, h4, h5, h6⟩ := h
  have k : ∀ i, w'.cell? ⟨0, i, none⟩ = w.cell? ⟨0, i, none⟩ := fun i => hu.cell (p := ⟨0, i, none⟩) h0 hF
  exact ⟨(k 0).trans h1, (k 1).trans h2, (k 2).trans h3, (k 3).trans h4, (k 4).trans h5, (k 5).trans h6⟩
/-- The blocks that a master has. -/
def mastBlocks (P p m : Nat) (lv vv : Value) (k : Nat) : Prop := k = P ∨ vv.ownBlock = some k ∨ boardBlocks p m lv k
def livesRow (l : List Bool) : List Value := l.map Value.bool
structure MastIn (w : World) (P p m : Nat) (lv : Value) (nvs : List Value) (vv : Value) (M : Sch.Master) : Prop where
  struct : RowAt w P 79 [.pointer (some ⟨p, 0, none⟩), vv, .int .i64 (M.b.l.length : Int)]
  board : BoardIn w p m lv nvs M.b
  row : w.ownsRow 0 4 1 vv M.lives.length (livesRow M.lives)
  doors : Doors w
  far : ∀ k, mastBlocks P p m lv vv k → 0 < k
section
variable {w w' : World} {P p m : Nat} {lv vv : Value} {nvs : List Value} {M : Sch.Master} {F : Nat → Prop}
theorem MastIn.lt (h : MastIn w P p m lv nvs vv M) : ∀ k, mastBlocks P p m lv vv k → k < w.heap.size := by
  rintro k (rfl | hk | hk)
  · exact h.struct.lt
  · exact ownsRow_lt h.row hk
  · exact h.board.lt k hk
theorem MastIn.kind (h : MastIn w P p m lv nvs vv M) {k : Nat} (hk : mastBlocks P p m lv vv k) {t : TypeId} (hb : BlkOf w k t) : t = 79 ∨ t = 4 ∨ t = 83 ∨ t = 87 := by
  rcases hk with rfl | hk | hk
  · by_cases e : t = 79
    · exact .inl e
    · exact absurd rfl (BlkOf.ne hb h.struct.blk e)
  · by_cases e : t = 4
    · exact .inr (.inl e)
    · exact absurd rfl (BlkOf.ne hb (ownsRow_blk h.row hk) e)
  · exact .inr (.inr (h.board.kind hk hb))
theorem MastIn.upd (h : MastIn w P p m lv nvs vv M) (hu : Upd F w w') (hF : ∀ k, mastBlocks P p m lv vv k → ¬ F k) (hN : ∀ k, BlkOf w k 3 → ¬ F k) (h0 : ¬ F 0) : MastIn w' P p m lv nvs vv M :=
  ⟨h.struct.upd hu (hF P (.inl rfl)), h.board.upd hu (fun k hk => hF k (.inr (.inr hk))) hN, ownsRow_upd h.row hu (fun g hg => hF g (.inr (.inl hg))), h.doors.upd hu (Nat.lt_of_le_of_lt (Nat.zero_le _) h.struct.lt) h0, h.far⟩
theorem MastIn.below (h : MastIn w P p m lv nvs vv M) (hb : Below w.heap.size w w') : MastIn w' P p m lv nvs vv M :=
  h.upd (Upd.of_below (F := fun _ => False) hb) (fun _ _ f => f) (fun _ _ f => f) (fun f => f)
/-- A block of another kind is none of a master's. -/
theorem MastIn.notOf (h : MastIn w P p m lv nvs vv M) {k : Nat} {t : TypeId} (hb : BlkOf w k t) (h1 : t ≠ 79) (h2 : t ≠ 4) (h3 : t ≠ 83) (h4 : t ≠ 87) : ¬ mastBlocks P p m lv vv k := fun hk => by
  rcases h.kind hk hb with e | e | e | e
  · exact h1 e
  · exact h2 e
  · exact h3 e
  · exact h4 e
/-- What becomes of a master. -/
structure MastTo (w w' : World) (P p m : Nat) (lv : Value) (nvs : List Value) (vv : Value) (M' : Sch.Master) : Prop where
  mast : MastIn w' P p m lv nvs vv M'
  upd : Upd (mastBlocks P p m lv vv) w w'
theorem MastTo.same (h : MastIn w P p m lv nvs vv M) : MastTo w w P p m lv nvs vv M := ⟨h, Upd.refl _ _⟩
theorem MastTo.below (h : MastIn w P p m lv nvs vv M) (hb : Below w.heap.size w w') : MastTo w w' P p m lv nvs vv M := ⟨h.below hb, Upd.of_below hb⟩
theorem MastIn.boardTo {b' : Board} (h : MastIn w P p m lv nvs vv M) (ht : BoardTo w w' p m lv nvs b') (hn : b'.l.length = M.b.l.length) : MastTo w w' P p m lv nvs vv ⟨b', M.lives⟩ := by
  refine ⟨⟨?_, ht.board, ?_, h.doors.upd ht.upd (Nat.lt_of_le_of_lt (Nat.zero_le _) h.struct.lt) (fun h0 => absurd (h.far 0 (.inr (.inr h0))) (Nat.lt_irrefl 0)), h.far⟩, ht.upd.mono fun k hk => .inr (.inr hk)⟩
  · have := h.struct.upd ht.upd (fun hk => by have := h.board.kind hk h.struct.blk; revert this; decide)
    rw [← hn] at this
    exact this
  · exact ownsRow_upd h.row ht.upd (fun g hg hk => by have := h.board.kind hk (ownsRow_blk h.row hg); revert this; decide)
theorem livesRow_set (l : List Bool) (i : Nat) (v : Bool) : (livesRow l).set i (.bool v) = livesRow (l.set i v) := by
  unfold livesRow
  rw [List.map_set]
theorem MastIn.slice (h : MastIn w P p m lv nvs vv M) {i : Nat} (hi : i < M.lives.length) : ∃ g cap, vv = .slice (some ⟨g, 0, none⟩) M.lives.length cap ∧
    (∀ W, (Instr.indexAt 67 vv (.int .i64 (i : Int))).run Tryd.prog W = .ok (.pointer (some ⟨g, i, none⟩)) W) ∧
    w.cell? ⟨g, i, none⟩ = some (.bool (M.lives.getD i false)) ∧ (∀ j, w.frozen? ⟨g, j, none⟩ = false) ∧
    ∀ v, MastTo w (w.setCell ⟨g, i, none⟩ (.bool v)) P p m lv nvs vv ⟨M.b, M.lives.set i v⟩ := by
  rcases h.row.2 with ⟨_, e2⟩ | ⟨g, cap, cur, e1, hgg, hg, _⟩
  · omega
  · subst e1
    have hc := h.row.cells (g := g) rfl i (.bool (M.lives.getD i false)) (by unfold livesRow; rw [List.getElem?_map, List.getElem?_eq_getElem hi, List.getD_eq_getElem?_getD, List.getElem?_eq_getElem hi]; rfl)
    rw [add_plain] at hc
    refine ⟨g, cap, rfl, fun W => ?_, hc, fun j => frozen_of_row w g j _ _ hg, fun v => ?_⟩
    · have := run_index_slice Tryd.prog 67 4 Tryd.underlying67 1 (by kernel_rfl) ⟨g, 0, none⟩ M.lives.length cap i hi W
      rw [add_plain, Nat.mul_one] at this
      exact this
    · have hu : Upd (fun k => k = g) w (w.setCell ⟨g, i, none⟩ (.bool v)) := (Upd.refl (fun k => k = g) w).setCell (p := ⟨g, i, none⟩) (.inl rfl) _
      have hbg : BlkOf w g 4 := ownsRow_blk h.row rfl
      refine ⟨⟨h.struct.upd hu (fun e => BlkOf.ne h.struct.blk hbg (by decide) e), h.board.upd hu (fun k hk e => by have := h.board.kind (e ▸ hk) hbg; revert this; decide) (fun k hb e => BlkOf.ne (e ▸ hb) hbg (by decide) rfl), ?_, h.doors.upd hu (Nat.lt_of_le_of_lt (Nat.zero_le _) h.struct.lt) (fun e => absurd (h.far g (.inr (.inl rfl))) (by omega)), h.far⟩, hu.mono fun k hk => .inr (.inl (by rw [hk]; rfl))⟩
      have := ownsRow_turned h.row i (.bool v)
      rw [livesRow_set] at this
      show World.ownsRow _ 0 _ 1 _ (M.lives.set i v).length _
      rw [List.length_set]
      exact this
theorem MastIn.cells (h : MastIn w P p m lv nvs vv M) : w.cell? ⟨P, 0, none⟩ = some (.pointer (some ⟨p, 0, none⟩)) ∧ w.cell? ⟨P, 1, none⟩ = some vv ∧ w.cell? ⟨P, 2, none⟩ = some (.int .i64 (M.b.l.length : Int)) :=
  ⟨h.struct.cell 0 (by simp), h.struct.cell 1 (by simp), h.struct.cell 2 (by simp)⟩
end
end Go.Proofs.YtgmhglcdifhimaaDoor
