/- Both boards of tasks, side by side. -/
import Derived.Test.YtgmhglcdifhimaaDoorTaskRefN
import Derived.Test.YtgmhglcdifhimaaDoorTaskMine
namespace Go.Proofs.YtgmhglcdifhimaaDoor
open Go.RowKit Go.Maps Go.Sort
open Tsk

section
variable {w0 w w' w1 : World} {p m r : Nat} {lv : Value} {nvs : List Value} {b b' : Board} {k k' : Nat}
theorem refTy_no {t : TypeId} (h : t = 83 ∨ t = 87) : ¬ RefTy t := by
  rcases h with rfl | rfl <;> (unfold RefTy; decide)
theorem TRefAt.upd {F : Nat → Prop} (h : TRefAt w r b) (hu : Upd F w w') (hF : ∀ k t, BlkOf w k t → RefTy t → ¬ F k) : TRefAt w' r b := by
  obtain ⟨lv, tv, nvs, h⟩ := h
  exact ⟨lv, tv, nvs, h.upd hu hF⟩
theorem TRefAt.below (h : TRefAt w r b) (hb : Below w.heap.size w w') : TRefAt w' r b := h.upd (Upd.of_below (F := fun _ => False) hb) (fun _ _ _ _ f => f)
theorem TRefAt.blk (h : TRefAt w r b) : BlkOf w r 106 := by
  obtain ⟨lv, tv, nvs, h⟩ := h
  exact ⟨_, _, h.struct⟩
/-- What is not done has no value. -/
def Tsk.Board.Blank (b : Board) : Prop := ∀ x ∈ b.l, x.is = false → x.value = []
theorem Tsk.Board.Blank.start (h : b.Blank) (t x : Int) : (b.start t x).1.Blank := by
  have e := (start_len (b := b) t x).2.1
  intro y hy
  rw [e] at hy
  exact h y hy
theorem Tsk.Board.Blank.commit (h : b.Blank) (x : Int) (v : List UInt8) : (b.commit x v).1.Blank := by
  unfold Board.commit
  split
  · exact h
  · split
    · exact h
    · split
      · exact h
      · intro y hy hi
        rcases List.mem_or_eq_of_mem_set hy with hy | rfl
        · exact h y hy hi
        · cases hi
theorem Tsk.Board.Blank.fail (h : b.Blank) (x : Int) : (b.fail x).1.Blank := by
  unfold Board.fail
  split
  · exact h
  · split
    · exact h
    · rename_i y hy
      split
      · exact h
      · intro z hz hi
        rcases List.mem_or_eq_of_mem_set hz with hz | rfl
        · exact h z hz hi
        · exact h y (List.mem_of_getElem? hy) hi
/-- A board, and the document's, of the same tasks. -/
structure DuoT (w0 w : World) (p m : Nat) (lv : Value) (nvs : List Value) (r : Nat) (b : Board) (k : Nat) : Prop extends MyB w0 w p m lv nvs b k where
  ref : TRefAt w r b
  rnew : w0.heap.size ≤ r
  blank : b.Blank
theorem DuoT.step (h : DuoT w0 w p m lv nvs r b k) (hb : Below w.heap.size w w') : DuoT w0 w' p m lv nvs r b k := ⟨h.toMyB.step hb, h.ref.below hb, h.rnew, h.blank⟩
theorem TRefAt.past (h : TRefAt w r b) (hB : BoardIn w p m lv nvs b') (hu : Upd (boardBlocks p m lv) w w') : TRefAt w' r b := h.upd hu (fun _ _ hb hr hi => refTy_no (hB.kind hi hb) hr)
theorem MyB.past (h : MyB w0 w p m lv nvs b k) (hr : BlkOf w r 106) (hn : w0.heap.size ≤ r) (hu : Upd (fun i => i = r) w w') : MyB w0 w' p m lv nvs b k :=
  ⟨h.board.upd hu (fun i hi e => h.board.notOf hr (by decide) (by decide) (e ▸ hi)) (fun i hb e => BlkOf.ne (e ▸ hb) hr (by decide) rfl), h.fine, below_upd h.below hu (fun i e => by rw [e]; exact hn) h.below.size, h.new⟩
/-- Both have turned alike. -/
theorem DuoT.both (h : DuoT w0 w p m lv nvs r b k) (h1 : BoardTo w w1 p m lv nvs b') (hf : b'.Fine k') (h2 : RefTo w1 w' r b') (hbl : b'.Blank) : DuoT w0 w' p m lv nvs r b' k' := by
  have hr := h.ref.past h.board h1.upd
  exact ⟨(h.toMyB.to h1 hf).past hr.blk h.rnew h2.upd, h2.ref, h.rnew, hbl⟩
end
end Go.Proofs.YtgmhglcdifhimaaDoor
