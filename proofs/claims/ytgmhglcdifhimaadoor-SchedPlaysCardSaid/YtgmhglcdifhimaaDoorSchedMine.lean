/- A master of one's own, and what becomes of it. -/
import Derived.Test.YtgmhglcdifhimaaDoorSchedWho
namespace Go.Proofs.YtgmhglcdifhimaaDoor
open Go.RowKit Go.Maps Go.Sort
open Tsk

section
variable {M : Sch.Master} {k : Nat}
theorem begin_fine (hF : M.b.Fine k) (w t s : Int) : (M.begin w t s).1.b.Fine (k + 1) ∧ (M.begin w t s).1.lives.length = M.lives.length := by
  unfold Sch.Master.begin
  split
  · exact ⟨hF.more (Nat.le_succ _), rfl⟩
  · split
    · exact ⟨hF.more (Nat.le_succ _), rfl⟩
    · split
      · exact ⟨hF.more (Nat.le_succ _), rfl⟩
      · exact ⟨hF.start _ _, rfl⟩
theorem does_fine (hF : M.b.Fine k) (d w : Nat) (t : Int) (v : List UInt8) : (M.does d w t v).1.b.Fine (k + 1) ∧ (M.does d w t v).1.lives.length = M.lives.length := by
  unfold Sch.Master.does
  split
  · exact begin_fine hF _ _ _
  · split
    · exact begin_fine hF _ _ _
    · split
      · exact ⟨(hF.commit _ _).more (Nat.le_succ _), rfl⟩
      · split
        · exact ⟨hF.fail _, rfl⟩
        · split
          · exact ⟨hF.fail _, List.length_set ..⟩
          · unfold Sch.Master.wake
            split
            · exact ⟨hF.more (Nat.le_succ _), rfl⟩
            · exact ⟨hF.more (Nat.le_succ _), List.length_set ..⟩
theorem do_fine (hF : M.b.Fine k) (p : Sch.Pick) (v : List UInt8) : (M.do_ p v).1.b.Fine (k + 1) ∧ (M.do_ p v).1.lives.length = M.lives.length := by
  unfold Sch.Master.do_
  split
  · exact ⟨hF.more (Nat.le_succ _), rfl⟩
  · split
    · exact ⟨hF.more (Nat.le_succ _), rfl⟩
    · exact does_fine hF _ _ _ _
end
/-- A master that was made since w0, and that k picks were done by. -/
structure MyM (w0 w : World) (P p m : Nat) (lv : Value) (nvs : List Value) (vv : Value) (M : Sch.Master) (k : Nat) : Prop where
  mast : MastIn w P p m lv nvs vv M
  fine : M.b.Fine k
  slim : M.lives.length ≤ 16
  below : Below w0.heap.size w0 w
  new : ∀ i, mastBlocks P p m lv vv i → w0.heap.size ≤ i
section
variable {w0 w w' : World} {P p m g : Nat} {lv vv : Value} {nvs : List Value} {M M' : Sch.Master} {k : Nat} {cs : List Value}
theorem MyM.step (h : MyM w0 w P p m lv nvs vv M k) (hb : Below w.heap.size w w') : MyM w0 w' P p m lv nvs vv M k :=
  ⟨h.mast.below hb, h.fine, h.slim, h.below.trans (hb.mono h.below.size), h.new⟩
theorem MyM.done (h : MyM w0 w P p m lv nvs vv M k) (q : Sch.Pick) (v : List UInt8) (ht : MastTo w w' P p m lv nvs vv (M.do_ q v).1) : MyM w0 w' P p m lv nvs vv (M.do_ q v).1 (k + 1) :=
  ⟨ht.mast, (do_fine h.fine q v).1, by rw [(do_fine h.fine q v).2]; exact h.slim, below_upd h.below ht.upd h.new h.below.size, h.new⟩
/-- An event that lies somewhere stays through a pick. -/
theorem MyM.event (h : MyM w0 w P p m lv nvs vv M k) (he : RowAt w g 42 cs) (ht : MastTo w w' P p m lv nvs vv M') : RowAt w' g 42 cs :=
  he.upd ht.upd (h.mast.notOf he.blk (by decide) (by decide) (by decide) (by decide))
/-- Do, of a master of one's own. -/
theorem MyM.do_ (h : MyM w0 w P p m lv nvs vv M k) (hk : k ≤ 1000000) (d : Nat) (hd : d < 256) (x t : Int) (s : List UInt8) :
    Calls Tryd.prog 17 #[.pointer (some ⟨P, 0, none⟩), .agg #[.int .u8 (d : Int), .int .i64 x, .int .i64 t], .string (bs s)] w fun e w' => e = .returned (ansV (M.do_ ⟨d, x, t⟩ s).2) ∧ MastTo w w' P p m lv nvs vv (M.do_ ⟨d, x, t⟩ s).1 :=
  do_any h.mast h.fine hk h.slim d hd x t s
end
deriving instance DecidableEq for Sch.Ans
namespace Al
def m0 : Sch.Master := ⟨Board.new (natsL [[], [0]]) 0, [true, true]⟩
def m1 := (m0.do_ ⟨0, 0, 0⟩ []).1
def m2 := (m1.do_ ⟨1, 1, 0⟩ []).1
def m3 := (m2.do_ ⟨2, 1, 0⟩ [120]).1
def m4 := (m3.do_ ⟨2, 0, 0⟩ [121]).1
def m5 := (m4.do_ ⟨4, 0, 0⟩ []).1
def m6 := (m5.do_ ⟨0, 0, 0⟩ []).1
theorem a0 : (m0.do_ ⟨0, 0, 0⟩ []).2 = ⟨0, false, 0⟩ := by decide +kernel
theorem a1 : (m1.do_ ⟨1, 1, 0⟩ []).2 = ⟨0, false, 0⟩ := by decide +kernel
theorem a2 : (m2.do_ ⟨2, 1, 0⟩ [120]).2 = ⟨0, true, 0⟩ := by decide +kernel
theorem a3 : (m3.do_ ⟨2, 0, 0⟩ [121]).2 = ⟨0, false, 0⟩ := by decide +kernel
theorem a4 : (m4.do_ ⟨4, 0, 0⟩ []).2 = ⟨0, false, 0⟩ := by decide +kernel
theorem a5 : (m5.do_ ⟨0, 0, 0⟩ []).2 = ⟨0, false, 310⟩ := by decide +kernel
theorem a6 : whoL m6.lives (fun _ => true) = [1] := by decide +kernel
end Al
end Go.Proofs.YtgmhglcdifhimaaDoor
