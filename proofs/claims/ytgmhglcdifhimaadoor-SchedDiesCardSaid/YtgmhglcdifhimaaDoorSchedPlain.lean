/- sched.Master: what it is, and what each pick does. No program in sight. -/
import Derived.Test.YtgmhglcdifhimaaDoorTaskPlain
namespace Go.Proofs.YtgmhglcdifhimaaDoor
open Tsk
namespace Sch
structure Pick where
  d : Nat
  w : Int
  t : Int
structure Master where
  b : Board
  lives : List Bool
/-- What a pick comes to: the task, whether it was done first, and the number of the failure. -/
structure Ans where
  t : Int
  first : Bool
  e : Int
def none_ (e : Int) : Ans := ⟨0, false, e⟩
def Master.list (m : Master) (s : Int) : List Nat := (List.range m.b.l.length).filter fun t => m.b.state t == s
/-- Which of n, round. -/
def round (t : Int) (n : Nat) : Nat := ((t.tmod n + n).tmod n).toNat
def Master.begin (m : Master) (w t : Int) (s : Int) : Master × Ans :=
  if m.b.failed.isSome then (m, none_ 301)
  else if (m.b.at_ w).isSome then (m, none_ 300)
  else if m.list s = [] then (m, none_ 3)
  else
    let x := (m.list s).getD (round t (m.list s).length) 0
    ({ m with b := (m.b.start x w).1 }, ⟨x, false, (m.b.start x w).2⟩)
def Master.at_ (m : Master) (w : Int) : Int := (((m.b.at_ w).getD 0 : Nat) : Int)
def Master.finish (m : Master) (w : Int) (v : List UInt8) : Master × Ans :=
  ({ m with b := (m.b.commit w v).1 }, if (m.b.commit w v).2.2 = 0 then ⟨m.at_ w, (m.b.commit w v).2.1, 0⟩ else none_ (m.b.commit w v).2.2)
def Master.fail (m : Master) (w : Int) : Master × Ans :=
  ({ m with b := (m.b.fail w).1 }, if (m.b.fail w).2 = 0 then ⟨m.at_ w, false, 0⟩ else none_ (m.b.fail w).2)
def Master.die (m : Master) (w : Nat) : Master × Ans := (⟨(m.b.fail w).1, m.lives.set w false⟩, ⟨m.at_ w, false, 0⟩)
def Master.wake (m : Master) (w : Nat) : Master × Ans := if m.lives.getD w false then (m, none_ 2) else (⟨m.b, m.lives.set w true⟩, none_ 0)
def Master.does (m : Master) (d : Nat) (w : Nat) (t : Int) (v : List UInt8) : Master × Ans :=
  if d = 0 then m.begin w t 1 else if d = 1 then m.begin w t 2 else if d = 2 then m.finish w v else if d = 3 then m.fail w else if d = 4 then m.die w else m.wake w
def Master.do_ (m : Master) (p : Pick) (v : List UInt8) : Master × Ans :=
  if 6 ≤ p.d ∨ p.w < 0 ∨ (m.lives.length : Int) ≤ p.w then (m, none_ 2)
  else if m.lives.getD p.w.toNat false = false ∧ p.d ≠ 5 then (m, none_ 310)
  else m.does p.d p.w.toNat p.t v
end Sch
end Go.Proofs.YtgmhglcdifhimaaDoor
