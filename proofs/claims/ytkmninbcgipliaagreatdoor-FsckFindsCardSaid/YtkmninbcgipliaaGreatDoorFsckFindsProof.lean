/- maslin law FsckFinds: it returns true for every input, and its arguments read behind the call as before. Condition: the two listed tables of unicode/utf8 hold what the program lays (the given tie shows it). -/
import Derived.Test.YtkmninbcgipliaaGreatDoorW18
import Derived.Test.YtkmninbcgipliaaGreatDoorRows
import Derived.Test.YtkmninbcgipliaaGreatDoorCards
import Derived.Test.YtkmninbcgipliaaGreatDoorTie
import Derived.Test.YtkmninbcgipliaaGreatDoorW11
namespace Go.Proofs.YtkmninbcgipliaaGreatDoor.fsckFinds
open Go.ChangeShapes Go.WideShapes Go.ChangeAt Go.RowKit
open Go.ChangeMaps (open_string shut_string)
set_option linter.unusedVariables false
set_option maxHeartbeats 8000000 in
theorem over : Rows.FsckFindsSaid :=
  OpenClaim.holds_of_wide 4 Tryz.f4 rfl rfl rfl rfl rfl rfl rfl ⟨rfl, rfl, rfl, rfl, rfl⟩ rfl rfl rfl rfl rfl (by as_aux_lemma => kernel_rfl) Tryz.func4 (by
      unfold joinedFacts
      simp only [Bool.and_eq_true]
      repeat' with_reducible apply And.intro
      all_goals as_aux_lemma => kernel_rfl)
    (of_decide_eq_true (by as_aux_lemma => kernel_rfl)) (by unfold Func.isWrapper; first | (rw [if_pos (by decide +kernel)]; kernel_rfl) | (rw [if_neg (by decide +kernel)]; exact ⟨rfl, rfl⟩))
    (fun os started H enc _ => lifted os started H enc)
set_option maxHeartbeats 8000000 in
theorem proved : Rows.FsckFindsCardSaid :=
  Claim7.holds_tied_plain_at .later [] [.data, .pinned] true (true, "9572a36aef90b85c2dbfd3f5f403fb5c5422c1f714021732628e591f12a5154c") true
    over (fun _ h => by cases h) (by kernel_rfl) (fun _ h => by cases h) fsckFinds_row_tie rfl ⟨rfl, rfl⟩ (by kernel_rfl) rfl
    (fun f fn hf hfn => by
      obtain rfl : f = 4 := Option.some.inj ((show Tryz.prog.funcNamed "maslin/maslinlaw29.FsckFinds" = some 4 by kernel_rfl).symm.trans hf) |>.symm
      obtain rfl : fn = Tryz.f4 := (Option.some.inj (Tryz.func4.symm.trans hfn)).symm
      exact ⟨by kernel_rfl, fun j t ht => by
        rw [Tryz.params4] at ht
        have hm : t ∈ [34, 35, 35, 5] := by simpa using Array.mem_of_getElem? ht
        have hall : ([34, 35, 35, 5].all fun u => !Tryz.prog.wantsStandIn u) = true := by kernel_rfl
        exact (show Tryz.prog.wantsStandIn t = false by simpa using List.all_eq_true.1 hall t hm)⟩)
    (by kernel_rfl)
#print axioms proved
end Go.Proofs.YtkmninbcgipliaaGreatDoor.fsckFinds
