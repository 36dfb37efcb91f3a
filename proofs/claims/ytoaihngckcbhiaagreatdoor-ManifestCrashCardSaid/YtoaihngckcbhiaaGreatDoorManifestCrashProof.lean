/- ManifestCrashProof -/
import Derived.Test.YtoaihngckcbhiaaGreatDoorRows
import Derived.Test.YtoaihngckcbhiaaGreatDoorCards
import Derived.Test.YtoaihngckcbhiaaGreatDoorTie
import Derived.Test.YtoaihngckcbhiaaGreatDoorPkManDoor
import Derived.Test.YtoaihngckcbhiaaGreatDoorPkManifestCrashLift
import Derived.ProofKit
import Derived.OpenShut
import Derived.ShutString
import Derived.SizedLaws
import Derived.Carry
import Derived.LaidMore
import Derived.Stop.Joined
import Derived.SevenTiedAt
namespace Go.Proofs.YtoaihngckcbhiaaGreatDoor.manifestCrash
open Go.ChangeShapes Go.WideShapes Go.ChangeAt Go.RowKit
open Go.ChangeMaps (open_string shut_string)
set_option linter.unusedVariables false
set_option maxHeartbeats 8000000 in
theorem over : Rows.ManifestCrashSaid :=
  OpenClaim.holds_of_wide 3 Tryz.f3 rfl rfl rfl rfl rfl rfl rfl ⟨rfl, rfl, rfl, rfl, rfl⟩ rfl rfl rfl rfl rfl (by as_aux_lemma => kernel_rfl) Tryz.func3 (by
      unfold joinedFacts
      simp only [Bool.and_eq_true]
      repeat' with_reducible apply And.intro
      all_goals as_aux_lemma => kernel_rfl)
    (of_decide_eq_true (by as_aux_lemma => kernel_rfl)) (by unfold Func.isWrapper; first | (rw [if_pos (by decide +kernel)]; kernel_rfl) | (rw [if_neg (by decide +kernel)]; exact ⟨rfl, rfl⟩))
    (fun os started H enc _ => lifted os started H enc)
set_option maxHeartbeats 8000000 in
theorem proved : Rows.ManifestCrashCardSaid :=
  Claim7.holds_tied_plain_at .later [] [.data, .data, .data] true (true, "9c5c1fa80f17bc92dfd7e70e49327728d14917f8703391d86dae904094e72728") true
    over (fun _ h => by cases h) (by kernel_rfl) (fun _ h => by cases h) manifestCrash_row_tie rfl ⟨rfl, rfl⟩ (by kernel_rfl) rfl
    (fun f fn hf hfn => by
      obtain rfl : f = 3 := Option.some.inj ((show Tryz.prog.funcNamed "maslin/maslinlaw32.ManifestCrash" = some 3 by kernel_rfl).symm.trans hf) |>.symm
      obtain rfl : fn = Tryz.f3 := (Option.some.inj (Tryz.func3.symm.trans hfn)).symm
      exact ⟨by kernel_rfl, fun j t ht => by
        rw [Tryz.params3] at ht
        have hm : t ∈ [3, 22] := by simpa using Array.mem_of_getElem? ht
        have hall : ([3, 22].all fun u => !Tryz.prog.wantsStandIn u) = true := by kernel_rfl
        exact (show Tryz.prog.wantsStandIn t = false by simpa using List.all_eq_true.1 hall t hm)⟩)
    (by kernel_rfl)
#print axioms proved
end Go.Proofs.YtoaihngckcbhiaaGreatDoor.manifestCrash
