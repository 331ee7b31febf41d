/- The closed facts of the row NumTakes. -/
import Derived.Test.YtlmogijkkhdogaaGreatDoorCards
import Derived.ProofKit
import Derived.JoinedOf
namespace Go.Proofs.YtlmogijkkhdogaaGreatDoor
set_option maxRecDepth 100000
set_option maxHeartbeats 40000000 in
theorem numTakes_facts : joinedFacts Tryz.checked.prog 6 Tryz.f6 Rows.numTakesSpec Rows.numTakesRow = true := by
  unfold joinedFacts
  repeat' (with_reducible refine Bool.and_eq_true_iff.2 ⟨?_, ?_⟩)
  all_goals (as_aux_lemma => kernel_rfl)
end Go.Proofs.YtlmogijkkhdogaaGreatDoor
