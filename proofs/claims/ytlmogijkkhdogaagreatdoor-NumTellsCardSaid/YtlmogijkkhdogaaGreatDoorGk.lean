/- The closed facts of the row NumTells. -/
import Derived.Test.YtlmogijkkhdogaaGreatDoorCards
import Derived.ProofKit
import Derived.JoinedOf
namespace Go.Proofs.YtlmogijkkhdogaaGreatDoor
set_option maxRecDepth 100000
set_option maxHeartbeats 40000000 in
theorem numTells_facts : joinedFacts Tryz.checked.prog 3 Tryz.f3 Rows.numTellsSpec Rows.numTellsRow = true := by
  unfold joinedFacts
  repeat' (with_reducible refine Bool.and_eq_true_iff.2 ⟨?_, ?_⟩)
  all_goals (as_aux_lemma => kernel_rfl)
end Go.Proofs.YtlmogijkkhdogaaGreatDoor
