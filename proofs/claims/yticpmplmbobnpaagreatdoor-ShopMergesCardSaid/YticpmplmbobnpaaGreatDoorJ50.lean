/- The row is joined to the program: closed facts. -/
import Derived.Test.YticpmplmbobnpaaGreatDoorJ5
set_option linter.unusedVariables false
set_option linter.unusedSimpArgs false
namespace Go.Proofs.YticpmplmbobnpaaGreatDoor.shopMerges
theorem joined : joinedFacts Tryz.prog 5 Tryz.f5 Rows.shopMergesSpec Rows.shopMergesUptoRow = true := by
  unfold joinedFacts
  rw [j10, j11, j12, j13]
  kernel_rfl
end Go.Proofs.YticpmplmbobnpaaGreatDoor.shopMerges
