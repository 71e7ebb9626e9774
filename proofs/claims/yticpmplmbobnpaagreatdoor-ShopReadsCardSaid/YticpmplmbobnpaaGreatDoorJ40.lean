/- The row is joined to the program: closed facts. -/
import Derived.Test.YticpmplmbobnpaaGreatDoorJ4
set_option linter.unusedVariables false
set_option linter.unusedSimpArgs false
namespace Go.Proofs.YticpmplmbobnpaaGreatDoor.shopReads
theorem joined : joinedFacts Tryz.prog 4 Tryz.f4 Rows.shopReadsSpec Rows.shopReadsUptoRow = true := by
  unfold joinedFacts
  rw [j10, j11, j12, j13]
  kernel_rfl
end Go.Proofs.YticpmplmbobnpaaGreatDoor.shopReads
