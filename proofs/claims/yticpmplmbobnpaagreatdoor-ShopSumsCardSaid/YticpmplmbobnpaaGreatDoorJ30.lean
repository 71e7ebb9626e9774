/- The row is joined to the program: closed facts. -/
import Derived.Test.YticpmplmbobnpaaGreatDoorJ3
set_option linter.unusedVariables false
set_option linter.unusedSimpArgs false
namespace Go.Proofs.YticpmplmbobnpaaGreatDoor.shopSums
theorem joined : joinedFacts Tryz.prog 3 Tryz.f3 Rows.shopSumsSpec Rows.shopSumsUptoRow = true := by
  unfold joinedFacts
  rw [j10, j11, j12, j13]
  kernel_rfl
end Go.Proofs.YticpmplmbobnpaaGreatDoor.shopSums
