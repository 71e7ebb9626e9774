/- The row is joined to the program: closed facts. -/
import Derived.Test.YtgliaoanlhbepaaGreatDoorJ1
set_option linter.unusedVariables false
set_option linter.unusedSimpArgs false
namespace Go.Proofs.YtgliaoanlhbepaaGreatDoor.partKeys
theorem joined : joinedFacts Tryz.prog 3 Tryz.f3 Rows.partKeysSpec Rows.partKeysUptoRow = true := by
 unfold joinedFacts
 rw [j10, j11, j12, j13]
 kernel_rfl
end Go.Proofs.YtgliaoanlhbepaaGreatDoor.partKeys
