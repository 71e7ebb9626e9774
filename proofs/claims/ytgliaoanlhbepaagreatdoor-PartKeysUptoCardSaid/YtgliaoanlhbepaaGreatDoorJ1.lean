/- The row is joined to the program: closed facts. -/
import Derived.Test.YtgliaoanlhbepaaGreatDoorRows
import Derived.JoinedCond
set_option linter.unusedVariables false
set_option linter.unusedSimpArgs false
namespace Go.Proofs.YtgliaoanlhbepaaGreatDoor.partKeys
theorem j10 : (Rows.partKeysUptoRow.inPlace == Tryz.prog.inPlace 3) = true := by kernel_rfl
theorem j11 : (Rows.partKeysUptoRow.unfollowed == Tryz.prog.unfollowed 3) = true := by kernel_rfl
theorem j12 : (Rows.partKeysUptoRow.recurses == Tryz.prog.recurses 3) = true := by kernel_rfl
theorem j13 : (Rows.partKeysUptoRow.named == Tryz.prog.varsNamed 3) = true := by kernel_rfl
end Go.Proofs.YtgliaoanlhbepaaGreatDoor.partKeys
