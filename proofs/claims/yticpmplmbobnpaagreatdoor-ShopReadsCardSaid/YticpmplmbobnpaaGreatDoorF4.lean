/- The row of the first form is joined to the program: closed facts. -/
import Derived.Test.YticpmplmbobnpaaGreatDoorJ4
set_option linter.unusedVariables false
set_option linter.unusedSimpArgs false
namespace Go.Proofs.YticpmplmbobnpaaGreatDoor.shopReadsF
theorem j10 : (Rows.shopReadsRow.inPlace == Tryz.prog.inPlace 4) = true := shopReads.j10
theorem j11 : (Rows.shopReadsRow.unfollowed == Tryz.prog.unfollowed 4) = true := shopReads.j11
theorem j12 : (Rows.shopReadsRow.recurses == Tryz.prog.recurses 4) = true := shopReads.j12
theorem j13 : (Rows.shopReadsRow.named == Tryz.prog.varsNamed 4) = true := shopReads.j13
theorem joined : joinedFacts Tryz.prog 4 Tryz.f4 Rows.shopReadsSpec Rows.shopReadsRow = true := by
  unfold joinedFacts
  rw [j10, j11, j12, j13]
  kernel_rfl
end Go.Proofs.YticpmplmbobnpaaGreatDoor.shopReadsF
