/- The row of the first form is joined to the program: closed facts. -/
import Derived.Test.YticpmplmbobnpaaGreatDoorJ3
set_option linter.unusedVariables false
set_option linter.unusedSimpArgs false
namespace Go.Proofs.YticpmplmbobnpaaGreatDoor.shopSumsF
theorem j10 : (Rows.shopSumsRow.inPlace == Tryz.prog.inPlace 3) = true := shopSums.j10
theorem j11 : (Rows.shopSumsRow.unfollowed == Tryz.prog.unfollowed 3) = true := shopSums.j11
theorem j12 : (Rows.shopSumsRow.recurses == Tryz.prog.recurses 3) = true := shopSums.j12
theorem j13 : (Rows.shopSumsRow.named == Tryz.prog.varsNamed 3) = true := shopSums.j13
theorem joined : joinedFacts Tryz.prog 3 Tryz.f3 Rows.shopSumsSpec Rows.shopSumsRow = true := by
  unfold joinedFacts
  rw [j10, j11, j12, j13]
  kernel_rfl
end Go.Proofs.YticpmplmbobnpaaGreatDoor.shopSumsF
