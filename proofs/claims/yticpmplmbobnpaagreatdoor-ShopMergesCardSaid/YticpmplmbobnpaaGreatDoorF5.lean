/- The row of the first form is joined to the program: closed facts. -/
import Derived.Test.YticpmplmbobnpaaGreatDoorJ5
set_option linter.unusedVariables false
set_option linter.unusedSimpArgs false
namespace Go.Proofs.YticpmplmbobnpaaGreatDoor.shopMergesF
theorem j10 : (Rows.shopMergesRow.inPlace == Tryz.prog.inPlace 5) = true := shopMerges.j10
theorem j11 : (Rows.shopMergesRow.unfollowed == Tryz.prog.unfollowed 5) = true := shopMerges.j11
theorem j12 : (Rows.shopMergesRow.recurses == Tryz.prog.recurses 5) = true := shopMerges.j12
theorem j13 : (Rows.shopMergesRow.named == Tryz.prog.varsNamed 5) = true := shopMerges.j13
theorem joined : joinedFacts Tryz.prog 5 Tryz.f5 Rows.shopMergesSpec Rows.shopMergesRow = true := by
  unfold joinedFacts
  rw [j10, j11, j12, j13]
  kernel_rfl
end Go.Proofs.YticpmplmbobnpaaGreatDoor.shopMergesF
