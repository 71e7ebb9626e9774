/- Contracts of functions that are taken as given in the walks: strings.Builder, sums, books; the test known() answers true. -/
import Derived.Test.YticpmplmbobnpaaGreatDoorG2
set_option linter.unusedVariables false
set_option linter.unusedSimpArgs false
namespace Go.Proofs.GreatGiven
open Go Go.Ai Go.RowKit
theorem run_known : okCall E2 7 [] (.bool true) = true := by kernel_rfl
theorem known_below (w : World) (HT : TabW w) : Calls Tryz.prog 7 #[] w fun e w' => e = .returned (.bool true) ∧ Below w.heap.size w w' := by
  obtain ⟨s', h⟩ := okCall_ok run_known
  have := closed_call E2_ok h (fun _ => trivial) (w := w) (by rw [TDgl]; exact HT.glob) (fun _ => ⟨0, 0, 0⟩)
  refine this.mono ?_
  rintro e w' ⟨D', σ', h1, _, h3, _, _⟩
  exact ⟨h1, ⟨h3.os, h3.tape, h3.output, h3.size, h3.keep⟩⟩
end Go.Proofs.GreatGiven
