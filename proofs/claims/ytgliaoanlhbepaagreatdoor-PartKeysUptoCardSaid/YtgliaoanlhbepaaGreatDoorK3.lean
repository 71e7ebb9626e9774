/- The test known() answers true: run by the evaluator. -/
import Derived.Test.YtgliaoanlhbepaaGreatDoorK2
set_option linter.unusedVariables false
set_option linter.unusedSimpArgs false
namespace Go.Ai
open Go Go.Proofs
theorem Za : sI E2 6 [] (.bool true) = true := by kernel_rfl
theorem YL {w : World} (hg : Dw T1.gl w) : Calls Tryz.prog 6 #[] w fun e w' => e = .returned (.bool true) ∧ Grown w w' := by
 obtain ⟨s', h⟩ := Gi Za
 have := QO Y_ h (fun _ => trivial) hg (fun _ => ⟨0, 0, 0⟩)
 refine this.mono ?_
 rintro e w' ⟨D', σ', h1, _, h3, _, _⟩
 exact ⟨h1, h3⟩
end Go.Ai
