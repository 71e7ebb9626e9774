/- mandrellaw25.ShopReads returns true for every text (the first form). Conditions: the listed package variables stand as the text of the program lays them, which the card ties. -/
import Derived.Test.YticpmplmbobnpaaGreatDoorH4
import Derived.Test.YticpmplmbobnpaaGreatDoorC4
set_option linter.unusedVariables false
set_option linter.unusedSimpArgs false
namespace Go.Proofs.YticpmplmbobnpaaGreatDoor.shopReadsF
open Go Go.Proofs.YticpmplmbobnpaaGreatDoor.shop
set_option maxRecDepth 100000 in
theorem row_tie : Rows.shopReadsRow.laidByTextAt .later Tryz.pinned [.data, .data, .data, .data, .handle, .sentinel, .sentinel, .listed, .data, .pinned] true :=
  OpenClaim.laidByTextAt_pinned rfl rfl tie rfl rfl rfl rfl (fun y hy _e => by
    simp only [Rows.shopReadsRow, List.zip_cons_cons, List.zip_nil_right, List.mem_cons, List.mem_nil_iff, or_false] at hy
    rcases hy with rfl | rfl | rfl | rfl | rfl | rfl | rfl | rfl | rfl | rfl
    · cases _e
    · cases _e
    · cases _e
    · cases _e
    · cases _e
    · cases _e
    · cases _e
    · cases _e
    · cases _e
    · exact ⟨pin9, by kernel_rfl⟩) fits
set_option maxRecDepth 100000 in
theorem goes (hn : Tryz.prog.funcNamed "mandrel/mandrellaw25.ShopReads" = some 4) : false = Rows.shopReadsRow.goesBy Tryz.pinned.checked.prog := by
  have e : Rows.shopReadsRow.goesBy Tryz.pinned.checked.prog = ((Tryz.prog.funcNamed "mandrel/mandrellaw25.ShopReads").any Tryz.prog.goes || false) := rfl
  rw [e, hn, Option.any_some, still_of Tryz.prog all_still, Bool.or_false]
theorem wf_text : Rows.shopReadsRow.wfByText (OpenSpec.ofChange Rows.shopReadsSpec) = true := by kernel_rfl
set_option maxRecDepth 100000 in
theorem card : Rows.ShopReadsCardSaid :=
  Claim7.holds_tied_plain_at .later [] _ _ _ _ said (fun _ h => by cases h) wf_text (fun _ h => by cases h) row_tie rfl ⟨rfl, rfl⟩ shopReads.main_is rfl shopReads.plain (goes shopReads.named)
end Go.Proofs.YticpmplmbobnpaaGreatDoor.shopReadsF
