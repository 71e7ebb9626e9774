/- mandrellaw25.ShopMerges returns true for every two texts (the first form). Conditions: the listed package variables stand as the text of the program lays them, which the card ties. -/
import Derived.Test.YticpmplmbobnpaaGreatDoorH5
import Derived.Test.YticpmplmbobnpaaGreatDoorC5
set_option linter.unusedVariables false
set_option linter.unusedSimpArgs false
namespace Go.Proofs.YticpmplmbobnpaaGreatDoor.shopMergesF
open Go Go.Proofs.YticpmplmbobnpaaGreatDoor.shop
set_option maxRecDepth 100000 in
theorem row_tie : Rows.shopMergesRow.laidByTextAt .later Tryz.pinned [.data, .data, .data, .data, .handle, .sentinel, .sentinel, .listed, .data, .pinned] true :=
  OpenClaim.laidByTextAt_pinned rfl rfl tie rfl rfl rfl rfl (fun y hy _e => by
    simp only [Rows.shopMergesRow, List.zip_cons_cons, List.zip_nil_right, List.mem_cons, List.mem_nil_iff, or_false] at hy
    rcases hy with rfl | rfl | rfl | rfl | rfl | rfl | rfl | rfl | rfl | rfl
    · cases _e
    · cases _e
    · cases _e
    · cases _e
    · cases _e
    · cases _e
    · cases _e
    · cases _e
    · cases _e
    · exact ⟨pin9, by kernel_rfl⟩) fits
set_option maxRecDepth 100000 in
theorem goes (hn : Tryz.prog.funcNamed "mandrel/mandrellaw25.ShopMerges" = some 5) : false = Rows.shopMergesRow.goesBy Tryz.pinned.checked.prog := by
  have e : Rows.shopMergesRow.goesBy Tryz.pinned.checked.prog = ((Tryz.prog.funcNamed "mandrel/mandrellaw25.ShopMerges").any Tryz.prog.goes || false) := rfl
  rw [e, hn, Option.any_some, still_of Tryz.prog all_still, Bool.or_false]
theorem wf_text : Rows.shopMergesRow.wfByText (OpenSpec.ofChange Rows.shopMergesSpec) = true := by kernel_rfl
set_option maxRecDepth 100000 in
theorem card : Rows.ShopMergesCardSaid :=
  Claim7.holds_tied_plain_at .later [] _ _ _ _ said (fun _ h => by cases h) wf_text (fun _ h => by cases h) row_tie rfl ⟨rfl, rfl⟩ shopMerges.main_is rfl shopMerges.plain (goes shopMerges.named)
end Go.Proofs.YticpmplmbobnpaaGreatDoor.shopMergesF
