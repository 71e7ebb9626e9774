/- mandrellaw25.ShopSums returns true for every number, every text and every list of texts (the first form). Conditions: the listed package variables stand as the text of the program lays them, which the card ties. -/
import Derived.Test.YticpmplmbobnpaaGreatDoorH3
import Derived.Test.YticpmplmbobnpaaGreatDoorC3
set_option linter.unusedVariables false
set_option linter.unusedSimpArgs false
namespace Go.Proofs.YticpmplmbobnpaaGreatDoor.shopSumsF
open Go Go.Proofs.YticpmplmbobnpaaGreatDoor.shop
set_option maxRecDepth 100000 in
theorem row_tie : Rows.shopSumsRow.laidByTextAt .later Tryz.pinned [.data, .data, .data, .data, .handle, .sentinel, .sentinel, .listed, .data, .pinned] true :=
  OpenClaim.laidByTextAt_pinned rfl rfl tie rfl rfl rfl rfl (fun y hy _e => by
    simp only [Rows.shopSumsRow, List.zip_cons_cons, List.zip_nil_right, List.mem_cons, List.mem_nil_iff, or_false] at hy
    rcases hy with rfl | rfl | rfl | rfl | rfl | rfl | rfl | rfl | rfl | rfl
    · cases _e
    · cases _e
    · cases _e
    · cases _e
    · cases _e
    · cases _e
    · cases _e
    · cases _e
    · cases _e
    · exact ⟨pin9, by kernel_rfl⟩) fits
set_option maxRecDepth 100000 in
theorem goes (hn : Tryz.prog.funcNamed "mandrel/mandrellaw25.ShopSums" = some 3) : false = Rows.shopSumsRow.goesBy Tryz.pinned.checked.prog := by
  have e : Rows.shopSumsRow.goesBy Tryz.pinned.checked.prog = ((Tryz.prog.funcNamed "mandrel/mandrellaw25.ShopSums").any Tryz.prog.goes || false) := rfl
  rw [e, hn, Option.any_some, still_of Tryz.prog all_still, Bool.or_false]
theorem wf_text : Rows.shopSumsRow.wfByText (OpenSpec.ofChange Rows.shopSumsSpec) = true := by kernel_rfl
set_option maxRecDepth 100000 in
theorem card : Rows.ShopSumsCardSaid :=
  Claim7.holds_tied_plain_at .later [] _ _ _ _ said (fun _ h => by cases h) wf_text (fun _ h => by cases h) row_tie rfl ⟨rfl, rfl⟩ shopSums.main_is rfl shopSums.plain (goes shopSums.named)
end Go.Proofs.YticpmplmbobnpaaGreatDoor.shopSumsF
