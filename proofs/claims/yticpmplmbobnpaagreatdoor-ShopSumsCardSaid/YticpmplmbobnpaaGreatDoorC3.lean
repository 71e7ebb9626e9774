/- mandrellaw25.ShopSums returns true for every number, every text and every list of texts. Conditions: what the arguments and the listed package variables hold together is at most 1048576 values and letters (the second form); the package variables stand as the text of the program lays them, which the card ties. -/
import Derived.Test.YticpmplmbobnpaaGreatDoorR3
import Derived.Test.YticpmplmbobnpaaGreatDoorT1
import Derived.Test.YticpmplmbobnpaaGreatDoorT2
import Derived.Test.YticpmplmbobnpaaGreatDoorCards
set_option linter.unusedVariables false
set_option linter.unusedSimpArgs false
namespace Go.Proofs.YticpmplmbobnpaaGreatDoor.shopSums
open Go Go.Proofs.YticpmplmbobnpaaGreatDoor.shop
theorem looks_is : true = Tryz.pinned.checked.prog.looks [] := by kernel_rfl
theorem main_is : Tryz.pinned.checked.prog.mainIs = some (true, ("d8bfa5470121a9a9a46e1fc0db7995bb0ab923d89e6283d346f91c4a49da744a" : String).toList) := by kernel_rfl
theorem wf_text : Rows.shopSumsUptoRow.wfByText (Rows.OpenSpec.upto Rows.shopSumsSpec) = true := by kernel_rfl
theorem stand3 : Tryz.prog.wantsStandIn 3 = false := by kernel_rfl
theorem stand9 : Tryz.prog.wantsStandIn 9 = false := by kernel_rfl
theorem stand22 : Tryz.prog.wantsStandIn 22 = false := by kernel_rfl
theorem plain (f : FuncId) (fn : Func) (hf : Tryz.pinned.checked.prog.funcNamed "mandrel/mandrellaw25.ShopSums" = some f) (hfn : Tryz.pinned.checked.prog.funcs[f]? = some fn) :
    true = Tryz.pinned.checked.prog.looks [] ∧ ∀ (j : Nat) t, fn.params[j]? = some t → Tryz.pinned.checked.prog.wantsStandIn t = false := by
  obtain rfl : f = 3 := Option.some.inj (named.symm.trans hf) |>.symm
  obtain rfl : fn = Tryz.f3 := (Option.some.inj (Tryz.func3.symm.trans hfn)).symm
  refine ⟨looks_is, fun j t ht => ?_⟩
  rw [Tryz.params3] at ht
  have h : t = 3 ∨ t = 9 ∨ t = 22 := by simpa using Array.mem_of_getElem? ht
  rcases h with rfl | rfl | rfl
  · exact stand3
  · exact stand9
  · exact stand22
set_option maxRecDepth 100000 in
theorem cardUpto : Rows.ShopSumsUptoCardSaid :=
  Claim7.holds_tied_plain_at .later [] _ _ _ _ saidUpto (fun _ h => by cases h) wf_text (fun _ h => by cases h) shopSums_row_tie rfl ⟨rfl, rfl⟩ main_is rfl plain (shopSums_goes named)
end Go.Proofs.YticpmplmbobnpaaGreatDoor.shopSums
