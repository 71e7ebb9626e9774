/- mandrellaw25.ShopMerges returns true for every two texts. Conditions: what the arguments and the listed package variables hold together is at most 1048576 values and letters (the second form); the package variables stand as the text of the program lays them, which the card ties. -/
import Derived.Test.YticpmplmbobnpaaGreatDoorR5
import Derived.Test.YticpmplmbobnpaaGreatDoorT1
import Derived.Test.YticpmplmbobnpaaGreatDoorT2
import Derived.Test.YticpmplmbobnpaaGreatDoorCards
set_option linter.unusedVariables false
set_option linter.unusedSimpArgs false
namespace Go.Proofs.YticpmplmbobnpaaGreatDoor.shopMerges
open Go Go.Proofs.YticpmplmbobnpaaGreatDoor.shop
theorem looks_is : true = Tryz.pinned.checked.prog.looks [] := by kernel_rfl
theorem main_is : Tryz.pinned.checked.prog.mainIs = some (true, ("d8bfa5470121a9a9a46e1fc0db7995bb0ab923d89e6283d346f91c4a49da744a" : String).toList) := by kernel_rfl
theorem wf_text : Rows.shopMergesUptoRow.wfByText (Rows.OpenSpec.upto Rows.shopMergesSpec) = true := by kernel_rfl
theorem stand9 : Tryz.prog.wantsStandIn 9 = false := by kernel_rfl
theorem plain (f : FuncId) (fn : Func) (hf : Tryz.pinned.checked.prog.funcNamed "mandrel/mandrellaw25.ShopMerges" = some f) (hfn : Tryz.pinned.checked.prog.funcs[f]? = some fn) :
    true = Tryz.pinned.checked.prog.looks [] ∧ ∀ (j : Nat) t, fn.params[j]? = some t → Tryz.pinned.checked.prog.wantsStandIn t = false := by
  obtain rfl : f = 5 := Option.some.inj (named.symm.trans hf) |>.symm
  obtain rfl : fn = Tryz.f5 := (Option.some.inj (Tryz.func5.symm.trans hfn)).symm
  refine ⟨looks_is, fun j t ht => ?_⟩
  rw [Tryz.params5] at ht
  have h : t = 9 := by simpa using Array.mem_of_getElem? ht
  rw [h]
  exact stand9
set_option maxRecDepth 100000 in
theorem cardUpto : Rows.ShopMergesUptoCardSaid :=
  Claim7.holds_tied_plain_at .later [] _ _ _ _ saidUpto (fun _ h => by cases h) wf_text (fun _ h => by cases h) shopMerges_row_tie rfl ⟨rfl, rfl⟩ main_is rfl plain (shopMerges_goes named)
end Go.Proofs.YticpmplmbobnpaaGreatDoor.shopMerges
