/- mandrellaw11.PartKeys returns true for every name and every list of values. Conditions: what the arguments and the listed package variables hold together is at most 1048576 values and letters (the second form); the package variables stand as the text of the program lays them, which the card ties. -/
import Derived.Test.YtgliaoanlhbepaaGreatDoorRows
import GoSem.ClaimGoes
import Derived.Test.YtgliaoanlhbepaaGreatDoorR2
import Derived.Test.YtgliaoanlhbepaaGreatDoorT1
import Derived.Test.YtgliaoanlhbepaaGreatDoorCards
set_option linter.unusedVariables false
set_option linter.unusedSimpArgs false
section
namespace Go.Proofs.YtgliaoanlhbepaaGreatDoor.partKeys
open Go
theorem g0 : ((Tryz.prog.funcs.toList.drop 0).take 120).all (fun f => !f.goes) = true := by kernel_rfl
theorem g1 : ((Tryz.prog.funcs.toList.drop 120).take 120).all (fun f => !f.goes) = true := by kernel_rfl
theorem g2 : ((Tryz.prog.funcs.toList.drop 240).take 120).all (fun f => !f.goes) = true := by kernel_rfl
theorem g3 : (Tryz.prog.funcs.toList.drop 360).all (fun f => !f.goes) = true := by kernel_rfl
theorem four (l : List Func) (h0 : ((l.drop 0).take 120).all (fun f => !f.goes) = true) (h1 : ((l.drop 120).take 120).all (fun f => !f.goes) = true) (h2 : ((l.drop 240).take 120).all (fun f => !f.goes) = true) (h3 : (l.drop 360).all (fun f => !f.goes) = true) (fn : Func) (hm : fn ∈ l) : fn.goes = false := by
 have e : l = l.take 120 ++ ((l.drop 120).take 120 ++ ((l.drop 240).take 120 ++ l.drop 360)) := by
  rw [show l.drop 360 = (l.drop 240).drop 120 by rw [List.drop_drop], List.take_append_drop, show l.drop 240 = (l.drop 120).drop 120 by rw [List.drop_drop], List.take_append_drop, List.take_append_drop]
 rw [e, List.mem_append, List.mem_append, List.mem_append] at hm
 have k : ∀ {m : List Func}, m.all (fun f => !f.goes) = true → fn ∈ m → fn.goes = false := fun h hm => by simpa using List.all_eq_true.1 h fn hm
 rcases hm with h | h | h | h
 ·exact k h0 h
 ·exact k h1 h
 ·exact k h2 h
 ·exact k h3 h
theorem XT (fn : Func) (hm : fn ∈ Tryz.prog.funcs.toList) : fn.goes = false := four _ g0 g1 g2 g3 fn hm
theorem XU (P : Program) (h : ∀ fn ∈ P.funcs.toList, fn.goes = false) (f : FuncId) : P.goes f = false := by
 unfold Program.goes
 have e1 : ((P.closure f).any fun g => (P.funcs[g]?).any Func.goes) = false := by
  rw [List.any_eq_false]
  intro g _
  cases hg : P.funcs[g]? with
  | none => simp
  | some fn =>
   have : fn ∈ P.funcs.toList := by
    rw [← Array.getElem?_toList] at hg
    exact List.mem_of_getElem? hg
   simp [h fn this]
 have e2 : P.funcs.any Func.goes = false := by
  rw [← Array.any_toList, List.any_eq_false]
  intro fn hm
  simp [h fn hm]
 rw [e1, e2, Bool.and_false]; rfl
set_option maxRecDepth 100000 in
theorem goes (hn : Tryz.prog.funcNamed "mandrel/mandrellaw11.PartKeys" = some 3) : false = Rows.partKeysUptoRow.goesBy Tryz.pinned.checked.prog := by
 have e : Rows.partKeysUptoRow.goesBy Tryz.pinned.checked.prog = ((Tryz.prog.funcNamed "mandrel/mandrellaw11.PartKeys").any Tryz.prog.goes || false) := rfl
 rw [e, hn, Option.any_some, XU Tryz.prog XT, Bool.or_false]
end Go.Proofs.YtgliaoanlhbepaaGreatDoor.partKeys
end
section
namespace Go.Proofs.YtgliaoanlhbepaaGreatDoor.partKeys
open Go
theorem XV : true = Tryz.pinned.checked.prog.looks [] := by kernel_rfl
theorem XW : Tryz.pinned.checked.prog.mainIs = some (true, ("129d28e74edb12ae49765b3d18b3dbca6d2e99b61010316c69fe0d6f197cdee8" : String).toList) := by kernel_rfl
theorem XY : Rows.partKeysUptoRow.wfByText (Rows.OpenSpec.upto Rows.partKeysSpec) = true := by kernel_rfl
theorem XZ : Tryz.prog.wantsStandIn 9 = false := by kernel_rfl
theorem X0 : Tryz.prog.wantsStandIn 22 = false := by kernel_rfl
theorem plain (f : FuncId) (fn : Func) (hf : Tryz.pinned.checked.prog.funcNamed "mandrel/mandrellaw11.PartKeys" = some f) (hfn : Tryz.pinned.checked.prog.funcs[f]? = some fn) :
 true = Tryz.pinned.checked.prog.looks [] ∧ ∀ (j : Nat) t, fn.params[j]? = some t → Tryz.pinned.checked.prog.wantsStandIn t = false := by
 obtain rfl : f = 3 := Option.some.inj (KZ.symm.trans hf) |>.symm
 obtain rfl : fn = Tryz.f3 := (Option.some.inj (Tryz.func3.symm.trans hfn)).symm
 refine ⟨XV, fun j t ht => ?_⟩
 rw [Tryz.params3] at ht
 have h : t = 9 ∨ t = 22 := by simpa using Array.mem_of_getElem? ht
 rcases h with rfl | rfl
 ·exact XZ
 ·exact X0
set_option maxRecDepth 100000 in
theorem cardUpto : Rows.PartKeysUptoCardSaid :=
 Claim7.holds_tied_plain_at .later [] _ _ _ _ X3 (fun _ h => by cases h) XY (fun _ h => by cases h) X4 rfl ⟨rfl, rfl⟩ XW rfl plain (goes KZ)
end Go.Proofs.YtgliaoanlhbepaaGreatDoor.partKeys
end
