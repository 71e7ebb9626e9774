/- The tie: the listed variables stand as the text of the program lays them; nothing starts a goroutine. -/
import Derived.Test.YticpmplmbobnpaaGreatDoorRows
import GoSem.ClaimGoes
set_option linter.unusedVariables false
set_option linter.unusedSimpArgs false
namespace Go.Proofs.YticpmplmbobnpaaGreatDoor.shop
open Go
theorem g0 : ((Tryz.prog.funcs.toList.drop 0).take 150).all (fun f => !f.goes) = true := by kernel_rfl
theorem g1 : ((Tryz.prog.funcs.toList.drop 150).take 150).all (fun f => !f.goes) = true := by kernel_rfl
theorem g2 : ((Tryz.prog.funcs.toList.drop 300).take 150).all (fun f => !f.goes) = true := by kernel_rfl
theorem g3 : (Tryz.prog.funcs.toList.drop 450).all (fun f => !f.goes) = true := by kernel_rfl
theorem four (l : List Func) (h0 : ((l.drop 0).take 150).all (fun f => !f.goes) = true) (h1 : ((l.drop 150).take 150).all (fun f => !f.goes) = true) (h2 : ((l.drop 300).take 150).all (fun f => !f.goes) = true) (h3 : (l.drop 450).all (fun f => !f.goes) = true) (fn : Func) (hm : fn ∈ l) : fn.goes = false := by
  have e : l = l.take 150 ++ ((l.drop 150).take 150 ++ ((l.drop 300).take 150 ++ l.drop 450)) := by
    rw [show l.drop 450 = (l.drop 300).drop 150 by rw [List.drop_drop], List.take_append_drop, show l.drop 300 = (l.drop 150).drop 150 by rw [List.drop_drop], List.take_append_drop, List.take_append_drop]
  rw [e, List.mem_append, List.mem_append, List.mem_append] at hm
  have k : ∀ {m : List Func}, m.all (fun f => !f.goes) = true → fn ∈ m → fn.goes = false := fun h hm => by simpa using List.all_eq_true.1 h fn hm
  rcases hm with h | h | h | h
  · exact k h0 h
  · exact k h1 h
  · exact k h2 h
  · exact k h3 h
theorem all_still (fn : Func) (hm : fn ∈ Tryz.prog.funcs.toList) : fn.goes = false := four _ g0 g1 g2 g3 fn hm
theorem still_of (P : Program) (h : ∀ fn ∈ P.funcs.toList, fn.goes = false) (f : FuncId) : P.goes f = false := by
  unfold Program.goes
  have e1 : ((P.closure f).any fun g => (P.funcs[g]?).any Func.goes) = false := by
    rw [List.any_eq_false]
    intro g _
    cases hg : P.funcs[g]? with
    | none => simp
    | some fn =>
      have : fn ∈ P.funcs.toList := by
        rw [← Array.getElem?_toList] at hg
        exact List.mem_of_getElem? hg
      simp [h fn this]
  have e2 : P.funcs.any Func.goes = false := by
    rw [← Array.any_toList, List.any_eq_false]
    intro fn hm
    simp [h fn hm]
  rw [e1, e2, Bool.and_false]; rfl
set_option maxRecDepth 100000 in
theorem shopSums_goes (hn : Tryz.prog.funcNamed "mandrel/mandrellaw25.ShopSums" = some 3) : false = Rows.shopSumsUptoRow.goesBy Tryz.pinned.checked.prog := by
  have e : Rows.shopSumsUptoRow.goesBy Tryz.pinned.checked.prog = ((Tryz.prog.funcNamed "mandrel/mandrellaw25.ShopSums").any Tryz.prog.goes || false) := rfl
  rw [e, hn, Option.any_some, still_of Tryz.prog all_still, Bool.or_false]
set_option maxRecDepth 100000 in
theorem shopReads_goes (hn : Tryz.prog.funcNamed "mandrel/mandrellaw25.ShopReads" = some 4) : false = Rows.shopReadsUptoRow.goesBy Tryz.pinned.checked.prog := by
  have e : Rows.shopReadsUptoRow.goesBy Tryz.pinned.checked.prog = ((Tryz.prog.funcNamed "mandrel/mandrellaw25.ShopReads").any Tryz.prog.goes || false) := rfl
  rw [e, hn, Option.any_some, still_of Tryz.prog all_still, Bool.or_false]
set_option maxRecDepth 100000 in
theorem shopMerges_goes (hn : Tryz.prog.funcNamed "mandrel/mandrellaw25.ShopMerges" = some 5) : false = Rows.shopMergesUptoRow.goesBy Tryz.pinned.checked.prog := by
  have e : Rows.shopMergesUptoRow.goesBy Tryz.pinned.checked.prog = ((Tryz.prog.funcNamed "mandrel/mandrellaw25.ShopMerges").any Tryz.prog.goes || false) := rfl
  rw [e, hn, Option.any_some, still_of Tryz.prog all_still, Bool.or_false]
end Go.Proofs.YticpmplmbobnpaaGreatDoor.shop
