/- The tie: the listed variables stand as the text of the program lays them; nothing starts a goroutine. -/
import Derived.Test.YticpmplmbobnpaaGreatDoorRows
import Derived.LaidByTextLater
import Derived.SevenTiedAt
import Derived.LaidSub
import Derived.LaidOnce
set_option linter.unusedVariables false
set_option linter.unusedSimpArgs false
namespace Go.Proofs.YticpmplmbobnpaaGreatDoor.shop
open Go
abbrev listT : List (String × DataW Unit) := [("math/bits.deBruijn32tab", Rows.laid_math_bits_deBruijn32tab), ("math/bits.deBruijn64tab", Rows.laid_math_bits_deBruijn64tab), ("internal/strconv.uint64pow10", Rows.laid_internal_strconv_uint64pow10), ("unicode/utf8.acceptRanges", Rows.laid_unicode_utf8_acceptRanges), ("errors.errorType", Rows.laid_errors_errorType), ("strconv.ErrRange", Rows.laid_strconv_ErrRange), ("strconv.ErrSyntax", Rows.laid_strconv_ErrSyntax), ("unicode.White_Space", Rows.laid_unicode_White_Space), ("strings.asciiSpace", Rows.laid_strings_asciiSpace)]
set_option maxRecDepth 100000 in
theorem t1 : Tryz.prog.worded (varsWordLater true) = true := by kernel_rfl
set_option maxRecDepth 100000 in
theorem t2 : Tryz.prog.worded (varsWordLater !true) = false := by kernel_rfl
set_option maxRecDepth 100000 in
theorem t3 : Tryz.prog.worded rootWordLater = true := by kernel_rfl
set_option maxRecDepth 100000 in
theorem t4 : listT.map (fun x => Tryz.prog.kindOfLater x.1) = ([.data, .data, .data, .data, .handle, .sentinel, .sentinel, .listed, .data] : List LaidKind).map some := by kernel_rfl
set_option maxRecDepth 100000 in
theorem t5 : (Tryz.prog.funcNamed "gosem.cut.vars").isSome = true := by kernel_rfl
set_option maxRecDepth 100000 in
theorem t6 : varsNamedLaterB Tryz.prog (varsId Tryz.prog) listT = true := by kernel_rfl
set_option maxRecDepth 100000 in
theorem t7 : ∀ os tape, doorLeaves Tryz.prog 103 8 257 listT os tape = some (listT.filter fun x => x.2.handleName?.isNone, (funcsListed listT).map (·.2.funcsOut)) := fun _ _ => by kernel_rfl
theorem tie : Tryz.prog.laidByTextLater listT [.data, .data, .data, .data, .handle, .sentinel, .sentinel, .listed, .data] true := Program.laidByTextLater_by_one 103 8 257 t1 t2 t3 t4 t5 t6 t7
theorem pin9 : Tryz.pinned.checked.prog.pinnedFits "unicode/utf8.first" = true := by kernel_rfl
theorem noUnsafe : Tryz.pinned.checked.prog.headLifts.contains "ownunsafe" = false := by kernel_rfl
abbrev listA : List (String × DataW Unit) := [("math/bits.deBruijn32tab", Rows.laid_math_bits_deBruijn32tab), ("math/bits.deBruijn64tab", Rows.laid_math_bits_deBruijn64tab), ("internal/strconv.uint64pow10", Rows.laid_internal_strconv_uint64pow10), ("unicode/utf8.acceptRanges", Rows.laid_unicode_utf8_acceptRanges), ("errors.errorType", Rows.laid_errors_errorType), ("strconv.ErrRange", Rows.laid_strconv_ErrRange), ("strconv.ErrSyntax", Rows.laid_strconv_ErrSyntax), ("unicode.White_Space", Rows.laid_unicode_White_Space), ("strings.asciiSpace", Rows.laid_strings_asciiSpace), ("unicode/utf8.first", Rows.laid_unicode_utf8_first)]
theorem fits : Tryz.pinned.checked.prog.listedFits listA = true := by
  unfold Program.listedFits
  rw [noUnsafe]
  kernel_rfl
set_option maxRecDepth 100000 in
theorem shopSums_row_tie : Rows.shopSumsUptoRow.laidByTextAt .later Tryz.pinned [.data, .data, .data, .data, .handle, .sentinel, .sentinel, .listed, .data, .pinned] true :=
  OpenClaim.laidByTextAt_pinned rfl rfl tie rfl rfl rfl rfl (fun y hy _e => by
    simp only [Rows.shopSumsUptoRow, List.zip_cons_cons, List.zip_nil_right, List.mem_cons, List.mem_nil_iff, or_false] at hy
    rcases hy with rfl | rfl | rfl | rfl | rfl | rfl | rfl | rfl | rfl | rfl
    · cases _e
    · cases _e
    · cases _e
    · cases _e
    · cases _e
    · cases _e
    · cases _e
    · cases _e
    · cases _e
    · exact ⟨pin9, by kernel_rfl⟩) fits
set_option maxRecDepth 100000 in
theorem shopReads_row_tie : Rows.shopReadsUptoRow.laidByTextAt .later Tryz.pinned [.data, .data, .data, .data, .handle, .sentinel, .sentinel, .listed, .data, .pinned] true :=
  OpenClaim.laidByTextAt_pinned rfl rfl tie rfl rfl rfl rfl (fun y hy _e => by
    simp only [Rows.shopReadsUptoRow, List.zip_cons_cons, List.zip_nil_right, List.mem_cons, List.mem_nil_iff, or_false] at hy
    rcases hy with rfl | rfl | rfl | rfl | rfl | rfl | rfl | rfl | rfl | rfl
    · cases _e
    · cases _e
    · cases _e
    · cases _e
    · cases _e
    · cases _e
    · cases _e
    · cases _e
    · cases _e
    · exact ⟨pin9, by kernel_rfl⟩) fits
set_option maxRecDepth 100000 in
theorem shopMerges_row_tie : Rows.shopMergesUptoRow.laidByTextAt .later Tryz.pinned [.data, .data, .data, .data, .handle, .sentinel, .sentinel, .listed, .data, .pinned] true :=
  OpenClaim.laidByTextAt_pinned rfl rfl tie rfl rfl rfl rfl (fun y hy _e => by
    simp only [Rows.shopMergesUptoRow, List.zip_cons_cons, List.zip_nil_right, List.mem_cons, List.mem_nil_iff, or_false] at hy
    rcases hy with rfl | rfl | rfl | rfl | rfl | rfl | rfl | rfl | rfl | rfl
    · cases _e
    · cases _e
    · cases _e
    · cases _e
    · cases _e
    · cases _e
    · cases _e
    · cases _e
    · cases _e
    · exact ⟨pin9, by kernel_rfl⟩) fits
end Go.Proofs.YticpmplmbobnpaaGreatDoor.shop
