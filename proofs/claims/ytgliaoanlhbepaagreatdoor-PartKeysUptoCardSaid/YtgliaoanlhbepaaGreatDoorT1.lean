/- The tie: the listed variables stand as the text of the program lays them. -/
import Derived.Test.YtgliaoanlhbepaaGreatDoorRows
import Derived.LaidByTextLater
import Derived.SevenTiedAt
import Derived.LaidSub
import Derived.LaidOnce
set_option linter.unusedVariables false
set_option linter.unusedSimpArgs false
namespace Go.Proofs.YtgliaoanlhbepaaGreatDoor.partKeys
open Go
abbrev Cx : List (String × DataW Unit) := [("math/bits.deBruijn32tab", Rows.laid_math_bits_deBruijn32tab), ("math/bits.deBruijn64tab", Rows.laid_math_bits_deBruijn64tab), ("internal/strconv.uint64pow10", Rows.laid_internal_strconv_uint64pow10), ("unicode/utf8.acceptRanges", Rows.laid_unicode_utf8_acceptRanges), ("errors.errorType", Rows.laid_errors_errorType), ("unicode.White_Space", Rows.laid_unicode_White_Space), ("strings.asciiSpace", Rows.laid_strings_asciiSpace)]
set_option maxRecDepth 100000 in
theorem t1 : Tryz.prog.worded (varsWordLater true) = true := by kernel_rfl
set_option maxRecDepth 100000 in
theorem t2 : Tryz.prog.worded (varsWordLater !true) = false := by kernel_rfl
set_option maxRecDepth 100000 in
theorem t3 : Tryz.prog.worded rootWordLater = true := by kernel_rfl
set_option maxRecDepth 100000 in
theorem t4 : Cx.map (fun x => Tryz.prog.kindOfLater x.1) = ([.data, .data, .data, .data, .handle, .listed, .data] : List LaidKind).map some := by kernel_rfl
set_option maxRecDepth 100000 in
theorem t5 : (Tryz.prog.funcNamed "gosem.cut.vars").isSome = true := by kernel_rfl
set_option maxRecDepth 100000 in
theorem t6 : varsNamedLaterB Tryz.prog (varsId Tryz.prog) Cx = true := by kernel_rfl
set_option maxRecDepth 100000 in
theorem t7 : ∀ os tape, doorLeaves Tryz.prog 65 8 257 Cx os tape = some (Cx.filter fun x => x.2.handleName?.isNone, (funcsListed Cx).map (·.2.funcsOut)) := fun _ _ => by kernel_rfl
theorem tie : Tryz.prog.laidByTextLater Cx [.data, .data, .data, .data, .handle, .listed, .data] true := Program.laidByTextLater_by_one 65 8 257 t1 t2 t3 t4 t5 t6 t7
theorem pin : Tryz.pinned.checked.prog.pinnedFits "unicode/utf8.first" = true := by kernel_rfl
theorem agf : Tryz.pinned.checked.prog.headLifts.contains "ownunsafe" = false := by kernel_rfl
abbrev agh : List (String × DataW Unit) := [("math/bits.deBruijn32tab", Rows.laid_math_bits_deBruijn32tab), ("math/bits.deBruijn64tab", Rows.laid_math_bits_deBruijn64tab), ("internal/strconv.uint64pow10", Rows.laid_internal_strconv_uint64pow10), ("unicode/utf8.acceptRanges", Rows.laid_unicode_utf8_acceptRanges), ("errors.errorType", Rows.laid_errors_errorType), ("unicode.White_Space", Rows.laid_unicode_White_Space), ("strings.asciiSpace", Rows.laid_strings_asciiSpace), ("unicode/utf8.first", Rows.laid_unicode_utf8_first)]
theorem fits : Tryz.pinned.checked.prog.listedFits agh = true := by
 unfold Program.listedFits
 rw [agf]
 kernel_rfl
set_option maxRecDepth 100000 in
theorem X4 : Rows.partKeysUptoRow.laidByTextAt .later Tryz.pinned [.data, .data, .data, .data, .handle, .listed, .data, .pinned] true :=
 OpenClaim.laidByTextAt_pinned rfl rfl tie rfl rfl rfl rfl (fun y hy _e => by
  simp only [Rows.partKeysUptoRow, List.zip_cons_cons, List.zip_nil_right, List.mem_cons, List.mem_nil_iff, or_false] at hy
  rcases hy with rfl | rfl | rfl | rfl | rfl | rfl | rfl | rfl
  ·cases _e
  ·cases _e
  ·cases _e
  ·cases _e
  ·cases _e
  ·cases _e
  ·cases _e
  ·exact ⟨pin, by kernel_rfl⟩) fits
end Go.Proofs.YtgliaoanlhbepaaGreatDoor.partKeys
