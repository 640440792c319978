/-
  DERIVED. GIVEN WITH THE SEED: THE PROGRAM's TIES (one call each: nine closed facts by the kernel) AND EACH ROW's TIE, after the 31st guide's Derived/Test/Toyas{Tie, Card}.lean. No idea stands in it: it is a product of the set-up. Laid BY PROGRAM, IN A SANDBOX (cutbox-door.mjs). By AI agents, Wed Nov 11 2026. No macro, syntax, notation, axiom, sorry.
-/
import Derived.Test.YtpgailcmohojmaaDoorRows
import Derived.LaidByTextLater
import Derived.SevenTiedAt
import Derived.LaidSub
import Derived.LaidOnce
namespace Go.Proofs.YtpgailcmohojmaaDoor
open Go
set_option maxRecDepth 100000
theorem seatTie1 : Tryd.prog.laidByTextLater [("math/bits.deBruijn32tab", Rows.laid_math_bits_deBruijn32tab), ("math/bits.deBruijn64tab", Rows.laid_math_bits_deBruijn64tab), ("internal/strconv.uint64pow10", Rows.laid_internal_strconv_uint64pow10), ("errors.errorType", Rows.laid_errors_errorType), ("lustrum/api.ErrText", Rows.laid_lustrum_api_ErrText), ("lustrum/api.ErrBound", Rows.laid_lustrum_api_ErrBound), ("lustrum/api.ErrShape", Rows.laid_lustrum_api_ErrShape), ("lustrum/api.ErrName", Rows.laid_lustrum_api_ErrName), ("lustrum/api.ErrType", Rows.laid_lustrum_api_ErrType), ("lustrum/api.ErrCycle", Rows.laid_lustrum_api_ErrCycle), ("lustrum/api.ErrFirst", Rows.laid_lustrum_api_ErrFirst), ("lustrum/api.ErrProof", Rows.laid_lustrum_api_ErrProof), ("lustrum/api.ErrNone", Rows.laid_lustrum_api_ErrNone), ("strconv.ErrRange", Rows.laid_strconv_ErrRange), ("strconv.ErrSyntax", Rows.laid_strconv_ErrSyntax), ("lustrum/lex.words", Rows.laid_lustrum_lex_words), ("lustrum/lex.ops", Rows.laid_lustrum_lex_ops), ("lustrum/tree.levels", Rows.laid_lustrum_tree_levels)] [.data, .data, .data, .handle, .sentinel, .sentinel, .sentinel, .sentinel, .sentinel, .sentinel, .sentinel, .sentinel, .sentinel, .sentinel, .sentinel, .widerDeep, .widerDeep, .widerDeep] true :=
  Program.laidByTextLater_by_one 270 8 65 (by kernel_rfl) (by kernel_rfl) (by kernel_rfl) (by kernel_rfl) (by kernel_rfl) (by kernel_rfl) (fun _ _ => by kernel_rfl)
theorem noOwnUnsafe : Tryd.pinned.checked.prog.headLifts.contains "ownunsafe" = false := by kernel_rfl
theorem tie : Tryd.prog.laidByTextLater [("errors.errorType", Rows.laid_errors_errorType), ("lustrum/api.ErrText", Rows.laid_lustrum_api_ErrText), ("lustrum/api.ErrBound", Rows.laid_lustrum_api_ErrBound), ("lustrum/api.ErrShape", Rows.laid_lustrum_api_ErrShape), ("lustrum/api.ErrName", Rows.laid_lustrum_api_ErrName), ("lustrum/api.ErrType", Rows.laid_lustrum_api_ErrType), ("lustrum/api.ErrCycle", Rows.laid_lustrum_api_ErrCycle), ("lustrum/api.ErrFirst", Rows.laid_lustrum_api_ErrFirst), ("lustrum/api.ErrProof", Rows.laid_lustrum_api_ErrProof), ("lustrum/api.ErrNone", Rows.laid_lustrum_api_ErrNone)] [.handle, .sentinel, .sentinel, .sentinel, .sentinel, .sentinel, .sentinel, .sentinel, .sentinel, .sentinel] true :=
  Program.laidByTextLater.sub seatTie1 ["errors.errorType", "lustrum/api.ErrText", "lustrum/api.ErrBound", "lustrum/api.ErrShape", "lustrum/api.ErrName", "lustrum/api.ErrType", "lustrum/api.ErrCycle", "lustrum/api.ErrFirst", "lustrum/api.ErrProof", "lustrum/api.ErrNone"] (by kernel_rfl) (by kernel_rfl)
theorem names_row_tie : Rows.namesRow.laidByTextAt .later Tryd.pinned [.handle, .sentinel, .sentinel, .sentinel, .sentinel, .sentinel, .sentinel, .sentinel, .sentinel, .sentinel] true :=
  OpenClaim.laidByTextAt_later rfl rfl tie noOwnUnsafe
theorem tie2 : Tryd.prog.laidByTextLater [("lustrum/api.ErrBound", Rows.laid_lustrum_api_ErrBound), ("lustrum/api.ErrShape", Rows.laid_lustrum_api_ErrShape), ("lustrum/api.ErrType", Rows.laid_lustrum_api_ErrType), ("lustrum/api.ErrCycle", Rows.laid_lustrum_api_ErrCycle), ("lustrum/api.ErrFirst", Rows.laid_lustrum_api_ErrFirst), ("lustrum/tree.levels", Rows.laid_lustrum_tree_levels)] [.sentinel, .sentinel, .sentinel, .sentinel, .sentinel, .widerDeep] true :=
  Program.laidByTextLater.sub seatTie1 ["lustrum/api.ErrBound", "lustrum/api.ErrShape", "lustrum/api.ErrType", "lustrum/api.ErrCycle", "lustrum/api.ErrFirst", "lustrum/tree.levels"] (by kernel_rfl) (by kernel_rfl)
theorem slimTwice_row_tie : Rows.slimTwiceRow.laidByTextAt .later Tryd.pinned [.sentinel, .sentinel, .sentinel, .sentinel, .sentinel, .widerDeep] true :=
  OpenClaim.laidByTextAt_later rfl rfl tie2 noOwnUnsafe
theorem flowNil_row_tie : Rows.flowNilRow.laidByTextAt .later Tryd.pinned [.sentinel, .sentinel, .sentinel, .sentinel, .sentinel, .widerDeep] true :=
  OpenClaim.laidByTextAt_later rfl rfl tie2 noOwnUnsafe
theorem flowFby_row_tie : Rows.flowFbyRow.laidByTextAt .later Tryd.pinned [.sentinel, .sentinel, .sentinel, .sentinel, .sentinel, .widerDeep] true :=
  OpenClaim.laidByTextAt_later rfl rfl tie2 noOwnUnsafe
theorem flowRetimes_row_tie : Rows.flowRetimesRow.laidByTextAt .later Tryd.pinned [.sentinel, .sentinel, .sentinel, .sentinel, .sentinel, .widerDeep] true :=
  OpenClaim.laidByTextAt_later rfl rfl tie2 noOwnUnsafe
theorem slimLess_row_tie : Rows.slimLessRow.laidByTextAt .later Tryd.pinned [.sentinel, .sentinel, .sentinel, .sentinel, .sentinel, .widerDeep] true :=
  OpenClaim.laidByTextAt_later rfl rfl tie2 noOwnUnsafe
theorem stepAgain_row_tie : Rows.stepAgainRow.laidByTextAt .later Tryd.pinned [.sentinel, .sentinel, .sentinel, .sentinel, .sentinel, .widerDeep] true :=
  OpenClaim.laidByTextAt_later rfl rfl tie2 noOwnUnsafe
theorem reachTraces_row_tie : Rows.reachTracesRow.laidByTextAt .later Tryd.pinned [.sentinel, .sentinel, .sentinel, .sentinel, .sentinel, .widerDeep] true :=
  OpenClaim.laidByTextAt_later rfl rfl tie2 noOwnUnsafe
theorem reachMore_row_tie : Rows.reachMoreRow.laidByTextAt .later Tryd.pinned [.sentinel, .sentinel, .sentinel, .sentinel, .sentinel, .widerDeep] true :=
  OpenClaim.laidByTextAt_later rfl rfl tie2 noOwnUnsafe
theorem tie3 : Tryd.prog.laidByTextLater [("errors.errorType", Rows.laid_errors_errorType), ("lustrum/api.ErrText", Rows.laid_lustrum_api_ErrText), ("lustrum/api.ErrBound", Rows.laid_lustrum_api_ErrBound), ("lustrum/api.ErrShape", Rows.laid_lustrum_api_ErrShape), ("lustrum/api.ErrName", Rows.laid_lustrum_api_ErrName), ("lustrum/api.ErrType", Rows.laid_lustrum_api_ErrType), ("lustrum/api.ErrCycle", Rows.laid_lustrum_api_ErrCycle), ("lustrum/api.ErrFirst", Rows.laid_lustrum_api_ErrFirst), ("lustrum/api.ErrProof", Rows.laid_lustrum_api_ErrProof), ("lustrum/api.ErrNone", Rows.laid_lustrum_api_ErrNone), ("lustrum/tree.levels", Rows.laid_lustrum_tree_levels)] [.handle, .sentinel, .sentinel, .sentinel, .sentinel, .sentinel, .sentinel, .sentinel, .sentinel, .sentinel, .widerDeep] true :=
  Program.laidByTextLater.sub seatTie1 ["errors.errorType", "lustrum/api.ErrText", "lustrum/api.ErrBound", "lustrum/api.ErrShape", "lustrum/api.ErrName", "lustrum/api.ErrType", "lustrum/api.ErrCycle", "lustrum/api.ErrFirst", "lustrum/api.ErrProof", "lustrum/api.ErrNone", "lustrum/tree.levels"] (by kernel_rfl) (by kernel_rfl)
theorem orderIs_row_tie : Rows.orderIsRow.laidByTextAt .later Tryd.pinned [.handle, .sentinel, .sentinel, .sentinel, .sentinel, .sentinel, .sentinel, .sentinel, .sentinel, .sentinel, .widerDeep] true :=
  OpenClaim.laidByTextAt_later rfl rfl tie3 noOwnUnsafe
theorem orderHolds_row_tie : Rows.orderHoldsRow.laidByTextAt .later Tryd.pinned [.handle, .sentinel, .sentinel, .sentinel, .sentinel, .sentinel, .sentinel, .sentinel, .sentinel, .sentinel, .widerDeep] true :=
  OpenClaim.laidByTextAt_later rfl rfl tie3 noOwnUnsafe
theorem tie4 : Tryd.prog.laidByTextLater [("math/bits.deBruijn32tab", Rows.laid_math_bits_deBruijn32tab), ("math/bits.deBruijn64tab", Rows.laid_math_bits_deBruijn64tab), ("internal/strconv.uint64pow10", Rows.laid_internal_strconv_uint64pow10), ("lustrum/api.ErrText", Rows.laid_lustrum_api_ErrText), ("lustrum/api.ErrBound", Rows.laid_lustrum_api_ErrBound), ("strconv.ErrRange", Rows.laid_strconv_ErrRange), ("strconv.ErrSyntax", Rows.laid_strconv_ErrSyntax), ("lustrum/lex.words", Rows.laid_lustrum_lex_words), ("lustrum/lex.ops", Rows.laid_lustrum_lex_ops)] [.data, .data, .data, .sentinel, .sentinel, .sentinel, .sentinel, .widerDeep, .widerDeep] true :=
  Program.laidByTextLater.sub seatTie1 ["math/bits.deBruijn32tab", "math/bits.deBruijn64tab", "internal/strconv.uint64pow10", "lustrum/api.ErrText", "lustrum/api.ErrBound", "strconv.ErrRange", "strconv.ErrSyntax", "lustrum/lex.words", "lustrum/lex.ops"] (by kernel_rfl) (by kernel_rfl)
theorem lexGaps_row_tie : Rows.lexGapsRow.laidByTextAt .later Tryd.pinned [.data, .data, .data, .sentinel, .sentinel, .sentinel, .sentinel, .widerDeep, .widerDeep] true :=
  OpenClaim.laidByTextAt_later rfl rfl tie4 noOwnUnsafe
theorem tie5 : Tryd.prog.laidByTextLater [("math/bits.deBruijn32tab", Rows.laid_math_bits_deBruijn32tab), ("math/bits.deBruijn64tab", Rows.laid_math_bits_deBruijn64tab), ("internal/strconv.uint64pow10", Rows.laid_internal_strconv_uint64pow10), ("errors.errorType", Rows.laid_errors_errorType), ("lustrum/api.ErrText", Rows.laid_lustrum_api_ErrText), ("lustrum/api.ErrBound", Rows.laid_lustrum_api_ErrBound), ("lustrum/api.ErrShape", Rows.laid_lustrum_api_ErrShape), ("lustrum/api.ErrName", Rows.laid_lustrum_api_ErrName), ("lustrum/api.ErrType", Rows.laid_lustrum_api_ErrType), ("lustrum/api.ErrCycle", Rows.laid_lustrum_api_ErrCycle), ("lustrum/api.ErrFirst", Rows.laid_lustrum_api_ErrFirst), ("lustrum/api.ErrProof", Rows.laid_lustrum_api_ErrProof), ("lustrum/api.ErrNone", Rows.laid_lustrum_api_ErrNone), ("strconv.ErrRange", Rows.laid_strconv_ErrRange), ("strconv.ErrSyntax", Rows.laid_strconv_ErrSyntax), ("lustrum/lex.words", Rows.laid_lustrum_lex_words), ("lustrum/lex.ops", Rows.laid_lustrum_lex_ops)] [.data, .data, .data, .handle, .sentinel, .sentinel, .sentinel, .sentinel, .sentinel, .sentinel, .sentinel, .sentinel, .sentinel, .sentinel, .sentinel, .widerDeep, .widerDeep] true :=
  Program.laidByTextLater.sub seatTie1 ["math/bits.deBruijn32tab", "math/bits.deBruijn64tab", "internal/strconv.uint64pow10", "errors.errorType", "lustrum/api.ErrText", "lustrum/api.ErrBound", "lustrum/api.ErrShape", "lustrum/api.ErrName", "lustrum/api.ErrType", "lustrum/api.ErrCycle", "lustrum/api.ErrFirst", "lustrum/api.ErrProof", "lustrum/api.ErrNone", "strconv.ErrRange", "strconv.ErrSyntax", "lustrum/lex.words", "lustrum/lex.ops"] (by kernel_rfl) (by kernel_rfl)
theorem lexReads_row_tie : Rows.lexReadsRow.laidByTextAt .later Tryd.pinned [.data, .data, .data, .handle, .sentinel, .sentinel, .sentinel, .sentinel, .sentinel, .sentinel, .sentinel, .sentinel, .sentinel, .sentinel, .sentinel, .widerDeep, .widerDeep] true :=
  OpenClaim.laidByTextAt_later rfl rfl tie5 noOwnUnsafe
theorem lexTexts_row_tie : Rows.lexTextsRow.laidByTextAt .later Tryd.pinned [.data, .data, .data, .handle, .sentinel, .sentinel, .sentinel, .sentinel, .sentinel, .sentinel, .sentinel, .sentinel, .sentinel, .sentinel, .sentinel, .widerDeep, .widerDeep] true :=
  OpenClaim.laidByTextAt_later rfl rfl tie5 noOwnUnsafe
theorem namesUpto_row_tie : Rows.namesUptoRow.laidByTextAt .later Tryd.pinned [.handle, .sentinel, .sentinel, .sentinel, .sentinel, .sentinel, .sentinel, .sentinel, .sentinel, .sentinel] true :=
  OpenClaim.laidByTextAt_later rfl rfl tie noOwnUnsafe
theorem slimTwiceUpto_row_tie : Rows.slimTwiceUptoRow.laidByTextAt .later Tryd.pinned [.sentinel, .sentinel, .sentinel, .sentinel, .sentinel, .widerDeep] true :=
  OpenClaim.laidByTextAt_later rfl rfl tie2 noOwnUnsafe
theorem orderIsUpto_row_tie : Rows.orderIsUptoRow.laidByTextAt .later Tryd.pinned [.handle, .sentinel, .sentinel, .sentinel, .sentinel, .sentinel, .sentinel, .sentinel, .sentinel, .sentinel, .widerDeep] true :=
  OpenClaim.laidByTextAt_later rfl rfl tie3 noOwnUnsafe
theorem orderHoldsUpto_row_tie : Rows.orderHoldsUptoRow.laidByTextAt .later Tryd.pinned [.handle, .sentinel, .sentinel, .sentinel, .sentinel, .sentinel, .sentinel, .sentinel, .sentinel, .sentinel, .widerDeep] true :=
  OpenClaim.laidByTextAt_later rfl rfl tie3 noOwnUnsafe
theorem lexGapsUpto_row_tie : Rows.lexGapsUptoRow.laidByTextAt .later Tryd.pinned [.data, .data, .data, .sentinel, .sentinel, .sentinel, .sentinel, .widerDeep, .widerDeep] true :=
  OpenClaim.laidByTextAt_later rfl rfl tie4 noOwnUnsafe
theorem flowNilUpto_row_tie : Rows.flowNilUptoRow.laidByTextAt .later Tryd.pinned [.sentinel, .sentinel, .sentinel, .sentinel, .sentinel, .widerDeep] true :=
  OpenClaim.laidByTextAt_later rfl rfl tie2 noOwnUnsafe
theorem flowFbyUpto_row_tie : Rows.flowFbyUptoRow.laidByTextAt .later Tryd.pinned [.sentinel, .sentinel, .sentinel, .sentinel, .sentinel, .widerDeep] true :=
  OpenClaim.laidByTextAt_later rfl rfl tie2 noOwnUnsafe
theorem flowRetimesUpto_row_tie : Rows.flowRetimesUptoRow.laidByTextAt .later Tryd.pinned [.sentinel, .sentinel, .sentinel, .sentinel, .sentinel, .widerDeep] true :=
  OpenClaim.laidByTextAt_later rfl rfl tie2 noOwnUnsafe
theorem slimLessUpto_row_tie : Rows.slimLessUptoRow.laidByTextAt .later Tryd.pinned [.sentinel, .sentinel, .sentinel, .sentinel, .sentinel, .widerDeep] true :=
  OpenClaim.laidByTextAt_later rfl rfl tie2 noOwnUnsafe
theorem stepAgainUpto_row_tie : Rows.stepAgainUptoRow.laidByTextAt .later Tryd.pinned [.sentinel, .sentinel, .sentinel, .sentinel, .sentinel, .widerDeep] true :=
  OpenClaim.laidByTextAt_later rfl rfl tie2 noOwnUnsafe
theorem reachTracesUpto_row_tie : Rows.reachTracesUptoRow.laidByTextAt .later Tryd.pinned [.sentinel, .sentinel, .sentinel, .sentinel, .sentinel, .widerDeep] true :=
  OpenClaim.laidByTextAt_later rfl rfl tie2 noOwnUnsafe
theorem reachMoreUpto_row_tie : Rows.reachMoreUptoRow.laidByTextAt .later Tryd.pinned [.sentinel, .sentinel, .sentinel, .sentinel, .sentinel, .widerDeep] true :=
  OpenClaim.laidByTextAt_later rfl rfl tie2 noOwnUnsafe
theorem lexReadsUpto_row_tie : Rows.lexReadsUptoRow.laidByTextAt .later Tryd.pinned [.data, .data, .data, .handle, .sentinel, .sentinel, .sentinel, .sentinel, .sentinel, .sentinel, .sentinel, .sentinel, .sentinel, .sentinel, .sentinel, .widerDeep, .widerDeep] true :=
  OpenClaim.laidByTextAt_later rfl rfl tie5 noOwnUnsafe
theorem lexTextsUpto_row_tie : Rows.lexTextsUptoRow.laidByTextAt .later Tryd.pinned [.data, .data, .data, .handle, .sentinel, .sentinel, .sentinel, .sentinel, .sentinel, .sentinel, .sentinel, .sentinel, .sentinel, .sentinel, .sentinel, .widerDeep, .widerDeep] true :=
  OpenClaim.laidByTextAt_later rfl rfl tie5 noOwnUnsafe
end Go.Proofs.YtpgailcmohojmaaDoor
