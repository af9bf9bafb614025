/-
  DERIVED. GIVEN WITH THE SEED: THE PROGRAM's TIES (one call each: nine closed facts by the kernel) AND EACH ROW's TIE, after the 31st guide's Derived/Test/Toyas{Tie, Card}.lean. No idea stands in it: it is a product of the set-up. Laid BY PROGRAM, IN A SANDBOX (cutbox-door.mjs). By AI agents, Wed Nov 11 2026. No macro, syntax, notation, axiom, sorry.
-/
import Derived.Test.YtfnjodpehomgfaaGreatDoorRows
import Derived.LaidByTextLater
import Derived.SevenTiedAt
import Derived.LaidSub
import Derived.LaidOnce
namespace Go.Proofs.YtfnjodpehomgfaaGreatDoor
open Go
set_option maxRecDepth 100000
theorem seatTie1 : Tryz.prog.laidByTextLater [("math/bits.deBruijn32tab", Rows.laid_math_bits_deBruijn32tab), ("math/bits.deBruijn64tab", Rows.laid_math_bits_deBruijn64tab), ("internal/strconv.uint64pow10", Rows.laid_internal_strconv_uint64pow10), ("errors.errorType", Rows.laid_errors_errorType), ("plunder/ops.names", Rows.laid_plunder_ops_names), ("plunder/text.levels", Rows.laid_plunder_text_levels), ("plunder/text.closers", Rows.laid_plunder_text_closers), ("plunder/text.keywords", Rows.laid_plunder_text_keywords), ("plunder/text.signs", Rows.laid_plunder_text_signs)] [.data, .data, .data, .handle, .data, .widerDeep, .data, .data, .data] true :=
  Program.laidByTextLater_by_one 64 8 65 (by kernel_rfl) (by kernel_rfl) (by kernel_rfl) (by kernel_rfl) (by kernel_rfl) (by kernel_rfl) (fun _ _ => by kernel_rfl)
theorem noOwnUnsafe : Tryz.pinned.checked.prog.headLifts.contains "ownunsafe" = false := by kernel_rfl
theorem tie : Tryz.prog.laidByTextLater [("math/bits.deBruijn32tab", Rows.laid_math_bits_deBruijn32tab), ("math/bits.deBruijn64tab", Rows.laid_math_bits_deBruijn64tab), ("internal/strconv.uint64pow10", Rows.laid_internal_strconv_uint64pow10), ("errors.errorType", Rows.laid_errors_errorType), ("plunder/ops.names", Rows.laid_plunder_ops_names), ("plunder/text.levels", Rows.laid_plunder_text_levels), ("plunder/text.keywords", Rows.laid_plunder_text_keywords), ("plunder/text.signs", Rows.laid_plunder_text_signs)] [.data, .data, .data, .handle, .data, .widerDeep, .data, .data] true :=
  Program.laidByTextLater.sub seatTie1 ["math/bits.deBruijn32tab", "math/bits.deBruijn64tab", "internal/strconv.uint64pow10", "errors.errorType", "plunder/ops.names", "plunder/text.levels", "plunder/text.keywords", "plunder/text.signs"] (by kernel_rfl) (by kernel_rfl)
theorem textParse_row_tie : Rows.textParseRow.laidByTextAt .later Tryz.pinned [.data, .data, .data, .handle, .data, .widerDeep, .data, .data] true :=
  OpenClaim.laidByTextAt_later rfl rfl tie noOwnUnsafe
theorem textPrint_row_tie : Rows.textPrintRow.laidByTextAt .later Tryz.pinned [.data, .data, .data, .handle, .data, .widerDeep, .data, .data] true :=
  OpenClaim.laidByTextAt_later rfl rfl tie noOwnUnsafe
theorem textRound_row_tie : Rows.textRoundRow.laidByTextAt .later Tryz.pinned [.data, .data, .data, .handle, .data, .widerDeep, .data, .data] true :=
  OpenClaim.laidByTextAt_later rfl rfl tie noOwnUnsafe
theorem textAgain_row_tie : Rows.textAgainRow.laidByTextAt .later Tryz.pinned [.data, .data, .data, .handle, .data, .widerDeep, .data, .data] true :=
  OpenClaim.laidByTextAt_later rfl rfl tie noOwnUnsafe
theorem textBlanks_row_tie : Rows.textBlanksRow.laidByTextAt .later Tryz.pinned [.data, .data, .data, .handle, .data, .widerDeep, .data, .data] true :=
  OpenClaim.laidByTextAt_later rfl rfl tie noOwnUnsafe
theorem textBare_row_tie : Rows.textBareRow.laidByTextAt .later Tryz.pinned [.data, .data, .data, .handle, .data, .widerDeep, .data, .data] true :=
  OpenClaim.laidByTextAt_later rfl rfl tie noOwnUnsafe
theorem tie2 : Tryz.prog.laidByTextLater [("math/bits.deBruijn32tab", Rows.laid_math_bits_deBruijn32tab), ("math/bits.deBruijn64tab", Rows.laid_math_bits_deBruijn64tab), ("internal/strconv.uint64pow10", Rows.laid_internal_strconv_uint64pow10), ("errors.errorType", Rows.laid_errors_errorType), ("plunder/ops.names", Rows.laid_plunder_ops_names), ("plunder/text.levels", Rows.laid_plunder_text_levels), ("plunder/text.closers", Rows.laid_plunder_text_closers), ("plunder/text.keywords", Rows.laid_plunder_text_keywords), ("plunder/text.signs", Rows.laid_plunder_text_signs)] [.data, .data, .data, .handle, .data, .widerDeep, .data, .data, .data] true :=
  Program.laidByTextLater.sub seatTie1 ["math/bits.deBruijn32tab", "math/bits.deBruijn64tab", "internal/strconv.uint64pow10", "errors.errorType", "plunder/ops.names", "plunder/text.levels", "plunder/text.closers", "plunder/text.keywords", "plunder/text.signs"] (by kernel_rfl) (by kernel_rfl)
theorem textTail_row_tie : Rows.textTailRow.laidByTextAt .later Tryz.pinned [.data, .data, .data, .handle, .data, .widerDeep, .data, .data, .data] true :=
  OpenClaim.laidByTextAt_later rfl rfl tie2 noOwnUnsafe
theorem textPlace_row_tie : Rows.textPlaceRow.laidByTextAt .later Tryz.pinned [.data, .data, .data, .handle, .data, .widerDeep, .data, .data, .data] true :=
  OpenClaim.laidByTextAt_later rfl rfl tie2 noOwnUnsafe
theorem textParseUpto_row_tie : Rows.textParseUptoRow.laidByTextAt .later Tryz.pinned [.data, .data, .data, .handle, .data, .widerDeep, .data, .data] true :=
  OpenClaim.laidByTextAt_later rfl rfl tie noOwnUnsafe
theorem textTailUpto_row_tie : Rows.textTailUptoRow.laidByTextAt .later Tryz.pinned [.data, .data, .data, .handle, .data, .widerDeep, .data, .data, .data] true :=
  OpenClaim.laidByTextAt_later rfl rfl tie2 noOwnUnsafe
theorem textPrintUpto_row_tie : Rows.textPrintUptoRow.laidByTextAt .later Tryz.pinned [.data, .data, .data, .handle, .data, .widerDeep, .data, .data] true :=
  OpenClaim.laidByTextAt_later rfl rfl tie noOwnUnsafe
theorem textRoundUpto_row_tie : Rows.textRoundUptoRow.laidByTextAt .later Tryz.pinned [.data, .data, .data, .handle, .data, .widerDeep, .data, .data] true :=
  OpenClaim.laidByTextAt_later rfl rfl tie noOwnUnsafe
theorem textAgainUpto_row_tie : Rows.textAgainUptoRow.laidByTextAt .later Tryz.pinned [.data, .data, .data, .handle, .data, .widerDeep, .data, .data] true :=
  OpenClaim.laidByTextAt_later rfl rfl tie noOwnUnsafe
theorem textBlanksUpto_row_tie : Rows.textBlanksUptoRow.laidByTextAt .later Tryz.pinned [.data, .data, .data, .handle, .data, .widerDeep, .data, .data] true :=
  OpenClaim.laidByTextAt_later rfl rfl tie noOwnUnsafe
theorem textBareUpto_row_tie : Rows.textBareUptoRow.laidByTextAt .later Tryz.pinned [.data, .data, .data, .handle, .data, .widerDeep, .data, .data] true :=
  OpenClaim.laidByTextAt_later rfl rfl tie noOwnUnsafe
theorem textPlaceUpto_row_tie : Rows.textPlaceUptoRow.laidByTextAt .later Tryz.pinned [.data, .data, .data, .handle, .data, .widerDeep, .data, .data, .data] true :=
  OpenClaim.laidByTextAt_later rfl rfl tie2 noOwnUnsafe
end Go.Proofs.YtfnjodpehomgfaaGreatDoor
