/-
  DERIVED. GIVEN WITH THE SEED: THE PROGRAM's TIES (one call each: nine closed facts by the kernel) AND EACH ROW's TIE, after the 31st guide's Derived/Test/Toyas{Tie, Card}.lean. No idea stands in it: it is a product of the set-up. Laid BY PROGRAM, IN A SANDBOX (cutbox-door.mjs). By AI agents, Wed Nov 11 2026. No macro, syntax, notation, axiom, sorry.
-/
import Derived.Test.YtfnjodpehomgfaaDoorRows
import Derived.LaidByTextLater
import Derived.SevenTiedAt
import Derived.LaidSub
import Derived.LaidOnce
namespace Go.Proofs.YtfnjodpehomgfaaDoor
open Go
set_option maxRecDepth 100000
theorem seatTie1 : Tryd.prog.laidByTextLater [("math/bits.deBruijn32tab", Rows.laid_math_bits_deBruijn32tab), ("math/bits.deBruijn64tab", Rows.laid_math_bits_deBruijn64tab), ("internal/strconv.uint64pow10", Rows.laid_internal_strconv_uint64pow10), ("errors.errorType", Rows.laid_errors_errorType), ("plunder/ops.names", Rows.laid_plunder_ops_names), ("plunder/text.levels", Rows.laid_plunder_text_levels), ("plunder/text.keywords", Rows.laid_plunder_text_keywords), ("plunder/text.signs", Rows.laid_plunder_text_signs)] [.data, .data, .data, .handle, .data, .widerDeep, .data, .data] true :=
  Program.laidByTextLater_by_one 59 8 65 (by kernel_rfl) (by kernel_rfl) (by kernel_rfl) (by kernel_rfl) (by kernel_rfl) (by kernel_rfl) (fun _ _ => by kernel_rfl)
theorem noOwnUnsafe : Tryd.pinned.checked.prog.headLifts.contains "ownunsafe" = false := by kernel_rfl
theorem tie : Tryd.prog.laidByTextLater [("math/bits.deBruijn32tab", Rows.laid_math_bits_deBruijn32tab), ("math/bits.deBruijn64tab", Rows.laid_math_bits_deBruijn64tab), ("internal/strconv.uint64pow10", Rows.laid_internal_strconv_uint64pow10), ("errors.errorType", Rows.laid_errors_errorType), ("plunder/ops.names", Rows.laid_plunder_ops_names), ("plunder/text.levels", Rows.laid_plunder_text_levels), ("plunder/text.keywords", Rows.laid_plunder_text_keywords), ("plunder/text.signs", Rows.laid_plunder_text_signs)] [.data, .data, .data, .handle, .data, .widerDeep, .data, .data] true :=
  Program.laidByTextLater.sub seatTie1 ["math/bits.deBruijn32tab", "math/bits.deBruijn64tab", "internal/strconv.uint64pow10", "errors.errorType", "plunder/ops.names", "plunder/text.levels", "plunder/text.keywords", "plunder/text.signs"] (by kernel_rfl) (by kernel_rfl)
theorem textLevels_row_tie : Rows.textLevelsRow.laidByTextAt .later Tryd.pinned [.data, .data, .data, .handle, .data, .widerDeep, .data, .data] true :=
  OpenClaim.laidByTextAt_later rfl rfl tie noOwnUnsafe
theorem textNumber_row_tie : Rows.textNumberRow.laidByTextAt .later Tryd.pinned [.data, .data, .data, .handle, .data, .widerDeep, .data, .data] true :=
  OpenClaim.laidByTextAt_later rfl rfl tie noOwnUnsafe
theorem textFollows_row_tie : Rows.textFollowsRow.laidByTextAt .later Tryd.pinned [.data, .data, .data, .handle, .data, .widerDeep, .data, .data] true :=
  OpenClaim.laidByTextAt_later rfl rfl tie noOwnUnsafe
theorem textLevelsUpto_row_tie : Rows.textLevelsUptoRow.laidByTextAt .later Tryd.pinned [.data, .data, .data, .handle, .data, .widerDeep, .data, .data] true :=
  OpenClaim.laidByTextAt_later rfl rfl tie noOwnUnsafe
theorem textNumberUpto_row_tie : Rows.textNumberUptoRow.laidByTextAt .later Tryd.pinned [.data, .data, .data, .handle, .data, .widerDeep, .data, .data] true :=
  OpenClaim.laidByTextAt_later rfl rfl tie noOwnUnsafe
theorem textFollowsUpto_row_tie : Rows.textFollowsUptoRow.laidByTextAt .later Tryd.pinned [.data, .data, .data, .handle, .data, .widerDeep, .data, .data] true :=
  OpenClaim.laidByTextAt_later rfl rfl tie noOwnUnsafe
end Go.Proofs.YtfnjodpehomgfaaDoor
