/-
  NARROWER THAN 'FOR EVERY INPUT', by the rows' own cells (each row's printed sentence says how): TextParse: laid · TextTail: laid · TextPrint: loops, laid · TextRound: loops, laid · TextAgain: laid · TextBlanks: loops, laid · TextBare: loops, laid · TextPlace: laid.
  DERIVED. THE GIVEN ROWS OF THIS SEAT. 8 by the template 'for every input the law returns true; each argument reads behind the call as it read before'; 0 by the template 'total and deterministic' (their statements: YtfnjodpehomgfaaGreatDoorTotals.lean).
  GIVEN WITH THE SEED: the statements are not yours to turn. If you find one false, say at which input.
  Laid BY PROGRAM, IN A SANDBOX (cutbox-rows.mjs): the forced cells as the released guide's own fill.sh prints them over the translation 40165889d1a0cff6… (all of the seat's roots in one cut). By AI agents, Wed Nov 11 2026. No macro, syntax, notation, axiom, sorry.
-/
import Derived.Test.YtfnjodpehomgfaaGreatDoorChecked
import GoSem.Claim
import GoSem.ClaimJoined
import GoSem.ClaimMapViews
import Derived.JoinedTies
import Derived.KernelRfl
namespace Go.Proofs.YtfnjodpehomgfaaGreatDoor
/- THE CELL 'sum', in the pinned program and in every row, IS THE sha256 OF THE DUMP (.gsa) THAT YtfnjodpehomgfaaGreatDoorProg.lean LOADS. Nothing in Lean hashes anything: it is a label: what it is worth is what the hold of that sum in a sandbox is worth. -/
noncomputable def Tryz.pinned : Pinned := { name := "ytfnjodpehomgfaagreatdoor", sum := "40165889d1a0cff627032db38285e177e52b77fd62f03ddbba7f7592676779c0", checked := Tryz.checked }
namespace Rows
def none {H : Type} : Left H := { results := [], args := [] }

/- WHAT THE LISTED PACKAGE-LEVEL VARIABLES READ AS WHEN THE CALL BEGINS. Each datum BY PROGRAM (the guide's laid-datum.mjs) off the statement by which the dump's own 'gosem.cut.vars' lays the variable. In a bare row this is a premise. The card (YtfnjodpehomgfaaGreatDoorCards.lean) ties it to the program's text. -/
def laid_math_bits_deBruijn32tab {H : Type} : DataW H := .agg [.lit (.int .u8 0), .lit (.int .u8 1), .lit (.int .u8 28), .lit (.int .u8 2), .lit (.int .u8 29), .lit (.int .u8 14), .lit (.int .u8 24), .lit (.int .u8 3), .lit (.int .u8 30), .lit (.int .u8 22), .lit (.int .u8 20), .lit (.int .u8 15), .lit (.int .u8 25), .lit (.int .u8 17), .lit (.int .u8 4), .lit (.int .u8 8), .lit (.int .u8 31), .lit (.int .u8 27), .lit (.int .u8 13), .lit (.int .u8 23), .lit (.int .u8 21), .lit (.int .u8 19), .lit (.int .u8 16), .lit (.int .u8 7), .lit (.int .u8 26), .lit (.int .u8 12), .lit (.int .u8 18), .lit (.int .u8 6), .lit (.int .u8 11), .lit (.int .u8 5), .lit (.int .u8 10), .lit (.int .u8 9)]
def laid_math_bits_deBruijn64tab {H : Type} : DataW H := .agg [.lit (.int .u8 0), .lit (.int .u8 1), .lit (.int .u8 56), .lit (.int .u8 2), .lit (.int .u8 57), .lit (.int .u8 49), .lit (.int .u8 28), .lit (.int .u8 3), .lit (.int .u8 61), .lit (.int .u8 58), .lit (.int .u8 42), .lit (.int .u8 50), .lit (.int .u8 38), .lit (.int .u8 29), .lit (.int .u8 17), .lit (.int .u8 4), .lit (.int .u8 62), .lit (.int .u8 47), .lit (.int .u8 59), .lit (.int .u8 36), .lit (.int .u8 45), .lit (.int .u8 43), .lit (.int .u8 51), .lit (.int .u8 22), .lit (.int .u8 53), .lit (.int .u8 39), .lit (.int .u8 33), .lit (.int .u8 30), .lit (.int .u8 24), .lit (.int .u8 18), .lit (.int .u8 12), .lit (.int .u8 5), .lit (.int .u8 63), .lit (.int .u8 55), .lit (.int .u8 48), .lit (.int .u8 27), .lit (.int .u8 60), .lit (.int .u8 41), .lit (.int .u8 37), .lit (.int .u8 16), .lit (.int .u8 46), .lit (.int .u8 35), .lit (.int .u8 44), .lit (.int .u8 21), .lit (.int .u8 52), .lit (.int .u8 32), .lit (.int .u8 23), .lit (.int .u8 11), .lit (.int .u8 54), .lit (.int .u8 26), .lit (.int .u8 40), .lit (.int .u8 15), .lit (.int .u8 34), .lit (.int .u8 20), .lit (.int .u8 31), .lit (.int .u8 10), .lit (.int .u8 25), .lit (.int .u8 14), .lit (.int .u8 19), .lit (.int .u8 9), .lit (.int .u8 13), .lit (.int .u8 8), .lit (.int .u8 7), .lit (.int .u8 6)]
def laid_internal_strconv_uint64pow10 {H : Type} : DataW H := .agg [.lit (.int .u64 1), .lit (.int .u64 10), .lit (.int .u64 100), .lit (.int .u64 1000), .lit (.int .u64 10000), .lit (.int .u64 100000), .lit (.int .u64 1000000), .lit (.int .u64 10000000), .lit (.int .u64 100000000), .lit (.int .u64 1000000000), .lit (.int .u64 10000000000), .lit (.int .u64 100000000000), .lit (.int .u64 1000000000000), .lit (.int .u64 10000000000000), .lit (.int .u64 100000000000000), .lit (.int .u64 1000000000000000), .lit (.int .u64 10000000000000000), .lit (.int .u64 100000000000000000), .lit (.int .u64 1000000000000000000), .lit (.int .u64 10000000000000000000)]
def laid_errors_errorType {H : Type} : DataW H := .iface "internal/reflectlite.rtype" (.agg [.ptr (.lit (.string [101, 114, 114, 111, 114]))])
def laid_plunder_ops_names {H : Type} : DataW H := .agg [.lit (.string [43]), .lit (.string [45]), .lit (.string [42]), .lit (.string [47]), .lit (.string [37]), .lit (.string [38]), .lit (.string [124]), .lit (.string [94]), .lit (.string [60, 60]), .lit (.string [62, 62]), .lit (.string [109, 105, 110]), .lit (.string [109, 97, 120]), .lit (.string [60]), .lit (.string [60, 61]), .lit (.string [61, 61]), .lit (.string [33, 61])]
def laid_plunder_text_levels {H : Type} : DataW H := .agg [.slice [.lit (.string [124, 124])] [], .slice [.lit (.string [38, 38])] [], .slice [.lit (.string [61, 61]), .lit (.string [33, 61]), .lit (.string [60]), .lit (.string [60, 61])] [], .slice [.lit (.string [124]), .lit (.string [94])] [], .slice [.lit (.string [38])] [], .slice [.lit (.string [60, 60]), .lit (.string [62, 62])] [], .slice [.lit (.string [43]), .lit (.string [45])] [], .slice [.lit (.string [42]), .lit (.string [47]), .lit (.string [37])] []]
def laid_plunder_text_keywords {H : Type} : DataW H := .agg [.lit (.string [102, 110]), .lit (.string [108, 101, 116]), .lit (.string [115, 112, 97, 119, 110]), .lit (.string [115, 121, 110, 99]), .lit (.string [105, 102]), .lit (.string [101, 108, 115, 101]), .lit (.string [119, 104, 105, 108, 101]), .lit (.string [100, 111]), .lit (.string [114, 101, 116, 117, 114, 110]), .lit (.string [98, 114, 101, 97, 107]), .lit (.string [99, 111, 110, 116, 105, 110, 117, 101]), .lit (.string [109, 105, 110]), .lit (.string [109, 97, 120]), .lit (.string [114, 101, 100, 117, 99, 101]), .lit (.string [101, 97, 99, 104])]
def laid_plunder_text_signs {H : Type} : DataW H := .agg [.lit (.string [60, 60]), .lit (.string [62, 62]), .lit (.string [60, 61]), .lit (.string [61, 61]), .lit (.string [33, 61]), .lit (.string [38, 38]), .lit (.string [124, 124]), .lit (.string [40]), .lit (.string [41]), .lit (.string [123]), .lit (.string [125]), .lit (.string [44]), .lit (.string [59]), .lit (.string [61]), .lit (.string [43]), .lit (.string [45]), .lit (.string [42]), .lit (.string [47]), .lit (.string [37]), .lit (.string [38]), .lit (.string [124]), .lit (.string [94]), .lit (.string [60]), .lit (.string [33])]
def laid_plunder_text_closers {H : Type} : DataW H := .agg [.lit (.string [125]), .lit (.string [59]), .lit (.string [41]), .lit (.string [49]), .lit (.string [123]), .lit (.string [44]), .lit (.string [40]), .lit (.string [61]), .lit (.string [120]), .lit (.string [102, 110])]

/-- 'plunderlaw14.TextParse': WHATEVER THE INPUT: true; the input reads as it did. -/
def textParseSpec : ChangeSpec := { name := "textParse", fn := fun _ => fun
  | [d] => { results := [.lit (.bool true)], args := [d] }
  | _ => none }
def textParseRow : OpenClaim := { program := "ytfnjodpehomgfaagreatdoor", sum := "40165889d1a0cff627032db38285e177e52b77fd62f03ddbba7f7592676779c0", func := "plunder/plunderlaw14.TextParse", spec := "textParse", inPlace := ["internal/reflectlite.ValueOf", "(internal/reflectlite.Value).Type", "(internal/reflectlite.Value).IsNil", "internal/reflectlite.TypeOf", "(internal/reflectlite.Value).Elem", "(internal/reflectlite.Value).Set"], unfollowed := true, recurses := true, named := ["errors.errorType", "plunder/text.signs", "plunder/text.keywords", "internal/strconv.uint64pow10", "math/bits.deBruijn32tab", "math/bits.deBruijn64tab", "plunder/ops.names", "plunder/text.levels"], apart := false, laid := [("math/bits.deBruijn32tab", laid_math_bits_deBruijn32tab), ("math/bits.deBruijn64tab", laid_math_bits_deBruijn64tab), ("internal/strconv.uint64pow10", laid_internal_strconv_uint64pow10), ("errors.errorType", laid_errors_errorType), ("plunder/ops.names", laid_plunder_ops_names), ("plunder/text.levels", laid_plunder_text_levels), ("plunder/text.keywords", laid_plunder_text_keywords), ("plunder/text.signs", laid_plunder_text_signs)] }
def TextParseSaid : Prop := textParseRow.holds Tryz.pinned (OpenSpec.ofChange textParseSpec)

/-- ITS FALSE NEIGHBOUR: 'it returns false'. Refute it at one input. -/
def textParseWrong : ChangeSpec := { name := "textParse", fn := fun _ => fun
  | [d] => { results := [.lit (.bool false)], args := [d] }
  | _ => none }
def TextParseWrongFalsely : Prop := textParseRow.holds Tryz.pinned (OpenSpec.ofChange textParseWrong)

/-- 'plunderlaw14.TextTail': WHATEVER THE INPUT: true; the input reads as it did. -/
def textTailSpec : ChangeSpec := { name := "textTail", fn := fun _ => fun
  | [d] => { results := [.lit (.bool true)], args := [d] }
  | _ => none }
def textTailRow : OpenClaim := { program := "ytfnjodpehomgfaagreatdoor", sum := "40165889d1a0cff627032db38285e177e52b77fd62f03ddbba7f7592676779c0", func := "plunder/plunderlaw14.TextTail", spec := "textTail", inPlace := ["internal/reflectlite.ValueOf", "(internal/reflectlite.Value).Type", "(internal/reflectlite.Value).IsNil", "internal/reflectlite.TypeOf", "(internal/reflectlite.Value).Elem", "(internal/reflectlite.Value).Set"], unfollowed := true, recurses := true, named := ["errors.errorType", "plunder/text.signs", "plunder/text.keywords", "internal/strconv.uint64pow10", "math/bits.deBruijn32tab", "math/bits.deBruijn64tab", "plunder/ops.names", "plunder/text.levels", "plunder/text.closers"], apart := false, laid := [("math/bits.deBruijn32tab", laid_math_bits_deBruijn32tab), ("math/bits.deBruijn64tab", laid_math_bits_deBruijn64tab), ("internal/strconv.uint64pow10", laid_internal_strconv_uint64pow10), ("errors.errorType", laid_errors_errorType), ("plunder/ops.names", laid_plunder_ops_names), ("plunder/text.levels", laid_plunder_text_levels), ("plunder/text.closers", laid_plunder_text_closers), ("plunder/text.keywords", laid_plunder_text_keywords), ("plunder/text.signs", laid_plunder_text_signs)] }
def TextTailSaid : Prop := textTailRow.holds Tryz.pinned (OpenSpec.ofChange textTailSpec)

/-- ITS FALSE NEIGHBOUR: 'it returns false'. Refute it at one input. -/
def textTailWrong : ChangeSpec := { name := "textTail", fn := fun _ => fun
  | [d] => { results := [.lit (.bool false)], args := [d] }
  | _ => none }
def TextTailWrongFalsely : Prop := textTailRow.holds Tryz.pinned (OpenSpec.ofChange textTailWrong)

/-- 'plunderlaw14.TextPrint': WHATEVER THE INPUT: true; the input reads as it did. -/
def textPrintSpec : ChangeSpec := { name := "textPrint", fn := fun _ => fun
  | [d] => { results := [.lit (.bool true)], args := [d] }
  | _ => none }
def textPrintRow : OpenClaim := { program := "ytfnjodpehomgfaagreatdoor", sum := "40165889d1a0cff627032db38285e177e52b77fd62f03ddbba7f7592676779c0", func := "plunder/plunderlaw14.TextPrint", spec := "textPrint", inPlace := ["internal/abi.NoEscape", "internal/bytealg.MakeNoZero", "internal/reflectlite.ValueOf", "(internal/reflectlite.Value).Type", "(internal/reflectlite.Value).IsNil", "internal/reflectlite.TypeOf", "(internal/reflectlite.Value).Elem", "(internal/reflectlite.Value).Set"], unfollowed := true, recurses := true, named := ["internal/strconv.uint64pow10", "math/bits.deBruijn32tab", "math/bits.deBruijn64tab", "plunder/text.keywords", "plunder/ops.names", "plunder/text.levels", "errors.errorType", "plunder/text.signs"], loops := true, apart := false, laid := [("math/bits.deBruijn32tab", laid_math_bits_deBruijn32tab), ("math/bits.deBruijn64tab", laid_math_bits_deBruijn64tab), ("internal/strconv.uint64pow10", laid_internal_strconv_uint64pow10), ("errors.errorType", laid_errors_errorType), ("plunder/ops.names", laid_plunder_ops_names), ("plunder/text.levels", laid_plunder_text_levels), ("plunder/text.keywords", laid_plunder_text_keywords), ("plunder/text.signs", laid_plunder_text_signs)] }
def TextPrintSaid : Prop := textPrintRow.holds Tryz.pinned (OpenSpec.ofChange textPrintSpec)

/-- ITS FALSE NEIGHBOUR: 'it returns false'. Refute it at one input. -/
def textPrintWrong : ChangeSpec := { name := "textPrint", fn := fun _ => fun
  | [d] => { results := [.lit (.bool false)], args := [d] }
  | _ => none }
def TextPrintWrongFalsely : Prop := textPrintRow.holds Tryz.pinned (OpenSpec.ofChange textPrintWrong)

/-- 'plunderlaw14.TextRound': WHATEVER THE INPUT: true; the input reads as it did. -/
def textRoundSpec : ChangeSpec := { name := "textRound", fn := fun _ => fun
  | [d] => { results := [.lit (.bool true)], args := [d] }
  | _ => none }
def textRoundRow : OpenClaim := { program := "ytfnjodpehomgfaagreatdoor", sum := "40165889d1a0cff627032db38285e177e52b77fd62f03ddbba7f7592676779c0", func := "plunder/plunderlaw14.TextRound", spec := "textRound", inPlace := ["internal/abi.NoEscape", "internal/bytealg.MakeNoZero", "internal/reflectlite.ValueOf", "(internal/reflectlite.Value).Type", "(internal/reflectlite.Value).IsNil", "internal/reflectlite.TypeOf", "(internal/reflectlite.Value).Elem", "(internal/reflectlite.Value).Set"], unfollowed := true, recurses := true, named := ["plunder/text.keywords", "plunder/ops.names", "plunder/text.levels", "internal/strconv.uint64pow10", "math/bits.deBruijn32tab", "math/bits.deBruijn64tab", "errors.errorType", "plunder/text.signs"], loops := true, apart := false, laid := [("math/bits.deBruijn32tab", laid_math_bits_deBruijn32tab), ("math/bits.deBruijn64tab", laid_math_bits_deBruijn64tab), ("internal/strconv.uint64pow10", laid_internal_strconv_uint64pow10), ("errors.errorType", laid_errors_errorType), ("plunder/ops.names", laid_plunder_ops_names), ("plunder/text.levels", laid_plunder_text_levels), ("plunder/text.keywords", laid_plunder_text_keywords), ("plunder/text.signs", laid_plunder_text_signs)] }
def TextRoundSaid : Prop := textRoundRow.holds Tryz.pinned (OpenSpec.ofChange textRoundSpec)

/-- ITS FALSE NEIGHBOUR: 'it returns false'. Refute it at one input. -/
def textRoundWrong : ChangeSpec := { name := "textRound", fn := fun _ => fun
  | [d] => { results := [.lit (.bool false)], args := [d] }
  | _ => none }
def TextRoundWrongFalsely : Prop := textRoundRow.holds Tryz.pinned (OpenSpec.ofChange textRoundWrong)

/-- 'plunderlaw14.TextAgain': WHATEVER THE INPUT: true; the input reads as it did. -/
def textAgainSpec : ChangeSpec := { name := "textAgain", fn := fun _ => fun
  | [d] => { results := [.lit (.bool true)], args := [d] }
  | _ => none }
def textAgainRow : OpenClaim := { program := "ytfnjodpehomgfaagreatdoor", sum := "40165889d1a0cff627032db38285e177e52b77fd62f03ddbba7f7592676779c0", func := "plunder/plunderlaw14.TextAgain", spec := "textAgain", inPlace := ["internal/reflectlite.ValueOf", "(internal/reflectlite.Value).Type", "(internal/reflectlite.Value).IsNil", "internal/reflectlite.TypeOf", "(internal/reflectlite.Value).Elem", "(internal/reflectlite.Value).Set", "internal/abi.NoEscape", "internal/bytealg.MakeNoZero"], unfollowed := true, recurses := true, named := ["errors.errorType", "plunder/text.signs", "plunder/text.keywords", "internal/strconv.uint64pow10", "math/bits.deBruijn32tab", "math/bits.deBruijn64tab", "plunder/ops.names", "plunder/text.levels"], apart := false, laid := [("math/bits.deBruijn32tab", laid_math_bits_deBruijn32tab), ("math/bits.deBruijn64tab", laid_math_bits_deBruijn64tab), ("internal/strconv.uint64pow10", laid_internal_strconv_uint64pow10), ("errors.errorType", laid_errors_errorType), ("plunder/ops.names", laid_plunder_ops_names), ("plunder/text.levels", laid_plunder_text_levels), ("plunder/text.keywords", laid_plunder_text_keywords), ("plunder/text.signs", laid_plunder_text_signs)] }
def TextAgainSaid : Prop := textAgainRow.holds Tryz.pinned (OpenSpec.ofChange textAgainSpec)

/-- ITS FALSE NEIGHBOUR: 'it returns false'. Refute it at one input. -/
def textAgainWrong : ChangeSpec := { name := "textAgain", fn := fun _ => fun
  | [d] => { results := [.lit (.bool false)], args := [d] }
  | _ => none }
def TextAgainWrongFalsely : Prop := textAgainRow.holds Tryz.pinned (OpenSpec.ofChange textAgainWrong)

/-- 'plunderlaw14.TextBlanks': WHATEVER THE INPUT: true; the input reads as it did. -/
def textBlanksSpec : ChangeSpec := { name := "textBlanks", fn := fun _ => fun
  | [d1, d2] => { results := [.lit (.bool true)], args := [d1, d2] }
  | _ => none }
def textBlanksRow : OpenClaim := { program := "ytfnjodpehomgfaagreatdoor", sum := "40165889d1a0cff627032db38285e177e52b77fd62f03ddbba7f7592676779c0", func := "plunder/plunderlaw14.TextBlanks", spec := "textBlanks", inPlace := ["internal/abi.NoEscape", "internal/bytealg.MakeNoZero", "internal/reflectlite.ValueOf", "(internal/reflectlite.Value).Type", "(internal/reflectlite.Value).IsNil", "internal/reflectlite.TypeOf", "(internal/reflectlite.Value).Elem", "(internal/reflectlite.Value).Set"], unfollowed := true, recurses := true, named := ["plunder/text.keywords", "plunder/ops.names", "plunder/text.levels", "internal/strconv.uint64pow10", "math/bits.deBruijn32tab", "math/bits.deBruijn64tab", "errors.errorType", "plunder/text.signs"], loops := true, apart := false, laid := [("math/bits.deBruijn32tab", laid_math_bits_deBruijn32tab), ("math/bits.deBruijn64tab", laid_math_bits_deBruijn64tab), ("internal/strconv.uint64pow10", laid_internal_strconv_uint64pow10), ("errors.errorType", laid_errors_errorType), ("plunder/ops.names", laid_plunder_ops_names), ("plunder/text.levels", laid_plunder_text_levels), ("plunder/text.keywords", laid_plunder_text_keywords), ("plunder/text.signs", laid_plunder_text_signs)] }
def TextBlanksSaid : Prop := textBlanksRow.holds Tryz.pinned (OpenSpec.ofChange textBlanksSpec)

/-- ITS FALSE NEIGHBOUR: 'it returns false'. Refute it at one input. -/
def textBlanksWrong : ChangeSpec := { name := "textBlanks", fn := fun _ => fun
  | [d1, d2] => { results := [.lit (.bool false)], args := [d1, d2] }
  | _ => none }
def TextBlanksWrongFalsely : Prop := textBlanksRow.holds Tryz.pinned (OpenSpec.ofChange textBlanksWrong)

/-- 'plunderlaw14.TextBare': WHATEVER THE INPUT: true; the input reads as it did. -/
def textBareSpec : ChangeSpec := { name := "textBare", fn := fun _ => fun
  | [d1, d2] => { results := [.lit (.bool true)], args := [d1, d2] }
  | _ => none }
def textBareRow : OpenClaim := { program := "ytfnjodpehomgfaagreatdoor", sum := "40165889d1a0cff627032db38285e177e52b77fd62f03ddbba7f7592676779c0", func := "plunder/plunderlaw14.TextBare", spec := "textBare", inPlace := ["internal/abi.NoEscape", "internal/bytealg.MakeNoZero", "internal/reflectlite.ValueOf", "(internal/reflectlite.Value).Type", "(internal/reflectlite.Value).IsNil", "internal/reflectlite.TypeOf", "(internal/reflectlite.Value).Elem", "(internal/reflectlite.Value).Set"], unfollowed := true, recurses := true, named := ["plunder/text.keywords", "plunder/ops.names", "plunder/text.levels", "internal/strconv.uint64pow10", "math/bits.deBruijn32tab", "math/bits.deBruijn64tab", "errors.errorType", "plunder/text.signs"], loops := true, apart := false, laid := [("math/bits.deBruijn32tab", laid_math_bits_deBruijn32tab), ("math/bits.deBruijn64tab", laid_math_bits_deBruijn64tab), ("internal/strconv.uint64pow10", laid_internal_strconv_uint64pow10), ("errors.errorType", laid_errors_errorType), ("plunder/ops.names", laid_plunder_ops_names), ("plunder/text.levels", laid_plunder_text_levels), ("plunder/text.keywords", laid_plunder_text_keywords), ("plunder/text.signs", laid_plunder_text_signs)] }
def TextBareSaid : Prop := textBareRow.holds Tryz.pinned (OpenSpec.ofChange textBareSpec)

/-- ITS FALSE NEIGHBOUR: 'it returns false'. Refute it at one input. -/
def textBareWrong : ChangeSpec := { name := "textBare", fn := fun _ => fun
  | [d1, d2] => { results := [.lit (.bool false)], args := [d1, d2] }
  | _ => none }
def TextBareWrongFalsely : Prop := textBareRow.holds Tryz.pinned (OpenSpec.ofChange textBareWrong)

/-- 'plunderlaw14.TextPlace': WHATEVER THE INPUT: true; the input reads as it did. -/
def textPlaceSpec : ChangeSpec := { name := "textPlace", fn := fun _ => fun
  | [d] => { results := [.lit (.bool true)], args := [d] }
  | _ => none }
def textPlaceRow : OpenClaim := { program := "ytfnjodpehomgfaagreatdoor", sum := "40165889d1a0cff627032db38285e177e52b77fd62f03ddbba7f7592676779c0", func := "plunder/plunderlaw14.TextPlace", spec := "textPlace", inPlace := ["internal/reflectlite.ValueOf", "(internal/reflectlite.Value).Type", "(internal/reflectlite.Value).IsNil", "internal/reflectlite.TypeOf", "(internal/reflectlite.Value).Elem", "(internal/reflectlite.Value).Set", "internal/abi.NoEscape", "internal/bytealg.MakeNoZero"], unfollowed := true, recurses := true, named := ["errors.errorType", "plunder/text.signs", "plunder/text.keywords", "internal/strconv.uint64pow10", "math/bits.deBruijn32tab", "math/bits.deBruijn64tab", "plunder/ops.names", "plunder/text.levels", "plunder/text.closers"], apart := false, laid := [("math/bits.deBruijn32tab", laid_math_bits_deBruijn32tab), ("math/bits.deBruijn64tab", laid_math_bits_deBruijn64tab), ("internal/strconv.uint64pow10", laid_internal_strconv_uint64pow10), ("errors.errorType", laid_errors_errorType), ("plunder/ops.names", laid_plunder_ops_names), ("plunder/text.levels", laid_plunder_text_levels), ("plunder/text.closers", laid_plunder_text_closers), ("plunder/text.keywords", laid_plunder_text_keywords), ("plunder/text.signs", laid_plunder_text_signs)] }
def TextPlaceSaid : Prop := textPlaceRow.holds Tryz.pinned (OpenSpec.ofChange textPlaceSpec)

/-- ITS FALSE NEIGHBOUR: 'it returns false'. Refute it at one input. -/
def textPlaceWrong : ChangeSpec := { name := "textPlace", fn := fun _ => fun
  | [d] => { results := [.lit (.bool false)], args := [d] }
  | _ => none }
def TextPlaceWrongFalsely : Prop := textPlaceRow.holds Tryz.pinned (OpenSpec.ofChange textPlaceWrong)

/- THE SECOND FORM. 'bulk': how many values and letters a reading holds, each counted each time it is reached (what is shared counts as often as it is met; a slice's spare places count too). A statement '..UptoSaid' is the law's where the arguments, and the package variables that the reading takes, are together of bulk at most 1048576: NARROWER than '..Said'. Prove '..Said' where nothing that the law and all that it calls make is longer than what came in: it says more and counts as full. Else prove '..UptoSaid'. A law counts once. -/
mutual
def uptoBulk {H : Type} : DataW H → Nat
  | .lit (.string bytes) => bytes.length + 1
  | .lit _ => 1
  | .nil => 1
  | .ptr d => uptoBulk d + 1
  | .slice elems spare => uptoBulkAll elems + uptoBulkAll spare + 1
  | .agg parts => uptoBulkAll parts + 1
  | .iface _ d => uptoBulk d + 1
  | .map entries => uptoBulkEntries entries + 1
  | .held _ => 1
def uptoBulkAll {H : Type} : List (DataW H) → Nat
  | [] => 0
  | d :: r => uptoBulk d + uptoBulkAll r
def uptoBulkEntries {H : Type} : List (Lit × DataW H) → Nat
  | [] => 0
  | x :: r => uptoBulkEntry x + uptoBulkEntries r
def uptoBulkEntry {H : Type} : Lit × DataW H → Nat
  | (.string bytes, d) => bytes.length + uptoBulk d + 1
  | (_, d) => uptoBulk d + 1
 end
def uptoSmall : (H : Type) → List (DataW H) → Bool := fun _ ds => decide (uptoBulkAll ds ≤ 1048576)
def OpenSpec.upto (s : _root_.Go.ChangeSpec) : _root_.Go.OpenSpec := { _root_.Go.OpenSpec.ofChange s with cond := some uptoSmall }

/-- 'plunderlaw14.TextParse', WHERE WHAT IT READS IS OF BULK AT MOST 1048576: true; the input reads as it did. -/
def textParseUptoRow : OpenClaim := { program := "ytfnjodpehomgfaagreatdoor", sum := "40165889d1a0cff627032db38285e177e52b77fd62f03ddbba7f7592676779c0", func := "plunder/plunderlaw14.TextParse", spec := "textParse", inPlace := ["internal/reflectlite.ValueOf", "(internal/reflectlite.Value).Type", "(internal/reflectlite.Value).IsNil", "internal/reflectlite.TypeOf", "(internal/reflectlite.Value).Elem", "(internal/reflectlite.Value).Set"], unfollowed := true, recurses := true, named := ["errors.errorType", "plunder/text.signs", "plunder/text.keywords", "internal/strconv.uint64pow10", "math/bits.deBruijn32tab", "math/bits.deBruijn64tab", "plunder/ops.names", "plunder/text.levels"], apart := false, laid := [("math/bits.deBruijn32tab", laid_math_bits_deBruijn32tab), ("math/bits.deBruijn64tab", laid_math_bits_deBruijn64tab), ("internal/strconv.uint64pow10", laid_internal_strconv_uint64pow10), ("errors.errorType", laid_errors_errorType), ("plunder/ops.names", laid_plunder_ops_names), ("plunder/text.levels", laid_plunder_text_levels), ("plunder/text.keywords", laid_plunder_text_keywords), ("plunder/text.signs", laid_plunder_text_signs)], narrowed := true }
def TextParseUptoSaid : Prop := textParseUptoRow.holds Tryz.pinned (OpenSpec.upto textParseSpec)

/-- 'plunderlaw14.TextTail', WHERE WHAT IT READS IS OF BULK AT MOST 1048576: true; the input reads as it did. -/
def textTailUptoRow : OpenClaim := { program := "ytfnjodpehomgfaagreatdoor", sum := "40165889d1a0cff627032db38285e177e52b77fd62f03ddbba7f7592676779c0", func := "plunder/plunderlaw14.TextTail", spec := "textTail", inPlace := ["internal/reflectlite.ValueOf", "(internal/reflectlite.Value).Type", "(internal/reflectlite.Value).IsNil", "internal/reflectlite.TypeOf", "(internal/reflectlite.Value).Elem", "(internal/reflectlite.Value).Set"], unfollowed := true, recurses := true, named := ["errors.errorType", "plunder/text.signs", "plunder/text.keywords", "internal/strconv.uint64pow10", "math/bits.deBruijn32tab", "math/bits.deBruijn64tab", "plunder/ops.names", "plunder/text.levels", "plunder/text.closers"], apart := false, laid := [("math/bits.deBruijn32tab", laid_math_bits_deBruijn32tab), ("math/bits.deBruijn64tab", laid_math_bits_deBruijn64tab), ("internal/strconv.uint64pow10", laid_internal_strconv_uint64pow10), ("errors.errorType", laid_errors_errorType), ("plunder/ops.names", laid_plunder_ops_names), ("plunder/text.levels", laid_plunder_text_levels), ("plunder/text.closers", laid_plunder_text_closers), ("plunder/text.keywords", laid_plunder_text_keywords), ("plunder/text.signs", laid_plunder_text_signs)], narrowed := true }
def TextTailUptoSaid : Prop := textTailUptoRow.holds Tryz.pinned (OpenSpec.upto textTailSpec)

/-- 'plunderlaw14.TextPrint', WHERE WHAT IT READS IS OF BULK AT MOST 1048576: true; the input reads as it did. -/
def textPrintUptoRow : OpenClaim := { program := "ytfnjodpehomgfaagreatdoor", sum := "40165889d1a0cff627032db38285e177e52b77fd62f03ddbba7f7592676779c0", func := "plunder/plunderlaw14.TextPrint", spec := "textPrint", inPlace := ["internal/abi.NoEscape", "internal/bytealg.MakeNoZero", "internal/reflectlite.ValueOf", "(internal/reflectlite.Value).Type", "(internal/reflectlite.Value).IsNil", "internal/reflectlite.TypeOf", "(internal/reflectlite.Value).Elem", "(internal/reflectlite.Value).Set"], unfollowed := true, recurses := true, named := ["internal/strconv.uint64pow10", "math/bits.deBruijn32tab", "math/bits.deBruijn64tab", "plunder/text.keywords", "plunder/ops.names", "plunder/text.levels", "errors.errorType", "plunder/text.signs"], loops := true, apart := false, laid := [("math/bits.deBruijn32tab", laid_math_bits_deBruijn32tab), ("math/bits.deBruijn64tab", laid_math_bits_deBruijn64tab), ("internal/strconv.uint64pow10", laid_internal_strconv_uint64pow10), ("errors.errorType", laid_errors_errorType), ("plunder/ops.names", laid_plunder_ops_names), ("plunder/text.levels", laid_plunder_text_levels), ("plunder/text.keywords", laid_plunder_text_keywords), ("plunder/text.signs", laid_plunder_text_signs)], narrowed := true }
def TextPrintUptoSaid : Prop := textPrintUptoRow.holds Tryz.pinned (OpenSpec.upto textPrintSpec)

/-- 'plunderlaw14.TextRound', WHERE WHAT IT READS IS OF BULK AT MOST 1048576: true; the input reads as it did. -/
def textRoundUptoRow : OpenClaim := { program := "ytfnjodpehomgfaagreatdoor", sum := "40165889d1a0cff627032db38285e177e52b77fd62f03ddbba7f7592676779c0", func := "plunder/plunderlaw14.TextRound", spec := "textRound", inPlace := ["internal/abi.NoEscape", "internal/bytealg.MakeNoZero", "internal/reflectlite.ValueOf", "(internal/reflectlite.Value).Type", "(internal/reflectlite.Value).IsNil", "internal/reflectlite.TypeOf", "(internal/reflectlite.Value).Elem", "(internal/reflectlite.Value).Set"], unfollowed := true, recurses := true, named := ["plunder/text.keywords", "plunder/ops.names", "plunder/text.levels", "internal/strconv.uint64pow10", "math/bits.deBruijn32tab", "math/bits.deBruijn64tab", "errors.errorType", "plunder/text.signs"], loops := true, apart := false, laid := [("math/bits.deBruijn32tab", laid_math_bits_deBruijn32tab), ("math/bits.deBruijn64tab", laid_math_bits_deBruijn64tab), ("internal/strconv.uint64pow10", laid_internal_strconv_uint64pow10), ("errors.errorType", laid_errors_errorType), ("plunder/ops.names", laid_plunder_ops_names), ("plunder/text.levels", laid_plunder_text_levels), ("plunder/text.keywords", laid_plunder_text_keywords), ("plunder/text.signs", laid_plunder_text_signs)], narrowed := true }
def TextRoundUptoSaid : Prop := textRoundUptoRow.holds Tryz.pinned (OpenSpec.upto textRoundSpec)

/-- 'plunderlaw14.TextAgain', WHERE WHAT IT READS IS OF BULK AT MOST 1048576: true; the input reads as it did. -/
def textAgainUptoRow : OpenClaim := { program := "ytfnjodpehomgfaagreatdoor", sum := "40165889d1a0cff627032db38285e177e52b77fd62f03ddbba7f7592676779c0", func := "plunder/plunderlaw14.TextAgain", spec := "textAgain", inPlace := ["internal/reflectlite.ValueOf", "(internal/reflectlite.Value).Type", "(internal/reflectlite.Value).IsNil", "internal/reflectlite.TypeOf", "(internal/reflectlite.Value).Elem", "(internal/reflectlite.Value).Set", "internal/abi.NoEscape", "internal/bytealg.MakeNoZero"], unfollowed := true, recurses := true, named := ["errors.errorType", "plunder/text.signs", "plunder/text.keywords", "internal/strconv.uint64pow10", "math/bits.deBruijn32tab", "math/bits.deBruijn64tab", "plunder/ops.names", "plunder/text.levels"], apart := false, laid := [("math/bits.deBruijn32tab", laid_math_bits_deBruijn32tab), ("math/bits.deBruijn64tab", laid_math_bits_deBruijn64tab), ("internal/strconv.uint64pow10", laid_internal_strconv_uint64pow10), ("errors.errorType", laid_errors_errorType), ("plunder/ops.names", laid_plunder_ops_names), ("plunder/text.levels", laid_plunder_text_levels), ("plunder/text.keywords", laid_plunder_text_keywords), ("plunder/text.signs", laid_plunder_text_signs)], narrowed := true }
def TextAgainUptoSaid : Prop := textAgainUptoRow.holds Tryz.pinned (OpenSpec.upto textAgainSpec)

/-- 'plunderlaw14.TextBlanks', WHERE WHAT IT READS IS OF BULK AT MOST 1048576: true; the input reads as it did. -/
def textBlanksUptoRow : OpenClaim := { program := "ytfnjodpehomgfaagreatdoor", sum := "40165889d1a0cff627032db38285e177e52b77fd62f03ddbba7f7592676779c0", func := "plunder/plunderlaw14.TextBlanks", spec := "textBlanks", inPlace := ["internal/abi.NoEscape", "internal/bytealg.MakeNoZero", "internal/reflectlite.ValueOf", "(internal/reflectlite.Value).Type", "(internal/reflectlite.Value).IsNil", "internal/reflectlite.TypeOf", "(internal/reflectlite.Value).Elem", "(internal/reflectlite.Value).Set"], unfollowed := true, recurses := true, named := ["plunder/text.keywords", "plunder/ops.names", "plunder/text.levels", "internal/strconv.uint64pow10", "math/bits.deBruijn32tab", "math/bits.deBruijn64tab", "errors.errorType", "plunder/text.signs"], loops := true, apart := false, laid := [("math/bits.deBruijn32tab", laid_math_bits_deBruijn32tab), ("math/bits.deBruijn64tab", laid_math_bits_deBruijn64tab), ("internal/strconv.uint64pow10", laid_internal_strconv_uint64pow10), ("errors.errorType", laid_errors_errorType), ("plunder/ops.names", laid_plunder_ops_names), ("plunder/text.levels", laid_plunder_text_levels), ("plunder/text.keywords", laid_plunder_text_keywords), ("plunder/text.signs", laid_plunder_text_signs)], narrowed := true }
def TextBlanksUptoSaid : Prop := textBlanksUptoRow.holds Tryz.pinned (OpenSpec.upto textBlanksSpec)

/-- 'plunderlaw14.TextBare', WHERE WHAT IT READS IS OF BULK AT MOST 1048576: true; the input reads as it did. -/
def textBareUptoRow : OpenClaim := { program := "ytfnjodpehomgfaagreatdoor", sum := "40165889d1a0cff627032db38285e177e52b77fd62f03ddbba7f7592676779c0", func := "plunder/plunderlaw14.TextBare", spec := "textBare", inPlace := ["internal/abi.NoEscape", "internal/bytealg.MakeNoZero", "internal/reflectlite.ValueOf", "(internal/reflectlite.Value).Type", "(internal/reflectlite.Value).IsNil", "internal/reflectlite.TypeOf", "(internal/reflectlite.Value).Elem", "(internal/reflectlite.Value).Set"], unfollowed := true, recurses := true, named := ["plunder/text.keywords", "plunder/ops.names", "plunder/text.levels", "internal/strconv.uint64pow10", "math/bits.deBruijn32tab", "math/bits.deBruijn64tab", "errors.errorType", "plunder/text.signs"], loops := true, apart := false, laid := [("math/bits.deBruijn32tab", laid_math_bits_deBruijn32tab), ("math/bits.deBruijn64tab", laid_math_bits_deBruijn64tab), ("internal/strconv.uint64pow10", laid_internal_strconv_uint64pow10), ("errors.errorType", laid_errors_errorType), ("plunder/ops.names", laid_plunder_ops_names), ("plunder/text.levels", laid_plunder_text_levels), ("plunder/text.keywords", laid_plunder_text_keywords), ("plunder/text.signs", laid_plunder_text_signs)], narrowed := true }
def TextBareUptoSaid : Prop := textBareUptoRow.holds Tryz.pinned (OpenSpec.upto textBareSpec)

/-- 'plunderlaw14.TextPlace', WHERE WHAT IT READS IS OF BULK AT MOST 1048576: true; the input reads as it did. -/
def textPlaceUptoRow : OpenClaim := { program := "ytfnjodpehomgfaagreatdoor", sum := "40165889d1a0cff627032db38285e177e52b77fd62f03ddbba7f7592676779c0", func := "plunder/plunderlaw14.TextPlace", spec := "textPlace", inPlace := ["internal/reflectlite.ValueOf", "(internal/reflectlite.Value).Type", "(internal/reflectlite.Value).IsNil", "internal/reflectlite.TypeOf", "(internal/reflectlite.Value).Elem", "(internal/reflectlite.Value).Set", "internal/abi.NoEscape", "internal/bytealg.MakeNoZero"], unfollowed := true, recurses := true, named := ["errors.errorType", "plunder/text.signs", "plunder/text.keywords", "internal/strconv.uint64pow10", "math/bits.deBruijn32tab", "math/bits.deBruijn64tab", "plunder/ops.names", "plunder/text.levels", "plunder/text.closers"], apart := false, laid := [("math/bits.deBruijn32tab", laid_math_bits_deBruijn32tab), ("math/bits.deBruijn64tab", laid_math_bits_deBruijn64tab), ("internal/strconv.uint64pow10", laid_internal_strconv_uint64pow10), ("errors.errorType", laid_errors_errorType), ("plunder/ops.names", laid_plunder_ops_names), ("plunder/text.levels", laid_plunder_text_levels), ("plunder/text.closers", laid_plunder_text_closers), ("plunder/text.keywords", laid_plunder_text_keywords), ("plunder/text.signs", laid_plunder_text_signs)], narrowed := true }
def TextPlaceUptoSaid : Prop := textPlaceUptoRow.holds Tryz.pinned (OpenSpec.upto textPlaceSpec)

end Rows
end Go.Proofs.YtfnjodpehomgfaaGreatDoor
