/-
  NARROWER THAN 'FOR EVERY INPUT', by the rows' own cells (each row's printed sentence says how): ProgFlow: laid · ProgTrail: laid · ProgCheck: laid · ProgSafe: laid · ProgPaths: laid · ProgEncode: laid · ProgTold: laid · ProgShown: laid · ProgDecode: laid · ProgRound: laid · ProgWords: laid · ProgSpoilt: laid.
  DERIVED. THE GIVEN ROWS OF THIS SEAT. 12 by the template 'for every input the law returns true; each argument reads behind the call as it read before'; 0 by the template 'total and deterministic' (their statements: YtbbadmlekagloaaDoorTotals.lean).
  GIVEN WITH THE SEED: the statements are not yours to turn. If you find one false, say at which input.
  Laid BY PROGRAM, IN A SANDBOX (cutbox-rows.mjs): the forced cells as the released guide's own fill.sh prints them over the translation 9de33c9d3aa8cbc3… (all of the seat's roots in one cut). By AI agents, Wed Nov 11 2026. No macro, syntax, notation, axiom, sorry.
-/
import Derived.Test.YtbbadmlekagloaaDoorChecked
import GoSem.Claim
import GoSem.ClaimJoined
import GoSem.ClaimMapViews
import Derived.JoinedTies
import Derived.KernelRfl
namespace Go.Proofs.YtbbadmlekagloaaDoor
/- THE CELL 'sum', in the pinned program and in every row, IS THE sha256 OF THE DUMP (.gsa) THAT YtbbadmlekagloaaDoorProg.lean LOADS. Nothing in Lean hashes anything: it is a label: what it is worth is what the hold of that sum in a sandbox is worth. -/
noncomputable def Tryd.pinned : Pinned := { name := "ytbbadmlekagloaadoor", sum := "9de33c9d3aa8cbc32fa3ec614474444f2bf8d1aadcae654954bb0f5e9f878b01", checked := Tryd.checked }
namespace Rows
def none {H : Type} : Left H := { results := [], args := [] }

/- WHAT THE LISTED PACKAGE-LEVEL VARIABLES READ AS WHEN THE CALL BEGINS. Each datum BY PROGRAM (the guide's laid-datum.mjs) off the statement by which the dump's own 'gosem.cut.vars' lays the variable. In a bare row this is a premise. The card (YtbbadmlekagloaaDoorCards.lean) ties it to the program's text. -/
def laid_plunder_prog_fields {H : Type} : DataW H := .agg [.agg [.lit (.int .i64 1), .lit (.int .i64 0), .lit (.int .i64 0), .lit (.int .i64 0), .lit (.bool true)], .agg [.lit (.int .i64 1), .lit (.int .i64 1), .lit (.int .i64 0), .lit (.int .i64 0), .lit (.bool true)], .agg [.lit (.int .i64 1), .lit (.int .i64 1), .lit (.int .i64 1), .lit (.int .i64 5), .lit (.bool true)], .agg [.lit (.int .i64 3), .lit (.int .i64 0), .lit (.int .i64 0), .lit (.int .i64 0), .lit (.bool false)], .agg [.lit (.int .i64 1), .lit (.int .i64 3), .lit (.int .i64 0), .lit (.int .i64 0), .lit (.bool true)], .agg [.lit (.int .i64 2), .lit (.int .i64 4), .lit (.int .i64 0), .lit (.int .i64 0), .lit (.bool true)], .agg [.lit (.int .i64 0), .lit (.int .i64 0), .lit (.int .i64 0), .lit (.int .i64 0), .lit (.bool true)], .agg [.lit (.int .i64 1), .lit (.int .i64 2), .lit (.int .i64 0), .lit (.int .i64 0), .lit (.bool true)], .agg [.lit (.int .i64 1), .lit (.int .i64 0), .lit (.int .i64 0), .lit (.int .i64 0), .lit (.bool true)], .agg [.lit (.int .i64 1), .lit (.int .i64 0), .lit (.int .i64 0), .lit (.int .i64 0), .lit (.bool false)]]

/-- 'plunderlaw5.ProgFlow': WHATEVER THE INPUT: true; the input reads as it did. -/
def progFlowSpec : ChangeSpec := { name := "progFlow", fn := fun _ => fun
  | [d] => { results := [.lit (.bool true)], args := [d] }
  | _ => none }
def progFlowRow : OpenClaim := { program := "ytbbadmlekagloaadoor", sum := "9de33c9d3aa8cbc32fa3ec614474444f2bf8d1aadcae654954bb0f5e9f878b01", func := "plunder/plunderlaw5.ProgFlow", spec := "progFlow", unfollowed := true, recurses := true, named := ["plunder/prog.fields"], plainKeys := false, apart := false, laid := [("plunder/prog.fields", laid_plunder_prog_fields)] }
def ProgFlowSaid : Prop := progFlowRow.holds Tryd.pinned (OpenSpec.ofChange progFlowSpec)

/-- ITS FALSE NEIGHBOUR: 'it returns false'. Refute it at one input. -/
def progFlowWrong : ChangeSpec := { name := "progFlow", fn := fun _ => fun
  | [d] => { results := [.lit (.bool false)], args := [d] }
  | _ => none }
def ProgFlowWrongFalsely : Prop := progFlowRow.holds Tryd.pinned (OpenSpec.ofChange progFlowWrong)

/-- 'plunderlaw5.ProgTrail': WHATEVER THE INPUT: true; the input reads as it did. -/
def progTrailSpec : ChangeSpec := { name := "progTrail", fn := fun _ => fun
  | [d1, d2, d3, d4] => { results := [.lit (.bool true)], args := [d1, d2, d3, d4] }
  | _ => none }
def progTrailRow : OpenClaim := { program := "ytbbadmlekagloaadoor", sum := "9de33c9d3aa8cbc32fa3ec614474444f2bf8d1aadcae654954bb0f5e9f878b01", func := "plunder/plunderlaw5.ProgTrail", spec := "progTrail", unfollowed := true, recurses := true, named := ["plunder/prog.fields"], plainKeys := false, apart := false, laid := [("plunder/prog.fields", laid_plunder_prog_fields)] }
def ProgTrailSaid : Prop := progTrailRow.holds Tryd.pinned (OpenSpec.ofChange progTrailSpec)

/-- ITS FALSE NEIGHBOUR: 'it returns false'. Refute it at one input. -/
def progTrailWrong : ChangeSpec := { name := "progTrail", fn := fun _ => fun
  | [d1, d2, d3, d4] => { results := [.lit (.bool false)], args := [d1, d2, d3, d4] }
  | _ => none }
def ProgTrailWrongFalsely : Prop := progTrailRow.holds Tryd.pinned (OpenSpec.ofChange progTrailWrong)

/-- 'plunderlaw5.ProgCheck': WHATEVER THE INPUT: true; the input reads as it did. -/
def progCheckSpec : ChangeSpec := { name := "progCheck", fn := fun _ => fun
  | [d] => { results := [.lit (.bool true)], args := [d] }
  | _ => none }
def progCheckRow : OpenClaim := { program := "ytbbadmlekagloaadoor", sum := "9de33c9d3aa8cbc32fa3ec614474444f2bf8d1aadcae654954bb0f5e9f878b01", func := "plunder/plunderlaw5.ProgCheck", spec := "progCheck", unfollowed := true, recurses := true, named := ["plunder/prog.fields"], plainKeys := false, apart := false, laid := [("plunder/prog.fields", laid_plunder_prog_fields)] }
def ProgCheckSaid : Prop := progCheckRow.holds Tryd.pinned (OpenSpec.ofChange progCheckSpec)

/-- ITS FALSE NEIGHBOUR: 'it returns false'. Refute it at one input. -/
def progCheckWrong : ChangeSpec := { name := "progCheck", fn := fun _ => fun
  | [d] => { results := [.lit (.bool false)], args := [d] }
  | _ => none }
def ProgCheckWrongFalsely : Prop := progCheckRow.holds Tryd.pinned (OpenSpec.ofChange progCheckWrong)

/-- 'plunderlaw5.ProgSafe': WHATEVER THE INPUT: true; the input reads as it did. -/
def progSafeSpec : ChangeSpec := { name := "progSafe", fn := fun _ => fun
  | [d1, d2, d3] => { results := [.lit (.bool true)], args := [d1, d2, d3] }
  | _ => none }
def progSafeRow : OpenClaim := { program := "ytbbadmlekagloaadoor", sum := "9de33c9d3aa8cbc32fa3ec614474444f2bf8d1aadcae654954bb0f5e9f878b01", func := "plunder/plunderlaw5.ProgSafe", spec := "progSafe", unfollowed := true, recurses := true, named := ["plunder/prog.fields"], plainKeys := false, apart := false, laid := [("plunder/prog.fields", laid_plunder_prog_fields)] }
def ProgSafeSaid : Prop := progSafeRow.holds Tryd.pinned (OpenSpec.ofChange progSafeSpec)

/-- ITS FALSE NEIGHBOUR: 'it returns false'. Refute it at one input. -/
def progSafeWrong : ChangeSpec := { name := "progSafe", fn := fun _ => fun
  | [d1, d2, d3] => { results := [.lit (.bool false)], args := [d1, d2, d3] }
  | _ => none }
def ProgSafeWrongFalsely : Prop := progSafeRow.holds Tryd.pinned (OpenSpec.ofChange progSafeWrong)

/-- 'plunderlaw5.ProgPaths': WHATEVER THE INPUT: true; the input reads as it did. -/
def progPathsSpec : ChangeSpec := { name := "progPaths", fn := fun _ => fun
  | [d1, d2, d3] => { results := [.lit (.bool true)], args := [d1, d2, d3] }
  | _ => none }
def progPathsRow : OpenClaim := { program := "ytbbadmlekagloaadoor", sum := "9de33c9d3aa8cbc32fa3ec614474444f2bf8d1aadcae654954bb0f5e9f878b01", func := "plunder/plunderlaw5.ProgPaths", spec := "progPaths", unfollowed := true, recurses := true, named := ["plunder/prog.fields"], plainKeys := false, apart := false, laid := [("plunder/prog.fields", laid_plunder_prog_fields)] }
def ProgPathsSaid : Prop := progPathsRow.holds Tryd.pinned (OpenSpec.ofChange progPathsSpec)

/-- ITS FALSE NEIGHBOUR: 'it returns false'. Refute it at one input. -/
def progPathsWrong : ChangeSpec := { name := "progPaths", fn := fun _ => fun
  | [d1, d2, d3] => { results := [.lit (.bool false)], args := [d1, d2, d3] }
  | _ => none }
def ProgPathsWrongFalsely : Prop := progPathsRow.holds Tryd.pinned (OpenSpec.ofChange progPathsWrong)

/-- 'plunderlaw5.ProgEncode': WHATEVER THE INPUT: true; the input reads as it did. -/
def progEncodeSpec : ChangeSpec := { name := "progEncode", fn := fun _ => fun
  | [d] => { results := [.lit (.bool true)], args := [d] }
  | _ => none }
def progEncodeRow : OpenClaim := { program := "ytbbadmlekagloaadoor", sum := "9de33c9d3aa8cbc32fa3ec614474444f2bf8d1aadcae654954bb0f5e9f878b01", func := "plunder/plunderlaw5.ProgEncode", spec := "progEncode", unfollowed := true, recurses := true, named := ["plunder/prog.fields"], plainKeys := false, apart := false, laid := [("plunder/prog.fields", laid_plunder_prog_fields)] }
def ProgEncodeSaid : Prop := progEncodeRow.holds Tryd.pinned (OpenSpec.ofChange progEncodeSpec)

/-- ITS FALSE NEIGHBOUR: 'it returns false'. Refute it at one input. -/
def progEncodeWrong : ChangeSpec := { name := "progEncode", fn := fun _ => fun
  | [d] => { results := [.lit (.bool false)], args := [d] }
  | _ => none }
def ProgEncodeWrongFalsely : Prop := progEncodeRow.holds Tryd.pinned (OpenSpec.ofChange progEncodeWrong)

/-- 'plunderlaw5.ProgTold': WHATEVER THE INPUT: true; the input reads as it did. -/
def progToldSpec : ChangeSpec := { name := "progTold", fn := fun _ => fun
  | [d] => { results := [.lit (.bool true)], args := [d] }
  | _ => none }
def progToldRow : OpenClaim := { program := "ytbbadmlekagloaadoor", sum := "9de33c9d3aa8cbc32fa3ec614474444f2bf8d1aadcae654954bb0f5e9f878b01", func := "plunder/plunderlaw5.ProgTold", spec := "progTold", unfollowed := true, recurses := true, named := ["plunder/prog.fields"], plainKeys := false, apart := false, laid := [("plunder/prog.fields", laid_plunder_prog_fields)] }
def ProgToldSaid : Prop := progToldRow.holds Tryd.pinned (OpenSpec.ofChange progToldSpec)

/-- ITS FALSE NEIGHBOUR: 'it returns false'. Refute it at one input. -/
def progToldWrong : ChangeSpec := { name := "progTold", fn := fun _ => fun
  | [d] => { results := [.lit (.bool false)], args := [d] }
  | _ => none }
def ProgToldWrongFalsely : Prop := progToldRow.holds Tryd.pinned (OpenSpec.ofChange progToldWrong)

/-- 'plunderlaw5.ProgShown': WHATEVER THE INPUT: true; the input reads as it did. -/
def progShownSpec : ChangeSpec := { name := "progShown", fn := fun _ => fun
  | [d1, d2, d3] => { results := [.lit (.bool true)], args := [d1, d2, d3] }
  | _ => none }
def progShownRow : OpenClaim := { program := "ytbbadmlekagloaadoor", sum := "9de33c9d3aa8cbc32fa3ec614474444f2bf8d1aadcae654954bb0f5e9f878b01", func := "plunder/plunderlaw5.ProgShown", spec := "progShown", unfollowed := true, recurses := true, named := ["plunder/prog.fields"], plainKeys := false, apart := false, laid := [("plunder/prog.fields", laid_plunder_prog_fields)] }
def ProgShownSaid : Prop := progShownRow.holds Tryd.pinned (OpenSpec.ofChange progShownSpec)

/-- ITS FALSE NEIGHBOUR: 'it returns false'. Refute it at one input. -/
def progShownWrong : ChangeSpec := { name := "progShown", fn := fun _ => fun
  | [d1, d2, d3] => { results := [.lit (.bool false)], args := [d1, d2, d3] }
  | _ => none }
def ProgShownWrongFalsely : Prop := progShownRow.holds Tryd.pinned (OpenSpec.ofChange progShownWrong)

/-- 'plunderlaw5.ProgDecode': WHATEVER THE INPUT: true; the input reads as it did. -/
def progDecodeSpec : ChangeSpec := { name := "progDecode", fn := fun _ => fun
  | [d] => { results := [.lit (.bool true)], args := [d] }
  | _ => none }
def progDecodeRow : OpenClaim := { program := "ytbbadmlekagloaadoor", sum := "9de33c9d3aa8cbc32fa3ec614474444f2bf8d1aadcae654954bb0f5e9f878b01", func := "plunder/plunderlaw5.ProgDecode", spec := "progDecode", unfollowed := true, recurses := true, named := ["plunder/prog.fields"], plainKeys := false, apart := false, laid := [("plunder/prog.fields", laid_plunder_prog_fields)] }
def ProgDecodeSaid : Prop := progDecodeRow.holds Tryd.pinned (OpenSpec.ofChange progDecodeSpec)

/-- ITS FALSE NEIGHBOUR: 'it returns false'. Refute it at one input. -/
def progDecodeWrong : ChangeSpec := { name := "progDecode", fn := fun _ => fun
  | [d] => { results := [.lit (.bool false)], args := [d] }
  | _ => none }
def ProgDecodeWrongFalsely : Prop := progDecodeRow.holds Tryd.pinned (OpenSpec.ofChange progDecodeWrong)

/-- 'plunderlaw5.ProgRound': WHATEVER THE INPUT: true; the input reads as it did. -/
def progRoundSpec : ChangeSpec := { name := "progRound", fn := fun _ => fun
  | [d] => { results := [.lit (.bool true)], args := [d] }
  | _ => none }
def progRoundRow : OpenClaim := { program := "ytbbadmlekagloaadoor", sum := "9de33c9d3aa8cbc32fa3ec614474444f2bf8d1aadcae654954bb0f5e9f878b01", func := "plunder/plunderlaw5.ProgRound", spec := "progRound", unfollowed := true, recurses := true, named := ["plunder/prog.fields"], plainKeys := false, apart := false, laid := [("plunder/prog.fields", laid_plunder_prog_fields)] }
def ProgRoundSaid : Prop := progRoundRow.holds Tryd.pinned (OpenSpec.ofChange progRoundSpec)

/-- ITS FALSE NEIGHBOUR: 'it returns false'. Refute it at one input. -/
def progRoundWrong : ChangeSpec := { name := "progRound", fn := fun _ => fun
  | [d] => { results := [.lit (.bool false)], args := [d] }
  | _ => none }
def ProgRoundWrongFalsely : Prop := progRoundRow.holds Tryd.pinned (OpenSpec.ofChange progRoundWrong)

/-- 'plunderlaw5.ProgWords': WHATEVER THE INPUT: true; the input reads as it did. -/
def progWordsSpec : ChangeSpec := { name := "progWords", fn := fun _ => fun
  | [d] => { results := [.lit (.bool true)], args := [d] }
  | _ => none }
def progWordsRow : OpenClaim := { program := "ytbbadmlekagloaadoor", sum := "9de33c9d3aa8cbc32fa3ec614474444f2bf8d1aadcae654954bb0f5e9f878b01", func := "plunder/plunderlaw5.ProgWords", spec := "progWords", unfollowed := true, recurses := true, named := ["plunder/prog.fields"], plainKeys := false, apart := false, laid := [("plunder/prog.fields", laid_plunder_prog_fields)] }
def ProgWordsSaid : Prop := progWordsRow.holds Tryd.pinned (OpenSpec.ofChange progWordsSpec)

/-- ITS FALSE NEIGHBOUR: 'it returns false'. Refute it at one input. -/
def progWordsWrong : ChangeSpec := { name := "progWords", fn := fun _ => fun
  | [d] => { results := [.lit (.bool false)], args := [d] }
  | _ => none }
def ProgWordsWrongFalsely : Prop := progWordsRow.holds Tryd.pinned (OpenSpec.ofChange progWordsWrong)

/-- 'plunderlaw5.ProgSpoilt': WHATEVER THE INPUT: true; the input reads as it did. -/
def progSpoiltSpec : ChangeSpec := { name := "progSpoilt", fn := fun _ => fun
  | [d1, d2, d3] => { results := [.lit (.bool true)], args := [d1, d2, d3] }
  | _ => none }
def progSpoiltRow : OpenClaim := { program := "ytbbadmlekagloaadoor", sum := "9de33c9d3aa8cbc32fa3ec614474444f2bf8d1aadcae654954bb0f5e9f878b01", func := "plunder/plunderlaw5.ProgSpoilt", spec := "progSpoilt", unfollowed := true, recurses := true, named := ["plunder/prog.fields"], plainKeys := false, apart := false, laid := [("plunder/prog.fields", laid_plunder_prog_fields)] }
def ProgSpoiltSaid : Prop := progSpoiltRow.holds Tryd.pinned (OpenSpec.ofChange progSpoiltSpec)

/-- ITS FALSE NEIGHBOUR: 'it returns false'. Refute it at one input. -/
def progSpoiltWrong : ChangeSpec := { name := "progSpoilt", fn := fun _ => fun
  | [d1, d2, d3] => { results := [.lit (.bool false)], args := [d1, d2, d3] }
  | _ => none }
def ProgSpoiltWrongFalsely : Prop := progSpoiltRow.holds Tryd.pinned (OpenSpec.ofChange progSpoiltWrong)

/- THE SECOND FORM. 'bulk': how many values and letters a reading holds, each counted each time it is reached (what is shared counts as often as it is met; a slice's spare places count too). A statement '..UptoSaid' is the law's where the arguments, and the package variables that the reading takes, are together of bulk at most 1048576: NARROWER than '..Said'. Prove '..Said' where nothing that the law and all that it calls make is longer than what came in: it says more and counts as full. Else prove '..UptoSaid'. A law counts once. -/
mutual
def uptoBulk {H : Type} : DataW H → Nat
  | .lit (.string bytes) => bytes.length + 1
  | .lit _ => 1
  | .nil => 1
  | .ptr d => uptoBulk d + 1
  | .slice elems spare => uptoBulkAll elems + uptoBulkAll spare + 1
  | .agg parts => uptoBulkAll parts + 1
  | .iface _ d => uptoBulk d + 1
  | .map entries => uptoBulkEntries entries + 1
  | .held _ => 1
def uptoBulkAll {H : Type} : List (DataW H) → Nat
  | [] => 0
  | d :: r => uptoBulk d + uptoBulkAll r
def uptoBulkEntries {H : Type} : List (Lit × DataW H) → Nat
  | [] => 0
  | x :: r => uptoBulkEntry x + uptoBulkEntries r
def uptoBulkEntry {H : Type} : Lit × DataW H → Nat
  | (.string bytes, d) => bytes.length + uptoBulk d + 1
  | (_, d) => uptoBulk d + 1
 end
def uptoSmall : (H : Type) → List (DataW H) → Bool := fun _ ds => decide (uptoBulkAll ds ≤ 1048576)
def OpenSpec.upto (s : _root_.Go.ChangeSpec) : _root_.Go.OpenSpec := { _root_.Go.OpenSpec.ofChange s with cond := some uptoSmall }

/-- 'plunderlaw5.ProgFlow', WHERE WHAT IT READS IS OF BULK AT MOST 1048576: true; the input reads as it did. -/
def progFlowUptoRow : OpenClaim := { program := "ytbbadmlekagloaadoor", sum := "9de33c9d3aa8cbc32fa3ec614474444f2bf8d1aadcae654954bb0f5e9f878b01", func := "plunder/plunderlaw5.ProgFlow", spec := "progFlow", unfollowed := true, recurses := true, named := ["plunder/prog.fields"], plainKeys := false, apart := false, laid := [("plunder/prog.fields", laid_plunder_prog_fields)], narrowed := true }
def ProgFlowUptoSaid : Prop := progFlowUptoRow.holds Tryd.pinned (OpenSpec.upto progFlowSpec)

/-- 'plunderlaw5.ProgTrail', WHERE WHAT IT READS IS OF BULK AT MOST 1048576: true; the input reads as it did. -/
def progTrailUptoRow : OpenClaim := { program := "ytbbadmlekagloaadoor", sum := "9de33c9d3aa8cbc32fa3ec614474444f2bf8d1aadcae654954bb0f5e9f878b01", func := "plunder/plunderlaw5.ProgTrail", spec := "progTrail", unfollowed := true, recurses := true, named := ["plunder/prog.fields"], plainKeys := false, apart := false, laid := [("plunder/prog.fields", laid_plunder_prog_fields)], narrowed := true }
def ProgTrailUptoSaid : Prop := progTrailUptoRow.holds Tryd.pinned (OpenSpec.upto progTrailSpec)

/-- 'plunderlaw5.ProgCheck', WHERE WHAT IT READS IS OF BULK AT MOST 1048576: true; the input reads as it did. -/
def progCheckUptoRow : OpenClaim := { program := "ytbbadmlekagloaadoor", sum := "9de33c9d3aa8cbc32fa3ec614474444f2bf8d1aadcae654954bb0f5e9f878b01", func := "plunder/plunderlaw5.ProgCheck", spec := "progCheck", unfollowed := true, recurses := true, named := ["plunder/prog.fields"], plainKeys := false, apart := false, laid := [("plunder/prog.fields", laid_plunder_prog_fields)], narrowed := true }
def ProgCheckUptoSaid : Prop := progCheckUptoRow.holds Tryd.pinned (OpenSpec.upto progCheckSpec)

/-- 'plunderlaw5.ProgSafe', WHERE WHAT IT READS IS OF BULK AT MOST 1048576: true; the input reads as it did. -/
def progSafeUptoRow : OpenClaim := { program := "ytbbadmlekagloaadoor", sum := "9de33c9d3aa8cbc32fa3ec614474444f2bf8d1aadcae654954bb0f5e9f878b01", func := "plunder/plunderlaw5.ProgSafe", spec := "progSafe", unfollowed := true, recurses := true, named := ["plunder/prog.fields"], plainKeys := false, apart := false, laid := [("plunder/prog.fields", laid_plunder_prog_fields)], narrowed := true }
def ProgSafeUptoSaid : Prop := progSafeUptoRow.holds Tryd.pinned (OpenSpec.upto progSafeSpec)

/-- 'plunderlaw5.ProgPaths', WHERE WHAT IT READS IS OF BULK AT MOST 1048576: true; the input reads as it did. -/
def progPathsUptoRow : OpenClaim := { program := "ytbbadmlekagloaadoor", sum := "9de33c9d3aa8cbc32fa3ec614474444f2bf8d1aadcae654954bb0f5e9f878b01", func := "plunder/plunderlaw5.ProgPaths", spec := "progPaths", unfollowed := true, recurses := true, named := ["plunder/prog.fields"], plainKeys := false, apart := false, laid := [("plunder/prog.fields", laid_plunder_prog_fields)], narrowed := true }
def ProgPathsUptoSaid : Prop := progPathsUptoRow.holds Tryd.pinned (OpenSpec.upto progPathsSpec)

/-- 'plunderlaw5.ProgEncode', WHERE WHAT IT READS IS OF BULK AT MOST 1048576: true; the input reads as it did. -/
def progEncodeUptoRow : OpenClaim := { program := "ytbbadmlekagloaadoor", sum := "9de33c9d3aa8cbc32fa3ec614474444f2bf8d1aadcae654954bb0f5e9f878b01", func := "plunder/plunderlaw5.ProgEncode", spec := "progEncode", unfollowed := true, recurses := true, named := ["plunder/prog.fields"], plainKeys := false, apart := false, laid := [("plunder/prog.fields", laid_plunder_prog_fields)], narrowed := true }
def ProgEncodeUptoSaid : Prop := progEncodeUptoRow.holds Tryd.pinned (OpenSpec.upto progEncodeSpec)

/-- 'plunderlaw5.ProgTold', WHERE WHAT IT READS IS OF BULK AT MOST 1048576: true; the input reads as it did. -/
def progToldUptoRow : OpenClaim := { program := "ytbbadmlekagloaadoor", sum := "9de33c9d3aa8cbc32fa3ec614474444f2bf8d1aadcae654954bb0f5e9f878b01", func := "plunder/plunderlaw5.ProgTold", spec := "progTold", unfollowed := true, recurses := true, named := ["plunder/prog.fields"], plainKeys := false, apart := false, laid := [("plunder/prog.fields", laid_plunder_prog_fields)], narrowed := true }
def ProgToldUptoSaid : Prop := progToldUptoRow.holds Tryd.pinned (OpenSpec.upto progToldSpec)

/-- 'plunderlaw5.ProgShown', WHERE WHAT IT READS IS OF BULK AT MOST 1048576: true; the input reads as it did. -/
def progShownUptoRow : OpenClaim := { program := "ytbbadmlekagloaadoor", sum := "9de33c9d3aa8cbc32fa3ec614474444f2bf8d1aadcae654954bb0f5e9f878b01", func := "plunder/plunderlaw5.ProgShown", spec := "progShown", unfollowed := true, recurses := true, named := ["plunder/prog.fields"], plainKeys := false, apart := false, laid := [("plunder/prog.fields", laid_plunder_prog_fields)], narrowed := true }
def ProgShownUptoSaid : Prop := progShownUptoRow.holds Tryd.pinned (OpenSpec.upto progShownSpec)

/-- 'plunderlaw5.ProgDecode', WHERE WHAT IT READS IS OF BULK AT MOST 1048576: true; the input reads as it did. -/
def progDecodeUptoRow : OpenClaim := { program := "ytbbadmlekagloaadoor", sum := "9de33c9d3aa8cbc32fa3ec614474444f2bf8d1aadcae654954bb0f5e9f878b01", func := "plunder/plunderlaw5.ProgDecode", spec := "progDecode", unfollowed := true, recurses := true, named := ["plunder/prog.fields"], plainKeys := false, apart := false, laid := [("plunder/prog.fields", laid_plunder_prog_fields)], narrowed := true }
def ProgDecodeUptoSaid : Prop := progDecodeUptoRow.holds Tryd.pinned (OpenSpec.upto progDecodeSpec)

/-- 'plunderlaw5.ProgRound', WHERE WHAT IT READS IS OF BULK AT MOST 1048576: true; the input reads as it did. -/
def progRoundUptoRow : OpenClaim := { program := "ytbbadmlekagloaadoor", sum := "9de33c9d3aa8cbc32fa3ec614474444f2bf8d1aadcae654954bb0f5e9f878b01", func := "plunder/plunderlaw5.ProgRound", spec := "progRound", unfollowed := true, recurses := true, named := ["plunder/prog.fields"], plainKeys := false, apart := false, laid := [("plunder/prog.fields", laid_plunder_prog_fields)], narrowed := true }
def ProgRoundUptoSaid : Prop := progRoundUptoRow.holds Tryd.pinned (OpenSpec.upto progRoundSpec)

/-- 'plunderlaw5.ProgWords', WHERE WHAT IT READS IS OF BULK AT MOST 1048576: true; the input reads as it did. -/
def progWordsUptoRow : OpenClaim := { program := "ytbbadmlekagloaadoor", sum := "9de33c9d3aa8cbc32fa3ec614474444f2bf8d1aadcae654954bb0f5e9f878b01", func := "plunder/plunderlaw5.ProgWords", spec := "progWords", unfollowed := true, recurses := true, named := ["plunder/prog.fields"], plainKeys := false, apart := false, laid := [("plunder/prog.fields", laid_plunder_prog_fields)], narrowed := true }
def ProgWordsUptoSaid : Prop := progWordsUptoRow.holds Tryd.pinned (OpenSpec.upto progWordsSpec)

/-- 'plunderlaw5.ProgSpoilt', WHERE WHAT IT READS IS OF BULK AT MOST 1048576: true; the input reads as it did. -/
def progSpoiltUptoRow : OpenClaim := { program := "ytbbadmlekagloaadoor", sum := "9de33c9d3aa8cbc32fa3ec614474444f2bf8d1aadcae654954bb0f5e9f878b01", func := "plunder/plunderlaw5.ProgSpoilt", spec := "progSpoilt", unfollowed := true, recurses := true, named := ["plunder/prog.fields"], plainKeys := false, apart := false, laid := [("plunder/prog.fields", laid_plunder_prog_fields)], narrowed := true }
def ProgSpoiltUptoSaid : Prop := progSpoiltUptoRow.holds Tryd.pinned (OpenSpec.upto progSpoiltSpec)

end Rows
end Go.Proofs.YtbbadmlekagloaaDoor
