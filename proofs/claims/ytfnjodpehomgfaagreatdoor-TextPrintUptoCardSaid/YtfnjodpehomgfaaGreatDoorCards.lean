/-
  DERIVED. GIVEN WITH THE SEED: THE CARDS: each row of YtfnjodpehomgfaaGreatDoorRows.lean that lists a variable, with what it lists TIED to the program's text (the seventh form; the later family's looks); each row that meets fmt, with fmt's text TOLD by the authors' own Lean function (tested against real Go, not proved from fmt's source: count such statements apart). THE CARD IS WHAT COUNTS. Prove the row's statement (the work); the ties are given (YtfnjodpehomgfaaGreatDoorTie.lean); close each card by the builder's one call (the guide's Derived/Test/ToyasCard.lean, 'card_holds'). Laid BY PROGRAM, IN A SANDBOX (cutbox-door.mjs). By AI agents, Wed Nov 11 2026. No macro, syntax, notation, axiom, sorry.
-/
import Derived.Test.YtfnjodpehomgfaaGreatDoorRows
import GoSem.ClaimSeven
namespace Go.Proofs.YtfnjodpehomgfaaGreatDoor
namespace Rows

/-- THE TIED CARD OF 'plunderlaw14.TextParse'. -/
def textParseCard : Claim7 := { stood := { row := textParseRow, standIns := [], harness := (true, "019970bbbe19ea7bfac2627aba32ead7e7b053fbe898759c3fcbc09577012027"), looks := true }, kinds := [], alts := [], laidByText := true, laidKinds := [.data, .data, .data, .handle, .data, .widerDeep, .data, .data], laidTests := true, laidLooks := .later }
def TextParseCardSaid : Prop := Claim7.holds Tryz.pinned (.plain (OpenSpec.ofChange textParseSpec)) textParseCard

/-- THE TIED CARD OF 'plunderlaw14.TextTail'. -/
def textTailCard : Claim7 := { stood := { row := textTailRow, standIns := [], harness := (true, "019970bbbe19ea7bfac2627aba32ead7e7b053fbe898759c3fcbc09577012027"), looks := true }, kinds := [], alts := [], laidByText := true, laidKinds := [.data, .data, .data, .handle, .data, .widerDeep, .data, .data, .data], laidTests := true, laidLooks := .later }
def TextTailCardSaid : Prop := Claim7.holds Tryz.pinned (.plain (OpenSpec.ofChange textTailSpec)) textTailCard

/-- THE TIED CARD OF 'plunderlaw14.TextPrint'. -/
def textPrintCard : Claim7 := { stood := { row := textPrintRow, standIns := [], harness := (true, "019970bbbe19ea7bfac2627aba32ead7e7b053fbe898759c3fcbc09577012027"), looks := true }, kinds := [], alts := [], laidByText := true, laidKinds := [.data, .data, .data, .handle, .data, .widerDeep, .data, .data], laidTests := true, laidLooks := .later }
def TextPrintCardSaid : Prop := Claim7.holds Tryz.pinned (.plain (OpenSpec.ofChange textPrintSpec)) textPrintCard

/-- THE TIED CARD OF 'plunderlaw14.TextRound'. -/
def textRoundCard : Claim7 := { stood := { row := textRoundRow, standIns := [], harness := (true, "019970bbbe19ea7bfac2627aba32ead7e7b053fbe898759c3fcbc09577012027"), looks := true }, kinds := [], alts := [], laidByText := true, laidKinds := [.data, .data, .data, .handle, .data, .widerDeep, .data, .data], laidTests := true, laidLooks := .later }
def TextRoundCardSaid : Prop := Claim7.holds Tryz.pinned (.plain (OpenSpec.ofChange textRoundSpec)) textRoundCard

/-- THE TIED CARD OF 'plunderlaw14.TextAgain'. -/
def textAgainCard : Claim7 := { stood := { row := textAgainRow, standIns := [], harness := (true, "019970bbbe19ea7bfac2627aba32ead7e7b053fbe898759c3fcbc09577012027"), looks := true }, kinds := [], alts := [], laidByText := true, laidKinds := [.data, .data, .data, .handle, .data, .widerDeep, .data, .data], laidTests := true, laidLooks := .later }
def TextAgainCardSaid : Prop := Claim7.holds Tryz.pinned (.plain (OpenSpec.ofChange textAgainSpec)) textAgainCard

/-- THE TIED CARD OF 'plunderlaw14.TextBlanks'. -/
def textBlanksCard : Claim7 := { stood := { row := textBlanksRow, standIns := [], harness := (true, "019970bbbe19ea7bfac2627aba32ead7e7b053fbe898759c3fcbc09577012027"), looks := true }, kinds := [], alts := [], laidByText := true, laidKinds := [.data, .data, .data, .handle, .data, .widerDeep, .data, .data], laidTests := true, laidLooks := .later }
def TextBlanksCardSaid : Prop := Claim7.holds Tryz.pinned (.plain (OpenSpec.ofChange textBlanksSpec)) textBlanksCard

/-- THE TIED CARD OF 'plunderlaw14.TextBare'. -/
def textBareCard : Claim7 := { stood := { row := textBareRow, standIns := [], harness := (true, "019970bbbe19ea7bfac2627aba32ead7e7b053fbe898759c3fcbc09577012027"), looks := true }, kinds := [], alts := [], laidByText := true, laidKinds := [.data, .data, .data, .handle, .data, .widerDeep, .data, .data], laidTests := true, laidLooks := .later }
def TextBareCardSaid : Prop := Claim7.holds Tryz.pinned (.plain (OpenSpec.ofChange textBareSpec)) textBareCard

/-- THE TIED CARD OF 'plunderlaw14.TextPlace'. -/
def textPlaceCard : Claim7 := { stood := { row := textPlaceRow, standIns := [], harness := (true, "019970bbbe19ea7bfac2627aba32ead7e7b053fbe898759c3fcbc09577012027"), looks := true }, kinds := [], alts := [], laidByText := true, laidKinds := [.data, .data, .data, .handle, .data, .widerDeep, .data, .data, .data], laidTests := true, laidLooks := .later }
def TextPlaceCardSaid : Prop := Claim7.holds Tryz.pinned (.plain (OpenSpec.ofChange textPlaceSpec)) textPlaceCard

/-- THE SECOND FORM's CARD OF 'plunderlaw14.TextParse'. -/
def textParseUptoCard : Claim7 := { stood := { row := textParseUptoRow, standIns := [], harness := (true, "019970bbbe19ea7bfac2627aba32ead7e7b053fbe898759c3fcbc09577012027"), looks := true }, kinds := [], alts := [], laidByText := true, laidKinds := [.data, .data, .data, .handle, .data, .widerDeep, .data, .data], laidTests := true, laidLooks := .later }
def TextParseUptoCardSaid : Prop := Claim7.holds Tryz.pinned (.plain (OpenSpec.upto textParseSpec)) textParseUptoCard

/-- THE SECOND FORM's CARD OF 'plunderlaw14.TextTail'. -/
def textTailUptoCard : Claim7 := { stood := { row := textTailUptoRow, standIns := [], harness := (true, "019970bbbe19ea7bfac2627aba32ead7e7b053fbe898759c3fcbc09577012027"), looks := true }, kinds := [], alts := [], laidByText := true, laidKinds := [.data, .data, .data, .handle, .data, .widerDeep, .data, .data, .data], laidTests := true, laidLooks := .later }
def TextTailUptoCardSaid : Prop := Claim7.holds Tryz.pinned (.plain (OpenSpec.upto textTailSpec)) textTailUptoCard

/-- THE SECOND FORM's CARD OF 'plunderlaw14.TextPrint'. -/
def textPrintUptoCard : Claim7 := { stood := { row := textPrintUptoRow, standIns := [], harness := (true, "019970bbbe19ea7bfac2627aba32ead7e7b053fbe898759c3fcbc09577012027"), looks := true }, kinds := [], alts := [], laidByText := true, laidKinds := [.data, .data, .data, .handle, .data, .widerDeep, .data, .data], laidTests := true, laidLooks := .later }
def TextPrintUptoCardSaid : Prop := Claim7.holds Tryz.pinned (.plain (OpenSpec.upto textPrintSpec)) textPrintUptoCard

/-- THE SECOND FORM's CARD OF 'plunderlaw14.TextRound'. -/
def textRoundUptoCard : Claim7 := { stood := { row := textRoundUptoRow, standIns := [], harness := (true, "019970bbbe19ea7bfac2627aba32ead7e7b053fbe898759c3fcbc09577012027"), looks := true }, kinds := [], alts := [], laidByText := true, laidKinds := [.data, .data, .data, .handle, .data, .widerDeep, .data, .data], laidTests := true, laidLooks := .later }
def TextRoundUptoCardSaid : Prop := Claim7.holds Tryz.pinned (.plain (OpenSpec.upto textRoundSpec)) textRoundUptoCard

/-- THE SECOND FORM's CARD OF 'plunderlaw14.TextAgain'. -/
def textAgainUptoCard : Claim7 := { stood := { row := textAgainUptoRow, standIns := [], harness := (true, "019970bbbe19ea7bfac2627aba32ead7e7b053fbe898759c3fcbc09577012027"), looks := true }, kinds := [], alts := [], laidByText := true, laidKinds := [.data, .data, .data, .handle, .data, .widerDeep, .data, .data], laidTests := true, laidLooks := .later }
def TextAgainUptoCardSaid : Prop := Claim7.holds Tryz.pinned (.plain (OpenSpec.upto textAgainSpec)) textAgainUptoCard

/-- THE SECOND FORM's CARD OF 'plunderlaw14.TextBlanks'. -/
def textBlanksUptoCard : Claim7 := { stood := { row := textBlanksUptoRow, standIns := [], harness := (true, "019970bbbe19ea7bfac2627aba32ead7e7b053fbe898759c3fcbc09577012027"), looks := true }, kinds := [], alts := [], laidByText := true, laidKinds := [.data, .data, .data, .handle, .data, .widerDeep, .data, .data], laidTests := true, laidLooks := .later }
def TextBlanksUptoCardSaid : Prop := Claim7.holds Tryz.pinned (.plain (OpenSpec.upto textBlanksSpec)) textBlanksUptoCard

/-- THE SECOND FORM's CARD OF 'plunderlaw14.TextBare'. -/
def textBareUptoCard : Claim7 := { stood := { row := textBareUptoRow, standIns := [], harness := (true, "019970bbbe19ea7bfac2627aba32ead7e7b053fbe898759c3fcbc09577012027"), looks := true }, kinds := [], alts := [], laidByText := true, laidKinds := [.data, .data, .data, .handle, .data, .widerDeep, .data, .data], laidTests := true, laidLooks := .later }
def TextBareUptoCardSaid : Prop := Claim7.holds Tryz.pinned (.plain (OpenSpec.upto textBareSpec)) textBareUptoCard

/-- THE SECOND FORM's CARD OF 'plunderlaw14.TextPlace'. -/
def textPlaceUptoCard : Claim7 := { stood := { row := textPlaceUptoRow, standIns := [], harness := (true, "019970bbbe19ea7bfac2627aba32ead7e7b053fbe898759c3fcbc09577012027"), looks := true }, kinds := [], alts := [], laidByText := true, laidKinds := [.data, .data, .data, .handle, .data, .widerDeep, .data, .data, .data], laidTests := true, laidLooks := .later }
def TextPlaceUptoCardSaid : Prop := Claim7.holds Tryz.pinned (.plain (OpenSpec.upto textPlaceSpec)) textPlaceUptoCard
end Rows
end Go.Proofs.YtfnjodpehomgfaaGreatDoor
