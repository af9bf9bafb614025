/-
  DERIVED. GIVEN WITH THE SEED: THE CARDS: each row of YtfnjodpehomgfaaDoorRows.lean that lists a variable, with what it lists TIED to the program's text (the seventh form; the later family's looks); each row that meets fmt, with fmt's text TOLD by the authors' own Lean function (tested against real Go, not proved from fmt's source: count such statements apart). THE CARD IS WHAT COUNTS. Prove the row's statement (the work); the ties are given (YtfnjodpehomgfaaDoorTie.lean); close each card by the builder's one call (the guide's Derived/Test/ToyasCard.lean, 'card_holds'). Laid BY PROGRAM, IN A SANDBOX (cutbox-door.mjs). By AI agents, Wed Nov 11 2026. No macro, syntax, notation, axiom, sorry.
-/
import Derived.Test.YtfnjodpehomgfaaDoorRows
import GoSem.ClaimSeven
namespace Go.Proofs.YtfnjodpehomgfaaDoor
namespace Rows

/-- THE TIED CARD OF 'plunderlaw14.TextLevels'. -/
def textLevelsCard : Claim7 := { stood := { row := textLevelsRow, standIns := [], harness := (true, "f0cf7b26d6af13f6819040fe2bb1a2414671161bfa114808256ea5987812b0b4"), looks := true }, kinds := [], alts := [], laidByText := true, laidKinds := [.data, .data, .data, .handle, .data, .widerDeep, .data, .data], laidTests := true, laidLooks := .later }
def TextLevelsCardSaid : Prop := Claim7.holds Tryd.pinned (.plain (OpenSpec.ofChange textLevelsSpec)) textLevelsCard

/-- THE TIED CARD OF 'plunderlaw14.TextNumber'. -/
def textNumberCard : Claim7 := { stood := { row := textNumberRow, standIns := [], harness := (true, "f0cf7b26d6af13f6819040fe2bb1a2414671161bfa114808256ea5987812b0b4"), looks := true }, kinds := [], alts := [], laidByText := true, laidKinds := [.data, .data, .data, .handle, .data, .widerDeep, .data, .data], laidTests := true, laidLooks := .later }
def TextNumberCardSaid : Prop := Claim7.holds Tryd.pinned (.plain (OpenSpec.ofChange textNumberSpec)) textNumberCard

/-- THE TIED CARD OF 'plunderlaw14.TextFollows'. -/
def textFollowsCard : Claim7 := { stood := { row := textFollowsRow, standIns := [], harness := (true, "f0cf7b26d6af13f6819040fe2bb1a2414671161bfa114808256ea5987812b0b4"), looks := true }, kinds := [], alts := [], laidByText := true, laidKinds := [.data, .data, .data, .handle, .data, .widerDeep, .data, .data], laidTests := true, laidLooks := .later }
def TextFollowsCardSaid : Prop := Claim7.holds Tryd.pinned (.plain (OpenSpec.ofChange textFollowsSpec)) textFollowsCard

/-- THE SECOND FORM's CARD OF 'plunderlaw14.TextLevels'. -/
def textLevelsUptoCard : Claim7 := { stood := { row := textLevelsUptoRow, standIns := [], harness := (true, "f0cf7b26d6af13f6819040fe2bb1a2414671161bfa114808256ea5987812b0b4"), looks := true }, kinds := [], alts := [], laidByText := true, laidKinds := [.data, .data, .data, .handle, .data, .widerDeep, .data, .data], laidTests := true, laidLooks := .later }
def TextLevelsUptoCardSaid : Prop := Claim7.holds Tryd.pinned (.plain (OpenSpec.upto textLevelsSpec)) textLevelsUptoCard

/-- THE SECOND FORM's CARD OF 'plunderlaw14.TextNumber'. -/
def textNumberUptoCard : Claim7 := { stood := { row := textNumberUptoRow, standIns := [], harness := (true, "f0cf7b26d6af13f6819040fe2bb1a2414671161bfa114808256ea5987812b0b4"), looks := true }, kinds := [], alts := [], laidByText := true, laidKinds := [.data, .data, .data, .handle, .data, .widerDeep, .data, .data], laidTests := true, laidLooks := .later }
def TextNumberUptoCardSaid : Prop := Claim7.holds Tryd.pinned (.plain (OpenSpec.upto textNumberSpec)) textNumberUptoCard

/-- THE SECOND FORM's CARD OF 'plunderlaw14.TextFollows'. -/
def textFollowsUptoCard : Claim7 := { stood := { row := textFollowsUptoRow, standIns := [], harness := (true, "f0cf7b26d6af13f6819040fe2bb1a2414671161bfa114808256ea5987812b0b4"), looks := true }, kinds := [], alts := [], laidByText := true, laidKinds := [.data, .data, .data, .handle, .data, .widerDeep, .data, .data], laidTests := true, laidLooks := .later }
def TextFollowsUptoCardSaid : Prop := Claim7.holds Tryd.pinned (.plain (OpenSpec.upto textFollowsSpec)) textFollowsUptoCard
end Rows
end Go.Proofs.YtfnjodpehomgfaaDoor
