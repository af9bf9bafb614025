/-
  DERIVED. GIVEN WITH THE SEED: THE CARDS: each row of YtbbadmlekagloaaDoorRows.lean that lists a variable, with what it lists TIED to the program's text (the seventh form; the later family's looks); each row that meets fmt, with fmt's text TOLD by the authors' own Lean function (tested against real Go, not proved from fmt's source: count such statements apart). THE CARD IS WHAT COUNTS. Prove the row's statement (the work); the ties are given (YtbbadmlekagloaaDoorTie.lean); close each card by the builder's one call (the guide's Derived/Test/ToyasCard.lean, 'card_holds'). Laid BY PROGRAM, IN A SANDBOX (cutbox-door.mjs). By AI agents, Wed Nov 11 2026. No macro, syntax, notation, axiom, sorry.
-/
import Derived.Test.YtbbadmlekagloaaDoorRows
import GoSem.ClaimSeven
namespace Go.Proofs.YtbbadmlekagloaaDoor
namespace Rows

/-- THE TIED CARD OF 'plunderlaw5.ProgFlow'. -/
def progFlowCard : Claim7 := { stood := { row := progFlowRow, standIns := [], harness := (true, "381b82f48a2fe1b1dd529f4913f663a9e9416e0bcd39174e603cc024140dde8d"), looks := true }, kinds := [], alts := [], laidByText := true, laidKinds := [.data], laidTests := true, laidLooks := .later }
def ProgFlowCardSaid : Prop := Claim7.holds Tryd.pinned (.plain (OpenSpec.ofChange progFlowSpec)) progFlowCard

/-- THE TIED CARD OF 'plunderlaw5.ProgTrail'. -/
def progTrailCard : Claim7 := { stood := { row := progTrailRow, standIns := [], harness := (true, "381b82f48a2fe1b1dd529f4913f663a9e9416e0bcd39174e603cc024140dde8d"), looks := true }, kinds := [], alts := [], laidByText := true, laidKinds := [.data], laidTests := true, laidLooks := .later }
def ProgTrailCardSaid : Prop := Claim7.holds Tryd.pinned (.plain (OpenSpec.ofChange progTrailSpec)) progTrailCard

/-- THE TIED CARD OF 'plunderlaw5.ProgCheck'. -/
def progCheckCard : Claim7 := { stood := { row := progCheckRow, standIns := [], harness := (true, "381b82f48a2fe1b1dd529f4913f663a9e9416e0bcd39174e603cc024140dde8d"), looks := true }, kinds := [], alts := [], laidByText := true, laidKinds := [.data], laidTests := true, laidLooks := .later }
def ProgCheckCardSaid : Prop := Claim7.holds Tryd.pinned (.plain (OpenSpec.ofChange progCheckSpec)) progCheckCard

/-- THE TIED CARD OF 'plunderlaw5.ProgSafe'. -/
def progSafeCard : Claim7 := { stood := { row := progSafeRow, standIns := [], harness := (true, "381b82f48a2fe1b1dd529f4913f663a9e9416e0bcd39174e603cc024140dde8d"), looks := true }, kinds := [], alts := [], laidByText := true, laidKinds := [.data], laidTests := true, laidLooks := .later }
def ProgSafeCardSaid : Prop := Claim7.holds Tryd.pinned (.plain (OpenSpec.ofChange progSafeSpec)) progSafeCard

/-- THE TIED CARD OF 'plunderlaw5.ProgPaths'. -/
def progPathsCard : Claim7 := { stood := { row := progPathsRow, standIns := [], harness := (true, "381b82f48a2fe1b1dd529f4913f663a9e9416e0bcd39174e603cc024140dde8d"), looks := true }, kinds := [], alts := [], laidByText := true, laidKinds := [.data], laidTests := true, laidLooks := .later }
def ProgPathsCardSaid : Prop := Claim7.holds Tryd.pinned (.plain (OpenSpec.ofChange progPathsSpec)) progPathsCard

/-- THE TIED CARD OF 'plunderlaw5.ProgEncode'. -/
def progEncodeCard : Claim7 := { stood := { row := progEncodeRow, standIns := [], harness := (true, "381b82f48a2fe1b1dd529f4913f663a9e9416e0bcd39174e603cc024140dde8d"), looks := true }, kinds := [], alts := [], laidByText := true, laidKinds := [.data], laidTests := true, laidLooks := .later }
def ProgEncodeCardSaid : Prop := Claim7.holds Tryd.pinned (.plain (OpenSpec.ofChange progEncodeSpec)) progEncodeCard

/-- THE TIED CARD OF 'plunderlaw5.ProgTold'. -/
def progToldCard : Claim7 := { stood := { row := progToldRow, standIns := [], harness := (true, "381b82f48a2fe1b1dd529f4913f663a9e9416e0bcd39174e603cc024140dde8d"), looks := true }, kinds := [], alts := [], laidByText := true, laidKinds := [.data], laidTests := true, laidLooks := .later }
def ProgToldCardSaid : Prop := Claim7.holds Tryd.pinned (.plain (OpenSpec.ofChange progToldSpec)) progToldCard

/-- THE TIED CARD OF 'plunderlaw5.ProgShown'. -/
def progShownCard : Claim7 := { stood := { row := progShownRow, standIns := [], harness := (true, "381b82f48a2fe1b1dd529f4913f663a9e9416e0bcd39174e603cc024140dde8d"), looks := true }, kinds := [], alts := [], laidByText := true, laidKinds := [.data], laidTests := true, laidLooks := .later }
def ProgShownCardSaid : Prop := Claim7.holds Tryd.pinned (.plain (OpenSpec.ofChange progShownSpec)) progShownCard

/-- THE TIED CARD OF 'plunderlaw5.ProgDecode'. -/
def progDecodeCard : Claim7 := { stood := { row := progDecodeRow, standIns := [], harness := (true, "381b82f48a2fe1b1dd529f4913f663a9e9416e0bcd39174e603cc024140dde8d"), looks := true }, kinds := [], alts := [], laidByText := true, laidKinds := [.data], laidTests := true, laidLooks := .later }
def ProgDecodeCardSaid : Prop := Claim7.holds Tryd.pinned (.plain (OpenSpec.ofChange progDecodeSpec)) progDecodeCard

/-- THE TIED CARD OF 'plunderlaw5.ProgRound'. -/
def progRoundCard : Claim7 := { stood := { row := progRoundRow, standIns := [], harness := (true, "381b82f48a2fe1b1dd529f4913f663a9e9416e0bcd39174e603cc024140dde8d"), looks := true }, kinds := [], alts := [], laidByText := true, laidKinds := [.data], laidTests := true, laidLooks := .later }
def ProgRoundCardSaid : Prop := Claim7.holds Tryd.pinned (.plain (OpenSpec.ofChange progRoundSpec)) progRoundCard

/-- THE TIED CARD OF 'plunderlaw5.ProgWords'. -/
def progWordsCard : Claim7 := { stood := { row := progWordsRow, standIns := [], harness := (true, "381b82f48a2fe1b1dd529f4913f663a9e9416e0bcd39174e603cc024140dde8d"), looks := true }, kinds := [], alts := [], laidByText := true, laidKinds := [.data], laidTests := true, laidLooks := .later }
def ProgWordsCardSaid : Prop := Claim7.holds Tryd.pinned (.plain (OpenSpec.ofChange progWordsSpec)) progWordsCard

/-- THE TIED CARD OF 'plunderlaw5.ProgSpoilt'. -/
def progSpoiltCard : Claim7 := { stood := { row := progSpoiltRow, standIns := [], harness := (true, "381b82f48a2fe1b1dd529f4913f663a9e9416e0bcd39174e603cc024140dde8d"), looks := true }, kinds := [], alts := [], laidByText := true, laidKinds := [.data], laidTests := true, laidLooks := .later }
def ProgSpoiltCardSaid : Prop := Claim7.holds Tryd.pinned (.plain (OpenSpec.ofChange progSpoiltSpec)) progSpoiltCard

/-- THE SECOND FORM's CARD OF 'plunderlaw5.ProgFlow'. -/
def progFlowUptoCard : Claim7 := { stood := { row := progFlowUptoRow, standIns := [], harness := (true, "381b82f48a2fe1b1dd529f4913f663a9e9416e0bcd39174e603cc024140dde8d"), looks := true }, kinds := [], alts := [], laidByText := true, laidKinds := [.data], laidTests := true, laidLooks := .later }
def ProgFlowUptoCardSaid : Prop := Claim7.holds Tryd.pinned (.plain (OpenSpec.upto progFlowSpec)) progFlowUptoCard

/-- THE SECOND FORM's CARD OF 'plunderlaw5.ProgTrail'. -/
def progTrailUptoCard : Claim7 := { stood := { row := progTrailUptoRow, standIns := [], harness := (true, "381b82f48a2fe1b1dd529f4913f663a9e9416e0bcd39174e603cc024140dde8d"), looks := true }, kinds := [], alts := [], laidByText := true, laidKinds := [.data], laidTests := true, laidLooks := .later }
def ProgTrailUptoCardSaid : Prop := Claim7.holds Tryd.pinned (.plain (OpenSpec.upto progTrailSpec)) progTrailUptoCard

/-- THE SECOND FORM's CARD OF 'plunderlaw5.ProgCheck'. -/
def progCheckUptoCard : Claim7 := { stood := { row := progCheckUptoRow, standIns := [], harness := (true, "381b82f48a2fe1b1dd529f4913f663a9e9416e0bcd39174e603cc024140dde8d"), looks := true }, kinds := [], alts := [], laidByText := true, laidKinds := [.data], laidTests := true, laidLooks := .later }
def ProgCheckUptoCardSaid : Prop := Claim7.holds Tryd.pinned (.plain (OpenSpec.upto progCheckSpec)) progCheckUptoCard

/-- THE SECOND FORM's CARD OF 'plunderlaw5.ProgSafe'. -/
def progSafeUptoCard : Claim7 := { stood := { row := progSafeUptoRow, standIns := [], harness := (true, "381b82f48a2fe1b1dd529f4913f663a9e9416e0bcd39174e603cc024140dde8d"), looks := true }, kinds := [], alts := [], laidByText := true, laidKinds := [.data], laidTests := true, laidLooks := .later }
def ProgSafeUptoCardSaid : Prop := Claim7.holds Tryd.pinned (.plain (OpenSpec.upto progSafeSpec)) progSafeUptoCard

/-- THE SECOND FORM's CARD OF 'plunderlaw5.ProgPaths'. -/
def progPathsUptoCard : Claim7 := { stood := { row := progPathsUptoRow, standIns := [], harness := (true, "381b82f48a2fe1b1dd529f4913f663a9e9416e0bcd39174e603cc024140dde8d"), looks := true }, kinds := [], alts := [], laidByText := true, laidKinds := [.data], laidTests := true, laidLooks := .later }
def ProgPathsUptoCardSaid : Prop := Claim7.holds Tryd.pinned (.plain (OpenSpec.upto progPathsSpec)) progPathsUptoCard

/-- THE SECOND FORM's CARD OF 'plunderlaw5.ProgEncode'. -/
def progEncodeUptoCard : Claim7 := { stood := { row := progEncodeUptoRow, standIns := [], harness := (true, "381b82f48a2fe1b1dd529f4913f663a9e9416e0bcd39174e603cc024140dde8d"), looks := true }, kinds := [], alts := [], laidByText := true, laidKinds := [.data], laidTests := true, laidLooks := .later }
def ProgEncodeUptoCardSaid : Prop := Claim7.holds Tryd.pinned (.plain (OpenSpec.upto progEncodeSpec)) progEncodeUptoCard

/-- THE SECOND FORM's CARD OF 'plunderlaw5.ProgTold'. -/
def progToldUptoCard : Claim7 := { stood := { row := progToldUptoRow, standIns := [], harness := (true, "381b82f48a2fe1b1dd529f4913f663a9e9416e0bcd39174e603cc024140dde8d"), looks := true }, kinds := [], alts := [], laidByText := true, laidKinds := [.data], laidTests := true, laidLooks := .later }
def ProgToldUptoCardSaid : Prop := Claim7.holds Tryd.pinned (.plain (OpenSpec.upto progToldSpec)) progToldUptoCard

/-- THE SECOND FORM's CARD OF 'plunderlaw5.ProgShown'. -/
def progShownUptoCard : Claim7 := { stood := { row := progShownUptoRow, standIns := [], harness := (true, "381b82f48a2fe1b1dd529f4913f663a9e9416e0bcd39174e603cc024140dde8d"), looks := true }, kinds := [], alts := [], laidByText := true, laidKinds := [.data], laidTests := true, laidLooks := .later }
def ProgShownUptoCardSaid : Prop := Claim7.holds Tryd.pinned (.plain (OpenSpec.upto progShownSpec)) progShownUptoCard

/-- THE SECOND FORM's CARD OF 'plunderlaw5.ProgDecode'. -/
def progDecodeUptoCard : Claim7 := { stood := { row := progDecodeUptoRow, standIns := [], harness := (true, "381b82f48a2fe1b1dd529f4913f663a9e9416e0bcd39174e603cc024140dde8d"), looks := true }, kinds := [], alts := [], laidByText := true, laidKinds := [.data], laidTests := true, laidLooks := .later }
def ProgDecodeUptoCardSaid : Prop := Claim7.holds Tryd.pinned (.plain (OpenSpec.upto progDecodeSpec)) progDecodeUptoCard

/-- THE SECOND FORM's CARD OF 'plunderlaw5.ProgRound'. -/
def progRoundUptoCard : Claim7 := { stood := { row := progRoundUptoRow, standIns := [], harness := (true, "381b82f48a2fe1b1dd529f4913f663a9e9416e0bcd39174e603cc024140dde8d"), looks := true }, kinds := [], alts := [], laidByText := true, laidKinds := [.data], laidTests := true, laidLooks := .later }
def ProgRoundUptoCardSaid : Prop := Claim7.holds Tryd.pinned (.plain (OpenSpec.upto progRoundSpec)) progRoundUptoCard

/-- THE SECOND FORM's CARD OF 'plunderlaw5.ProgWords'. -/
def progWordsUptoCard : Claim7 := { stood := { row := progWordsUptoRow, standIns := [], harness := (true, "381b82f48a2fe1b1dd529f4913f663a9e9416e0bcd39174e603cc024140dde8d"), looks := true }, kinds := [], alts := [], laidByText := true, laidKinds := [.data], laidTests := true, laidLooks := .later }
def ProgWordsUptoCardSaid : Prop := Claim7.holds Tryd.pinned (.plain (OpenSpec.upto progWordsSpec)) progWordsUptoCard

/-- THE SECOND FORM's CARD OF 'plunderlaw5.ProgSpoilt'. -/
def progSpoiltUptoCard : Claim7 := { stood := { row := progSpoiltUptoRow, standIns := [], harness := (true, "381b82f48a2fe1b1dd529f4913f663a9e9416e0bcd39174e603cc024140dde8d"), looks := true }, kinds := [], alts := [], laidByText := true, laidKinds := [.data], laidTests := true, laidLooks := .later }
def ProgSpoiltUptoCardSaid : Prop := Claim7.holds Tryd.pinned (.plain (OpenSpec.upto progSpoiltSpec)) progSpoiltUptoCard
end Rows
end Go.Proofs.YtbbadmlekagloaaDoor
