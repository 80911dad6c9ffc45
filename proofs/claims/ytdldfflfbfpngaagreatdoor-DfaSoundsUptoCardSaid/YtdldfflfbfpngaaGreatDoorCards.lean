/-
  DERIVED. GIVEN WITH THE SEED: THE CARDS: each row of YtdldfflfbfpngaaGreatDoorRows.lean that lists a variable, with what it lists TIED to the program's text (the seventh form; the later family's looks); each row that meets fmt, with fmt's text TOLD by the authors' own Lean function (tested against real Go, not proved from fmt's source: count such statements apart). THE CARD IS WHAT COUNTS. Prove the row's statement (the work); the ties are given (YtdldfflfbfpngaaGreatDoorTie.lean); close each card by the builder's one call (the guide's Derived/Test/ToyasCard.lean, 'card_holds'). Laid BY PROGRAM, IN A SANDBOX (cutbox-door.mjs). By AI agents, Wed Nov 11 2026. No macro, syntax, notation, axiom, sorry.
-/
import Derived.Test.YtdldfflfbfpngaaGreatDoorRows
import GoSem.ClaimSeven
namespace Go.Proofs.YtdldfflfbfpngaaGreatDoor
namespace Rows

/-- THE TIED CARD OF 'glyphcutterlaw11.DfaOf'. -/
def dfaOfCard : Claim7 := { stood := { row := dfaOfRow, standIns := [], harness := (true, "8b26421f73455344934b32ee246338cbbc12be439397ba5a6747a4fd042a55ea"), looks := false }, kinds := [], alts := [], laidByText := true, laidKinds := [.data, .data, .data], laidTests := true, laidLooks := .later }
def DfaOfCardSaid : Prop := Claim7.holds Tryz.pinned (.plain (OpenSpec.ofChange dfaOfSpec)) dfaOfCard

/-- THE TIED CARD OF 'glyphcutterlaw11.DfaSounds'. -/
def dfaSoundsCard : Claim7 := { stood := { row := dfaSoundsRow, standIns := [], harness := (true, "8b26421f73455344934b32ee246338cbbc12be439397ba5a6747a4fd042a55ea"), looks := false }, kinds := [], alts := [], laidByText := true, laidKinds := [.data, .data, .data], laidTests := true, laidLooks := .later }
def DfaSoundsCardSaid : Prop := Claim7.holds Tryz.pinned (.plain (OpenSpec.ofChange dfaSoundsSpec)) dfaSoundsCard

/-- THE TIED CARD OF 'glyphcutterlaw11.DfaTells'. -/
def dfaTellsCard : Claim7 := { stood := { row := dfaTellsRow, standIns := [], harness := (true, "8b26421f73455344934b32ee246338cbbc12be439397ba5a6747a4fd042a55ea"), looks := false }, kinds := [], alts := [], laidByText := true, laidKinds := [.data, .data, .data], laidTests := true, laidLooks := .later }
def DfaTellsCardSaid : Prop := Claim7.holds Tryz.pinned (.plain (OpenSpec.ofChange dfaTellsSpec)) dfaTellsCard

/-- THE TIED CARD OF 'glyphcutterlaw11.DfaCounts'. -/
def dfaCountsCard : Claim7 := { stood := { row := dfaCountsRow, standIns := [], harness := (true, "8b26421f73455344934b32ee246338cbbc12be439397ba5a6747a4fd042a55ea"), looks := false }, kinds := [], alts := [], laidByText := true, laidKinds := [.data, .data, .data], laidTests := true, laidLooks := .later }
def DfaCountsCardSaid : Prop := Claim7.holds Tryz.pinned (.plain (OpenSpec.ofChange dfaCountsSpec)) dfaCountsCard

/-- THE TIED CARD OF 'glyphcutterlaw11.DfaPatterns'. -/
def dfaPatternsCard : Claim7 := { stood := { row := dfaPatternsRow, standIns := [], harness := (true, "8b26421f73455344934b32ee246338cbbc12be439397ba5a6747a4fd042a55ea"), looks := false }, kinds := [], alts := [], laidByText := true, laidKinds := [.data, .data, .data], laidTests := true, laidLooks := .later }
def DfaPatternsCardSaid : Prop := Claim7.holds Tryz.pinned (.plain (OpenSpec.ofChange dfaPatternsSpec)) dfaPatternsCard

/-- THE SECOND FORM's CARD OF 'glyphcutterlaw11.DfaOf'. -/
def dfaOfUptoCard : Claim7 := { stood := { row := dfaOfUptoRow, standIns := [], harness := (true, "8b26421f73455344934b32ee246338cbbc12be439397ba5a6747a4fd042a55ea"), looks := false }, kinds := [], alts := [], laidByText := true, laidKinds := [.data, .data, .data], laidTests := true, laidLooks := .later }
def DfaOfUptoCardSaid : Prop := Claim7.holds Tryz.pinned (.plain (OpenSpec.upto dfaOfSpec)) dfaOfUptoCard

/-- THE SECOND FORM's CARD OF 'glyphcutterlaw11.DfaSounds'. -/
def dfaSoundsUptoCard : Claim7 := { stood := { row := dfaSoundsUptoRow, standIns := [], harness := (true, "8b26421f73455344934b32ee246338cbbc12be439397ba5a6747a4fd042a55ea"), looks := false }, kinds := [], alts := [], laidByText := true, laidKinds := [.data, .data, .data], laidTests := true, laidLooks := .later }
def DfaSoundsUptoCardSaid : Prop := Claim7.holds Tryz.pinned (.plain (OpenSpec.upto dfaSoundsSpec)) dfaSoundsUptoCard

/-- THE SECOND FORM's CARD OF 'glyphcutterlaw11.DfaTells'. -/
def dfaTellsUptoCard : Claim7 := { stood := { row := dfaTellsUptoRow, standIns := [], harness := (true, "8b26421f73455344934b32ee246338cbbc12be439397ba5a6747a4fd042a55ea"), looks := false }, kinds := [], alts := [], laidByText := true, laidKinds := [.data, .data, .data], laidTests := true, laidLooks := .later }
def DfaTellsUptoCardSaid : Prop := Claim7.holds Tryz.pinned (.plain (OpenSpec.upto dfaTellsSpec)) dfaTellsUptoCard

/-- THE SECOND FORM's CARD OF 'glyphcutterlaw11.DfaCounts'. -/
def dfaCountsUptoCard : Claim7 := { stood := { row := dfaCountsUptoRow, standIns := [], harness := (true, "8b26421f73455344934b32ee246338cbbc12be439397ba5a6747a4fd042a55ea"), looks := false }, kinds := [], alts := [], laidByText := true, laidKinds := [.data, .data, .data], laidTests := true, laidLooks := .later }
def DfaCountsUptoCardSaid : Prop := Claim7.holds Tryz.pinned (.plain (OpenSpec.upto dfaCountsSpec)) dfaCountsUptoCard

/-- THE SECOND FORM's CARD OF 'glyphcutterlaw11.DfaPatterns'. -/
def dfaPatternsUptoCard : Claim7 := { stood := { row := dfaPatternsUptoRow, standIns := [], harness := (true, "8b26421f73455344934b32ee246338cbbc12be439397ba5a6747a4fd042a55ea"), looks := false }, kinds := [], alts := [], laidByText := true, laidKinds := [.data, .data, .data], laidTests := true, laidLooks := .later }
def DfaPatternsUptoCardSaid : Prop := Claim7.holds Tryz.pinned (.plain (OpenSpec.upto dfaPatternsSpec)) dfaPatternsUptoCard
end Rows
end Go.Proofs.YtdldfflfbfpngaaGreatDoor
