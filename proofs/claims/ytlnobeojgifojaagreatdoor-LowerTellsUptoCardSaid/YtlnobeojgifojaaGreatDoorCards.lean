/-
  DERIVED. GIVEN WITH THE SEED: THE CARDS: each row of YtlnobeojgifojaaGreatDoorRows.lean that lists a variable, with what it lists TIED to the program's text (the seventh form; the later family's looks); each row that meets fmt, with fmt's text TOLD by the authors' own Lean function (tested against real Go, not proved from fmt's source: count such statements apart). THE CARD IS WHAT COUNTS. Prove the row's statement (the work); the ties are given (YtlnobeojgifojaaGreatDoorTie.lean); close each card by the builder's one call (the guide's Derived/Test/ToyasCard.lean, 'card_holds'). Laid BY PROGRAM, IN A SANDBOX (cutbox-door.mjs). By AI agents, Wed Nov 11 2026. No macro, syntax, notation, axiom, sorry.
-/
import Derived.Test.YtlnobeojgifojaaGreatDoorRows
import GoSem.ClaimSeven
namespace Go.Proofs.YtlnobeojgifojaaGreatDoor
namespace Rows

/-- THE TIED CARD OF 'glyphcutterlaw13.LowerStates'. -/
def lowerStatesCard : Claim7 := { stood := { row := lowerStatesRow, standIns := [], harness := (true, "fa1fe6a33713dbcfd4691ef543f10b6c3fc223db617d8d9b813c27273cdd8466"), looks := false }, kinds := [], alts := [], laidByText := true, laidKinds := [.data, .data, .data], laidTests := true, laidLooks := .later }
def LowerStatesCardSaid : Prop := Claim7.holds Tryz.pinned (.plain (OpenSpec.ofChange lowerStatesSpec)) lowerStatesCard

/-- THE TIED CARD OF 'glyphcutterlaw13.LowerOf'. -/
def lowerOfCard : Claim7 := { stood := { row := lowerOfRow, standIns := [], harness := (true, "fa1fe6a33713dbcfd4691ef543f10b6c3fc223db617d8d9b813c27273cdd8466"), looks := false }, kinds := [], alts := [], laidByText := true, laidKinds := [.data, .data, .data], laidTests := true, laidLooks := .later }
def LowerOfCardSaid : Prop := Claim7.holds Tryz.pinned (.plain (OpenSpec.ofChange lowerOfSpec)) lowerOfCard

/-- THE TIED CARD OF 'glyphcutterlaw13.LowerTells'. -/
def lowerTellsCard : Claim7 := { stood := { row := lowerTellsRow, standIns := [], harness := (true, "fa1fe6a33713dbcfd4691ef543f10b6c3fc223db617d8d9b813c27273cdd8466"), looks := false }, kinds := [], alts := [], laidByText := true, laidKinds := [.data, .data, .data], laidTests := true, laidLooks := .later }
def LowerTellsCardSaid : Prop := Claim7.holds Tryz.pinned (.plain (OpenSpec.ofChange lowerTellsSpec)) lowerTellsCard

/-- THE TIED CARD OF 'glyphcutterlaw13.LowerBad'. -/
def lowerBadCard : Claim7 := { stood := { row := lowerBadRow, standIns := [], harness := (true, "fa1fe6a33713dbcfd4691ef543f10b6c3fc223db617d8d9b813c27273cdd8466"), looks := false }, kinds := [], alts := [], laidByText := true, laidKinds := [.data, .data, .data], laidTests := true, laidLooks := .later }
def LowerBadCardSaid : Prop := Claim7.holds Tryz.pinned (.plain (OpenSpec.ofChange lowerBadSpec)) lowerBadCard

/-- THE TIED CARD OF 'glyphcutterlaw13.LowerSounds'. -/
def lowerSoundsCard : Claim7 := { stood := { row := lowerSoundsRow, standIns := [], harness := (true, "fa1fe6a33713dbcfd4691ef543f10b6c3fc223db617d8d9b813c27273cdd8466"), looks := false }, kinds := [], alts := [], laidByText := true, laidKinds := [.data, .data, .data], laidTests := true, laidLooks := .later }
def LowerSoundsCardSaid : Prop := Claim7.holds Tryz.pinned (.plain (OpenSpec.ofChange lowerSoundsSpec)) lowerSoundsCard

/-- THE TIED CARD OF 'glyphcutterlaw13.LowerOne'. -/
def lowerOneCard : Claim7 := { stood := { row := lowerOneRow, standIns := [], harness := (true, "fa1fe6a33713dbcfd4691ef543f10b6c3fc223db617d8d9b813c27273cdd8466"), looks := false }, kinds := [], alts := [], laidByText := true, laidKinds := [.data, .data, .data], laidTests := true, laidLooks := .later }
def LowerOneCardSaid : Prop := Claim7.holds Tryz.pinned (.plain (OpenSpec.ofChange lowerOneSpec)) lowerOneCard

/-- THE SECOND FORM's CARD OF 'glyphcutterlaw13.LowerStates'. -/
def lowerStatesUptoCard : Claim7 := { stood := { row := lowerStatesUptoRow, standIns := [], harness := (true, "fa1fe6a33713dbcfd4691ef543f10b6c3fc223db617d8d9b813c27273cdd8466"), looks := false }, kinds := [], alts := [], laidByText := true, laidKinds := [.data, .data, .data], laidTests := true, laidLooks := .later }
def LowerStatesUptoCardSaid : Prop := Claim7.holds Tryz.pinned (.plain (OpenSpec.upto lowerStatesSpec)) lowerStatesUptoCard

/-- THE SECOND FORM's CARD OF 'glyphcutterlaw13.LowerOf'. -/
def lowerOfUptoCard : Claim7 := { stood := { row := lowerOfUptoRow, standIns := [], harness := (true, "fa1fe6a33713dbcfd4691ef543f10b6c3fc223db617d8d9b813c27273cdd8466"), looks := false }, kinds := [], alts := [], laidByText := true, laidKinds := [.data, .data, .data], laidTests := true, laidLooks := .later }
def LowerOfUptoCardSaid : Prop := Claim7.holds Tryz.pinned (.plain (OpenSpec.upto lowerOfSpec)) lowerOfUptoCard

/-- THE SECOND FORM's CARD OF 'glyphcutterlaw13.LowerTells'. -/
def lowerTellsUptoCard : Claim7 := { stood := { row := lowerTellsUptoRow, standIns := [], harness := (true, "fa1fe6a33713dbcfd4691ef543f10b6c3fc223db617d8d9b813c27273cdd8466"), looks := false }, kinds := [], alts := [], laidByText := true, laidKinds := [.data, .data, .data], laidTests := true, laidLooks := .later }
def LowerTellsUptoCardSaid : Prop := Claim7.holds Tryz.pinned (.plain (OpenSpec.upto lowerTellsSpec)) lowerTellsUptoCard

/-- THE SECOND FORM's CARD OF 'glyphcutterlaw13.LowerBad'. -/
def lowerBadUptoCard : Claim7 := { stood := { row := lowerBadUptoRow, standIns := [], harness := (true, "fa1fe6a33713dbcfd4691ef543f10b6c3fc223db617d8d9b813c27273cdd8466"), looks := false }, kinds := [], alts := [], laidByText := true, laidKinds := [.data, .data, .data], laidTests := true, laidLooks := .later }
def LowerBadUptoCardSaid : Prop := Claim7.holds Tryz.pinned (.plain (OpenSpec.upto lowerBadSpec)) lowerBadUptoCard

/-- THE SECOND FORM's CARD OF 'glyphcutterlaw13.LowerSounds'. -/
def lowerSoundsUptoCard : Claim7 := { stood := { row := lowerSoundsUptoRow, standIns := [], harness := (true, "fa1fe6a33713dbcfd4691ef543f10b6c3fc223db617d8d9b813c27273cdd8466"), looks := false }, kinds := [], alts := [], laidByText := true, laidKinds := [.data, .data, .data], laidTests := true, laidLooks := .later }
def LowerSoundsUptoCardSaid : Prop := Claim7.holds Tryz.pinned (.plain (OpenSpec.upto lowerSoundsSpec)) lowerSoundsUptoCard

/-- THE SECOND FORM's CARD OF 'glyphcutterlaw13.LowerOne'. -/
def lowerOneUptoCard : Claim7 := { stood := { row := lowerOneUptoRow, standIns := [], harness := (true, "fa1fe6a33713dbcfd4691ef543f10b6c3fc223db617d8d9b813c27273cdd8466"), looks := false }, kinds := [], alts := [], laidByText := true, laidKinds := [.data, .data, .data], laidTests := true, laidLooks := .later }
def LowerOneUptoCardSaid : Prop := Claim7.holds Tryz.pinned (.plain (OpenSpec.upto lowerOneSpec)) lowerOneUptoCard
end Rows
end Go.Proofs.YtlnobeojgifojaaGreatDoor
