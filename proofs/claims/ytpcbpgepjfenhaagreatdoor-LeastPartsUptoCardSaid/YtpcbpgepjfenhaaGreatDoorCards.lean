/-
  DERIVED. GIVEN WITH THE SEED: THE CARDS: each row of YtpcbpgepjfenhaaGreatDoorRows.lean that lists a variable, with what it lists TIED to the program's text (the seventh form; the later family's looks); each row that meets fmt, with fmt's text TOLD by the authors' own Lean function (tested against real Go, not proved from fmt's source: count such statements apart). THE CARD IS WHAT COUNTS. Prove the row's statement (the work); the ties are given (YtpcbpgepjfenhaaGreatDoorTie.lean); close each card by the builder's one call (the guide's Derived/Test/ToyasCard.lean, 'card_holds'). Laid BY PROGRAM, IN A SANDBOX (cutbox-door.mjs). By AI agents, Wed Nov 11 2026. No macro, syntax, notation, axiom, sorry.
-/
import Derived.Test.YtpcbpgepjfenhaaGreatDoorRows
import GoSem.ClaimSeven
namespace Go.Proofs.YtpcbpgepjfenhaaGreatDoor
namespace Rows

/-- THE TIED CARD OF 'glyphcutterlaw12.LeastParts'. -/
def leastPartsCard : Claim7 := { stood := { row := leastPartsRow, standIns := [], harness := (true, "6c3d540d3da329db8788c71d183b8502b902441e04ae62d4883cbf37b8b1235a"), looks := false }, kinds := [], alts := [], laidByText := true, laidKinds := [.data, .data, .data], laidTests := true, laidLooks := .later }
def LeastPartsCardSaid : Prop := Claim7.holds Tryz.pinned (.plain (OpenSpec.ofChange leastPartsSpec)) leastPartsCard

/-- THE SECOND FORM's CARD OF 'glyphcutterlaw12.LeastParts'. -/
def leastPartsUptoCard : Claim7 := { stood := { row := leastPartsUptoRow, standIns := [], harness := (true, "6c3d540d3da329db8788c71d183b8502b902441e04ae62d4883cbf37b8b1235a"), looks := false }, kinds := [], alts := [], laidByText := true, laidKinds := [.data, .data, .data], laidTests := true, laidLooks := .later }
def LeastPartsUptoCardSaid : Prop := Claim7.holds Tryz.pinned (.plain (OpenSpec.upto leastPartsSpec)) leastPartsUptoCard
end Rows
end Go.Proofs.YtpcbpgepjfenhaaGreatDoor
