/-
  DERIVED. GIVEN WITH THE SEED: THE CARDS: each row of YtpcbpgepjfenhaaDoorRows.lean that lists a variable, with what it lists TIED to the program's text (the seventh form; the later family's looks); each row that meets fmt, with fmt's text TOLD by the authors' own Lean function (tested against real Go, not proved from fmt's source: count such statements apart). THE CARD IS WHAT COUNTS. Prove the row's statement (the work); the ties are given (YtpcbpgepjfenhaaDoorTie.lean); close each card by the builder's one call (the guide's Derived/Test/ToyasCard.lean, 'card_holds'). Laid BY PROGRAM, IN A SANDBOX (cutbox-door.mjs). By AI agents, Wed Nov 11 2026. No macro, syntax, notation, axiom, sorry.
-/
import Derived.Test.YtpcbpgepjfenhaaDoorRows
import GoSem.ClaimSeven
namespace Go.Proofs.YtpcbpgepjfenhaaDoor
namespace Rows

/-- THE TIED CARD OF 'glyphcutterlaw12.LeastTells'. -/
def leastTellsCard : Claim7 := { stood := { row := leastTellsRow, standIns := [], harness := (true, "8dcb9df6c4ed1eaea698856a5594235c35f0250034749285b2120fe72ed596fa"), looks := false }, kinds := [], alts := [], laidByText := true, laidKinds := [.data, .data, .data], laidTests := true, laidLooks := .later }
def LeastTellsCardSaid : Prop := Claim7.holds Tryd.pinned (.plain (OpenSpec.ofChange leastTellsSpec)) leastTellsCard

/-- THE TIED CARD OF 'glyphcutterlaw12.LeastTwice'. -/
def leastTwiceCard : Claim7 := { stood := { row := leastTwiceRow, standIns := [], harness := (true, "8dcb9df6c4ed1eaea698856a5594235c35f0250034749285b2120fe72ed596fa"), looks := false }, kinds := [], alts := [], laidByText := true, laidKinds := [.data, .data, .data], laidTests := true, laidLooks := .later }
def LeastTwiceCardSaid : Prop := Claim7.holds Tryd.pinned (.plain (OpenSpec.ofChange leastTwiceSpec)) leastTwiceCard

/-- THE TIED CARD OF 'glyphcutterlaw12.LeastApart'. -/
def leastApartCard : Claim7 := { stood := { row := leastApartRow, standIns := [], harness := (true, "8dcb9df6c4ed1eaea698856a5594235c35f0250034749285b2120fe72ed596fa"), looks := false }, kinds := [], alts := [], laidByText := true, laidKinds := [.data, .data, .data], laidTests := true, laidLooks := .later }
def LeastApartCardSaid : Prop := Claim7.holds Tryd.pinned (.plain (OpenSpec.ofChange leastApartSpec)) leastApartCard

/-- THE TIED CARD OF 'glyphcutterlaw12.LeastNames'. -/
def leastNamesCard : Claim7 := { stood := { row := leastNamesRow, standIns := [], harness := (true, "8dcb9df6c4ed1eaea698856a5594235c35f0250034749285b2120fe72ed596fa"), looks := false }, kinds := [], alts := [], laidByText := true, laidKinds := [.data, .data, .data], laidTests := true, laidLooks := .later }
def LeastNamesCardSaid : Prop := Claim7.holds Tryd.pinned (.plain (OpenSpec.ofChange leastNamesSpec)) leastNamesCard

/-- THE SECOND FORM's CARD OF 'glyphcutterlaw12.LeastTells'. -/
def leastTellsUptoCard : Claim7 := { stood := { row := leastTellsUptoRow, standIns := [], harness := (true, "8dcb9df6c4ed1eaea698856a5594235c35f0250034749285b2120fe72ed596fa"), looks := false }, kinds := [], alts := [], laidByText := true, laidKinds := [.data, .data, .data], laidTests := true, laidLooks := .later }
def LeastTellsUptoCardSaid : Prop := Claim7.holds Tryd.pinned (.plain (OpenSpec.upto leastTellsSpec)) leastTellsUptoCard

/-- THE SECOND FORM's CARD OF 'glyphcutterlaw12.LeastTwice'. -/
def leastTwiceUptoCard : Claim7 := { stood := { row := leastTwiceUptoRow, standIns := [], harness := (true, "8dcb9df6c4ed1eaea698856a5594235c35f0250034749285b2120fe72ed596fa"), looks := false }, kinds := [], alts := [], laidByText := true, laidKinds := [.data, .data, .data], laidTests := true, laidLooks := .later }
def LeastTwiceUptoCardSaid : Prop := Claim7.holds Tryd.pinned (.plain (OpenSpec.upto leastTwiceSpec)) leastTwiceUptoCard

/-- THE SECOND FORM's CARD OF 'glyphcutterlaw12.LeastApart'. -/
def leastApartUptoCard : Claim7 := { stood := { row := leastApartUptoRow, standIns := [], harness := (true, "8dcb9df6c4ed1eaea698856a5594235c35f0250034749285b2120fe72ed596fa"), looks := false }, kinds := [], alts := [], laidByText := true, laidKinds := [.data, .data, .data], laidTests := true, laidLooks := .later }
def LeastApartUptoCardSaid : Prop := Claim7.holds Tryd.pinned (.plain (OpenSpec.upto leastApartSpec)) leastApartUptoCard

/-- THE SECOND FORM's CARD OF 'glyphcutterlaw12.LeastNames'. -/
def leastNamesUptoCard : Claim7 := { stood := { row := leastNamesUptoRow, standIns := [], harness := (true, "8dcb9df6c4ed1eaea698856a5594235c35f0250034749285b2120fe72ed596fa"), looks := false }, kinds := [], alts := [], laidByText := true, laidKinds := [.data, .data, .data], laidTests := true, laidLooks := .later }
def LeastNamesUptoCardSaid : Prop := Claim7.holds Tryd.pinned (.plain (OpenSpec.upto leastNamesSpec)) leastNamesUptoCard
end Rows
end Go.Proofs.YtpcbpgepjfenhaaDoor
