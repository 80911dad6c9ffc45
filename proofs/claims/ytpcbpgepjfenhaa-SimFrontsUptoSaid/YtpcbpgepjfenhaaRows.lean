/-
  No cell of these rows narrows 'for every input' (looked for: loops, veiled, ifaces, maps, wideKeys, modest, calm, conditions, laid).
  DERIVED. THE GIVEN ROWS OF THIS SEAT. 5 by the template 'for every input the law returns true; each argument reads behind the call as it read before'; 0 by the template 'total and deterministic' (their statements: YtpcbpgepjfenhaaTotals.lean).
  GIVEN WITH THE SEED: the statements are not yours to turn. If you find one false, say at which input.
  Laid BY PROGRAM, IN A SANDBOX (cutbox-rows.mjs): the forced cells as the released guide's own fill.sh prints them over the translation 2a7e6a5318fd4c14… (all of the seat's roots in one cut). By AI agents, Wed Nov 11 2026. No macro, syntax, notation, axiom, sorry.
-/
import Derived.Test.YtpcbpgepjfenhaaChecked
import GoSem.Claim
import GoSem.ClaimJoined
import GoSem.ClaimMapViews
import Derived.JoinedTies
import Derived.KernelRfl
namespace Go.Proofs.Ytpcbpgepjfenhaa
/- THE CELL 'sum', in the pinned program and in every row, IS THE sha256 OF THE DUMP (.gsa) THAT YtpcbpgepjfenhaaProg.lean LOADS. Nothing in Lean hashes anything: it is a label: what it is worth is what the hold of that sum in a sandbox is worth. -/
noncomputable def Try.pinned : Pinned := { name := "ytpcbpgepjfenhaa", sum := "2a7e6a5318fd4c14230a8541279c532c9d3bb281bb409e423c5fd79f00169076", checked := Try.checked }
namespace Rows
def none {H : Type} : Left H := { results := [], args := [] }

/-- 'glyphcutterlaw09.SimStates': WHATEVER THE INPUT: true; the input reads as it did. -/
def simStatesSpec : ChangeSpec := { name := "simStates", fn := fun _ => fun
  | [d1, d2, d3, d4, d5, d6] => { results := [.lit (.bool true)], args := [d1, d2, d3, d4, d5, d6] }
  | _ => none }
def simStatesRow : OpenClaim := { program := "ytpcbpgepjfenhaa", sum := "2a7e6a5318fd4c14230a8541279c532c9d3bb281bb409e423c5fd79f00169076", func := "glyphcutter/glyphcutterlaw09.SimStates", spec := "simStates", unfollowed := true, recurses := true, apart := false }
def SimStatesSaid : Prop := simStatesRow.holds Try.pinned (OpenSpec.ofChange simStatesSpec)

/-- ITS FALSE NEIGHBOUR: 'it returns false'. Refute it at one input. -/
def simStatesWrong : ChangeSpec := { name := "simStates", fn := fun _ => fun
  | [d1, d2, d3, d4, d5, d6] => { results := [.lit (.bool false)], args := [d1, d2, d3, d4, d5, d6] }
  | _ => none }
def SimStatesWrongFalsely : Prop := simStatesRow.holds Try.pinned (OpenSpec.ofChange simStatesWrong)

/-- 'glyphcutterlaw09.SimFree': WHATEVER THE INPUT: true; the input reads as it did. -/
def simFreeSpec : ChangeSpec := { name := "simFree", fn := fun _ => fun
  | [d1, d2, d3] => { results := [.lit (.bool true)], args := [d1, d2, d3] }
  | _ => none }
def simFreeRow : OpenClaim := { program := "ytpcbpgepjfenhaa", sum := "2a7e6a5318fd4c14230a8541279c532c9d3bb281bb409e423c5fd79f00169076", func := "glyphcutter/glyphcutterlaw09.SimFree", spec := "simFree", unfollowed := true, recurses := true, apart := false }
def SimFreeSaid : Prop := simFreeRow.holds Try.pinned (OpenSpec.ofChange simFreeSpec)

/-- ITS FALSE NEIGHBOUR: 'it returns false'. Refute it at one input. -/
def simFreeWrong : ChangeSpec := { name := "simFree", fn := fun _ => fun
  | [d1, d2, d3] => { results := [.lit (.bool false)], args := [d1, d2, d3] }
  | _ => none }
def SimFreeWrongFalsely : Prop := simFreeRow.holds Try.pinned (OpenSpec.ofChange simFreeWrong)

/-- 'glyphcutterlaw09.SimGoes': WHATEVER THE INPUT: true; the input reads as it did. -/
def simGoesSpec : ChangeSpec := { name := "simGoes", fn := fun _ => fun
  | [d1, d2, d3, d4, d5] => { results := [.lit (.bool true)], args := [d1, d2, d3, d4, d5] }
  | _ => none }
def simGoesRow : OpenClaim := { program := "ytpcbpgepjfenhaa", sum := "2a7e6a5318fd4c14230a8541279c532c9d3bb281bb409e423c5fd79f00169076", func := "glyphcutter/glyphcutterlaw09.SimGoes", spec := "simGoes", unfollowed := true, recurses := true, apart := false }
def SimGoesSaid : Prop := simGoesRow.holds Try.pinned (OpenSpec.ofChange simGoesSpec)

/-- ITS FALSE NEIGHBOUR: 'it returns false'. Refute it at one input. -/
def simGoesWrong : ChangeSpec := { name := "simGoes", fn := fun _ => fun
  | [d1, d2, d3, d4, d5] => { results := [.lit (.bool false)], args := [d1, d2, d3, d4, d5] }
  | _ => none }
def SimGoesWrongFalsely : Prop := simGoesRow.holds Try.pinned (OpenSpec.ofChange simGoesWrong)

/-- 'glyphcutterlaw09.SimBad': WHATEVER THE INPUT: true; the input reads as it did. -/
def simBadSpec : ChangeSpec := { name := "simBad", fn := fun _ => fun
  | [d1, d2, d3] => { results := [.lit (.bool true)], args := [d1, d2, d3] }
  | _ => none }
def simBadRow : OpenClaim := { program := "ytpcbpgepjfenhaa", sum := "2a7e6a5318fd4c14230a8541279c532c9d3bb281bb409e423c5fd79f00169076", func := "glyphcutter/glyphcutterlaw09.SimBad", spec := "simBad", unfollowed := true, recurses := true, apart := false }
def SimBadSaid : Prop := simBadRow.holds Try.pinned (OpenSpec.ofChange simBadSpec)

/-- ITS FALSE NEIGHBOUR: 'it returns false'. Refute it at one input. -/
def simBadWrong : ChangeSpec := { name := "simBad", fn := fun _ => fun
  | [d1, d2, d3] => { results := [.lit (.bool false)], args := [d1, d2, d3] }
  | _ => none }
def SimBadWrongFalsely : Prop := simBadRow.holds Try.pinned (OpenSpec.ofChange simBadWrong)

/-- 'glyphcutterlaw09.SimFronts': WHATEVER THE INPUT: true; the input reads as it did. -/
def simFrontsSpec : ChangeSpec := { name := "simFronts", fn := fun _ => fun
  | [d1, d2, d3, d4, d5] => { results := [.lit (.bool true)], args := [d1, d2, d3, d4, d5] }
  | _ => none }
def simFrontsRow : OpenClaim := { program := "ytpcbpgepjfenhaa", sum := "2a7e6a5318fd4c14230a8541279c532c9d3bb281bb409e423c5fd79f00169076", func := "glyphcutter/glyphcutterlaw09.SimFronts", spec := "simFronts", unfollowed := true, recurses := true, apart := false }
def SimFrontsSaid : Prop := simFrontsRow.holds Try.pinned (OpenSpec.ofChange simFrontsSpec)

/-- ITS FALSE NEIGHBOUR: 'it returns false'. Refute it at one input. -/
def simFrontsWrong : ChangeSpec := { name := "simFronts", fn := fun _ => fun
  | [d1, d2, d3, d4, d5] => { results := [.lit (.bool false)], args := [d1, d2, d3, d4, d5] }
  | _ => none }
def SimFrontsWrongFalsely : Prop := simFrontsRow.holds Try.pinned (OpenSpec.ofChange simFrontsWrong)

/- THE SECOND FORM. 'bulk': how many values and letters a reading holds, each counted each time it is reached (what is shared counts as often as it is met; a slice's spare places count too). A statement '..UptoSaid' is the law's where the arguments, and the package variables that the reading takes, are together of bulk at most 1048576: NARROWER than '..Said'. Prove '..Said' where nothing that the law and all that it calls make is longer than what came in: it says more and counts as full. Else prove '..UptoSaid'. A law counts once. -/
mutual
def uptoBulk {H : Type} : DataW H → Nat
  | .lit (.string bytes) => bytes.length + 1
  | .lit _ => 1
  | .nil => 1
  | .ptr d => uptoBulk d + 1
  | .slice elems spare => uptoBulkAll elems + uptoBulkAll spare + 1
  | .agg parts => uptoBulkAll parts + 1
  | .iface _ d => uptoBulk d + 1
  | .map entries => uptoBulkEntries entries + 1
  | .held _ => 1
def uptoBulkAll {H : Type} : List (DataW H) → Nat
  | [] => 0
  | d :: r => uptoBulk d + uptoBulkAll r
def uptoBulkEntries {H : Type} : List (Lit × DataW H) → Nat
  | [] => 0
  | x :: r => uptoBulkEntry x + uptoBulkEntries r
def uptoBulkEntry {H : Type} : Lit × DataW H → Nat
  | (.string bytes, d) => bytes.length + uptoBulk d + 1
  | (_, d) => uptoBulk d + 1
 end
def uptoSmall : (H : Type) → List (DataW H) → Bool := fun _ ds => decide (uptoBulkAll ds ≤ 1048576)
def OpenSpec.upto (s : _root_.Go.ChangeSpec) : _root_.Go.OpenSpec := { _root_.Go.OpenSpec.ofChange s with cond := some uptoSmall }

/-- 'glyphcutterlaw09.SimStates', WHERE WHAT IT READS IS OF BULK AT MOST 1048576: true; the input reads as it did. -/
def simStatesUptoRow : OpenClaim := { program := "ytpcbpgepjfenhaa", sum := "2a7e6a5318fd4c14230a8541279c532c9d3bb281bb409e423c5fd79f00169076", func := "glyphcutter/glyphcutterlaw09.SimStates", spec := "simStates", unfollowed := true, recurses := true, apart := false, narrowed := true }
def SimStatesUptoSaid : Prop := simStatesUptoRow.holds Try.pinned (OpenSpec.upto simStatesSpec)

/-- 'glyphcutterlaw09.SimFree', WHERE WHAT IT READS IS OF BULK AT MOST 1048576: true; the input reads as it did. -/
def simFreeUptoRow : OpenClaim := { program := "ytpcbpgepjfenhaa", sum := "2a7e6a5318fd4c14230a8541279c532c9d3bb281bb409e423c5fd79f00169076", func := "glyphcutter/glyphcutterlaw09.SimFree", spec := "simFree", unfollowed := true, recurses := true, apart := false, narrowed := true }
def SimFreeUptoSaid : Prop := simFreeUptoRow.holds Try.pinned (OpenSpec.upto simFreeSpec)

/-- 'glyphcutterlaw09.SimGoes', WHERE WHAT IT READS IS OF BULK AT MOST 1048576: true; the input reads as it did. -/
def simGoesUptoRow : OpenClaim := { program := "ytpcbpgepjfenhaa", sum := "2a7e6a5318fd4c14230a8541279c532c9d3bb281bb409e423c5fd79f00169076", func := "glyphcutter/glyphcutterlaw09.SimGoes", spec := "simGoes", unfollowed := true, recurses := true, apart := false, narrowed := true }
def SimGoesUptoSaid : Prop := simGoesUptoRow.holds Try.pinned (OpenSpec.upto simGoesSpec)

/-- 'glyphcutterlaw09.SimBad', WHERE WHAT IT READS IS OF BULK AT MOST 1048576: true; the input reads as it did. -/
def simBadUptoRow : OpenClaim := { program := "ytpcbpgepjfenhaa", sum := "2a7e6a5318fd4c14230a8541279c532c9d3bb281bb409e423c5fd79f00169076", func := "glyphcutter/glyphcutterlaw09.SimBad", spec := "simBad", unfollowed := true, recurses := true, apart := false, narrowed := true }
def SimBadUptoSaid : Prop := simBadUptoRow.holds Try.pinned (OpenSpec.upto simBadSpec)

/-- 'glyphcutterlaw09.SimFronts', WHERE WHAT IT READS IS OF BULK AT MOST 1048576: true; the input reads as it did. -/
def simFrontsUptoRow : OpenClaim := { program := "ytpcbpgepjfenhaa", sum := "2a7e6a5318fd4c14230a8541279c532c9d3bb281bb409e423c5fd79f00169076", func := "glyphcutter/glyphcutterlaw09.SimFronts", spec := "simFronts", unfollowed := true, recurses := true, apart := false, narrowed := true }
def SimFrontsUptoSaid : Prop := simFrontsUptoRow.holds Try.pinned (OpenSpec.upto simFrontsSpec)

end Rows
end Go.Proofs.Ytpcbpgepjfenhaa
