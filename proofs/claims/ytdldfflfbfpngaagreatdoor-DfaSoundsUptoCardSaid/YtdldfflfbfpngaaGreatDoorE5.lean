/- Parts together. -/
import Derived.Test.YtdldfflfbfpngaaGreatDoorE4
import Derived.Test.YtdldfflfbfpngaaGreatDoorE2
import Derived.Test.YtdldfflfbfpngaaGreatDoorE3
set_option linter.unusedVariables false
set_option linter.unusedSimpArgs false
namespace Go.Proofs.YtdldfflfbfpngaaGreatDoor
open Go
set_option maxHeartbeats 4000000
attribute [local irreducible] wops xcode wcode seqK blockK loopK finK wcall wop wstp Runs
@[reducible] def nil3 : DObj := .cells 0 [.rd 0 [] true, .rd 0 [] true, .rd 0 [] true]
end Go.Proofs.YtdldfflfbfpngaaGreatDoor
