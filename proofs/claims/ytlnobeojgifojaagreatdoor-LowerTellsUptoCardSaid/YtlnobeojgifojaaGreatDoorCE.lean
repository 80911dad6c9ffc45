/- The abstract machine's code of some functions. -/
import Derived.Test.YtlnobeojgifojaaGreatDoorB2
namespace Go.Proofs.YtlnobeojgifojaaGreatDoor
section
open Go
structure Lj (Φ:Lib):Prop where
end
end Go.Proofs.YtlnobeojgifojaaGreatDoor
