/- The abstract machine's code of some functions. Written by program. -/
import Derived.Test.YtlnobeojgifojaaGreatDoorB2
namespace Go.Proofs.YtlnobeojgifojaaGreatDoor
section
open Go
structure HR (Φ:Lib):Prop where
end
end Go.Proofs.YtlnobeojgifojaaGreatDoor
