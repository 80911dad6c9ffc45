/- The document's atoms walked. -/
import Derived.Test.YtlnobeojgifojaaGreatDoorF2
set_option linter.unusedVariables false
set_option linter.unusedSimpArgs false
namespace Go.Proofs.YtlnobeojgifojaaGreatDoor
section
open Go
set_option maxHeartbeats 4000000
attribute [local irreducible] aj bc bj dn bz cn dz bL wop cq aU
theorem Cv (l:List (Rw am))(i:Nat):(dA (l.take i)).length≤(dA l).length:=by
 have h:dA l=dA (l.take i)++dA (l.drop i):=by
  unfold dA
  rw[← List.flatMap_append,List.take_append_drop]
 rw[h,List.length_append]
 omega
end
end Go.Proofs.YtlnobeojgifojaaGreatDoor
