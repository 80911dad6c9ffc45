/- The statements' machine made. The statements: twice; tells. -/
import Derived.Test.YtlnobeojgifojaaGreatDoorF3
set_option linter.unusedVariables false
set_option linter.unusedSimpArgs false
namespace Go.Proofs.YtlnobeojgifojaaGreatDoor
section
open Go
set_option maxHeartbeats 4000000
attribute [local irreducible] aj bc bj dn bz cn dz bL wop cq aU
@[reducible] def Gj (r:Rw Int):AV:=zy r.l r.fl
end
section
open Go
set_option maxHeartbeats 4000000
attribute [local irreducible] aj bc bj dn bz cn dz bL wop cq aU
@[simp] theorem Hq (l:List (Rw Int)):AV.frozenL (l.map Gj)=true:=dQ (fun r=>by simp[AV.frozen]) l
end
end Go.Proofs.YtlnobeojgifojaaGreatDoor
