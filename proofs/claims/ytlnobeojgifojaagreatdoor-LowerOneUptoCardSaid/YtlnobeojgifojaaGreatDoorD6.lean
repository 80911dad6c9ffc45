/- The document's machines: Tags, Longest. -/
import Derived.Test.YtlnobeojgifojaaGreatDoorD3
import Derived.Test.YtlnobeojgifojaaGreatDoorB2
import Derived.Test.YtlnobeojgifojaaGreatDoorD4
import Derived.Test.YtlnobeojgifojaaGreatDoorD1
import Derived.Test.YtlnobeojgifojaaGreatDoorC
set_option linter.unusedVariables false
set_option linter.unusedSimpArgs false
namespace Go.Proofs.YtlnobeojgifojaaGreatDoor
section
open Go
set_option maxHeartbeats 4000000
theorem jn {Φ:Lib}{Z:Option Nat→Bool}{l:List bA}{K:Ex→Env→aa→Prop}{env:Env}{h:aa}(t:Nat){v:AV}{e n:Nat}{cs:List AV}(hz:Z (lG l)=true)(ht:env t=v)(hr:aA h v e n cs)
  (k:∀ h',(∀ id,v.rowId≠some id→h'.get id=h.get id)→aj (aU Φ) l (K .norm) (env.put t (.rd n cs false)) h'):bc (aU Φ) Z (.ops l) K env h:=by
 rw[m5,if_pos hz]
 refine .inr ⟨fun id=>v.rowId=some id,env.put t (.rd n cs false),fun i=>?_,k _ fun id hid=>?_⟩
 ·by_cases hi:i=t
  ·subst hi
   rw[ht,Env.put_apply,if_pos rfl]
   exact hr.fz _ (fun _ h=>h) (FzL.same _)
  ·rw[Env.put_apply,if_neg hi]
   exact .same _
 ·simp only[aa.drop,hid,if_false]
attribute [local irreducible] aj bc bj dn bz cn dz bL wop cq aU
end
end Go.Proofs.YtlnobeojgifojaaGreatDoor
