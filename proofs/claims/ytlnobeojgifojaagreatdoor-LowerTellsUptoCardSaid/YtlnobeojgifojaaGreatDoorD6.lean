/- The document's machines: Tags, Longest. -/
import Derived.Test.YtlnobeojgifojaaGreatDoorD3
import Derived.Test.YtlnobeojgifojaaGreatDoorD5
import Derived.Test.YtlnobeojgifojaaGreatDoorD4
set_option linter.unusedVariables false
set_option linter.unusedSimpArgs false
namespace Go.Proofs.YtlnobeojgifojaaGreatDoor
section
open Go
set_option maxHeartbeats 4000000
theorem fk {Φ:Lib}{Z:Option Nat→Bool}{l:List bK}{K:Ex→Env→ad→Prop}{env:Env}{h:ad}(t:Nat){v:AV}{e n:Nat}{cs:List AV}(hz:Z (ng l)=true)(ht:env t=v)(hr:aD h v e n cs)
  (k:∀ h',(∀ id,v.rowId≠some id→h'.get id=h.get id)→az (bc Φ) l (K .norm) (env.put t (.rd n cs false)) h'):bf (bc Φ) Z (.ops l) K env h:=by
 rw[oS,if_pos hz]
 refine .inr ⟨fun id=>v.rowId=some id,env.put t (.rd n cs false),fun i=>?_,k _ fun id hid=>?_⟩
 ·by_cases hi:i=t
  ·subst hi
   rw[ht,Env.put_apply,if_pos rfl]
   exact hr.fz _ (fun _ h=>h) (FzL.same _)
  ·rw[Env.put_apply,if_neg hi]
   exact .same _
 ·simp only[ad.drop,hid,if_false]
attribute [local irreducible] az bf bm de bz cw dH bJ wop cz bc
end
end Go.Proofs.YtlnobeojgifojaaGreatDoor
