/- The document's machines: Tags, Longest. -/
import Derived.Test.YtlnobeojgifojaaGreatDoorD3
import Derived.Test.YtlnobeojgifojaaGreatDoorD5
import Derived.Test.YtlnobeojgifojaaGreatDoorD4
set_option linter.unusedVariables false
set_option linter.unusedSimpArgs false
namespace Go.Proofs.YtlnobeojgifojaaGreatDoor
section
open Go
set_option maxHeartbeats 4000000
theorem ga {Φ:Lib}{Z:Option Nat→Bool}{l:List bF}{K:Ex→Env→ac→Prop}{env:Env}{h:ac}(t:Nat){v:AV}{e n:Nat}{cs:List AV}(hz:Z (mZ l)=true)(ht:env t=v)(hr:aC h v e n cs)
  (k:∀ h',(∀ id,v.rowId≠some id→h'.get id=h.get id)→aw (a8 Φ) l (K .norm) (env.put t (.rd n cs false)) h'):bg (a8 Φ) Z (.ops l) K env h:=by
 rw[oJ,if_pos hz]
 refine .inr ⟨fun id=>v.rowId=some id,env.put t (.rd n cs false),fun i=>?_,k _ fun id hid=>?_⟩
 ·by_cases hi:i=t
  ·subst hi
   rw[ht,Env.put_apply,if_pos rfl]
   exact hr.fz _ (fun _ h=>h) (FzL.same _)
  ·rw[Env.put_apply,if_neg hi]
   exact .same _
 ·simp only[ac.drop,hid,if_false]
attribute [local irreducible] aw bg bm dg bz cw dO bH wop cz a8
end
end Go.Proofs.YtlnobeojgifojaaGreatDoor
