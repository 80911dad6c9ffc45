/- The document's machines: Start, Step, Tags, Longest. The document's machines: Tags, Longest. -/
import Derived.Test.YtdldfflfbfpngaaGreatDoorD3
import Derived.Test.YtdldfflfbfpngaaGreatDoorD5
import Derived.Test.YtdldfflfbfpngaaGreatDoorD4
set_option linter.unusedVariables false
set_option linter.unusedSimpArgs false
namespace Go.Proofs.YtdldfflfbfpngaaGreatDoor
open Go
set_option maxHeartbeats 4000000
attribute [local irreducible] wops xcode wcode seqK blockK loopK finK wcall wop wstp Runs
theorem hasR_hasS (l : List Span) (r : Int) : hasR l r = hasS l r := by
 unfold hasR hasS
 cases h : scal r
 ·have : r < 0 ∨ 1114111 < r ∨ (55296 ≤ r ∧ r ≤ 57343) := by
   have : ¬ scal r = true := by simp [h]
   rw [scal_iff] at this
   omega
  rw [if_pos this]; rfl
 ·have := scal_iff.1 h
  rw [if_neg (by omega)]
  simp
end Go.Proofs.YtdldfflfbfpngaaGreatDoor
set_option linter.unusedVariables false
set_option linter.unusedSimpArgs false
namespace Go.Proofs.YtdldfflfbfpngaaGreatDoor
open Go
set_option maxHeartbeats 4000000
theorem sx_freeze {Φ : Lib} {Z : Option Nat → Bool} {l : List DOper} {K : Ex → Env → Heap → Prop} {env : Env} {h : Heap} (t : Nat) {v : AV} {e n : Nat} {cs : List AV} (hz : Z (firstDst l) = true) (ht : env t = v) (hr : IsRow h v e n cs)
  (k : ∀ h', (∀ id, v.rowId ≠ some id → h'.get id = h.get id) → wops (Runs Φ) l (K .norm) (env.put t (.rd n cs false)) h') : xcode (Runs Φ) Z (.ops l) K env h := by
 rw [xcode_ops, if_pos hz]
 refine .inr ⟨fun id => v.rowId = some id, env.put t (.rd n cs false), fun i => ?_, k _ fun id hid => ?_⟩
 ·by_cases hi : i = t
  ·subst hi
   rw [ht, Env.put_apply, if_pos rfl]
   exact hr.fz _ (fun _ h => h) (FzL.same _)
  ·rw [Env.put_apply, if_neg hi]
   exact .same _
 ·simp only [Heap.drop, hid, if_false]
attribute [local irreducible] wops xcode wcode seqK blockK loopK finK wcall wop wstp Runs
end Go.Proofs.YtdldfflfbfpngaaGreatDoor
