/- The document's machines: Tags, Longest. -/
import Derived.Test.YtpcbpgepjfenhaaDoorD3
import Derived.Test.YtpcbpgepjfenhaaDoorD5
import Derived.Test.YtpcbpgepjfenhaaDoorD4
set_option linter.unusedVariables false
set_option linter.unusedSimpArgs false
namespace Go.Proofs.YtpcbpgepjfenhaaDoor
open Go
set_option maxHeartbeats 4000000
/-- A row that is read only from here on. -/
theorem sx_freeze {Φ : Lib} {Z : Option Nat → Bool} {l : List DOper} {K : Ex → Env → Heap → Prop} {env : Env} {h : Heap} (t : Nat) {v : AV} {e n : Nat} {cs : List AV} (hz : Z (firstDst l) = true) (ht : env t = v) (hr : IsRow h v e n cs)
    (k : ∀ h', (∀ id, v.rowId ≠ some id → h'.get id = h.get id) → wops (Runs Φ) l (K .norm) (env.put t (.rd n cs false)) h') : xcode (Runs Φ) Z (.ops l) K env h := by
  rw [xcode_ops, if_pos hz]
  refine .inr ⟨fun id => v.rowId = some id, env.put t (.rd n cs false), fun i => ?_, k _ fun id hid => ?_⟩
  · by_cases hi : i = t
    · subst hi
      rw [ht, Env.put_apply, if_pos rfl]
      exact hr.fz _ (fun _ h => h) (FzL.same _)
    · rw [Env.put_apply, if_neg hi]
      exact .same _
  · simp only [Heap.drop, hid, if_false]
attribute [local irreducible] wops xcode wcode seqK blockK loopK finK wcall wop wstp Runs

end Go.Proofs.YtpcbpgepjfenhaaDoor
