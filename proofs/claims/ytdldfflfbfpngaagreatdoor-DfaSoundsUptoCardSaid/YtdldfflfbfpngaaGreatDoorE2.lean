/- Rounds. What is come to. -/
import Derived.Test.YtdldfflfbfpngaaGreatDoorE1
import Derived.Test.YtdldfflfbfpngaaGreatDoorP1
import Derived.Test.YtdldfflfbfpngaaGreatDoorD6
import Derived.Test.YtdldfflfbfpngaaGreatDoorP2
set_option linter.unusedVariables false
set_option linter.unusedSimpArgs false
namespace Go.Proofs.YtdldfflfbfpngaaGreatDoor
open Go
set_option maxHeartbeats 4000000
attribute [local irreducible] wops xcode wcode seqK blockK loopK finK wcall wop wstp Runs
theorem str_inj : ∀ a b : List UInt8, AV.str a = AV.str b → a = b := fun _ _ e => by injection e
theorem fill_set {α : Type} {a : List α} {z v : α} {n i : Nat} (ha : a.length = i) (hi : i < n) : (a ++ List.replicate (n - i) z).set i v = (a ++ [v]) ++ List.replicate (n - (i + 1)) z := by
 subst ha
 rw [List.set_append_right _ _ (Nat.le_refl _), Nat.sub_self, show n - a.length = (n - (a.length + 1)) + 1 by omega, List.replicate_succ, List.set_cons_zero, List.append_assoc]
 rfl
end Go.Proofs.YtdldfflfbfpngaaGreatDoor
set_option linter.unusedVariables false
set_option linter.unusedSimpArgs false
namespace Go.Proofs.YtdldfflfbfpngaaGreatDoor
open Go
set_option maxHeartbeats 4000000
def IsApp (h : Heap) (v : AV) (e n : Nat) (cs : List AV) : Prop :=
 (v = .rd n cs true ∧ cs.length = n * e) ∨ ∃ id g, v = .own id g e 0 n none ∧ h.get id = some (.cells g cs) ∧ 1 ≤ g ∧ cs.length = n * e
theorem srcCells_app {h : Heap} {v e n cs} (hr : IsApp h v e n cs) : srcCells h e v = some (n, cs) := by
 rcases hr with ⟨rfl, h1⟩ | ⟨id, g, rfl, h2, h3, h4⟩
 ·simp [srcCells, h1]
 ·simp only [srcCells, h2]
  rw [if_pos ⟨trivial, trivial, by rw [Nat.zero_add, h4]; exact Nat.le_refl _⟩, Nat.zero_mul, List.drop_zero, ← h4, List.take_length]
section
variable {F : FnSem} {r : List DOper} {Q : Env → Heap → Prop} {env : Env} {h : Heap} {d : Nat} {x y z c : DOpd}
end
attribute [local irreducible] wops xcode wcode seqK blockK loopK finK wcall wop wstp Runs
end Go.Proofs.YtdldfflfbfpngaaGreatDoor
