/- The least machine. -/
import Derived.Test.YtdldfflfbfpngaaGreatDoorE5
set_option linter.unusedVariables false
set_option linter.unusedSimpArgs false
namespace Go.Proofs.YtdldfflfbfpngaaGreatDoor
open Go
set_option maxHeartbeats 4000000
theorem res_two {env : Env} {h : Heap} {t id g n t2 : Nat} {cs : List AV} {v : AV} (ht : env t = .ptr id g 0) (hg : h.get id = some (.cells g cs)) (hl : cs.length = n) (h2 : env t2 = v) (hv : v.isTup = false) : resVals env h [.cell t n true, .tmp t2] = some (.tup [.agg cs, v]) := by
 subst hl h2
 have e : resVals env h [.cell t cs.length true, .tmp t2] = ((resVal env h (.cell t cs.length true)).bind fun a => some [a, env t2]).bind fun vs => if vs.all (fun x => !x.isTup) = true then some (.tup vs) else none := by
  simp only [resVals, List.mapM_cons, List.mapM_nil, resVal]
  rfl
 rw [e]
 simp only [resVal, ht, hg]
 rw [if_pos ⟨trivial, by omega⟩]
 simp only [if_true, Option.bind_some, List.drop_zero, List.take_length]
 rw [if_pos]
 rw [List.all_cons, List.all_cons, hv]
 rfl
attribute [local irreducible] wops xcode wcode seqK blockK loopK finK wcall wop wstp Runs
end Go.Proofs.YtdldfflfbfpngaaGreatDoor
