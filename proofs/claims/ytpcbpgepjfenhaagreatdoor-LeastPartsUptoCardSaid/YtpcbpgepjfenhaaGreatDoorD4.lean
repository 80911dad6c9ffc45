/- sim: begin, reach, all. sim: Start, step, Step. slices.Compact; sim: tags, Tags, Longest. -/
import Derived.Test.YtpcbpgepjfenhaaGreatDoorD3
set_option linter.unusedVariables false
set_option linter.unusedSimpArgs false
namespace Go.Proofs.YtpcbpgepjfenhaaGreatDoor
open Go
set_option maxHeartbeats 4000000
attribute [local irreducible] wops xcode wcode seqK blockK loopK finK wcall wop wstp Runs
@[reducible] def nI (i : Nat) : AV := .int .i64 (i : Int)
@[reducible] def bI (b : Bool) : AV := .bool b
structure Marks (h : Heap) (a b : Nat) (lv : AV) (n : Nfa) (bs : List Bool) (left : List Nat) : Prop where
 at_ : h.get a = some (.cells 0 [n.edges.mv Rw.ev, n.free.mv Rw.iv, n.tags.iv, .own b 1 1 0 bs.length none, lv])
 row : h.get b = some (.cells 1 (bs.map bI))
 ne : a ≠ b
 left : IsPre h lv 1 left.length (left.map nI)
 na : lv.rowId ≠ some a
 nb : lv.rowId ≠ some b
end Go.Proofs.YtpcbpgepjfenhaaGreatDoor
set_option linter.unusedVariables false
set_option linter.unusedSimpArgs false
namespace Go.Proofs.YtpcbpgepjfenhaaGreatDoor
open Go
set_option maxHeartbeats 4000000
attribute [local irreducible] wops xcode wcode seqK blockK loopK finK wcall wop wstp Runs
theorem fin_row {rs : List DRes} {Q : AV → Heap → Prop} {env : Env} {h : Heap} {v : AV} {e n : Nat} {cs : List AV} (hv : resVals env h rs = some v) (hr : IsRow h v e n cs) (k : ∀ h', Q (.rd n cs false) h') : finK rs Q .ret env h :=
 fin_ret_fz (fun id => v.rowId = some id) hv (hr.fz _ (fun _ h => h) (FzL.same _)) (k _)
@[reducible] def rowI (l : List Int) : AV := .rd l.length (l.map (.int .i64)) false
noncomputable def start1 (n : Nfa) : List Int := if soundN n = true then startN n else []
noncomputable def step1 (n : Nfa) (at_ : List Int) (r : Int) : List Int := if soundN n = true then stepN n at_ r else []
end Go.Proofs.YtpcbpgepjfenhaaGreatDoor
set_option linter.unusedVariables false
set_option linter.unusedSimpArgs false
namespace Go.Proofs.YtpcbpgepjfenhaaGreatDoor
open Go
set_option maxHeartbeats 4000000
attribute [local irreducible] wops xcode wcode seqK blockK loopK finK wcall wop wstp Runs
theorem flat_reps (z : AV) : ∀ m : Nat, (List.replicate m [z]).flatten = List.replicate m z
 | 0 => rfl
 | m + 1 => by rw [List.replicate_succ, List.flatten_cons, flat_reps z m]; rfl
noncomputable def tags1 (n : Nfa) (at_ : List Int) : List Int := if soundN n = true then tagsN n at_ else []
theorem closeN_length (n : Nfa) (P : Nat → Prop) : (closeN n P).length ≤ n.k := by
 unfold closeN
 rw [List.length_map]
 refine Nat.le_trans (List.length_filter_le _ _) ?_
 rw [List.length_range]; exact Nat.le_refl _
end Go.Proofs.YtpcbpgepjfenhaaGreatDoor
