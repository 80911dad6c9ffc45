/- sim: begin, reach, all. sim: Start, step, Step. -/
import Derived.Test.YtpcbpgepjfenhaaDoorD3
set_option linter.unusedVariables false
set_option linter.unusedSimpArgs false
namespace Go.Proofs.YtpcbpgepjfenhaaDoor
open Go
set_option maxHeartbeats 4000000
attribute [local irreducible] wops xcode wcode seqK blockK loopK finK wcall wop wstp Runs

@[reducible] def nI (i : Nat) : AV := .int .i64 (i : Int)
@[reducible] def bI (b : Bool) : AV := .bool b

/-- Marks: at a, their row at b. -/
structure Marks (h : Heap) (a b : Nat) (lv : AV) (n : Nfa) (bs : List Bool) (left : List Nat) : Prop where
  at_ : h.get a = some (.cells 0 [n.edges.mv Rw.ev, n.free.mv Rw.iv, n.tags.iv, .own b 1 1 0 bs.length none, lv])
  row : h.get b = some (.cells 1 (bs.map bI))
  ne : a ≠ b
  left : IsPre h lv 1 left.length (left.map nI)
  na : lv.rowId ≠ some a
  nb : lv.rowId ≠ some b

end Go.Proofs.YtpcbpgepjfenhaaDoor
set_option linter.unusedVariables false
set_option linter.unusedSimpArgs false
namespace Go.Proofs.YtpcbpgepjfenhaaDoor
open Go
set_option maxHeartbeats 4000000
attribute [local irreducible] wops xcode wcode seqK blockK loopK finK wcall wop wstp Runs

theorem fin_row {rs : List DRes} {Q : AV → Heap → Prop} {env : Env} {h : Heap} {v : AV} {e n : Nat} {cs : List AV} (hv : resVals env h rs = some v) (hr : IsRow h v e n cs) (k : ∀ h', Q (.rd n cs false) h') : finK rs Q .ret env h :=
  fin_ret_fz (fun id => v.rowId = some id) hv (hr.fz _ (fun _ h => h) (FzL.same _)) (k _)
@[reducible] def rowI (l : List Int) : AV := .rd l.length (l.map (.int .i64)) false
-- uses hsk
end Go.Proofs.YtpcbpgepjfenhaaDoor
