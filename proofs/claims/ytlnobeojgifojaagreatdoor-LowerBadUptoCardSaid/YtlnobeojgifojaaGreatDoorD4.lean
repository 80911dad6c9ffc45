/- sim: begin, reach, all. sim: Start, step, Step. -/
import Derived.Test.YtlnobeojgifojaaGreatDoorD3
set_option linter.unusedVariables false
set_option linter.unusedSimpArgs false
namespace Go.Proofs.YtlnobeojgifojaaGreatDoor
section
open Go
set_option maxHeartbeats 4000000
attribute [local irreducible] aw bg bm dg bz cw dO bH wop cz a8
@[reducible] def nI (i:Nat):AV := .int .i64 (i:Int)
@[reducible] def bI (b:Bool):AV := .bool b
structure K4 (h:ac)(a b:Nat)(lv:AV)(n:Nfa)(bs:List Bool)(left:List Nat):Prop where
 at_:h.get a=some (.cells 0 [n.edges.mv Rw.ev,n.free.mv Rw.iv,n.tags.iv,.own b 1 1 0 bs.length none,lv])
 row:h.get b=some (.cells 1 (bs.map bI))
 ne:a≠b
 left:iO h lv 1 left.length (left.map nI)
 na:lv.rowId≠some a
 nb:lv.rowId≠some b
end
section
open Go
set_option maxHeartbeats 4000000
attribute [local irreducible] aw bg bm dg bz cw dO bH wop cz a8
theorem fj {rs:List vH}{Q:AV→ac→Prop}{env:Env}{h:ac}{v:AV}{e n:Nat}{cs:List AV}(hv:fh env h rs=some v)(hr:aC h v e n cs)(k:∀ h',Q (.rd n cs false) h'):dO rs Q .ret env h :=
 fM (fun id=>v.rowId=some id) hv (hr.fz _ (fun _ h=>h) (FzL.same _)) (k _)
@[reducible] def gK (l:List Int):AV := .rd l.length (l.map (.int .i64)) false
end
end Go.Proofs.YtlnobeojgifojaaGreatDoor
