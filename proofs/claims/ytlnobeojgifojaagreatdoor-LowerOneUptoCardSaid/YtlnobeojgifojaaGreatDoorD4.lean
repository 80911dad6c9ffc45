/- sim: begin, reach, all. sim: Start, step, Step. -/
import Derived.Test.YtlnobeojgifojaaGreatDoorD3
set_option linter.unusedVariables false
set_option linter.unusedSimpArgs false
namespace Go.Proofs.YtlnobeojgifojaaGreatDoor
section
open Go
set_option maxHeartbeats 4000000
attribute [local irreducible] aj bc bj dn bz cn dz bL wop cq aU
@[reducible] def nI (i:Nat):AV := .int .i64 (i:Int)
@[reducible] def bI (b:Bool):AV := .bool b
structure HQ (h:aa)(a b:Nat)(lv:AV)(n:Nfa)(bs:List Bool)(left:List Nat):Prop where
 at_:h.get a=some (.cells 0 [n.edges.mv Rw.ev,n.free.mv Rw.iv,n.tags.iv,.own b 1 1 0 bs.length none,lv])
 row:h.get b=some (.cells 1 (bs.map bI))
 ne:a≠b
 left:gA h lv 1 left.length (left.map nI)
 na:lv.rowId≠some a
 nb:lv.rowId≠some b
end
section
open Go
set_option maxHeartbeats 4000000
attribute [local irreducible] aj bc bj dn bz cn dz bL wop cq aU
theorem iF {rs:List tn}{Q:AV→aa→Prop}{env:Env}{h:aa}{v:AV}{e n:Nat}{cs:List AV}(hv:ef env h rs=some v)(hr:aA h v e n cs)(k:∀ h',Q (.rd n cs false) h'):dz rs Q .ret env h :=
 fA (fun id=>v.rowId=some id) hv (hr.fz _ (fun _ h=>h) (FzL.same _)) (k _)
@[reducible] def kK (l:List Int):AV := .rd l.length (l.map (.int .i64)) false
end
end Go.Proofs.YtlnobeojgifojaaGreatDoor
