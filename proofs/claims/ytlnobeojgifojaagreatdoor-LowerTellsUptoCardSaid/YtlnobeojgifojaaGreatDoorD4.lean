/- sim: begin, reach, all. -/
import Derived.Test.YtlnobeojgifojaaGreatDoorD3
set_option linter.unusedVariables false
set_option linter.unusedSimpArgs false
namespace Go.Proofs.YtlnobeojgifojaaGreatDoor
section
open Go
set_option maxHeartbeats 4000000
attribute [local irreducible] az bf bm de bz cw dH bJ wop cz bc
@[reducible] def nI (i:Nat):AV := .int .i64 (i:Int)
@[reducible] def bI (b:Bool):AV := .bool b
structure Li (h:ad)(a b:Nat)(lv:AV)(n:Nfa)(bs:List Bool)(left:List Nat):Prop where
 at_:h.get a=some (.cells 0 [n.edges.mv Rw.ev,n.free.mv Rw.iv,n.tags.iv,.own b 1 1 0 bs.length none,lv])
 row:h.get b=some (.cells 1 (bs.map bI))
 ne:a≠b
 left:iP h lv 1 left.length (left.map nI)
 na:lv.rowId≠some a
 nb:lv.rowId≠some b
end
section
open Go
set_option maxHeartbeats 4000000
attribute [local irreducible] az bf bm de bz cw dH bJ wop cz bc
theorem fq {rs:List vP}{Q:AV→ad→Prop}{env:Env}{h:ad}{v:AV}{e n:Nat}{cs:List AV}(hv:fm env h rs=some v)(hr:aD h v e n cs)(k:∀ h',Q (.rd n cs false) h'):dH rs Q .ret env h :=
 fP (fun id=>v.rowId=some id) hv (hr.fz _ (fun _ h=>h) (FzL.same _)) (k _)
@[reducible] def gK (l:List Int):AV := .rd l.length (l.map (.int .i64)) false
end
end Go.Proofs.YtlnobeojgifojaaGreatDoor
