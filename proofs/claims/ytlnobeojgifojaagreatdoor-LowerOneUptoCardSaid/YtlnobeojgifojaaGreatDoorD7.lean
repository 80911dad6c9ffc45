/- The statements' helpers: place, Make, norm, same, scalars, within, each. The statements' machines: Machine. The statements: SimStates, SimFree, SimGoes, SimBad, SimFronts. -/
import Derived.Test.YtlnobeojgifojaaGreatDoorD6
import Derived.Test.YtlnobeojgifojaaGreatDoorB2
import Derived.Test.YtlnobeojgifojaaGreatDoorD3
set_option linter.unusedVariables false
set_option linter.unusedSimpArgs false
namespace Go.Proofs.YtlnobeojgifojaaGreatDoor
section
open Go
set_option maxHeartbeats 4000000
theorem qK {Φ:Lib}{m f:Nat}{args:List AV}{P:AV→Prop}{h:aa}{Q:AV→aa→Prop}(hp:aU Φ f args aa.empty (fun v _=>P v))(ha:AV.frozenL args=true)(hv:∀ v,P v→v.frozen=true)(k:∀ v,P v→Q v h):bL (aU Φ) m f args h Q :=
 .inr (.inr (.inl ⟨ha,aU.mono Φ _ _ _ _ _ (fun v _ e=>⟨hv v e,k v e⟩) hp⟩))
attribute [local irreducible] aj bc bj dn bz cn dz bL wop cq aU
@[reducible] def zy (l:List Int)(fl:Bool):AV := .rd l.length (l.map (.int .u16)) fl
@[simp] theorem mQ (x y:List AV):AV.frozenL (x++y)=(AV.frozenL x&&AV.frozenL y):=by
 induction x with
 | nil=>rfl
 | cons a x ih=>simp[AV.frozenL,ih,Bool.and_assoc]
end
section
open Go
set_option maxHeartbeats 4000000
attribute [local irreducible] aj bc bj dn bz cn dz bL wop cq aU
structure Arc where
 fr:Int
 to:Int
 set:Rw Int
 free:Bool
@[reducible] def Arc.av (a:Arc):List AV:=[.int .u8 a.fr,.int .u8 a.to,zy a.set.l a.set.fl,.bool a.free]
@[simp] theorem Arc.av_length (a:Arc):a.av.length=4:=rfl
@[simp] theorem G2 (l:List Int)(fl:Bool):(zy l fl).frozen=true:=by
 simp only[zy,AV.frozen]
 exact dQ (fun _=>rfl) l
@[simp] theorem Hp (l:List Int):AV.frozenL (l.map (.int .u16))=true:=dQ (fun _=>rfl) l
@[simp] theorem HF (l:List Int):AV.frozenL (l.map (.int .i8))=true:=dQ (fun _=>rfl) l
@[simp] theorem Fz (a:Arc):AV.frozenL a.av=true:=by simp[Arc.av,AV.frozenL,AV.frozen]
@[simp] theorem Ht (l:List Arc):AV.frozenL (l.flatMap Arc.av)=true:=jh Fz l
end
section
open Go
set_option maxHeartbeats 4000000
attribute [local irreducible] aj bc bj dn bz cn dz bL wop cq aU
@[reducible] def ints (l:List Int)(f:Bool):AV := .rd l.length (l.map (.int .i64)) f
end
end Go.Proofs.YtlnobeojgifojaaGreatDoor
