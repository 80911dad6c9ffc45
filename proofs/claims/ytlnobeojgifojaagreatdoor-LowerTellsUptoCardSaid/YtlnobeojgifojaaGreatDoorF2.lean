/- The known machine: the plain law. -/
import Derived.Test.YtlnobeojgifojaaGreatDoorF1
set_option linter.unusedVariables false
set_option linter.unusedSimpArgs false
namespace Go.Proofs.YtlnobeojgifojaaGreatDoor
section
open Go
def d1:Dfa:=⟨⟨[⟨[⟨97,97⟩],true⟩,⟨[⟨99,99⟩],true⟩],true⟩,⟨[⟨[1,2],true⟩,⟨[-1,3],true⟩,⟨[-1,3],true⟩,⟨[-1,-1],true⟩],true⟩,⟨[-1,0,0,-1],true⟩⟩
def p1:PD:=⟨[[⟨97,97⟩],[⟨99,99⟩]],[[1,2],[-1,3],[-1,3],[-1,-1]],[-1,0,0,-1]⟩
instance (n:Nat)(x:Int):Decidable (In n x):=inferInstanceAs (Decidable (0≤x∧x<n))
def k1 (s:Int):Int:=if s=2 then 1 else s
def p2:PD:=⟨[[⟨97,97⟩],[⟨99,99⟩]],[[1,2],[-1,-1],[-1,-1],[-1,-1]],[-1,0,0,-1]⟩
def d0:Dfa:=⟨⟨[],true⟩,⟨[],true⟩,⟨[],true⟩⟩
end
section
open Go
set_option maxHeartbeats 4000000
attribute [local irreducible] az bf bm de bz cw dH bJ wop cz bc
theorem Bs {Φ:Lib}(L:cJ Φ)(L1:il Φ)(S:fv Φ)(G:fV Φ)(J:jD Φ)(d:Dfa)(hf:d.Fits)(ht:∀ t∈d.tags.l,-2147483648≤t∧t≤2147483647)(hok:d.plain.Ok){m:Nat}{h:ad}{Q:AV→ad→Prop}(k:∀ x:Dfa,eF d.plain x.plain→Q (.tup [.agg x.av,.int .u16 0]) h):bJ (bc Φ) m 95 [.agg d.av] h Q:=by
 refine lK (up L L1 S G J d hf ht) (by simp[AV.frozenL,AV.frozen]) ?_ ?_
 ·rintro _ (⟨_,rfl⟩|⟨_,x,_,rfl⟩)
  ·rfl
  ·simp[AV.frozen,AV.frozenL]
 ·rintro _ (⟨h1,_⟩|⟨_,x,hx,rfl⟩)
  ·exact absurd hok h1
  ·exact k x hx
theorem Fk {Φ:Lib}(L:cJ Φ)(L1:il Φ)(S:fv Φ)(G:fV Φ)(J:jD Φ)(d:Dfa)(hf:d.Fits)(ht:∀ t∈d.tags.l,-2147483648≤t∧t≤2147483647)(hok:¬ d.plain.Ok){m:Nat}{h:ad}{Q:AV→ad→Prop}(k:Q (.tup [.agg [.rd 0 [] true,.rd 0 [] true,.rd 0 [] true],.int .u16 1]) h):bJ (bc Φ) m 95 [.agg d.av] h Q:=by
 refine lK (up L L1 S G J d hf ht) (by simp[AV.frozenL,AV.frozen]) ?_ ?_
 ·rintro _ (⟨_,rfl⟩|⟨_,x,_,rfl⟩)
  ·rfl
  ·simp[AV.frozen,AV.frozenL]
 ·rintro _ (⟨h1,rfl⟩|⟨h1,x,hx,rfl⟩)
  ·exact k
  ·exact absurd h1 hok
end
end Go.Proofs.YtlnobeojgifojaaGreatDoor
