/- A row that grows, whose elements are rows that grow; those at its front are written no more. -/
import Derived.Test.YtlnobeojgifojaaGreatDoorE4
set_option linter.unusedVariables false
set_option linter.unusedSimpArgs false
namespace Go.Proofs.YtlnobeojgifojaaGreatDoor
section
open Go
structure fY (h:aa)(v:AV)(pre ws:List AV)(ds:List (Nat×Nat×List AV)):Prop where
 out:aA h v 1 (pre.length+ws.length) (pre++ws)
 fam:Fam h ws ds
 apart:∀ w∈ws,∀ k,w.rowId=some k→v.rowId≠some k
def jS (v:AV)(ws:List AV)(k:Nat):Prop:=v.rowId=some k∨∃ w∈ws,w.rowId=some k
theorem fY.there {h:aa}{v:AV}{pre ws:List AV}{ds:List (Nat×Nat×List AV)}(hN:fY h v pre ws ds){k:Nat}(hk:jS v ws k):h.get k≠none:=by
 rcases hk with hk|⟨w,hw,hk⟩
 ·exact hN.out.there hk
 ·exact hN.fam.there hw hk
theorem fY.keep {h h':aa}{v:AV}{pre ws:List AV}{ds:List (Nat×Nat×List AV)}(hN:fY h v pre ws ds)(hk:∀ k,jS v ws k→h'.get k=h.get k):fY h' v pre ws ds :=
 ⟨hN.out.keep fun k hv=>hk k (.inl hv),hN.fam.keep fun w hw k hid=>hk k (.inr ⟨w,hw,hid⟩),hN.apart⟩
theorem fY.nil (h:aa):fY h (.rd 0 [] true) [] [] [] :=
 ⟨aA.nil _ _,⟨rfl,fun j w d hw=>by simp at hw,fun i j w w' id hw=>by simp at hw⟩,fun w hw=>by cases hw⟩
@[reducible] def uu (v:AV)(pre ws:List AV)(ds:List (Nat×Nat×List AV)):cC :=
 ⟨jS v ws,fun h=>fY h v pre ws ds,fun h1 h2=>h1.keep h2,fun h1 k hk=>h1.there hk⟩
end
end Go.Proofs.YtlnobeojgifojaaGreatDoor
