/- A row that grows, whose elements are rows that grow; those at its front are written no more. -/
import Derived.Test.YtlnobeojgifojaaGreatDoorE4
set_option linter.unusedVariables false
set_option linter.unusedSimpArgs false
namespace Go.Proofs.YtlnobeojgifojaaGreatDoor
section
open Go
structure hY (h:ad)(v:AV)(pre ws:List AV)(ds:List (Nat×Nat×List AV)):Prop where
 out:aD h v 1 (pre.length+ws.length) (pre++ws)
 fam:Fam h ws ds
 apart:∀ w∈ws,∀ k,w.rowId=some k→v.rowId≠some k
def ln (v:AV)(ws:List AV)(k:Nat):Prop:=v.rowId=some k∨∃ w∈ws,w.rowId=some k
theorem hY.there {h:ad}{v:AV}{pre ws:List AV}{ds:List (Nat×Nat×List AV)}(hN:hY h v pre ws ds){k:Nat}(hk:ln v ws k):h.get k≠none:=by
 rcases hk with hk|⟨w,hw,hk⟩
 ·exact hN.out.there hk
 ·exact hN.fam.there hw hk
theorem hY.keep {h h':ad}{v:AV}{pre ws:List AV}{ds:List (Nat×Nat×List AV)}(hN:hY h v pre ws ds)(hk:∀ k,ln v ws k→h'.get k=h.get k):hY h' v pre ws ds :=
 ⟨hN.out.keep fun k hv=>hk k (.inl hv),hN.fam.keep fun w hw k hid=>hk k (.inr ⟨w,hw,hid⟩),hN.apart⟩
theorem hY.nil (h:ad):hY h (.rd 0 [] true) [] [] [] :=
 ⟨aD.nil _ _,⟨rfl,fun j w d hw=>by simp at hw,fun i j w w' id hw=>by simp at hw⟩,fun w hw=>by cases hw⟩
@[reducible] def xc (v:AV)(pre ws:List AV)(ds:List (Nat×Nat×List AV)):cT :=
 ⟨ln v ws,fun h=>hY h v pre ws ds,fun h1 h2=>h1.keep h2,fun h1 k hk=>h1.there hk⟩
end
end Go.Proofs.YtlnobeojgifojaaGreatDoor
