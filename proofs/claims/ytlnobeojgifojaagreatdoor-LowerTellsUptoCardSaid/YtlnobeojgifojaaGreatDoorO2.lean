/- A machine at one place that grows: the place of a set of states, walked. -/
import Derived.Test.YtlnobeojgifojaaGreatDoorO1
import Derived.Test.YtlnobeojgifojaaGreatDoorF4
import Derived.Test.YtlnobeojgifojaaGreatDoorA7
import Derived.Test.YtlnobeojgifojaaGreatDoorCE
import Derived.Test.YtlnobeojgifojaaGreatDoorF3
import Derived.Test.YtlnobeojgifojaaGreatDoorD3
import Derived.Test.YtlnobeojgifojaaGreatDoorD7
import Derived.Test.YtlnobeojgifojaaGreatDoorCC
set_option linter.unusedVariables false
set_option linter.unusedSimpArgs false
namespace Go.Proofs.YtlnobeojgifojaaGreatDoor
section
open Go
set_option maxHeartbeats 4000000
def KU (cs:List cT):cT :=
 ⟨fun k=>∃ c∈cs,c.foot k,fun h=>Sep h cs,fun {h h'} h1 h2=>⟨fun c hc=>c.keep (h1.all c hc) fun k hk=>h2 k ⟨c,hc,hk⟩,h1.apart⟩,fun h1 k hk=>by
  obtain⟨c,hc,hk⟩:=hk
  exact c.there (h1.all c hc) k hk⟩
theorem Sep.fold {h:ad}{cs ds:List cT}(hS:Sep h (cs++ds)):Sep h (KU cs::ds):=by
 obtain⟨p1,p2,p3⟩:=List.pairwise_append.1 hS.apart
 refine⟨fun c hc=>?_,List.pairwise_cons.2 ⟨fun d hd k hk hk2=>?_,p2⟩⟩
 ·rcases List.mem_cons.1 hc with rfl|hc
  ·exact hS.weak (List.sublist_append_left _ _)
  ·exact hS.all c (List.mem_append.2 (.inr hc))
 ·obtain⟨c,hc,hk⟩:=hk
  exact p3 c hc d hd k hk hk2
attribute [local irreducible] az bf bm de bz cw dH bJ wop cz bc
end
section
open Go
set_option maxHeartbeats 4000000
theorem Sep.addF {h h':ad}{cs:List cT}(hS:Sep h cs)(c:cT)(hc:c.holds h')(ho:∀ k,h.get k≠none→h'.get k=h.get k)(hf:∀ k,c.foot k→h.get k=none):Sep h' (c::cs):=by
 refine⟨fun d hd=>?_,List.pairwise_cons.2 ⟨fun d hd k hk hk2=>d.there (hS.all d hd) k hk2 (hf k hk),hS.apart⟩⟩
 rcases List.mem_cons.1 hd with rfl|hd
 ·exact hc
 ·exact d.keep (hS.all d hd) fun k hk=>ho k (d.there (hS.all d hd) k hk)
theorem Sep.rowF {h:ad}{cs:List cT}(hS:Sep h cs){id n:Nat}{rs:List AV}(hid:h.get id=none)(hl:rs.length=n):Sep (h.set id (.cells 1 rs)) (cA (.own id 1 1 0 n none) 1 n rs::cs):=by
 refine hS.addF _ (.inr ⟨id,1,rfl,ad.get_set_self _ _ _,Nat.le_refl _,by omega⟩) (fun k hk=>ad.get_set_ne _ _ fun e=>hk (e ▸ hid)) fun k hk=>?_
 have hk2:some id=some k:=hk
 injection hk2 with e
 rw[← e];exact hid
theorem Sep.nilF {h:ad}{cs:List cT}(hS:Sep h cs)(e:Nat):Sep h (cA (.rd 0 [] true) e 0 []::cs):=hS.addF _ (aD.nil _ _) (fun _ _=>rfl) (fun k hk=>by cases hk)
theorem Sep.perm {h:ad}{cs ds:List cT}(hS:Sep h cs)(hp:cs.Perm ds):Sep h ds :=
 ⟨fun d hd=>hS.all d (hp.mem_iff.2 hd),hS.apart.perm hp fun {c d} hcd k hk hk2=>hcd k hk2 hk⟩
theorem aD.own_get {h:ad}{id g e n:Nat}{cs:List AV}(hr:aD h (.own id g e 0 n none) e n cs):h.get id=some (.cells g cs)∧1≤g:=by
 rcases hr with⟨e,_⟩|⟨id',g',e,h1,h2,_⟩
 ·cases e
 ·injection e with e1 e2
  subst e1 e2
  exact⟨h1,h2⟩
attribute [local irreducible] az bf bm de bz cw dH bJ wop cz bc
end
section
open Go
def n1:Nfa:=⟨⟨[⟨[⟨1,⟨[⟨97,97⟩],true⟩⟩],true⟩,⟨[⟨2,⟨[⟨98,98⟩],true⟩⟩],true⟩,⟨[],true⟩],true⟩,⟨[⟨[],true⟩,⟨[],true⟩,⟨[],true⟩],true⟩,⟨[-1,0,0],true⟩⟩
end
end Go.Proofs.YtlnobeojgifojaaGreatDoor
