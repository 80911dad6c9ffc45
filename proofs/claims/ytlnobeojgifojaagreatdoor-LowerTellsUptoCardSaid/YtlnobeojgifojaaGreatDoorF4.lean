/- The statements' machine made. -/
import Derived.Test.YtlnobeojgifojaaGreatDoorF3
set_option linter.unusedVariables false
set_option linter.unusedSimpArgs false
namespace Go.Proofs.YtlnobeojgifojaaGreatDoor
section
open Go
set_option maxHeartbeats 4000000
attribute [local irreducible] az bf bm de bz cw dH bJ wop cz bc
@[reducible] def lc (r:Rw Int):AV := .rd r.l.length (r.l.map (.int .i8)) r.fl
@[reducible] def li (r:Rw Int):AV:=sh r.l r.fl
structure B6 (c:Rw (Rw Int))(k:Int)(next tags:Rw Int):Prop where
 cl:c.l.length≤1048576
 cs:∀ r∈c.l,r.l.length≤1048576∧∀ x∈r.l,0≤x∧x≤65535
 k:0≤k∧k≤255
 nl:next.l.length≤1048576
 ns:∀ x∈next.l,-128≤x∧x≤127
 tl:tags.l.length≤1048576
 ts:∀ x∈tags.l,-128≤x∧x≤127
structure H1 (d:Dfa):Prop where
 ok:d.plain.Ok
 wide:d.Wide
 tags:∀ t∈d.tags.l,-1≤t∧t≤3
theorem I4 (l:List (Rw aj))(h:∀ s∈l,s.l.length≤64):(cV l).length≤64*l.length:=by
 induction l with
 | nil=>simp[cV]
 | cons s l ih =>
  have h1:=ih fun q hq=>h q (by simp[hq])
  have h2:=h s Lm
  simp[cV]at h1 ⊢
  omega
theorem IH {Ls:List (Rw aj)}{P:Rw (Rw aj)}{rows:List (List Int)}{ts:List Int}(hat:Ats Ls P.l)(hp:P.l.length≤2000)(h1:1≤ts.length)(h2:ts.length≤2000)(hl:rows.length=ts.length)(hr:∀ r∈rows,r.length=P.l.length∧∀ x∈r,x = -1∨In ts.length x)(ht:∀ t∈ts,-1≤t):(Dfa.mk P ⟨rows.map fun r=>⟨r,false⟩,false⟩ ⟨ts,false⟩).plain.Ok:=by
 have hpl:(cu P.l).length=P.l.length:=by simp[cu]
 refine⟨by show(cu P.l).length≤2000;omega,h1,h2,?_,fun q hq=>?_,fun i j hij hj x hx=>?_,fun r hr'=>?_,ht⟩
 ·show(cG (rows.map fun r=>Rw.mk r false)).length=ts.length
  simp[cG,hl]
 ·obtain⟨p,hp,rfl⟩:=List.mem_map.1 hq
  exact(hat.good p hp).2
 ·have hj2:j<(cu P.l).length:=hj
  rw[hpl]at hj2
  have h3:=List.pairwise_iff_getElem.1 hat.apart i j Ll hj2 hij
  have e:∀ {n:Nat} (hn:n<P.l.length),(Dfa.mk P ⟨rows.map fun r=>⟨r,false⟩,false⟩ ⟨ts,false⟩).plain.part n=P.l[n].l:=fun {n} hn=>by
   simp[PD.part,Dfa.plain,cu,List.getD_eq_getElem?_getD,hn]
  rw[e Ll,e hj2]at hx
  exact h3 x hx
 ·have:r∈cG (rows.map fun r=>Rw.mk r false):=hr'
  simp[cG]at this
  have h4:=hr r this
  refine⟨?_,h4.2⟩
  show r.length=(cu P.l).length
  omega
end
section
open Go
set_option maxHeartbeats 4000000
attribute [local irreducible] az bf bm de bz cw dH bJ wop cz bc
@[simp] theorem KQ (l:List (Rw Int)):AV.frozenL (l.map li)=true:=eI (fun r=>by simp[AV.frozen]) l
theorem Hg (c:Rw (Rw Int))(k:Int)(next tags:Rw Int):AV.frozenL [c.mv li,.int .u8 k,lc next,lc tags]=true:=by
 simp[AV.frozenL,AV.frozen]
theorem H1.range {d:Dfa}(h:H1 d):∀ t∈d.tags.l,-2147483648≤t∧t≤2147483647:=fun t ht=>by have:=h.tags t ht;omega
end
end Go.Proofs.YtlnobeojgifojaaGreatDoor
