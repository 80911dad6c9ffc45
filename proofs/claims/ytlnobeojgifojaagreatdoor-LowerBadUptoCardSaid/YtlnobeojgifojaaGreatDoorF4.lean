/- The statements' machine made. The statements: twice; tells. -/
import Derived.Test.YtlnobeojgifojaaGreatDoorF3
set_option linter.unusedVariables false
set_option linter.unusedSimpArgs false
namespace Go.Proofs.YtlnobeojgifojaaGreatDoor
section
open Go
set_option maxHeartbeats 4000000
attribute [local irreducible] aw bg bm dg bz cw dO bH wop cz a8
@[reducible] def kV (r:Rw Int):AV := .rd r.l.length (r.l.map (.int .i8)) r.fl
@[reducible] def nk (r:Rw Int):AV:=wo r.l r.fl
structure BO (c:Rw (Rw Int))(k:Int)(next tags:Rw Int):Prop where
 cl:c.l.length≤1048576
 cs:∀ r∈c.l,r.l.length≤1048576∧∀ x∈r.l,0≤x∧x≤65535
 k:0≤k∧k≤255
 nl:next.l.length≤1048576
 ns:∀ x∈next.l,-128≤x∧x≤127
 tl:tags.l.length≤1048576
 ts:∀ x∈tags.l,-128≤x∧x≤127
structure HM (d:Dfa):Prop where
 ok:d.plain.Ok
 wide:d.Wide
 tags:∀ t∈d.tags.l,-1≤t∧t≤3
theorem IP (l:List (Rw ai))(h:∀ s∈l,s.l.length≤64):(cT l).length≤64*l.length:=by
 induction l with
 | nil=>simp[cT]
 | cons s l ih =>
  have h1:=ih fun q hq=>h q (by simp[hq])
  have h2:=h s (by simp)
  simp[cT]at h1 ⊢
  omega
theorem It {Ls:List (Rw ai)}{P:Rw (Rw ai)}{rows:List (List Int)}{ts:List Int}(hat:Ats Ls P.l)(hp:P.l.length≤2000)(h1:1≤ts.length)(h2:ts.length≤2000)(hl:rows.length=ts.length)(hr:∀ r∈rows,r.length=P.l.length∧∀ x∈r,x = -1∨In ts.length x)(ht:∀ t∈ts,-1≤t):(Dfa.mk P ⟨rows.map fun r=>⟨r,false⟩,false⟩ ⟨ts,false⟩).plain.Ok:=by
 have hpl:(dm P.l).length=P.l.length:=by simp[dm]
 refine⟨by show(dm P.l).length≤2000;omega,h1,h2,?_,fun q hq=>?_,fun i j hij hj x hx=>?_,fun r hr'=>?_,ht⟩
 ·show(cS (rows.map fun r=>Rw.mk r false)).length=ts.length
  simp[cS,hl]
 ·obtain⟨p,hp,rfl⟩:=List.mem_map.1 hq
  exact(hat.good p hp).2
 ·have hj2:j<(dm P.l).length:=hj
  rw[hpl]at hj2
  have h3:=List.pairwise_iff_getElem.1 hat.apart i j (by omega) hj2 hij
  have e:∀ {n:Nat} (hn:n<P.l.length),(Dfa.mk P ⟨rows.map fun r=>⟨r,false⟩,false⟩ ⟨ts,false⟩).plain.part n=P.l[n].l:=fun {n} hn=>by
   simp[PD.part,Dfa.plain,dm,List.getD_eq_getElem?_getD,hn]
  rw[e (by omega),e hj2]at hx
  exact h3 x hx
 ·have:r∈cS (rows.map fun r=>Rw.mk r false):=hr'
  simp[cS]at this
  have h4:=hr r this
  refine⟨?_,h4.2⟩
  show r.length=(dm P.l).length
  omega
end
section
open Go
set_option maxHeartbeats 4000000
attribute [local irreducible] aw bg bm dg bz cw dO bH wop cz a8
@[simp] theorem KD (l:List (Rw Int)):AV.frozenL (l.map nk)=true:=eF (fun r=>by simp[AV.frozen]) l
theorem G5 (c:Rw (Rw Int))(k:Int)(next tags:Rw Int):AV.frozenL [c.mv nk,.int .u8 k,kV next,kV tags]=true:=by
 simp[AV.frozenL,AV.frozen]
theorem HM.range {d:Dfa}(h:HM d):∀ t∈d.tags.l,-2147483648≤t∧t≤2147483647:=fun t ht=>by have:=h.tags t ht;omega
end
end Go.Proofs.YtlnobeojgifojaaGreatDoor
