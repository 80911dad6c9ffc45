/- The document's sets and machines at one place. A least machine is no larger: it fits where the machine did. -/
import Derived.Test.YtlnobeojgifojaaGreatDoorE6
set_option linter.unusedVariables false
set_option linter.unusedSimpArgs false
namespace Go.Proofs.YtlnobeojgifojaaGreatDoor
section
open Go
set_option maxHeartbeats 4000000
attribute [local irreducible] aj bc bj dn bz cn dz bL wop cq aU
structure Hv (l:List am):Prop where
 len:l.length≤67108864
 hi:∀ s∈l,-9223372036854775808≤s.hi
structure Dfa.Wide (d:Dfa):Prop where
 fits:d.Fits
 wide:∀ p∈d.parts.l,Hv p.l
end
section
open Go
attribute [local irreducible] aj bc bj dn bz cn dz bL wop cq aU
theorem Ep {P:List (List am)}{g:Nat}{a:List am}(h:P[g]?=some a)(u:List am):(fh (P.set g u)).length+a.length=(fh P).length+u.length:=by
 induction P generalizing g with
 | nil=>simp at h
 | cons p P ih =>
  cases g with
  | zero =>
   simp at h
   subst h
   simp[fh]
   omega
  | succ g =>
   simp at h
   have:=ih h
   simp[fh]at this ⊢
   omega
theorem xF (P:List (List am))(p:List am):(fh (P++[p])).length=(fh P).length+p.length:=by simp[fh]
theorem Cw {P P':List (List am)}(h:P.Perm P'):(fh P).length=(fh P').length:=by
 induction h with
 | nil=>rfl
 | cons x _ ih=>simp[fh]at ih ⊢;omega
 | swap x y l=>simp[fh];omega
 | trans _ _ h1 h2=>exact h1.trans h2
theorem Eo {P P':List (List am)}(h:P.Sublist P'):(fh P).length≤(fh P').length:=by
 induction h with
 | slnil=>exact Nat.le_refl _
 | cons a _ ih=>simp[fh]at ih ⊢;omega
 | cons_cons a _ ih=>simp[fh]at ih ⊢;omega
theorem sg {d:PD}(hn:∀ q∈d.parts,aZ q=q)(lv:Nat→Bool)(κ:Int→Int)(L:List Int):∀ m,m≤d.p→(fh (ga d (cT lv (dw κ d.row L) m))).length≤(fh (d.parts.take m)).length
 | 0,_=>by simp[cT,ga,fh]
 | m+1,hm=>by
  have ih:=sg hn lv κ L m HT
  have hg:Grp lv (dw κ d.row L) m (cT lv (dw κ d.row L) m):=nv kJ lb j9 m
  rw[mP]
  obtain⟨q,hq⟩:=aK (l:=d.parts) (i:=m) hm
  have hqm:d.part m=q:=by simp[PD.part,List.getD_eq_getElem?_getD,hq]
  rw[aX hq,xF]
  generalize cT lv (dw κ d.row L) m=G at ih hg
  unfold o6
  split
  ·split
   ·rename_i g hf
    have hgl:g<G.length:=(List.findIdx?_eq_some_iff_getElem.1 hf).1
    obtain⟨ks,hks⟩:=aK hgl
    have hk1:=hg.ne ks (List.mem_of_getElem? hks)
    have e:G.getD g []=ks:=by simp[List.getD_eq_getElem?_getD,hks]
    rw[e,wn d hks hk1]
    have h1:=Ep (tB (d:=d) hks) (aZ (lr (ks.map d.part)++d.part m))
    have hu:aZ (lr (ks.map d.part))=lr (ks.map d.part):=(oD fun r hr=>by
     obtain⟨k,hk,rfl⟩:=List.mem_map.1 hr
     have:=(hg.mem ks (List.mem_of_getElem? hks) k hk).1
     exact hn _ (PD.part_mem HT)).1
    have h2:=tC hu (hn _ (PD.part_mem (d:=d) (k:=m) HT))
    rw[hqm]at h1 h2 ⊢
    omega
   ·rw[tA,xF,hqm]
    omega
  ·omega
theorem Co {d:PD}(hn:∀ q∈d.parts,aZ q=q)(κ:Int→Int):(fh (cA κ d).parts).length≤(fh d.parts).length:=by
 have h1:=sg hn (kI d.row (d.L1 κ)) κ (d.L1 κ) d.p (Nat.le_refl _)
 rw[List.take_length]at h1
 refine Nat.le_trans (Nat.le_of_eq ?_) h1
 show(fh ((d.O κ).map fun g=>(ga d (d.G κ)).getD g [])).length=_
 have h2:((d.O κ).map fun g=>(ga d (d.G κ)).getD g []).Perm (ga d (d.G κ)):=by
  have h3:=(lz (d.G κ).length fun g=>vC ((ga d (d.G κ)).getD g [])).map fun g=>(ga d (d.G κ)).getD g []
  refine h3.trans ?_
  have h4:(List.range (d.G κ).length).map (fun g=>(ga d (d.G κ)).getD g [])=ga d (d.G κ):=by
   refine List.ext_getElem (by simp[ga]) fun i a b=>?_
   rw[List.getElem_map,List.getElem_range,List.getD_eq_getElem?_getD,List.getElem?_eq_getElem b]
   rfl
  rw[h4]
 exact Cw h2
theorem EB (d:PD):(fh (cm d).parts).length≤(fh d.parts).length:=by
 have h1:((ej d).map d.part).Sublist ((List.range d.p).map d.part):=List.filter_sublist.map _
 have h2:(List.range d.p).map d.part=d.parts:=by
  refine List.ext_getElem HU fun i a b=>?_
  rw[List.getElem_map,List.getElem_range,PD.part,List.getD_eq_getElem?_getD,List.getElem?_eq_getElem b]
  rfl
 rw[h2]at h1
 exact Eo h1
theorem dY.cat {d x:PD}(h:dY d x)(hd:d.Ok):(fh x.parts).length≤(fh d.parts).length:=by
 obtain⟨lv,κ,h1,h2,h3,h4,rfl⟩:=h.final hd
 exact Nat.le_trans (Co (d:=dp lv (cm d)) h2.norm κ) (EB d)
theorem dY.tagsIn {d x:PD}(h:dY d x)(hd:d.Ok):∀ t∈x.tags,t∈d.tags:=by
 obtain⟨lv,κ,h1,h2,h3,h4,rfl⟩:=h.final hd
 intro t ht
 obtain⟨s,hs,rfl⟩:=List.mem_map.1 ht
 have hin:=(pi h2 h4).1.inn s hs
 have h5:s.toNat<d.tags.length:=by
  have:In d.tags.length s:=hin
  unfold In at this;omega
 show d.tags.getD s.toNat (-1)∈d.tags
 rw[List.getD_eq_getElem?_getD,List.getElem?_eq_getElem h5]
 exact List.getElem_mem _
theorem ES {x:Dfa}(hx:x.plain.Ok)(hc:(fh x.plain.parts).length≤524288):x.Wide:=by
 have hpl:x.plain.p=x.parts.l.length:=by simp[Dfa.plain,dF,PD.p]
 have hnl:x.plain.n=x.tags.l.length:=by simp[Dfa.plain,PD.n]
 have hxl:x.plain.next.length=x.next.l.length:=by simp[Dfa.plain,cR]
 have h1:=hx.p1
 have h2:=hx.n2
 have h3:=hx.nl
 refine⟨⟨by rw[l6];exact hc,by omega,by omega,fun r hr=>?_,by omega⟩,fun p hp=>?_⟩
 ·have:=(hx.rows r.l (List.mem_map.2 ⟨r,hr,rfl⟩)).1
  omega
 ·have hn:=hx.norm p.l (List.mem_map.2 ⟨p,hp,rfl⟩)
  have h4:=qd hn
  have h5:=rX hn
  refine⟨by omega,fun s hs=>?_⟩
  have h6:=(gY hn).2 s hs
  have:=h5 s hs
  omega
theorem dY.wide {d x:Dfa}(h:dY d.plain x.plain)(hd:d.plain.Ok)(hf:d.Fits):x.Wide:=by
 refine ES (h.ok hd) ?_
 have h1:=h.cat hd
 have h2:=hf.cat
 rw[l6]at h2
 exact Nat.le_trans h1 h2
end
end Go.Proofs.YtlnobeojgifojaaGreatDoor
