/- The document's sets and machines at one place. A least machine is no larger: it fits where the machine did. -/
import Derived.Test.YtlnobeojgifojaaGreatDoorE6
set_option linter.unusedVariables false
set_option linter.unusedSimpArgs false
namespace Go.Proofs.YtlnobeojgifojaaGreatDoor
section
open Go
set_option maxHeartbeats 4000000
attribute [local irreducible] aw bg bm dg bz cw dO bH wop cz a8
@[reducible] def rH (a b:List ai):List ai:=mU a b 8
@[reducible] def pX (a b:List ai):List ai:=mU a b 2
theorem K1 {a b:List ai}{x:Int}:mt 8 (kOf a b x)=true↔jO a x=true∧jO b x=true:=by
 unfold kOf mt
 cases jO a x<;>cases jO b x<;>decide
theorem K2 {a b:List ai}{x:Int}:mt 2 (kOf a b x)=true↔jO a x=true∧¬ jO b x=true:=by
 unfold kOf mt
 cases jO a x<;>cases jO b x<;>decide
theorem ov {a:List ai}{x:Int}:jO a x=true↔cv x=true∧inS a x:=by
 rw[← (jE a).2 x,gV]
theorem kE {a b:List ai}{x:Int}:inS (rH a b) x↔cv x=true∧inS a x∧inS b x:=by
 rw[(qN a b 8).2 x,K1,ov,ov]
 constructor
 ·rintro⟨h1,⟨_,h2⟩,_,h3⟩;exact⟨h1,h2,h3⟩
 ·rintro⟨h1,h2,h3⟩;exact⟨h1,⟨h1,h2⟩,h1,h3⟩
theorem mW {a b:List ai}{x:Int}:inS (pX a b) x↔cv x=true∧inS a x∧¬ inS b x:=by
 rw[(qN a b 2).2 x,K2,ov,ov]
 constructor
 ·rintro⟨h1,⟨_,h2⟩,h3⟩;exact⟨h1,h2,fun h=>h3 ⟨h1,h⟩⟩
 ·rintro⟨h1,h2,h3⟩;exact⟨h1,⟨h1,h2⟩,fun h=>h3 h.2⟩
theorem o7 (a b:List ai)(k:Int):bi (mU a b k)=mU a b k:=kK (qN a b k).1 fun x hx=>(((qN a b k).2 x).1 hx).1
structure sD (l:List ai):Prop where
 len:l.length≤67108864
 hi:∀ s∈l,-9223372036854775808≤s.hi
theorem zM {Φ:Lib}(L:cP Φ)(L2:l9 Φ)(a b:Rw ai)(ha:sD a.l)(hb:sD b.l):fg Φ 109 [a.sv,b.sv] (.rd (rH a.l b.l).length ((rH a.l b.l).flatMap ai.av) false):=by
 have h1:=Ci L2 a.l b.l a.fl b.fl 8 (by decide) (by decide) ha.len ha.hi hb.len hb.hi
 refine aY (fun _=>false) rfl L.f109 ?_
 repeat' first|apply ad|(apply gw;first|refine aG rfl ?_|refine aI rfl nt_ ?_)|(apply gx;first|apply af|refine ae rfl ?_|apply aJ)|apply aa|refine aU (by assumption) fz_ fz_ ?_|refine aH (v:=AV.rd _ _ _) rfl ?_
 rfl
theorem zz {Φ:Lib}(L:cP Φ)(L2:l9 Φ)(a b:Rw ai)(ha:sD a.l)(hb:sD b.l):fg Φ 110 [a.sv,b.sv] (.rd (pX a.l b.l).length ((pX a.l b.l).flatMap ai.av) false):=by
 have h1:=Ci L2 a.l b.l a.fl b.fl 2 (by decide) (by decide) ha.len ha.hi hb.len hb.hi
 refine aY (fun _=>false) rfl L.f110 ?_
 repeat' first|apply ad|(apply gw;first|refine aG rfl ?_|refine aI rfl nt_ ?_)|(apply gx;first|apply af|refine ae rfl ?_|apply aJ)|apply aa|refine aU (by assumption) fz_ fz_ ?_|refine aH (v:=AV.rd _ _ _) rfl ?_
 rfl
structure Dfa.Wide (d:Dfa):Prop where
 fits:d.Fits
 wide:∀ p∈d.parts.l,sD p.l
end
section
open Go
attribute [local irreducible] aw bg bm dg bz cw dO bH wop cz a8
theorem Hu {P:List (List ai)}{g:Nat}{a:List ai}(h:P[g]?=some a)(u:List ai):(fW (P.set g u)).length+a.length=(fW P).length+u.length:=by
 induction P generalizing g with
 | nil=>simp at h
 | cons p P ih =>
  cases g with
  | zero =>
   simp at h
   subst h
   simp[fW]
   omega
  | succ g =>
   simp at h
   have:=ih h
   simp[fW]at this ⊢
   omega
theorem Ab (P:List (List ai))(p:List ai):(fW (P++[p])).length=(fW P).length+p.length:=by simp[fW]
theorem Fs {P P':List (List ai)}(h:P.Perm P'):(fW P).length=(fW P').length:=by
 induction h with
 | nil=>rfl
 | cons x _ ih=>simp[fW]at ih ⊢;omega
 | swap x y l=>simp[fW];omega
 | trans _ _ h1 h2=>exact h1.trans h2
theorem Ht {P P':List (List ai)}(h:P.Sublist P'):(fW P).length≤(fW P').length:=by
 induction h with
 | slnil=>exact Nat.le_refl _
 | cons a _ ih=>simp[fW]at ih ⊢;omega
 | cons_cons a _ ih=>simp[fW]at ih ⊢;omega
theorem ut {d:PD}(hn:∀ q∈d.parts,bi q=q)(lv:Nat→Bool)(κ:Int→Int)(L:List Int):∀ m,m≤d.p→(fW (il d (dD lv (ef κ d.row L) m))).length≤(fW (d.parts.take m)).length
 | 0,_=>by simp[dD,il,fW]
 | m+1,hm=>by
  have ih:=ut hn lv κ L m (by omega)
  have hg:Grp lv (ef κ d.row L) m (dD lv (ef κ d.row L) m):=pa l7 my lF m
  rw[ox]
  obtain⟨q,hq⟩:=aK (l:=d.parts) (i:=m) hm
  have hqm:d.part m=q:=by simp[PD.part,List.getD_eq_getElem?_getD,hq]
  rw[aS hq,Ab]
  generalize dD lv (ef κ d.row L) m=G at ih hg
  unfold qS
  split
  ·split
   ·rename_i g hf
    have hgl:g<G.length:=(List.findIdx?_eq_some_iff_getElem.1 hf).1
    obtain⟨ks,hks⟩:=aK hgl
    have hk1:=hg.ne ks (List.mem_of_getElem? hks)
    have e:G.getD g []=ks:=by simp[List.getD_eq_getElem?_getD,hks]
    rw[e,yH d hks hk1]
    have h1:=Hu (vU (d:=d) hks) (bi (mJ (ks.map d.part)++d.part m))
    have hu:bi (mJ (ks.map d.part))=mJ (ks.map d.part):=(qp fun r hr=>by
     obtain⟨k,hk,rfl⟩:=List.mem_map.1 hr
     have:=(hg.mem ks (List.mem_of_getElem? hks) k hk).1
     exact hn _ (PD.part_mem (by omega))).1
    have h2:=vV hu (hn _ (PD.part_mem (d:=d) (k:=m) (by omega)))
    rw[hqm]at h1 h2 ⊢
    omega
   ·rw[vS,Ab,hqm]
    omega
  ·omega
theorem Fl {d:PD}(hn:∀ q∈d.parts,bi q=q)(κ:Int→Int):(fW (cK κ d).parts).length≤(fW d.parts).length:=by
 have h1:=ut hn (l6 d.row (d.L1 κ)) κ (d.L1 κ) d.p (Nat.le_refl _)
 rw[List.take_length]at h1
 refine Nat.le_trans (Nat.le_of_eq ?_) h1
 show(fW ((d.O κ).map fun g=>(il d (d.G κ)).getD g [])).length=_
 have h2:((d.O κ).map fun g=>(il d (d.G κ)).getD g []).Perm (il d (d.G κ)):=by
  have h3:=(mQ (d.G κ).length fun g=>iI ((il d (d.G κ)).getD g [])).map fun g=>(il d (d.G κ)).getD g []
  refine h3.trans ?_
  have h4:(List.range (d.G κ).length).map (fun g=>(il d (d.G κ)).getD g [])=il d (d.G κ):=by
   refine List.ext_getElem (by simp[il]) fun i a b=>?_
   rw[List.getElem_map,List.getElem_range,List.getD_eq_getElem?_getD,List.getElem?_eq_getElem b]
   rfl
  rw[h4]
 exact Fs h2
theorem HE (d:PD):(fW (cy d).parts).length≤(fW d.parts).length:=by
 have h1:((fm d).map d.part).Sublist ((List.range d.p).map d.part):=List.filter_sublist.map _
 have h2:(List.range d.p).map d.part=d.parts:=by
  refine List.ext_getElem (by simp) fun i a b=>?_
  rw[List.getElem_map,List.getElem_range,PD.part,List.getD_eq_getElem?_getD,List.getElem?_eq_getElem b]
  rfl
 rw[h2]at h1
 exact Ht h1
theorem eC.cat {d x:PD}(h:eC d x)(hd:d.Ok):(fW x.parts).length≤(fW d.parts).length:=by
 obtain⟨lv,κ,h1,h2,h3,h4,rfl⟩:=h.final hd
 exact Nat.le_trans (Fl (d:=dZ lv (cy d)) h2.norm κ) (HE d)
theorem eC.tagsIn {d x:PD}(h:eC d x)(hd:d.Ok):∀ t∈x.tags,t∈d.tags:=by
 obtain⟨lv,κ,h1,h2,h3,h4,rfl⟩:=h.final hd
 intro t ht
 obtain⟨s,hs,rfl⟩:=List.mem_map.1 ht
 have hin:=(rj h2 h4).1.inn s hs
 have h5:s.toNat<d.tags.length:=by
  have:In d.tags.length s:=hin
  unfold In at this;omega
 show d.tags.getD s.toNat (-1)∈d.tags
 rw[List.getD_eq_getElem?_getD,List.getElem?_eq_getElem h5]
 exact List.getElem_mem _
theorem BT {x:Dfa}(hx:x.plain.Ok)(hc:(fW x.plain.parts).length≤524288):x.Wide:=by
 have hpl:x.plain.p=x.parts.l.length:=by simp[Dfa.plain,dm,PD.p]
 have hnl:x.plain.n=x.tags.l.length:=by simp[Dfa.plain,PD.n]
 have hxl:x.plain.next.length=x.next.l.length:=by simp[Dfa.plain,cS]
 have h1:=hx.p1
 have h2:=hx.n2
 have h3:=hx.nl
 refine⟨⟨by rw[l4];exact hc,by omega,by omega,fun r hr=>?_,by omega⟩,fun p hp=>?_⟩
 ·have:=(hx.rows r.l (List.mem_map.2 ⟨r,hr,rfl⟩)).1
  omega
 ·have hn:=hx.norm p.l (List.mem_map.2 ⟨p,hp,rfl⟩)
  have h4:=oe hn
  have h5:=pW hn
  refine⟨by omega,fun s hs=>?_⟩
  have h6:=(eQ hn).2 s hs
  have:=h5 s hs
  omega
theorem eC.wide {d x:Dfa}(h:eC d.plain x.plain)(hd:d.plain.Ok)(hf:d.Fits):x.Wide:=by
 refine BT (h.ok hd) ?_
 have h1:=h.cat hd
 have h2:=hf.cat
 rw[l4]at h2
 exact Nat.le_trans h1 h2
end
end Go.Proofs.YtlnobeojgifojaaGreatDoor
