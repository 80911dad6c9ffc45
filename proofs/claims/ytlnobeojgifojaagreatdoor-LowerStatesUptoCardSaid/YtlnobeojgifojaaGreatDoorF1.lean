/- The document's sets and machines at one place. A least machine is no larger: it fits where the machine did. -/
import Derived.Test.YtlnobeojgifojaaGreatDoorE6
set_option linter.unusedVariables false
set_option linter.unusedSimpArgs false
namespace Go.Proofs.YtlnobeojgifojaaGreatDoor
section
open Go
set_option maxHeartbeats 4000000
attribute [local irreducible] aw bd bm cV bz cu dF bH wop cz a8
@[reducible] def rD (a b:List aj):List aj:=mO a b 8
@[reducible] def pQ (a b:List aj):List aj:=mO a b 2
theorem KI {a b:List aj}{x:Int}:ml 8 (kOf a b x)=true↔jI a x=true∧jI b x=true:=by
 unfold kOf ml
 cases jI a x<;>cases jI b x<;>decide
theorem KJ {a b:List aj}{x:Int}:ml 2 (kOf a b x)=true↔jI a x=true∧¬ jI b x=true:=by
 unfold kOf ml
 cases jI a x<;>cases jI b x<;>decide
theorem oh {a:List aj}{x:Int}:jI a x=true↔cx x=true∧inS a x:=by
 rw[← (jx a).2 x,gO]
theorem kA {a b:List aj}{x:Int}:inS (rD a b) x↔cx x=true∧inS a x∧inS b x:=by
 rw[(qM a b 8).2 x,KI,oh,oh]
 constructor
 ·rintro⟨h1,⟨_,h2⟩,_,h3⟩;exact⟨h1,h2,h3⟩
 ·rintro⟨h1,h2,h3⟩;exact⟨h1,⟨h1,h2⟩,h1,h3⟩
theorem mQ {a b:List aj}{x:Int}:inS (pQ a b) x↔cx x=true∧inS a x∧¬ inS b x:=by
 rw[(qM a b 2).2 x,KJ,oh,oh]
 constructor
 ·rintro⟨h1,⟨_,h2⟩,h3⟩;exact⟨h1,h2,fun h=>h3 ⟨h1,h⟩⟩
 ·rintro⟨h1,h2,h3⟩;exact⟨h1,⟨h1,h2⟩,fun h=>h3 h.2⟩
theorem oV (a b:List aj)(k:Int):bi (mO a b k)=mO a b k:=kG (qM a b k).1 fun x hx=>(((qM a b k).2 x).1 hx).1
structure sA (l:List aj):Prop where
 len:l.length≤67108864
 hi:∀ s∈l,-9223372036854775808≤s.hi
theorem zz {Φ:Lib}(L:cO Φ)(L2:l5 Φ)(a b:Rw aj)(ha:sA a.l)(hb:sA b.l):eV Φ 109 [a.sv,b.sv] (.rd (rD a.l b.l).length ((rD a.l b.l).flatMap aj.av) false):=by
 have h1:=BW L2 a.l b.l a.fl b.fl 8 (by decide) (by decide) ha.len ha.hi hb.len hb.hi
 refine aY (fun _=>false) rfl L.f109 ?_
 repeat' first|apply ad|(apply gw;first|refine aG rfl ?_|refine aI rfl nt_ ?_)|(apply gx;first|apply af|refine ae rfl ?_|apply aM)|apply aa|refine aX (by assumption) fz_ fz_ ?_|refine aH (v:=AV.rd _ _ _) rfl ?_
 rfl
theorem zn {Φ:Lib}(L:cO Φ)(L2:l5 Φ)(a b:Rw aj)(ha:sA a.l)(hb:sA b.l):eV Φ 110 [a.sv,b.sv] (.rd (pQ a.l b.l).length ((pQ a.l b.l).flatMap aj.av) false):=by
 have h1:=BW L2 a.l b.l a.fl b.fl 2 (by decide) (by decide) ha.len ha.hi hb.len hb.hi
 refine aY (fun _=>false) rfl L.f110 ?_
 repeat' first|apply ad|(apply gw;first|refine aG rfl ?_|refine aI rfl nt_ ?_)|(apply gx;first|apply af|refine ae rfl ?_|apply aM)|apply aa|refine aX (by assumption) fz_ fz_ ?_|refine aH (v:=AV.rd _ _ _) rfl ?_
 rfl
structure Dfa.Wide (d:Dfa):Prop where
 fits:d.Fits
 wide:∀ p∈d.parts.l,sA p.l
end
section
open Go
attribute [local irreducible] aw bd bm cV bz cu dF bH wop cz a8
theorem G8 {P:List (List aj)}{g:Nat}{a:List aj}(h:P[g]?=some a)(u:List aj):(fR (P.set g u)).length+a.length=(fR P).length+u.length:=by
 induction P generalizing g with
 | nil=>simp at h
 | cons p P ih =>
  cases g with
  | zero =>
   simp at h
   subst h
   simp[fR]
   omega
  | succ g =>
   simp at h
   have:=ih h
   simp[fR]at this ⊢
   omega
theorem zT (P:List (List aj))(p:List aj):(fR (P++[p])).length=(fR P).length+p.length:=by simp[fR]
theorem E6 {P P':List (List aj)}(h:P.Perm P'):(fR P).length=(fR P').length:=by
 induction h with
 | nil=>rfl
 | cons x _ ih=>simp[fR]at ih ⊢;omega
 | swap x y l=>simp[fR];omega
 | trans _ _ h1 h2=>exact h1.trans h2
theorem G7 {P P':List (List aj)}(h:P.Sublist P'):(fR P).length≤(fR P').length:=by
 induction h with
 | slnil=>exact Nat.le_refl _
 | cons a _ ih=>simp[fR]at ih ⊢;omega
 | cons_cons a _ ih=>simp[fR]at ih ⊢;omega
theorem uk {d:PD}(hn:∀ q∈d.parts,bi q=q)(lv:Nat→Bool)(κ:Int→Int)(L:List Int):∀ m,m≤d.p→(fR (hY d (dA lv (d9 κ d.row L) m))).length≤(fR (d.parts.take m)).length
 | 0,_=>by simp[dA,hY,fR]
 | m+1,hm=>by
  have ih:=uk hn lv κ L m (by omega)
  have hg:Grp lv (d9 κ d.row L) m (dA lv (d9 κ d.row L) m):=oY lZ mq lz m
  rw[ol]
  obtain⟨q,hq⟩:=aN (l:=d.parts) (i:=m) hm
  have hqm:d.part m=q:=by simp[PD.part,List.getD_eq_getElem?_getD,hq]
  rw[aS hq,zT]
  generalize dA lv (d9 κ d.row L) m=G at ih hg
  unfold qR
  split
  ·split
   ·rename_i g hf
    have hgl:g<G.length:=(List.findIdx?_eq_some_iff_getElem.1 hf).1
    obtain⟨ks,hks⟩:=aN hgl
    have hk1:=hg.ne ks (List.mem_of_getElem? hks)
    have e:G.getD g []=ks:=by simp[List.getD_eq_getElem?_getD,hks]
    rw[e,yx d hks hk1]
    have h1:=G8 (vL (d:=d) hks) (bi (mE (ks.map d.part)++d.part m))
    have hu:bi (mE (ks.map d.part))=mE (ks.map d.part):=(ql fun r hr=>by
     obtain⟨k,hk,rfl⟩:=List.mem_map.1 hr
     have:=(hg.mem ks (List.mem_of_getElem? hks) k hk).1
     exact hn _ (PD.part_mem (by omega))).1
    have h2:=vM hu (hn _ (PD.part_mem (d:=d) (k:=m) (by omega)))
    rw[hqm]at h1 h2 ⊢
    omega
   ·rw[vK,zT,hqm]
    omega
  ·omega
theorem EZ {d:PD}(hn:∀ q∈d.parts,bi q=q)(κ:Int→Int):(fR (cM κ d).parts).length≤(fR d.parts).length:=by
 have h1:=uk hn (lY d.row (d.L1 κ)) κ (d.L1 κ) d.p (Nat.le_refl _)
 rw[List.take_length]at h1
 refine Nat.le_trans (Nat.le_of_eq ?_) h1
 show(fR ((d.O κ).map fun g=>(hY d (d.G κ)).getD g [])).length=_
 have h2:((d.O κ).map fun g=>(hY d (d.G κ)).getD g []).Perm (hY d (d.G κ)):=by
  have h3:=(mJ (d.G κ).length fun g=>iB ((hY d (d.G κ)).getD g [])).map fun g=>(hY d (d.G κ)).getD g []
  refine h3.trans ?_
  have h4:(List.range (d.G κ).length).map (fun g=>(hY d (d.G κ)).getD g [])=hY d (d.G κ):=by
   refine List.ext_getElem (by simp[hY]) fun i a b=>?_
   rw[List.getElem_map,List.getElem_range,List.getD_eq_getElem?_getD,List.getElem?_eq_getElem b]
   rfl
  rw[h4]
 exact E6 h2
theorem Hj (d:PD):(fR (cy d).parts).length≤(fR d.parts).length:=by
 have h1:((fg d).map d.part).Sublist ((List.range d.p).map d.part):=List.filter_sublist.map _
 have h2:(List.range d.p).map d.part=d.parts:=by
  refine List.ext_getElem (by simp) fun i a b=>?_
  rw[List.getElem_map,List.getElem_range,PD.part,List.getD_eq_getElem?_getD,List.getElem?_eq_getElem b]
  rfl
 rw[h2]at h1
 exact G7 h1
theorem eE.cat {d x:PD}(h:eE d x)(hd:d.Ok):(fR x.parts).length≤(fR d.parts).length:=by
 obtain⟨lv,κ,h1,h2,h3,h4,rfl⟩:=h.final hd
 exact Nat.le_trans (EZ (d:=dY lv (cy d)) h2.norm κ) (Hj d)
theorem eE.tagsIn {d x:PD}(h:eE d x)(hd:d.Ok):∀ t∈x.tags,t∈d.tags:=by
 obtain⟨lv,κ,h1,h2,h3,h4,rfl⟩:=h.final hd
 intro t ht
 obtain⟨s,hs,rfl⟩:=List.mem_map.1 ht
 have hin:=(rc h2 h4).1.inn s hs
 have h5:s.toNat<d.tags.length:=by
  have:In d.tags.length s:=hin
  unfold In at this;omega
 show d.tags.getD s.toNat (-1)∈d.tags
 rw[List.getD_eq_getElem?_getD,List.getElem?_eq_getElem h5]
 exact List.getElem_mem _
theorem Bz {x:Dfa}(hx:x.plain.Ok)(hc:(fR x.plain.parts).length≤524288):x.Wide:=by
 have hpl:x.plain.p=x.parts.l.length:=by simp[Dfa.plain,dd,PD.p]
 have hnl:x.plain.n=x.tags.l.length:=by simp[Dfa.plain,PD.n]
 have hxl:x.plain.next.length=x.next.l.length:=by simp[Dfa.plain,cH]
 have h1:=hx.p1
 have h2:=hx.n2
 have h3:=hx.nl
 refine⟨⟨by rw[lW];exact hc,by omega,by omega,fun r hr=>?_,by omega⟩,fun p hp=>?_⟩
 ·have:=(hx.rows r.l (List.mem_map.2 ⟨r,hr,rfl⟩)).1
  omega
 ·have hn:=hx.norm p.l (List.mem_map.2 ⟨p,hp,rfl⟩)
  have h4:=n0 hn
  have h5:=pO hn
  refine⟨by omega,fun s hs=>?_⟩
  have h6:=(eG hn).2 s hs
  have:=h5 s hs
  omega
theorem eE.wide {d x:Dfa}(h:eE d.plain x.plain)(hd:d.plain.Ok)(hf:d.Fits):x.Wide:=by
 refine Bz (h.ok hd) ?_
 have h1:=h.cat hd
 have h2:=hf.cat
 rw[lW]at h2
 exact Nat.le_trans h1 h2
end
end Go.Proofs.YtlnobeojgifojaaGreatDoor
