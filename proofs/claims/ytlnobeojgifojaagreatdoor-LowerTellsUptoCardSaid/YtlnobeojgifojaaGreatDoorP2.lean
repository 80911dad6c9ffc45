/- Least machines, plainly: empty parts, dead states; what the least machine tells. -/
import Derived.Test.YtlnobeojgifojaaGreatDoorP1
set_option linter.unusedVariables false
set_option linter.unusedSimpArgs false
namespace Go.Proofs.YtlnobeojgifojaaGreatDoor
section
open Go
theorem qY {l m:List Int}(hl:l.length=m.length)(h:∀ k,k<l.length→l.getD k (-1)=m.getD k (-1)):l=m:=by
 refine List.ext_getElem hl fun i h1 h2=>?_
 have:=h i h1
 simpa[List.getD_eq_getElem?_getD,h1,h2] using this
def fu (d:PD):List Nat:=(List.range d.p).filter fun k => !(d.part k).isEmpty
def cy (d:PD):PD:=⟨(fu d).map d.part,d.next.map fun r=>(fu d).map fun k=>r.getD k (-1),d.tags⟩
def dT (lv:Int→Bool)(x:Int):Int:=if x ≠ -1∧lv x=false then -1 else x
def d7 (lv:Int→Bool)(d:PD):PD:=⟨d.parts,d.next.map fun r=>r.map (dT lv),d.tags⟩
inductive lD (n:Nat) (R:Int→List Int) (T:Int→Int):Int→Prop
 | tag {s}:In n s→0≤T s→lD n R T s
 | step {s x}:In n s→x∈R s→In n x→lD n R T x→lD n R T s
structure eF (d x:PD):Prop where
 ex:∃ (lv:Int→Bool) (κ:Int→Int),(∀ s,In d.n s→(lv s=true↔lD d.n (cy d).row d.tag s))∧jK d.n (d7 lv (cy d)).row d.tag κ∧x=cP κ (d7 lv (cy d))
theorem BU (d:PD):(cy d).p=(fu d).length:=by simp[cy,PD.p]
theorem np {d:PD}{k:Nat}:k∈fu d↔k<d.p∧d.part k≠[]:=by
 simp[fu,List.mem_filter]
theorem pv {d:PD}{j:Nat}(hj:j<(fu d).length):(cy d).part j=d.part ((fu d).getD j 0):=cS _ _ _ 0 _ hj
theorem HP {d:PD}(h:d.Ok){s:Int}(hs:In d.n s):(cy d).row s=(fu d).map (col d.row s):=by
 have h1:s.toNat<d.next.length:=by rw[h.nl];unfold In at hs;omega
 exact cS _ _ _ [] _ h1
theorem ER {lv:Int→Bool}{d:PD}(s:Int):(d7 lv d).row s=(d.row s).map (dT lv):=by
 unfold PD.row d7
 by_cases h:s.toNat<d.next.length
 ·exact cS _ _ _ [] _ h
 ·rw[gh (by simpa using h),gh h];rfl
theorem ES {lv:Int→Bool}{d:PD}(s:Int)(k:Nat):col (d7 lv d).row s k=dT lv (col d.row s k):=by
 unfold col
 rw[ER]
 by_cases h:k<(d.row s).length
 ·exact cS _ _ _ (-1) _ h
 ·rw[gh (by simpa using h),gh h];simp[dT]
theorem HQ {d:PD}(h:d.Ok){s:Int}(hs:In d.n s){j:Nat}(hj:j<(fu d).length):col (cy d).row s j=col d.row s ((fu d).getD j 0):=by
 show((cy d).row s).getD j (-1)=_
 rw[HP h hs]
 exact cS _ _ _ 0 _ hj
theorem Au (d:PD):(fu d).Nodup:=List.Pairwise.filter _ List.nodup_range
theorem rh {d:PD}(h:d.Ok):(cy d).Ok∧∀ q∈(cy d).parts,q≠[]:=by
 have hlen:(cy d).p=(fu d).length:=BU d
 refine⟨⟨?_,h.n1,h.n2,by simp[cy,h.nl],fun q hq=>?_,fun i j hij hj x ⟨h1,h2⟩=>?_,fun r hr=>?_,h.tags⟩,fun q hq=>?_⟩
 ·rw[hlen]
  have:=List.length_filter_le (fun k => !(d.part k).isEmpty) (List.range d.p)
  rw[List.length_range]at this
  have:=h.p1
  unfold fu;omega
 ·obtain⟨k,hk,rfl⟩:=List.mem_map.1 hq
  exact h.norm _ (PD.part_mem (np.1 hk).1)
 ·rw[hlen]at hj
  rw[pv Ll]at h1
  rw[pv hj]at h2
  have e:=lZ h h1 h2
  have h3:i<(fu d).length:=by omega
  simp only[List.getD_eq_getElem?_getD,List.getElem?_eq_getElem hj,List.getElem?_eq_getElem h3,Option.getD_some]at e
  have:=(List.getElem_inj (h₀:=h3) (h₁:=hj) (Au d)).1 e
  omega
 ·obtain⟨r0,hr0,rfl⟩:=List.mem_map.1 hr
  refine⟨by simp[hlen],fun x hx=>?_⟩
  obtain⟨k,hk,rfl⟩:=List.mem_map.1 hx
  rcases l9 (l:=r0) (i:=k) (d := -1) with h1|h1
  ·exact .inl h1
  ·exact(h.rows r0 hr0).2 _ h1
 ·obtain⟨k,hk,rfl⟩:=List.mem_map.1 hq
  exact(np.1 hk).2
theorem ET {lv:Int→Bool}{n:Nat}{x:Int}(h:x = -1∨In n x):dT lv x = -1∨In n (dT lv x):=by
 unfold dT
 split
 ·exact .inl rfl
 ·exact h
theorem zv {d:PD}(h:d.Ok)(lv:Int→Bool):(d7 lv d).Ok :=
 ⟨h.p1,h.n1,h.n2,by simp[d7,h.nl],h.norm,h.apart,fun r hr=>by
  obtain⟨r0,hr0,rfl⟩:=List.mem_map.1 hr
  refine⟨by rw[List.length_map];exact(h.rows r0 hr0).1,fun x hx=>?_⟩
  obtain⟨y,hy,rfl⟩:=List.mem_map.1 hx
  exact ET ((h.rows r0 hr0).2 y hy),h.tags⟩
theorem eF.final {d x:PD}(h:eF d x)(hd:d.Ok):∃ (lv:Int→Bool) (κ:Int→Int),(∀ s,In d.n s→(lv s=true↔lD d.n (cy d).row d.tag s))∧(d7 lv (cy d)).Ok∧(∀ q∈(d7 lv (cy d)).parts,q≠[])∧jK (d7 lv (cy d)).n (d7 lv (cy d)).row (d7 lv (cy d)).tag κ∧x=cP κ (d7 lv (cy d)):=by
 obtain⟨lv,κ,h1,h2,h3⟩:=h.ex
 exact⟨lv,κ,h1,zv (rh hd).1 lv,(rh hd).2,h2,h3⟩
theorem eF.ok {d x:PD}(h:eF d x)(hd:d.Ok):x.Ok:=by
 obtain⟨lv,κ,h1,h2,h3,h4,rfl⟩:=h.final hd
 exact lf h2 h4
theorem eF.few {d x:PD}(h:eF d x)(hd:d.Ok):x.n≤d.n∧x.p≤d.p:=by
 obtain⟨lv,κ,h1,h2,h3,h4,rfl⟩:=h.final hd
 constructor
 ·rw[zV]
  exact(rr h2 h4).1.most
 ·rw[G5]
  have hb:(d7 lv (cy d)).p≤d.p:=by
   show(cy d).p≤_
   have:=List.length_filter_le (fun k => !(d.part k).isEmpty) (List.range d.p)
   rw[List.length_range]at this
   simp only[PD.p,cy,fu,List.length_map];exact this
  have h5:=(lf h2 h4)
  have h6:((d7 lv (cy d)).cols κ).length≤(d7 lv (cy d)).p:=by
   have hgr:=oC h2 h4
   have hd2:((d7 lv (cy d)).cols κ).Nodup:=by
    unfold PD.cols
    refine List.Pairwise.map _ (R:=fun a b=>a∈(d7 lv (cy d)).O κ∧b∈(d7 lv (cy d)).O κ∧a≠b) (fun a b ⟨ha,hb,hab⟩ e=>hab ?_) (List.Pairwise.and_mem.1 (p9 _ _))
    have ha:=iI.1 ha
    have hb:=iI.1 hb
    refine hgr.apart a b _ _ (by rw[List.getElem?_eq_getElem ha]) (by rw[List.getElem?_eq_getElem hb]) ?_
    have e1:((d7 lv (cy d)).G κ).getD a []=((d7 lv (cy d)).G κ)[a]:=by simp[List.getD_eq_getElem?_getD,ha]
    have e2:((d7 lv (cy d)).G κ).getD b []=((d7 lv (cy d)).G κ)[b]:=by simp[List.getD_eq_getElem?_getD,hb]
    rw[← e1,← e2,e]
    exact mh _
   have h7:=ou (d7 lv (cy d)).p (((d7 lv (cy d)).cols κ).map fun c:Nat=>(c:Int)) (List.Pairwise.map _ (fun a b hab e=>hab (Int.ofNat.inj e)) hd2) fun x hx=>by
    obtain⟨c,hc,rfl⟩:=List.mem_map.1 hx
    have:=(yu h2 h4 hc).1
    unfold In;omega
   simpa using h7
  exact Nat.le_trans h6 hb
def d6 (parts:List (List aj))(r:Int):Option Nat:=parts.findIdx? fun q=>iY q r
def bu (d:PD):Int→List Int→Nat→Int×Int→Int×Int
 | _,[],_,acc=>acc
 | s,r::l,i,acc=>match d6 d.parts r with
  | none=>acc
  | some k=>if col d.row s k<0 then acc else bu d (col d.row s k) l (i+1) (if 0≤d.tag (col d.row s k) then((i:Int)+1,d.tag (col d.row s k)) else acc)
def ig (d:PD)(l:List Int):Int×Int:=bu d 0 l 0 (0,-1)
theorem uz {q:List aj}(hq:bd q=q){r:Int}:iY q r=true↔inS q r:=by
 rw[← (jq q).2 r,hq]
theorem dR {d:PD}(h:d.Ok){r:Int}{k:Nat}:d6 d.parts r=some k↔k<d.p∧inS (d.part k) r:=by
 unfold d6
 rw[List.findIdx?_eq_some_iff_getElem]
 have hp:∀ {k:Nat} (hk:k<d.p),d.parts[k]=d.part k:=fun hk=>by simp[PD.part,List.getD_eq_getElem?_getD,hk]
 constructor
 ·rintro⟨hk,h1,_⟩
  rw[hp hk,uz (ga h k)]at h1
  exact⟨hk,h1⟩
 ·rintro⟨hk,h1⟩
  refine⟨hk,by rw[hp hk,uz (ga h k)];exact h1,fun j hj=>?_⟩
  rw[hp (show j<d.p by omega),uz (ga h j)]
  intro h2
  have:=lZ h h2 h1
  omega
theorem lN {d:PD}(h:d.Ok){r:Int}:d6 d.parts r=none↔∀ k,k<d.p→¬ inS (d.part k) r:=by
 constructor
 ·intro h1 k hk h2
  rw[(dR h).2 ⟨hk,h2⟩]at h1
  cases h1
 ·intro h1
  cases h2:d6 d.parts r with
  | none=>rfl
  | some k =>
   obtain⟨h3,h4⟩:=(dR h).1 h2
   exact absurd h4 (h1 k h3)
theorem Ah {d:PD}(h:d.Ok):∀ (l:List Int) (s:Int) (i:Nat) (acc:Int×Int),In d.n s→¬ lD d.n d.row d.tag s→bu d s l i acc=acc
 | [],s,i,acc,_,_=>rfl
 | r::l,s,i,acc,hs,hd=>by
  unfold bu
  split
  ·rfl
  ·rename_i k _
   split
   ·rfl
   ·rename_i hn
    have hne:col d.row s k ≠ -1:=fun e=>hn Ll
    have hin:=(h.tab.col hs k).resolve_left hne
    have hd2:¬ lD d.n d.row d.tag (col d.row s k):=fun h1=>hd (.step hs (yw hne) hin h1)
    rw[if_neg (fun h1=>hd2 (.tag hin h1))]
    exact Ah h l _ _ _ hin hd2
theorem At {d:PD}(h:d.Ok):∀ (l:List Int) (s:Int) (i:Nat) (acc:Int×Int),In d.n s→bu d s l i acc=bu (cy d) s l i acc
 | [],s,i,acc,_=>rfl
 | r::l,s,i,acc,hs=>by
  have hb:=(rh h).1
  unfold bu
  cases h1:d6 d.parts r with
  | none =>
   have h2:d6 (cy d).parts r=none:=by
    rw[lN hb]
    intro k hk h3
    have hk2:k<(fu d).length:=by rwa [BU]at hk
    rw[pv hk2]at h3
    exact(lN h).1 h1 _ (np.1 (jB hk2)).1 h3
   rw[h2]
  | some k =>
   obtain⟨hk,h3⟩:=(dR h).1 h1
   have hkm:k∈fu d:=np.2 ⟨hk,fun e=>by rw[e]at h3;obtain⟨_,h4,_⟩:=h3;cases h4⟩
   obtain⟨j,hj,hjk⟩:=List.getElem_of_mem hkm
   have hg:(fu d).getD j 0=k:=by simp[List.getD_eq_getElem?_getD,hj,hjk]
   have h2:d6 (cy d).parts r=some j:=(dR hb).2 ⟨by rw[BU];exact hj,by rw[pv hj,hg];exact h3⟩
   rw[h2]
   dsimp only
   rw[HQ h hs hj,hg]
   split
   ·rfl
   ·rename_i hn
    have hin:=(h.tab.col hs k).resolve_left (fun e=>hn Ll)
    rw[At h l _ _ _ hin]
    rfl
theorem wE {d:PD}(h:d.Ok){lv:Int→Bool}(hlv:∀ s,In d.n s→(lv s=true↔lD d.n d.row d.tag s)):∀ (l:List Int) (s:Int) (i:Nat) (acc:Int×Int),In d.n s→bu d s l i acc=bu (d7 lv d) s l i acc
 | [],s,i,acc,_=>rfl
 | r::l,s,i,acc,hs=>by
  unfold bu
  show(match d6 d.parts r with|none=>acc|some k=>_)=(match d6 d.parts r with|none=>acc|some k=>_)
  cases h1:d6 d.parts r with
  | none=>rfl
  | some k =>
   dsimp only
   rw[ES]
   by_cases hneg:col d.row s k<0
   ·have e:col d.row s k = -1:=by
     rcases h.tab.col hs k with e|e
     ·exact e
     ·unfold In at e;omega
    rw[if_pos hneg,if_pos]
    rw[e];simp[dT]
   ·have hin:=(h.tab.col hs k).resolve_left (fun e=>hneg Ll)
    rw[if_neg hneg]
    by_cases hl:lv (col d.row s k)=true
    ·have e:dT lv (col d.row s k)=col d.row s k:=by simp[dT,hl]
     rw[e,if_neg hneg,wE h hlv l _ _ _ hin]
     rfl
    ·have e:dT lv (col d.row s k) = -1:=by simp[dT,hin.ne,hl]
     have hd:¬ lD d.n d.row d.tag (col d.row s k):=fun h2=>hl ((hlv _ hin).2 h2)
     rw[e,if_neg (fun h2=>hd (.tag hin h2)),if_pos (show(-1:Int)<0 by decide)]
     exact Ah h l _ _ _ hin hd
theorem wV {κ:Int→Int}{d:PD}(h:d.Ok)(hK:jK d.n d.row d.tag κ):∀ (l:List Int) (s j:Int) (i:Nat) (acc:Int×Int),In d.n s→In (cP κ d).n j→κ s=κ (d.st κ j)→bu d s l i acc=bu (cP κ d) j l i acc
 | [],s,j,i,acc,_,_,_=>rfl
 | r::l,s,j,i,acc,hs,hj,he=>by
  have hf:=lf h hK
  have hpO:(cP κ d).p=(d.O κ).length:=by simp[cP,PD.p]
  have hcO:(d.cols κ).length=(d.O κ).length:=by simp[PD.cols]
  have hsj:=(Cf h hK hj).1
  obtain⟨t1,ht1,e1⟩:=List.mem_map.1 (J9 h hK _ (Cf h hK hj).2)
  have it1:=(H2 h hK).1.inn t1 ht1
  unfold bu
  cases h1:d6 d.parts r with
  | none =>
   have h2:d6 (cP κ d).parts r=none:=by
    rw[lN hf]
    intro q hq h3
    rw[hpO]at hq
    rw[qT hq,j5 (FI hq),rz h]at h3
    obtain⟨k,hk,h4⟩:=h3
    have hk2:=(oC h hK).mem _ (jB (FI hq)) k hk
    exact(lN h).1 h1 k hk2.1 h4
   rw[h2]
  | some k =>
   obtain⟨hk,h3⟩:=(dR h).1 h1
   dsimp only
   have ks:=hK.step s _ hs hsj he k
   have k1:=hK.step t1 _ it1 hsj e1 k
   by_cases hlive:mg d.row (d.L1 κ) k=true
   ·obtain⟨g,hg,hkg,hrep⟩:=I2 h hK hk hlive
    obtain⟨q,hq,hgq⟩:=List.getElem_of_mem (show g∈d.O κ from iI.2 hg)
    have hgq':(d.O κ).getD q 0=g:=by simp[List.getD_eq_getElem?_getD,hq,hgq]
    have h2:d6 (cP κ d).parts r=some q:=(dR hf).2 ⟨by omega,by
     rw[qT hq,hgq',j5 hg,rz h]
     exact⟨k,hkg,h3⟩⟩
    rw[h2]
    dsimp only
    have hc:(d.cols κ).getD q 0=((d.G κ).getD g []).headD 0:=by
     rw[← hgq']
     exact cS _ _ _ 0 _ hq
    rw[← hc]at hrep
    have hgo:=Jl h hK hj (show q<(d.cols κ).length by omega)
    generalize (d.cols κ).getD q 0=c at hrep hgo
    have ec:κ (col d.row s k)=κ (col d.row (d.st κ j) c):=by
     rw[ks,← k1,← hrep t1 ht1,hK.step t1 _ it1 hsj e1 c]
    rcases hgo with⟨g1,g2⟩|⟨g1,g2,g3⟩
    ·rw[g1,hK.no,hK.col_no h.tab hs]at ec
     rw[ec,g2]
     rfl
    ·have hne:col d.row s k ≠ -1:=fun e=>by
      rw[e,hK.no]at ec
      have:=hK.yes _ g1
      omega
     have hin:=(h.tab.col hs k).resolve_left hne
     have n1:¬ col d.row s k<0:=by have:=hin.1;omega
     have n2:¬ col (cP κ d).row j q<0:=by have:=g2.1;omega
     rw[if_neg n1,if_neg n2]
     have et:d.tag (col d.row s k)=(cP κ d).tag (col (cP κ d).row j q):=by
      rw[G4 g2]
      exact hK.tag _ _ hin (Cf h hK g2).1 (ec.trans g3.symm)
     rw[et]
     exact wV h hK l _ _ _ _ hin g2 (ec.trans g3.symm)
   ·have hno:col d.row t1 k = -1:=by
     apply Classical.byContradiction
     intro hn
     exact hlive (List.any_eq_true.2 ⟨t1,ht1,by simpa using hn⟩)
    have e:col d.row s k = -1:=by
     rw[← hK.col_no h.tab hs,ks,← k1,hno,hK.no]
    rw[e,if_pos Ll]
    cases h2:d6 (cP κ d).parts r with
    | none=>rfl
    | some q =>
     exfalso
     obtain⟨hq,h4⟩:=(dR hf).1 h2
     rw[hpO]at hq
     rw[qT hq,j5 (FI hq),rz h]at h4
     obtain⟨k',hk',h4⟩:=h4
     have hk2:=(oC h hK).mem _ (jB (FI hq)) k' hk'
     have:=lZ h h3 h4
     subst this
     exact hlive hk2.2.1
theorem Ie {κ:Int→Int}{d:PD}(h:d.Ok)(hK:jK d.n d.row d.tag κ):d.st κ 0=0:=by
 have h1:=(rr h hK).1.first
 show(d.L2 κ).getD 0 0=0
 rw[List.getD_eq_getElem?_getD,h1];rfl
theorem eF.tells {d x:PD}(h:eF d x)(hd:d.Ok)(l:List Int):ig x l=ig d l:=by
 obtain⟨lv,κ,h1,h2,h3,h4,rfl⟩:=h.final hd
 have hb:=(rh hd).1
 unfold ig
 rw[At hd l 0 0 _ hd.zero,wE hb h1 l 0 0 _ hd.zero]
 exact(wV h2 h4 l 0 0 0 _ h2.zero (lf h2 h4).zero (by rw[Ie h2 h4])).symm
end
section
open Go
theorem sJ {n p:Nat}{κ:Int→Int}{R R':Int→List Int}{s0:Int}(hT:Tab n p R)(h0:In n s0)(he:∀ s,In n s→R s=R' s):∀ i,cB κ R s0 i=cB κ R' s0 i
 | 0=>rfl
 | i+1=>by
  have ih:=sJ hT h0 he (κ:=κ) i
  rw[cB,cB,← ih]
  split
  ·rename_i s hs
   rw[he s ((jU hT h0 i).1.inn s (List.mem_of_getElem? hs))]
  ·rfl
section
variable {κ:Int→Int} {d:PD} (h:d.Ok) (hne:∀ q∈d.parts,q≠[]) (hK:jK d.n d.row d.tag κ)
include h hK
end
end
section
open Go
def vR (d:PD):Nat→Int→List Int
 | 0,s=>[d.tag s]
 | r+1,s=>d.tag s::(d.row s).map fun x=>if x = -1 then -1 else(dg (bP ((List.range d.n).map fun i:Nat=>vR d r i)) (vR d r x):Nat)
end
section
open Go
def gI (l:List aj):Int:=l.foldl (fun n s=>n+(s.hi-s.lo+1)) 0
theorem tP (l:List aj)(s:aj):gI (l++[s])=gI l+(s.hi-s.lo+1):=by simp[gI]
theorem A1 (l:List aj):∀ n:Int,l.foldl (fun n s=>n+(s.hi-s.lo+1)) n=n+gI l:=by
 induction l with
 | nil=>intro n;simp[gI]
 | cons a l ih =>
  intro n
  unfold gI
  rw[List.foldl_cons,List.foldl_cons,ih,ih (0+_)]
  omega
theorem tQ (a:aj)(l:List aj):gI (a::l)=(a.hi-a.lo+1)+gI l:=by
 have:=A1 l (0+(a.hi-a.lo+1))
 unfold gI at *
 rw[List.foldl_cons,this]
 omega
def l8 (l:List aj)(x:Nat):Bool:=l.any fun s=>decide (s.lo≤x)&&decide ((x:Int)≤s.hi)
theorem ld {l:List aj}{x:Nat}:l8 l x=true↔inS l x:=by
 unfold l8 inS
 simp only[List.any_eq_true,Bool.and_eq_true,decide_eq_true_eq]
def nU:Nat:=1114112
theorem xr:nU=1114112:=rfl
attribute [local irreducible] nU
def uO (q:Nat→Bool):Nat:=(List.range nU).countP q
theorem rX {α:Type}(p q:α→Bool):∀ l:List α,l.countP (fun x=>p x||q x)+l.countP (fun x=>p x&&q x)=l.countP p+l.countP q
 | []=>rfl
 | a::l=>by
  have ih:=rX p q l
  simp only[List.countP_cons]
  cases p a<;>cases q a<;>simp<;>omega
theorem uM (s:aj)(h0:0≤s.lo)(h1:s.lo≤s.hi+1):∀ n:Nat,((List.range n).countP (fun x:Nat=>decide (s.lo≤x)&&decide ((x:Int)≤s.hi)):Int)=min (n:Int) (s.hi+1)-min (n:Int) s.lo
 | 0=>by simp;omega
 | n+1=>by
  have ih:=uM s h0 h1 n
  rw[List.range_succ,List.countP_append]
  simp only[List.countP_cons,List.countP_nil,Nat.zero_add]
  by_cases h2:s.lo≤n<;>by_cases h3:(n:Int)≤s.hi
  all_goals simp only[h2,h3,decide_true,decide_false,Bool.and_true,Bool.and_false,Bool.true_and,Bool.false_and,if_true,if_false,Bool.false_eq_true]
  all_goals omega
theorem tN:∀ {l:List aj},mi l→(∀ s∈l,0≤s.lo∧s.hi≤1114111)→gI l=(uO (l8 l):Int)
 | [],_,_=>by
  have:uO (l8 [])=0:=by
   unfold uO
   rw[List.countP_eq_zero]
   intro x _
   simp[l8]
  rw[this];rfl
 | a::l,hc,hr=>by
  have ih:=tN (qm hc) fun s hs=>hr s (by simp[hs])
  have ha:=hr a Lm
  have h1:=hc.2 a Lm
  have h2:=rX (fun x:Nat=>decide (a.lo≤x)&&decide ((x:Int)≤a.hi)) (l8 l) (List.range nU)
  have h3:(List.range nU).countP (fun x:Nat=>(decide (a.lo≤x)&&decide ((x:Int)≤a.hi))&&l8 l x)=0:=by
   rw[List.countP_eq_zero]
   intro x _ h
   simp only[Bool.and_eq_true,decide_eq_true_eq]at h
   have:=oO hc (ld.1 h.2)
   omega
  have h4:=uM a ha.1 Ll nU
  have h5:uO (l8 (a::l))=(List.range nU).countP (fun x:Nat=>(decide (a.lo≤x)&&decide ((x:Int)≤a.hi))||l8 l x):=rfl
  rw[tQ,ih,h5]
  unfold uO
  rw[h3]at h2
  have htop:=xr
  have e1:min (nU:Int) (a.hi+1)=a.hi+1:=by omega
  have e2:min (nU:Int) a.lo=a.lo:=by omega
  rw[e1,e2]at h4
  generalize (List.range nU).countP (fun x:Nat=>decide (a.lo≤x)&&decide ((x:Int)≤a.hi))=c1 at h2 h4
  generalize (List.range nU).countP (l8 l)=c2 at h2 ⊢
  generalize (List.range nU).countP (fun x:Nat=>(decide (a.lo≤x)&&decide ((x:Int)≤a.hi))||l8 l x)=c3 at h2 ⊢
  omega
theorem qb {l:List aj}(h:bd l=l):∀ s∈l,0≤s.lo∧s.hi≤1114111:=fun s hs=>by
 have h1:=(eT h).2 s hs
 have h2:=cx.1 (gS h ⟨s,hs,Int.le_refl _,h1⟩)
 have h3:=cx.1 (gS h ⟨s,hs,h1,Int.le_refl _⟩)
 omega
theorem oY {l:List aj}(h:bd l=l):gI l=(uO (l8 l):Int):=tN (eT h) (qb h)
theorem Dt {l:List aj}(h:∀ s∈l,s.lo≤s.hi):(l.length:Int)≤gI l:=by
 induction l with
 | nil=>simp[gI]
 | cons a l ih =>
  have h1:=ih fun s hs=>h s (by simp[hs])
  have h2:=h a Lm
  rw[tQ,List.length_cons]
  omega
theorem oo {l:List aj}(h:bd l=l):l.length≤1114112:=by
 have h1:=oY h
 have h2:=Dt (eT h).2
 have h3:uO (l8 l)≤nU:=by
  unfold uO
  have:=List.countP_le_length (p:=l8 l) (l:=List.range nU)
  rwa [List.length_range]at this
 have h4:=xr
 omega
def fW (P:List (List aj)):List aj:=P.flatMap id
theorem G8 {P:List (List aj)}{x:Int}:inS (fW P) x↔∃ p∈P,inS p x:=by
 unfold fW inS
 constructor
 ·rintro⟨s,hs,h⟩
  obtain⟨p,hp,hsp⟩:=List.mem_flatMap.1 hs
  exact⟨p,hp,s,hsp,h⟩
 ·rintro⟨p,hp,s,hs,h⟩
  exact⟨s,List.mem_flatMap.2 ⟨p,hp,hs⟩,h⟩
theorem kS {P:List (List aj)}(hn:∀ p∈P,bd p=p){x:Int}:inS (bd (fW P)) x↔∃ p∈P,inS p x:=by
 rw[gV,G8]
 constructor
 ·exact fun h=>h.2
 ·rintro⟨p,hp,h⟩
  exact⟨gS (hn p hp) h,p,hp,h⟩
def kF (P:List (List aj)):Int:=P.foldl (fun n p=>n+gI p) 0
theorem oa (P:List (List aj))(p:List aj):kF (P++[p])=kF P+gI p:=by simp[kF]
def qv (P:List (List aj)):Prop:=∀ i j,i<j→j<P.length→∀ x,¬ (inS (P.getD i []) x∧inS (P.getD j []) x)
theorem BY {P:List (List aj)}{p:List aj}:qv (P++[p])↔qv P∧∀ x,¬ ((∃ q∈P,inS q x)∧inS p x):=by
 have g1:∀ {i},i<P.length→(P++[p]).getD i []=P.getD i []:=fun hi=>by
  simp[List.getD_eq_getElem?_getD,List.getElem?_append_left hi]
 have g2:(P++[p]).getD P.length []=p:=by simp[List.getD_eq_getElem?_getD]
 constructor
 ·intro h
  refine⟨fun i j hij hj x hx=>h i j hij (by simp;omega) x (by rw[g1 Ll,g1 hj];exact hx),fun x ⟨⟨q,hq,h1⟩,h2⟩=>?_⟩
  obtain⟨i,hi,rfl⟩:=List.getElem_of_mem hq
  refine h i P.length hi Lm x ⟨?_,by rw[g2];exact h2⟩
  rw[g1 hi]
  simpa[List.getD_eq_getElem?_getD,hi] using h1
 ·rintro⟨h1,h2⟩ i j hij hj x ⟨h3,h4⟩
  rw[List.length_append]at hj
  simp only[List.length_cons,List.length_nil]at hj
  by_cases hj2:j<P.length
  ·rw[g1 Ll]at h3
   rw[g1 hj2]at h4
   exact h1 i j hij hj2 x ⟨h3,h4⟩
  ·have:j=P.length:=by omega
   subst this
   rw[g2]at h4
   rw[g1 hij]at h3
   refine h2 x ⟨⟨P.getD i [],jB hij,h3⟩,h4⟩
theorem zi (P:List (List aj)):(∀ p∈P,bd p=p)→gI (bd (fW P))≤kF P∧(gI (bd (fW P))=kF P↔qv P):=by
 refine n9 (P:=fun P=>(∀ p∈P,bd p=p)→gI (bd (fW P))≤kF P∧(gI (bd (fW P))=kF P↔qv P)) ?_ ?_ P
 ·intro _
  have e:bd (fW [])=[]:=(qy (l:=[]) Lm).1
  rw[e]
  exact⟨Int.le_refl _,fun _ i j _ hj=>by simp at hj,fun _=>rfl⟩
 ·intro P p ih hn
  have hnP:∀ q∈P,bd q=q:=fun q hq=>hn q (by simp[hq])
  have hnp:bd p=p:=hn p Lm
  obtain⟨i1,i2⟩:=ih hnP
  have hU:=oY (nE (fW P))
  have hU2:=oY (nE (fW (P++[p])))
  have hp:=oY hnp
  have hco:=rX (l8 (bd (fW P))) (l8 p) (List.range nU)
  have hor:(List.range nU).countP (fun x=>l8 (bd (fW P)) x||l8 p x)=uO (l8 (bd (fW (P++[p])))):=by
   unfold uO
   congr 1
   funext x
   rw[Bool.eq_iff_iff,Bool.or_eq_true,ld,ld,ld,kS hnP,kS hn]
   constructor
   ·rintro(⟨q,hq,h⟩|h)
    ·exact⟨q,by simp[hq],h⟩
    ·exact⟨p,by simp,h⟩
   ·rintro⟨q,hq,h⟩
    rcases List.mem_append.1 hq with hq|hq
    ·exact .inl ⟨q,hq,h⟩
    ·simp at hq;subst hq;exact .inr h
  have h0:(List.range nU).countP (fun x=>l8 (bd (fW P)) x&&l8 p x)=0↔∀ x,¬ ((∃ q∈P,inS q x)∧inS p x):=by
   rw[List.countP_eq_zero]
   constructor
   ·rintro h x ⟨⟨q,hq,h1⟩,h2⟩
    have hs:=cx.1 (gS hnp h2)
    have hx:(x.toNat:Int)=x:=by omega
    have htop:=xr
    refine h x.toNat (by rw[List.mem_range];omega) ?_
    rw[Bool.and_eq_true,ld,ld,hx,kS hnP]
    exact⟨⟨q,hq,h1⟩,h2⟩
   ·intro h x _ hb
    rw[Bool.and_eq_true,ld,ld,kS hnP]at hb
    exact h x hb
  rw[hor]at hco
  rw[oa,BY,← h0,← i2]
  rw[hU2,hp]
  rw[hU]at i1 i2 ⊢
  unfold uO at *
  generalize (List.range nU).countP (fun x=>l8 (bd (fW P)) x&&l8 p x)=c1 at hco ⊢
  omega
end
section
open Go
structure jH (n:Nat)(R:Int→List Int)(i:Nat)(front:Int→Prop)(bs:List (List Int)):Prop where
 len:bs.length=n
 mem:∀ (t:Nat),t<n→∀ f:Int,f∈bs.getD t []↔(0≤f∧f<i∧(t:Int)∈R f)∨(f=i∧front t)
theorem jH.begin (n:Nat)(R:Int→List Int):jH n R 0 (fun _=>False) (List.replicate n []) :=
 ⟨by simp,fun t ht f=>by
  have:(List.replicate n ([]:List Int)).getD t []=[]:=by simp[List.getD_eq_getElem?_getD,ht]
  rw[this]
  constructor
  ·intro h;cases h
  ·rintro(⟨h1,h2,_⟩|⟨_,h⟩)
   ·omega
   ·exact h.elim⟩
theorem jH.iff {n:Nat}{R:Int→List Int}{i:Nat}{F F':Int→Prop}{bs:List (List Int)}(hb:jH n R i F bs)(h:∀ t:Nat,F t↔F' t):jH n R i F' bs :=
 ⟨hb.len,fun t ht f=>by rw[hb.mem t ht f,h]⟩
theorem jH.add {n:Nat}{R:Int→List Int}{i:Nat}{F:Int→Prop}{bs:List (List Int)}(hb:jH n R i F bs){x:Nat}(hx:x<n):jH n R i (fun t=>F t∨t=x) (bs.set x (bs.getD x []++[(i:Int)])):=by
 refine⟨by simp[hb.len],fun t ht f=>?_⟩
 have hl:=hb.len
 by_cases e:x=t
 ·subst e
  have:(bs.set x (bs.getD x []++[(i:Int)])).getD x []=bs.getD x []++[(i:Int)]:=by
   rw[List.getD_eq_getElem?_getD,List.getElem?_set_self Ll];rfl
  rw[this,List.mem_append,hb.mem x ht f,List.mem_singleton]
  constructor
  ·rintro((h|h)|h)
   ·exact .inl h
   ·exact .inr ⟨h.1,.inl h.2⟩
   ·exact .inr ⟨h,.inr rfl⟩
  ·rintro(h|⟨h,_⟩)
   ·exact .inl (.inl h)
   ·exact .inr h
 ·have:(bs.set x (bs.getD x []++[(i:Int)])).getD t []=bs.getD t []:=by
   rw[List.getD_eq_getElem?_getD,List.getElem?_set_ne e,← List.getD_eq_getElem?_getD]
  rw[this,hb.mem t ht f]
  have e2:¬ ((t:Int)=(x:Int)):=by omega
  simp[e2]
theorem jH.next {n:Nat}{R:Int→List Int}{i:Nat}{bs:List (List Int)}(hb:jH n R i (fun t=>t∈R i) bs):jH n R (i+1) (fun _=>False) bs :=
 ⟨hb.len,fun t ht f=>by
  rw[hb.mem t ht f]
  constructor
  ·rintro(⟨h1,h2,h3⟩|⟨rfl,h⟩)
   ·exact .inl ⟨h1,by omega,h3⟩
   ·exact .inl ⟨by omega,by omega,h⟩
  ·rintro(⟨h1,h2,h3⟩|⟨_,h⟩)
   ·by_cases e:f=i
    ·subst e;exact .inr ⟨rfl,h3⟩
    ·exact .inl ⟨h1,by omega,h3⟩
   ·exact h.elim⟩
structure eV (n:Nat)(R:Int→List Int)(T:Int→Int)(bs:List (List Int))(os:List Bool)(ls:List Nat)(cur:Nat→Prop)(seen:Int→Prop):Prop where
 len:os.length=n
 sound:∀ q:Nat,os[q]?=some true→lD n R T q
 tags:∀ q:Nat,q<n→0≤T q→os[q]?=some true
 left:∀ q∈ls,os[q]?=some true
 closed:∀ q:Nat,os[q]?=some true→q∈ls∨∀ f∈bs.getD q [],os[f.toNat]?=some true∨(cur q∧¬ seen f)
 curs:∀ q,cur q→os[q]?=some true
theorem eV.done {n p:Nat}{R:Int→List Int}{T:Int→Int}{bs:List (List Int)}{os:List Bool}(hT:Tab n p R)(hb:jH n R n (fun _=>False) bs)(h:eV n R T bs os [] (fun _=>False) (fun _=>True)){s:Int}(hs:In n s):os.getD s.toNat false=true↔lD n R T s:=by
 have e:(s.toNat:Int)=s:=by unfold In at hs;omega
 have hlt:s.toNat<os.length:=by rw[h.len];unfold In at hs;omega
 have hg:os.getD s.toNat false=true↔os[s.toNat]?=some true:=by
  rw[List.getD_eq_getElem?_getD,List.getElem?_eq_getElem hlt];simp
 rw[hg]
 constructor
 ·intro h1
  have:=h.sound _ h1
  rwa [e]at this
 ·intro hl
  induction hl with
  | @tag s hs ht=>exact h.tags s.toNat (by unfold In at hs;omega) (by rw[Int.toNat_of_nonneg hs.1];exact ht)
  | @step s x hs hx hxi _ ih =>
   have hx1:=ih hxi (by rw[Int.toNat_of_nonneg hxi.1]) (by rw[h.len];unfold In at hxi;omega) (by
    rw[List.getD_eq_getElem?_getD,List.getElem?_eq_getElem (show x.toNat<os.length by rw[h.len];unfold In at hxi;omega)];simp)
   rcases h.closed _ hx1 with h2|h2
   ·cases h2
   ·have h3:s∈bs.getD x.toNat []:=(hb.mem x.toNat (by unfold In at hxi;omega) s).2 (.inl ⟨hs.1,hs.2,by rw[Int.toNat_of_nonneg hxi.1];exact hx⟩)
    rcases h2 s h3 with h4|h4
    ·exact h4
    ·exact h4.1.elim
theorem eV.pop {n:Nat}{R:Int→List Int}{T:Int→Int}{bs:List (List Int)}{os:List Bool}{ls:List Nat}{i:Nat}(h:eV n R T bs os (ls++[i]) (fun _=>False) (fun _=>True)):eV n R T bs os ls (fun q=>q=i) (fun _=>False):=by
 refine⟨h.len,h.sound,h.tags,fun q hq=>h.left q (by simp[hq]),fun q hq=>?_,fun q hq=>by subst hq;exact h.left q Lm⟩
 rcases h.closed q hq with h1|h1
 ·rcases List.mem_append.1 h1 with h1|h1
  ·exact .inl h1
  ·simp at h1;subst h1
   exact .inr fun f _ => .inr ⟨rfl,fun h=>h⟩
 ·right
  intro f hf
  rcases h1 f hf with h2|h2
  ·exact .inl h2
  ·exact h2.1.elim
theorem eV.iff {n:Nat}{R:Int→List Int}{T:Int→Int}{bs:List (List Int)}{os:List Bool}{ls:List Nat}{cur:Nat→Prop}{S S':Int→Prop}(h:eV n R T bs os ls cur S)(hs:∀ f,S' f→S f):eV n R T bs os ls cur S' :=
 ⟨h.len,h.sound,h.tags,h.left,fun q hq=>(h.closed q hq).imp id fun h1 f hf=>(h1 f hf).imp id fun⟨a,b⟩=>⟨a,fun c=>b (hs f c)⟩,h.curs⟩
theorem eV.old {n:Nat}{R:Int→List Int}{T:Int→Int}{bs:List (List Int)}{os:List Bool}{ls:List Nat}{cur:Nat→Prop}{S:Int→Prop}(h:eV n R T bs os ls cur S){x:Int}(hx:os[x.toNat]?=some true):eV n R T bs os ls cur (fun f=>S f∨f=x) :=
 ⟨h.len,h.sound,h.tags,h.left,fun q hq=>(h.closed q hq).imp id fun h1 f hf=>by
  rcases h1 f hf with h2|h2
  ·exact .inl h2
  ·by_cases e:f=x
   ·subst e;exact .inl hx
   ·exact .inr ⟨h2.1,fun h3=>h3.elim h2.2 e⟩,h.curs⟩
theorem xK {os:List Bool}{i q:Nat}(hi:i<os.length):(os.set i true)[q]?=some true↔q=i∨os[q]?=some true:=by
 rw[List.getElem?_set]
 by_cases e:i=q
 ·subst e;simp[hi]
 ·have e2:¬ q=i:=fun h=>e h.symm
  simp[e,e2]
theorem eV.mark {n:Nat}{R:Int→List Int}{T:Int→Int}{bs:List (List Int)}{os:List Bool}{ls:List Nat}{cur:Nat→Prop}{S:Int→Prop}(h:eV n R T bs os ls cur S){x:Int}(hx:In n x)(hl:lD n R T x):eV n R T bs (os.set x.toNat true) (ls++[x.toNat]) cur (fun f=>S f∨f=x):=by
 have hlt:x.toNat<os.length:=by rw[h.len];unfold In at hx;omega
 have st:=fun q=>xK (q:=q) hlt
 refine⟨by simp[h.len],fun q hq=>?_,fun q hq hT=>(st q).2 (.inr (h.tags q hq hT)),fun q hq=>(st q).2 ?_,fun q hq=>?_,fun q hq=>(st q).2 (.inr (h.curs q hq))⟩
 ·rcases (st q).1 hq with rfl|h1
  ·rw[Int.toNat_of_nonneg hx.1];exact hl
  ·exact h.sound q h1
 ·rcases List.mem_append.1 hq with hq|hq
  ·exact .inr (h.left q hq)
  ·simp at hq;exact .inl hq
 ·rcases (st q).1 hq with rfl|h1
  ·exact .inl Lm
  ·rcases h.closed q h1 with h2|h2
   ·exact .inl (by simp[h2])
   ·right
    intro f hf
    rcases h2 f hf with h3|h3
    ·exact .inl ((st _).2 (.inr h3))
    ·by_cases e:f=x
     ·subst e;exact .inl ((st _).2 (.inl rfl))
     ·exact .inr ⟨h3.1,fun h4=>h4.elim h3.2 e⟩
theorem eV.end_ {n:Nat}{R:Int→List Int}{T:Int→Int}{bs:List (List Int)}{os:List Bool}{ls:List Nat}{i:Nat}(h:eV n R T bs os ls (fun q=>q=i) (fun f=>f∈bs.getD i [])):eV n R T bs os ls (fun _=>False) (fun _=>True):=by
 refine⟨h.len,h.sound,h.tags,h.left,fun q hq=>(h.closed q hq).imp id fun h1 f hf=>?_,fun q hq=>hq.elim⟩
 rcases h1 f hf with h2|⟨rfl,h2⟩
 ·exact .inl h2
 ·exact absurd hf h2
def kU (T:List Int)(n i:Nat):List Bool:=(List.range n).map fun q=>decide (q<i∧0≤T.getD q (-1))
def pA (T:List Int)(i:Nat):List Nat:=(List.range i).filter fun q=>decide (0≤T.getD q (-1))
theorem qz {T:List Int}{n i q:Nat}:(kU T n i)[q]?=some true↔q<n∧q<i∧0≤T.getD q (-1):=by
 unfold kU
 rw[List.getElem?_map]
 by_cases h:q<n
 ·rw[List.getElem?_range h];simp[h]
 ·rw[List.getElem?_eq_none (by simpa using h)];simp[h]
theorem wh (T:List Int)(i:Nat):pA T (i+1)=pA T i++(if 0≤T.getD i (-1) then [i] else []):=by
 unfold pA
 rw[List.range_succ,List.filter_append]
 congr 1
 by_cases h:0≤T.getD i (-1)
 ·rw[if_pos h,List.filter_cons_of_pos (by simpa using h)];rfl
 ·rw[if_neg h,List.filter_cons_of_neg (by simpa using h)];rfl
theorem yW (T:List Int)(i:Nat):(pA T i).length≤i:=by
 have:=List.length_filter_le (fun q=>decide (0≤T.getD q (-1))) (List.range i)
 rw[List.length_range]at this
 exact this
theorem wi {T:List Int}{n i:Nat}(hi:i<n):kU T n (i+1)=if 0≤T.getD i (-1) then(kU T n i).set i true else kU T n i:=by
 by_cases h:0≤T.getD i (-1)
 ·rw[if_pos h]
  refine List.ext_getElem (by simp[kU]) fun q h1 h2=>?_
  rw[List.getElem_set]
  simp only[kU,List.getElem_map,List.getElem_range]
  by_cases e:i=q
  ·subst e
   rw[if_pos rfl]
   exact decide_eq_true ⟨by omega,h⟩
  ·rw[if_neg e]
   exact decide_eq_decide.2 (and_congr_left fun _=>by omega)
 ·rw[if_neg h]
  unfold kU
  apply List.map_congr_left
  intro q _
  by_cases e:i=q
  ·subst e
   exact decide_eq_decide.2 ⟨fun a=>absurd a.2 h,fun a=>absurd a.2 h⟩
  ·exact decide_eq_decide.2 (and_congr_left fun _=>by omega)
theorem Ib {n:Nat}{R:Int→List Int}{T:List Int}{bs:List (List Int)}:eV n R (fun s=>T.getD s.toNat (-1)) bs (kU T n n) (pA T n) (fun _=>False) (fun _=>True):=by
 refine⟨by simp[kU],fun q hq=>?_,fun q hq hT=>?_,fun q hq=>?_,fun q hq=>?_,fun q hq=>hq.elim⟩
 ·obtain⟨h1,h2,h3⟩:=qz.1 hq
  exact .tag (by unfold In;omega) (by simpa using h3)
 ·exact qz.2 ⟨hq,hq,by simpa using hT⟩
 ·unfold pA at hq
  rw[List.mem_filter,List.mem_range]at hq
  exact qz.2 ⟨hq.1,hq.1,by simpa using hq.2⟩
 ·left
  obtain⟨h1,h2,h3⟩:=qz.1 hq
  unfold pA
  rw[List.mem_filter,List.mem_range]
  exact⟨h1,by simpa using h3⟩
theorem Dd (T:List Int)(n:Nat):(pA T n).length+(kU T n n).count false=n:=by
 have h1:(pA T n).length=(List.range n).countP fun q=>decide (0≤T.getD q (-1)):=by
  unfold pA
  rw[List.countP_eq_length_filter]
 have h2:(kU T n n).count false=(List.range n).countP fun q => !decide (0≤T.getD q (-1)):=by
  unfold kU
  rw[List.count_eq_countP,List.countP_map]
  apply List.countP_congr
  intro q hq
  rw[List.mem_range]at hq
  simp[Function.comp,hq]
 have h3:=List.length_eq_countP_add_countP (fun q=>decide (0≤T.getD q (-1))) (l:=List.range n)
 rw[List.length_range]at h3
 have h4:(List.range n).countP (fun q => !decide (0≤T.getD q (-1)))=(List.range n).countP (fun a=>decide ¬(fun q=>decide (0≤T.getD q (-1))) a=true):=by
  apply List.countP_congr
  intro q _
  simp
 rw[h1,h2,h4]
 exact h3.symm
end
end Go.Proofs.YtlnobeojgifojaaGreatDoor
