/- Least machines, plainly: empty parts, dead states; what the least machine tells. Least machines, plainly: by any names the same; twice the same. Least machines, plainly: states told apart in as many rounds as there are states. How many a set has; sets that have nothing in common. Which states are live: the plain law of the search. -/
import Derived.Test.YtlnobeojgifojaaGreatDoorP1
set_option linter.unusedVariables false
set_option linter.unusedSimpArgs false
namespace Go.Proofs.YtlnobeojgifojaaGreatDoor
section
open Go
theorem qT {l m:List Int}(hl:l.length=m.length)(h:∀ k,k<l.length→l.getD k (-1)=m.getD k (-1)):l=m:=by
 refine List.ext_getElem hl fun i h1 h2=>?_
 have:=h i h1
 simpa[List.getD_eq_getElem?_getD,h1,h2] using this
def fm (d:PD):List Nat:=(List.range d.p).filter fun k => !(d.part k).isEmpty
def cy (d:PD):PD:=⟨(fm d).map d.part,d.next.map fun r=>(fm d).map fun k=>r.getD k (-1),d.tags⟩
def dR (lv:Int→Bool)(x:Int):Int:=if x ≠ -1∧lv x=false then -1 else x
def dZ (lv:Int→Bool)(d:PD):PD:=⟨d.parts,d.next.map fun r=>r.map (dR lv),d.tags⟩
inductive ly (n:Nat) (R:Int→List Int) (T:Int→Int):Int→Prop
 | tag {s}:In n s→0≤T s→ly n R T s
 | step {s x}:In n s→x∈R s→In n x→ly n R T x→ly n R T s
structure eC (d x:PD):Prop where
 ex:∃ (lv:Int→Bool) (κ:Int→Int),(∀ s,In d.n s→(lv s=true↔ly d.n (cy d).row d.tag s))∧jH d.n (dZ lv (cy d)).row d.tag κ∧x=cK κ (dZ lv (cy d))
theorem BE (d:PD):(cy d).p=(fm d).length:=by simp[cy,PD.p]
theorem nf {d:PD}{k:Nat}:k∈fm d↔k<d.p∧d.part k≠[]:=by
 simp[fm,List.mem_filter]
theorem ph {d:PD}{j:Nat}(hj:j<(fm d).length):(cy d).part j=d.part ((fm d).getD j 0):=cM _ _ _ 0 _ hj
theorem HC {d:PD}(h:d.Ok){s:Int}(hs:In d.n s):(cy d).row s=(fm d).map (col d.row s):=by
 have h1:s.toNat<d.next.length:=by rw[h.nl];unfold In at hs;omega
 exact cM _ _ _ [] _ h1
theorem EJ {lv:Int→Bool}{d:PD}(s:Int):(dZ lv d).row s=(d.row s).map (dR lv):=by
 unfold PD.row dZ
 by_cases h:s.toNat<d.next.length
 ·exact cM _ _ _ [] _ h
 ·rw[gj (by simpa using h),gj h];rfl
theorem EK {lv:Int→Bool}{d:PD}(s:Int)(k:Nat):col (dZ lv d).row s k=dR lv (col d.row s k):=by
 unfold col
 rw[EJ]
 by_cases h:k<(d.row s).length
 ·exact cM _ _ _ (-1) _ h
 ·rw[gj (by simpa using h),gj h];simp[dR]
theorem HD {d:PD}(h:d.Ok){s:Int}(hs:In d.n s){j:Nat}(hj:j<(fm d).length):col (cy d).row s j=col d.row s ((fm d).getD j 0):=by
 show((cy d).row s).getD j (-1)=_
 rw[HC h hs]
 exact cM _ _ _ 0 _ hj
theorem Aj (d:PD):(fm d).Nodup:=List.Pairwise.filter _ List.nodup_range
theorem q9 {d:PD}(h:d.Ok):(cy d).Ok∧∀ q∈(cy d).parts,q≠[]:=by
 have hlen:(cy d).p=(fm d).length:=BE d
 refine⟨⟨?_,h.n1,h.n2,by simp[cy,h.nl],fun q hq=>?_,fun i j hij hj x ⟨h1,h2⟩=>?_,fun r hr=>?_,h.tags⟩,fun q hq=>?_⟩
 ·rw[hlen]
  have:=List.length_filter_le (fun k => !(d.part k).isEmpty) (List.range d.p)
  rw[List.length_range]at this
  have:=h.p1
  unfold fm;omega
 ·obtain⟨k,hk,rfl⟩:=List.mem_map.1 hq
  exact h.norm _ (PD.part_mem (nf.1 hk).1)
 ·rw[hlen]at hj
  rw[ph (by omega)]at h1
  rw[ph hj]at h2
  have e:=lS h h1 h2
  have h3:i<(fm d).length:=by omega
  simp only[List.getD_eq_getElem?_getD,List.getElem?_eq_getElem hj,List.getElem?_eq_getElem h3,Option.getD_some]at e
  have:=(List.getElem_inj (h₀:=h3) (h₁:=hj) (Aj d)).1 e
  omega
 ·obtain⟨r0,hr0,rfl⟩:=List.mem_map.1 hr
  refine⟨by simp[hlen],fun x hx=>?_⟩
  obtain⟨k,hk,rfl⟩:=List.mem_map.1 hx
  rcases lX (l:=r0) (i:=k) (d := -1) with h1|h1
  ·exact .inl h1
  ·exact(h.rows r0 hr0).2 _ h1
 ·obtain⟨k,hk,rfl⟩:=List.mem_map.1 hq
  exact(nf.1 hk).2
theorem EL {lv:Int→Bool}{n:Nat}{x:Int}(h:x = -1∨In n x):dR lv x = -1∨In n (dR lv x):=by
 unfold dR
 split
 ·exact .inl rfl
 ·exact h
theorem zj {d:PD}(h:d.Ok)(lv:Int→Bool):(dZ lv d).Ok :=
 ⟨h.p1,h.n1,h.n2,by simp[dZ,h.nl],h.norm,h.apart,fun r hr=>by
  obtain⟨r0,hr0,rfl⟩:=List.mem_map.1 hr
  refine⟨by rw[List.length_map];exact(h.rows r0 hr0).1,fun x hx=>?_⟩
  obtain⟨y,hy,rfl⟩:=List.mem_map.1 hx
  exact EL ((h.rows r0 hr0).2 y hy),h.tags⟩
theorem eC.final {d x:PD}(h:eC d x)(hd:d.Ok):∃ (lv:Int→Bool) (κ:Int→Int),(∀ s,In d.n s→(lv s=true↔ly d.n (cy d).row d.tag s))∧(dZ lv (cy d)).Ok∧(∀ q∈(dZ lv (cy d)).parts,q≠[])∧jH (dZ lv (cy d)).n (dZ lv (cy d)).row (dZ lv (cy d)).tag κ∧x=cK κ (dZ lv (cy d)):=by
 obtain⟨lv,κ,h1,h2,h3⟩:=h.ex
 exact⟨lv,κ,h1,zj (q9 hd).1 lv,(q9 hd).2,h2,h3⟩
theorem eC.ok {d x:PD}(h:eC d x)(hd:d.Ok):x.Ok:=by
 obtain⟨lv,κ,h1,h2,h3,h4,rfl⟩:=h.final hd
 exact kX h2 h4
theorem eC.few {d x:PD}(h:eC d x)(hd:d.Ok):x.n≤d.n∧x.p≤d.p:=by
 obtain⟨lv,κ,h1,h2,h3,h4,rfl⟩:=h.final hd
 constructor
 ·rw[zH]
  exact(rj h2 h4).1.most
 ·rw[GT]
  have hb:(dZ lv (cy d)).p≤d.p:=by
   show(cy d).p≤_
   have:=List.length_filter_le (fun k => !(d.part k).isEmpty) (List.range d.p)
   rw[List.length_range]at this
   simp only[PD.p,cy,fm,List.length_map];exact this
  have h5:=(kX h2 h4)
  have h6:((dZ lv (cy d)).cols κ).length≤(dZ lv (cy d)).p:=by
   have hgr:=ow h2 h4
   have hd2:((dZ lv (cy d)).cols κ).Nodup:=by
    unfold PD.cols
    refine List.Pairwise.map _ (R:=fun a b=>a∈(dZ lv (cy d)).O κ∧b∈(dZ lv (cy d)).O κ∧a≠b) (fun a b ⟨ha,hb,hab⟩ e=>hab ?_) (List.Pairwise.and_mem.1 (pU _ _))
    have ha:=iH.1 ha
    have hb:=iH.1 hb
    refine hgr.apart a b _ _ (by rw[List.getElem?_eq_getElem ha]) (by rw[List.getElem?_eq_getElem hb]) ?_
    have e1:((dZ lv (cy d)).G κ).getD a []=((dZ lv (cy d)).G κ)[a]:=by simp[List.getD_eq_getElem?_getD,ha]
    have e2:((dZ lv (cy d)).G κ).getD b []=((dZ lv (cy d)).G κ)[b]:=by simp[List.getD_eq_getElem?_getD,hb]
    rw[← e1,← e2,e]
    exact l7 _
   have h7:=oj (dZ lv (cy d)).p (((dZ lv (cy d)).cols κ).map fun c:Nat=>(c:Int)) (List.Pairwise.map _ (fun a b hab e=>hab (Int.ofNat.inj e)) hd2) fun x hx=>by
    obtain⟨c,hc,rfl⟩:=List.mem_map.1 hx
    have:=(yf h2 h4 hc).1
    unfold In;omega
   simpa using h7
  exact Nat.le_trans h6 hb
def gP (parts:List (List ai))(r:Int):Option Nat:=parts.findIdx? fun q=>jO q r
def cf (d:PD):Int→List Int→Nat→Int×Int→Int×Int
 | _,[],_,acc=>acc
 | s,r::l,i,acc=>match gP d.parts r with
  | none=>acc
  | some k=>if col d.row s k<0 then acc else cf d (col d.row s k) l (i+1) (if 0≤d.tag (col d.row s k) then((i:Int)+1,d.tag (col d.row s k)) else acc)
def mV (d:PD)(l:List Int):Int×Int:=cf d 0 l 0 (0,-1)
theorem uq {q:List ai}(hq:bi q=q){r:Int}:jO q r=true↔inS q r:=by
 rw[← (jE q).2 r,hq]
theorem dP {d:PD}(h:d.Ok){r:Int}{k:Nat}:gP d.parts r=some k↔k<d.p∧inS (d.part k) r:=by
 unfold gP
 rw[List.findIdx?_eq_some_iff_getElem]
 have hp:∀ {k:Nat} (hk:k<d.p),d.parts[k]=d.part k:=fun hk=>by simp[PD.part,List.getD_eq_getElem?_getD,hk]
 constructor
 ·rintro⟨hk,h1,_⟩
  rw[hp hk,uq (fH h k)]at h1
  exact⟨hk,h1⟩
 ·rintro⟨hk,h1⟩
  refine⟨hk,by rw[hp hk,uq (fH h k)];exact h1,fun j hj=>?_⟩
  rw[hp (show j<d.p by omega),uq (fH h j)]
  intro h2
  have:=lS h h2 h1
  omega
theorem lH {d:PD}(h:d.Ok){r:Int}:gP d.parts r=none↔∀ k,k<d.p→¬ inS (d.part k) r:=by
 constructor
 ·intro h1 k hk h2
  rw[(dP h).2 ⟨hk,h2⟩]at h1
  cases h1
 ·intro h1
  cases h2:gP d.parts r with
  | none=>rfl
  | some k =>
   obtain⟨h3,h4⟩:=(dP h).1 h2
   exact absurd h4 (h1 k h3)
theorem z4 {d:PD}(h:d.Ok):∀ (l:List Int) (s:Int) (i:Nat) (acc:Int×Int),In d.n s→¬ ly d.n d.row d.tag s→cf d s l i acc=acc
 | [],s,i,acc,_,_=>rfl
 | r::l,s,i,acc,hs,hd=>by
  unfold cf
  split
  ·rfl
  ·rename_i k _
   split
   ·rfl
   ·rename_i hn
    have hne:col d.row s k ≠ -1:=fun e=>hn (by omega)
    have hin:=(h.tab.col hs k).resolve_left hne
    have hd2:¬ ly d.n d.row d.tag (col d.row s k):=fun h1=>hd (.step hs (yg hne) hin h1)
    rw[if_neg (fun h1=>hd2 (.tag hin h1))]
    exact z4 h l _ _ _ hin hd2
theorem Ai {d:PD}(h:d.Ok):∀ (l:List Int) (s:Int) (i:Nat) (acc:Int×Int),In d.n s→cf d s l i acc=cf (cy d) s l i acc
 | [],s,i,acc,_=>rfl
 | r::l,s,i,acc,hs=>by
  have hb:=(q9 h).1
  unfold cf
  cases h1:gP d.parts r with
  | none =>
   have h2:gP (cy d).parts r=none:=by
    rw[lH hb]
    intro k hk h3
    have hk2:k<(fm d).length:=by rwa [BE]at hk
    rw[ph hk2]at h3
    exact(lH h).1 h1 _ (nf.1 (jx hk2)).1 h3
   rw[h2]
  | some k =>
   obtain⟨hk,h3⟩:=(dP h).1 h1
   have hkm:k∈fm d:=nf.2 ⟨hk,fun e=>by rw[e]at h3;obtain⟨_,h4,_⟩:=h3;cases h4⟩
   obtain⟨j,hj,hjk⟩:=List.getElem_of_mem hkm
   have hg:(fm d).getD j 0=k:=by simp[List.getD_eq_getElem?_getD,hj,hjk]
   have h2:gP (cy d).parts r=some j:=(dP hb).2 ⟨by rw[BE];exact hj,by rw[ph hj,hg];exact h3⟩
   rw[h2]
   dsimp only
   rw[HD h hs hj,hg]
   split
   ·rfl
   ·rename_i hn
    have hin:=(h.tab.col hs k).resolve_left (fun e=>hn (by omega))
    rw[Ai h l _ _ _ hin]
    rfl
theorem wu {d:PD}(h:d.Ok){lv:Int→Bool}(hlv:∀ s,In d.n s→(lv s=true↔ly d.n d.row d.tag s)):∀ (l:List Int) (s:Int) (i:Nat) (acc:Int×Int),In d.n s→cf d s l i acc=cf (dZ lv d) s l i acc
 | [],s,i,acc,_=>rfl
 | r::l,s,i,acc,hs=>by
  unfold cf
  show(match gP d.parts r with|none=>acc|some k=>_)=(match gP d.parts r with|none=>acc|some k=>_)
  cases h1:gP d.parts r with
  | none=>rfl
  | some k =>
   dsimp only
   rw[EK]
   by_cases hneg:col d.row s k<0
   ·have e:col d.row s k = -1:=by
     rcases h.tab.col hs k with e|e
     ·exact e
     ·unfold In at e;omega
    rw[if_pos hneg,if_pos]
    rw[e];simp[dR]
   ·have hin:=(h.tab.col hs k).resolve_left (fun e=>hneg (by omega))
    rw[if_neg hneg]
    by_cases hl:lv (col d.row s k)=true
    ·have e:dR lv (col d.row s k)=col d.row s k:=by simp[dR,hl]
     rw[e,if_neg hneg,wu h hlv l _ _ _ hin]
     rfl
    ·have e:dR lv (col d.row s k) = -1:=by simp[dR,hin.ne,hl]
     have hd:¬ ly d.n d.row d.tag (col d.row s k):=fun h2=>hl ((hlv _ hin).2 h2)
     rw[e,if_neg (fun h2=>hd (.tag hin h2)),if_pos (show(-1:Int)<0 by decide)]
     exact z4 h l _ _ _ hin hd
theorem wL {κ:Int→Int}{d:PD}(h:d.Ok)(hK:jH d.n d.row d.tag κ):∀ (l:List Int) (s j:Int) (i:Nat) (acc:Int×Int),In d.n s→In (cK κ d).n j→κ s=κ (d.st κ j)→cf d s l i acc=cf (cK κ d) j l i acc
 | [],s,j,i,acc,_,_,_=>rfl
 | r::l,s,j,i,acc,hs,hj,he=>by
  have hf:=kX h hK
  have hpO:(cK κ d).p=(d.O κ).length:=by simp[cK,PD.p]
  have hcO:(d.cols κ).length=(d.O κ).length:=by simp[PD.cols]
  have hsj:=(BX h hK hj).1
  obtain⟨t1,ht1,e1⟩:=List.mem_map.1 (JW h hK _ (BX h hK hj).2)
  have it1:=(HN h hK).1.inn t1 ht1
  unfold cf
  cases h1:gP d.parts r with
  | none =>
   have h2:gP (cK κ d).parts r=none:=by
    rw[lH hf]
    intro q hq h3
    rw[hpO]at hq
    rw[qO hq,jY (Fz hq),rq h]at h3
    obtain⟨k,hk,h4⟩:=h3
    have hk2:=(ow h hK).mem _ (jx (Fz hq)) k hk
    exact(lH h).1 h1 k hk2.1 h4
   rw[h2]
  | some k =>
   obtain⟨hk,h3⟩:=(dP h).1 h1
   dsimp only
   have ks:=hK.step s _ hs hsj he k
   have k1:=hK.step t1 _ it1 hsj e1 k
   by_cases hlive:l6 d.row (d.L1 κ) k=true
   ·obtain⟨g,hg,hkg,hrep⟩:=IM h hK hk hlive
    obtain⟨q,hq,hgq⟩:=List.getElem_of_mem (show g∈d.O κ from iH.2 hg)
    have hgq':(d.O κ).getD q 0=g:=by simp[List.getD_eq_getElem?_getD,hq,hgq]
    have h2:gP (cK κ d).parts r=some q:=(dP hf).2 ⟨by omega,by
     rw[qO hq,hgq',jY hg,rq h]
     exact⟨k,hkg,h3⟩⟩
    rw[h2]
    dsimp only
    have hc:(d.cols κ).getD q 0=((d.G κ).getD g []).headD 0:=by
     rw[← hgq']
     exact cM _ _ _ 0 _ hq
    rw[← hc]at hrep
    have hgo:=I7 h hK hj (show q<(d.cols κ).length by omega)
    generalize (d.cols κ).getD q 0=c at hrep hgo
    have ec:κ (col d.row s k)=κ (col d.row (d.st κ j) c):=by
     rw[ks,← k1,← hrep t1 ht1,hK.step t1 _ it1 hsj e1 c]
    rcases hgo with⟨g1,g2⟩|⟨g1,g2,g3⟩
    ·rw[g1,hK.no,hK.col_no h.tab hs]at ec
     rw[ec,g2]
     rfl
    ·have hne:col d.row s k ≠ -1:=fun e=>by
      rw[e,hK.no]at ec
      have:=hK.yes _ g1
      omega
     have hin:=(h.tab.col hs k).resolve_left hne
     have n1:¬ col d.row s k<0:=by have:=hin.1;omega
     have n2:¬ col (cK κ d).row j q<0:=by have:=g2.1;omega
     rw[if_neg n1,if_neg n2]
     have et:d.tag (col d.row s k)=(cK κ d).tag (col (cK κ d).row j q):=by
      rw[GS g2]
      exact hK.tag _ _ hin (BX h hK g2).1 (ec.trans g3.symm)
     rw[et]
     exact wL h hK l _ _ _ _ hin g2 (ec.trans g3.symm)
   ·have hno:col d.row t1 k = -1:=by
     apply Classical.byContradiction
     intro hn
     exact hlive (List.any_eq_true.2 ⟨t1,ht1,by simpa using hn⟩)
    have e:col d.row s k = -1:=by
     rw[← hK.col_no h.tab hs,ks,← k1,hno,hK.no]
    rw[e,if_pos (by omega)]
    cases h2:gP (cK κ d).parts r with
    | none=>rfl
    | some q =>
     exfalso
     obtain⟨hq,h4⟩:=(dP hf).1 h2
     rw[hpO]at hq
     rw[qO hq,jY (Fz hq),rq h]at h4
     obtain⟨k',hk',h4⟩:=h4
     have hk2:=(ow h hK).mem _ (jx (Fz hq)) k' hk'
     have:=lS h h3 h4
     subst this
     exact hlive hk2.2.1
theorem HY {κ:Int→Int}{d:PD}(h:d.Ok)(hK:jH d.n d.row d.tag κ):d.st κ 0=0:=by
 have h1:=(rj h hK).1.first
 show(d.L2 κ).getD 0 0=0
 rw[List.getD_eq_getElem?_getD,h1];rfl
theorem eC.tells {d x:PD}(h:eC d x)(hd:d.Ok)(l:List Int):mV x l=mV d l:=by
 obtain⟨lv,κ,h1,h2,h3,h4,rfl⟩:=h.final hd
 have hb:=(q9 hd).1
 unfold mV
 rw[Ai hd l 0 0 _ hd.zero,wu hb h1 l 0 0 _ hd.zero]
 exact(wL h2 h4 l 0 0 0 _ h2.zero (kX h2 h4).zero (by rw[HY h2 h4])).symm
end
section
open Go
theorem sC {n p:Nat}{κ:Int→Int}{R R':Int→List Int}{s0:Int}(hT:Tab n p R)(h0:In n s0)(he:∀ s,In n s→R s=R' s):∀ i,cA κ R s0 i=cA κ R' s0 i
 | 0=>rfl
 | i+1=>by
  have ih:=sC hT h0 he (κ:=κ) i
  rw[cA,cA,← ih]
  split
  ·rename_i s hs
   rw[he s ((jR hT h0 i).1.inn s (List.mem_of_getElem? hs))]
  ·rfl
section
variable {κ:Int→Int} {d:PD} (h:d.Ok) (hne:∀ q∈d.parts,q≠[]) (hK:jH d.n d.row d.tag κ)
include h hK
end
end
section
open Go
def vR (d:PD):Nat→Int→List Int
 | 0,s=>[d.tag s]
 | r+1,s=>d.tag s::(d.row s).map fun x=>if x = -1 then -1 else(dd (bN ((List.range d.n).map fun i:Nat=>vR d r i)) (vR d r x):Nat)
end
section
open Go
def gI (l:List ai):Int:=l.foldl (fun n s=>n+(s.hi-s.lo+1)) 0
theorem tI (l:List ai)(s:ai):gI (l++[s])=gI l+(s.hi-s.lo+1):=by simp[gI]
theorem AN (l:List ai):∀ n:Int,l.foldl (fun n s=>n+(s.hi-s.lo+1)) n=n+gI l:=by
 induction l with
 | nil=>intro n;simp[gI]
 | cons a l ih =>
  intro n
  unfold gI
  rw[List.foldl_cons,List.foldl_cons,ih,ih (0+_)]
  omega
theorem tJ (a:ai)(l:List ai):gI (a::l)=(a.hi-a.lo+1)+gI l:=by
 have:=AN l (0+(a.hi-a.lo+1))
 unfold gI at *
 rw[List.foldl_cons,this]
 omega
def lW (l:List ai)(x:Nat):Bool:=l.any fun s=>decide (s.lo≤x)&&decide ((x:Int)≤s.hi)
theorem kW {l:List ai}{x:Nat}:lW l x=true↔inS l x:=by
 unfold lW inS
 simp only[List.any_eq_true,Bool.and_eq_true,decide_eq_true_eq]
def nN:Nat:=1114112
theorem xh:nN=1114112:=rfl
attribute [local irreducible] nN
def uH (q:Nat→Bool):Nat:=(List.range nN).countP q
theorem rQ {α:Type}(p q:α→Bool):∀ l:List α,l.countP (fun x=>p x||q x)+l.countP (fun x=>p x&&q x)=l.countP p+l.countP q
 | []=>rfl
 | a::l=>by
  have ih:=rQ p q l
  simp only[List.countP_cons]
  cases p a<;>cases q a<;>simp<;>omega
theorem uF (s:ai)(h0:0≤s.lo)(h1:s.lo≤s.hi+1):∀ n:Nat,((List.range n).countP (fun x:Nat=>decide (s.lo≤x)&&decide ((x:Int)≤s.hi)):Int)=min (n:Int) (s.hi+1)-min (n:Int) s.lo
 | 0=>by simp;omega
 | n+1=>by
  have ih:=uF s h0 h1 n
  rw[List.range_succ,List.countP_append]
  simp only[List.countP_cons,List.countP_nil,Nat.zero_add]
  by_cases h2:s.lo≤n<;>by_cases h3:(n:Int)≤s.hi
  all_goals simp only[h2,h3,decide_true,decide_false,Bool.and_true,Bool.and_false,Bool.true_and,Bool.false_and,if_true,if_false,Bool.false_eq_true]
  all_goals omega
theorem tG:∀ {l:List ai},l8 l→(∀ s∈l,0≤s.lo∧s.hi≤1114111)→gI l=(uH (lW l):Int)
 | [],_,_=>by
  have:uH (lW [])=0:=by
   unfold uH
   rw[List.countP_eq_zero]
   intro x _
   simp[lW]
  rw[this];rfl
 | a::l,hc,hr=>by
  have ih:=tG (qe hc) fun s hs=>hr s (by simp[hs])
  have ha:=hr a (by simp)
  have h1:=hc.2 a (by simp)
  have h2:=rQ (fun x:Nat=>decide (a.lo≤x)&&decide ((x:Int)≤a.hi)) (lW l) (List.range nN)
  have h3:(List.range nN).countP (fun x:Nat=>(decide (a.lo≤x)&&decide ((x:Int)≤a.hi))&&lW l x)=0:=by
   rw[List.countP_eq_zero]
   intro x _ h
   simp only[Bool.and_eq_true,decide_eq_true_eq]at h
   have:=oG hc (kW.1 h.2)
   omega
  have h4:=uF a ha.1 (by omega) nN
  have h5:uH (lW (a::l))=(List.range nN).countP (fun x:Nat=>(decide (a.lo≤x)&&decide ((x:Int)≤a.hi))||lW l x):=rfl
  rw[tJ,ih,h5]
  unfold uH
  rw[h3]at h2
  have htop:=xh
  have e1:min (nN:Int) (a.hi+1)=a.hi+1:=by omega
  have e2:min (nN:Int) a.lo=a.lo:=by omega
  rw[e1,e2]at h4
  generalize (List.range nN).countP (fun x:Nat=>decide (a.lo≤x)&&decide ((x:Int)≤a.hi))=c1 at h2 h4
  generalize (List.range nN).countP (lW l)=c2 at h2 ⊢
  generalize (List.range nN).countP (fun x:Nat=>(decide (a.lo≤x)&&decide ((x:Int)≤a.hi))||lW l x)=c3 at h2 ⊢
  omega
theorem pW {l:List ai}(h:bi l=l):∀ s∈l,0≤s.lo∧s.hi≤1114111:=fun s hs=>by
 have h1:=(eQ h).2 s hs
 have h2:=cx.1 (gS h ⟨s,hs,Int.le_refl _,h1⟩)
 have h3:=cx.1 (gS h ⟨s,hs,h1,Int.le_refl _⟩)
 omega
theorem oQ {l:List ai}(h:bi l=l):gI l=(uH (lW l):Int):=tG (eQ h) (pW h)
theorem Di {l:List ai}(h:∀ s∈l,s.lo≤s.hi):(l.length:Int)≤gI l:=by
 induction l with
 | nil=>simp[gI]
 | cons a l ih =>
  have h1:=ih fun s hs=>h s (by simp[hs])
  have h2:=h a (by simp)
  rw[tJ,List.length_cons]
  omega
theorem oe {l:List ai}(h:bi l=l):l.length≤1114112:=by
 have h1:=oQ h
 have h2:=Di (eQ h).2
 have h3:uH (lW l)≤nN:=by
  unfold uH
  have:=List.countP_le_length (p:=lW l) (l:=List.range nN)
  rwa [List.length_range]at this
 have h4:=xh
 omega
def fW (P:List (List ai)):List ai:=P.flatMap id
theorem GX {P:List (List ai)}{x:Int}:inS (fW P) x↔∃ p∈P,inS p x:=by
 unfold fW inS
 constructor
 ·rintro⟨s,hs,h⟩
  obtain⟨p,hp,hsp⟩:=List.mem_flatMap.1 hs
  exact⟨p,hp,s,hsp,h⟩
 ·rintro⟨p,hp,s,hs,h⟩
  exact⟨s,List.mem_flatMap.2 ⟨p,hp,hs⟩,h⟩
theorem kO {P:List (List ai)}(hn:∀ p∈P,bi p=p){x:Int}:inS (bi (fW P)) x↔∃ p∈P,inS p x:=by
 rw[gV,GX]
 constructor
 ·exact fun h=>h.2
 ·rintro⟨p,hp,h⟩
  exact⟨gS (hn p hp) h,p,hp,h⟩
def kA (P:List (List ai)):Int:=P.foldl (fun n p=>n+gI p) 0
theorem nZ (P:List (List ai))(p:List ai):kA (P++[p])=kA P+gI p:=by simp[kA]
def qm (P:List (List ai)):Prop:=∀ i j,i<j→j<P.length→∀ x,¬ (inS (P.getD i []) x∧inS (P.getD j []) x)
theorem BI {P:List (List ai)}{p:List ai}:qm (P++[p])↔qm P∧∀ x,¬ ((∃ q∈P,inS q x)∧inS p x):=by
 have g1:∀ {i},i<P.length→(P++[p]).getD i []=P.getD i []:=fun hi=>by
  simp[List.getD_eq_getElem?_getD,List.getElem?_append_left hi]
 have g2:(P++[p]).getD P.length []=p:=by simp[List.getD_eq_getElem?_getD]
 constructor
 ·intro h
  refine⟨fun i j hij hj x hx=>h i j hij (by simp;omega) x (by rw[g1 (by omega),g1 hj];exact hx),fun x ⟨⟨q,hq,h1⟩,h2⟩=>?_⟩
  obtain⟨i,hi,rfl⟩:=List.getElem_of_mem hq
  refine h i P.length hi (by simp) x ⟨?_,by rw[g2];exact h2⟩
  rw[g1 hi]
  simpa[List.getD_eq_getElem?_getD,hi] using h1
 ·rintro⟨h1,h2⟩ i j hij hj x ⟨h3,h4⟩
  rw[List.length_append]at hj
  simp only[List.length_cons,List.length_nil]at hj
  by_cases hj2:j<P.length
  ·rw[g1 (by omega)]at h3
   rw[g1 hj2]at h4
   exact h1 i j hij hj2 x ⟨h3,h4⟩
  ·have:j=P.length:=by omega
   subst this
   rw[g2]at h4
   rw[g1 hij]at h3
   refine h2 x ⟨⟨P.getD i [],jx hij,h3⟩,h4⟩
theorem y0 (P:List (List ai)):(∀ p∈P,bi p=p)→gI (bi (fW P))≤kA P∧(gI (bi (fW P))=kA P↔qm P):=by
 refine nY (P:=fun P=>(∀ p∈P,bi p=p)→gI (bi (fW P))≤kA P∧(gI (bi (fW P))=kA P↔qm P)) ?_ ?_ P
 ·intro _
  have e:bi (fW [])=[]:=(qp (l:=[]) (by simp)).1
  rw[e]
  exact⟨Int.le_refl _,fun _ i j _ hj=>by simp at hj,fun _=>rfl⟩
 ·intro P p ih hn
  have hnP:∀ q∈P,bi q=q:=fun q hq=>hn q (by simp[hq])
  have hnp:bi p=p:=hn p (by simp)
  obtain⟨i1,i2⟩:=ih hnP
  have hU:=oQ (nw (fW P))
  have hU2:=oQ (nw (fW (P++[p])))
  have hp:=oQ hnp
  have hco:=rQ (lW (bi (fW P))) (lW p) (List.range nN)
  have hor:(List.range nN).countP (fun x=>lW (bi (fW P)) x||lW p x)=uH (lW (bi (fW (P++[p])))):=by
   unfold uH
   congr 1
   funext x
   rw[Bool.eq_iff_iff,Bool.or_eq_true,kW,kW,kW,kO hnP,kO hn]
   constructor
   ·rintro(⟨q,hq,h⟩|h)
    ·exact⟨q,by simp[hq],h⟩
    ·exact⟨p,by simp,h⟩
   ·rintro⟨q,hq,h⟩
    rcases List.mem_append.1 hq with hq|hq
    ·exact .inl ⟨q,hq,h⟩
    ·simp at hq;subst hq;exact .inr h
  have h0:(List.range nN).countP (fun x=>lW (bi (fW P)) x&&lW p x)=0↔∀ x,¬ ((∃ q∈P,inS q x)∧inS p x):=by
   rw[List.countP_eq_zero]
   constructor
   ·rintro h x ⟨⟨q,hq,h1⟩,h2⟩
    have hs:=cx.1 (gS hnp h2)
    have hx:(x.toNat:Int)=x:=by omega
    have htop:=xh
    refine h x.toNat (by rw[List.mem_range];omega) ?_
    rw[Bool.and_eq_true,kW,kW,hx,kO hnP]
    exact⟨⟨q,hq,h1⟩,h2⟩
   ·intro h x _ hb
    rw[Bool.and_eq_true,kW,kW,kO hnP]at hb
    exact h x hb
  rw[hor]at hco
  rw[nZ,BI,← h0,← i2]
  rw[hU2,hp]
  rw[hU]at i1 i2 ⊢
  unfold uH at *
  generalize (List.range nN).countP (fun x=>lW (bi (fW P)) x&&lW p x)=c1 at hco ⊢
  omega
end
section
open Go
structure jD (n:Nat)(R:Int→List Int)(i:Nat)(front:Int→Prop)(bs:List (List Int)):Prop where
 len:bs.length=n
 mem:∀ (t:Nat),t<n→∀ f:Int,f∈bs.getD t []↔(0≤f∧f<i∧(t:Int)∈R f)∨(f=i∧front t)
theorem jD.begin (n:Nat)(R:Int→List Int):jD n R 0 (fun _=>False) (List.replicate n []) :=
 ⟨by simp,fun t ht f=>by
  have:(List.replicate n ([]:List Int)).getD t []=[]:=by simp[List.getD_eq_getElem?_getD,ht]
  rw[this]
  constructor
  ·intro h;cases h
  ·rintro(⟨h1,h2,_⟩|⟨_,h⟩)
   ·omega
   ·exact h.elim⟩
theorem jD.iff {n:Nat}{R:Int→List Int}{i:Nat}{F F':Int→Prop}{bs:List (List Int)}(hb:jD n R i F bs)(h:∀ t:Nat,F t↔F' t):jD n R i F' bs :=
 ⟨hb.len,fun t ht f=>by rw[hb.mem t ht f,h]⟩
theorem jD.add {n:Nat}{R:Int→List Int}{i:Nat}{F:Int→Prop}{bs:List (List Int)}(hb:jD n R i F bs){x:Nat}(hx:x<n):jD n R i (fun t=>F t∨t=x) (bs.set x (bs.getD x []++[(i:Int)])):=by
 refine⟨by simp[hb.len],fun t ht f=>?_⟩
 have hl:=hb.len
 by_cases e:x=t
 ·subst e
  have:(bs.set x (bs.getD x []++[(i:Int)])).getD x []=bs.getD x []++[(i:Int)]:=by
   rw[List.getD_eq_getElem?_getD,List.getElem?_set_self (by omega)];rfl
  rw[this,List.mem_append,hb.mem x ht f,List.mem_singleton]
  constructor
  ·rintro((h|h)|h)
   ·exact .inl h
   ·exact .inr ⟨h.1,.inl h.2⟩
   ·exact .inr ⟨h,.inr rfl⟩
  ·rintro(h|⟨h,_⟩)
   ·exact .inl (.inl h)
   ·exact .inr h
 ·have:(bs.set x (bs.getD x []++[(i:Int)])).getD t []=bs.getD t []:=by
   rw[List.getD_eq_getElem?_getD,List.getElem?_set_ne e,← List.getD_eq_getElem?_getD]
  rw[this,hb.mem t ht f]
  have e2:¬ ((t:Int)=(x:Int)):=by omega
  simp[e2]
theorem jD.next {n:Nat}{R:Int→List Int}{i:Nat}{bs:List (List Int)}(hb:jD n R i (fun t=>t∈R i) bs):jD n R (i+1) (fun _=>False) bs :=
 ⟨hb.len,fun t ht f=>by
  rw[hb.mem t ht f]
  constructor
  ·rintro(⟨h1,h2,h3⟩|⟨rfl,h⟩)
   ·exact .inl ⟨h1,by omega,h3⟩
   ·exact .inl ⟨by omega,by omega,h⟩
  ·rintro(⟨h1,h2,h3⟩|⟨_,h⟩)
   ·by_cases e:f=i
    ·subst e;exact .inr ⟨rfl,h3⟩
    ·exact .inl ⟨h1,by omega,h3⟩
   ·exact h.elim⟩
structure eR (n:Nat)(R:Int→List Int)(T:Int→Int)(bs:List (List Int))(os:List Bool)(ls:List Nat)(cur:Nat→Prop)(seen:Int→Prop):Prop where
 len:os.length=n
 sound:∀ q:Nat,os[q]?=some true→ly n R T q
 tags:∀ q:Nat,q<n→0≤T q→os[q]?=some true
 left:∀ q∈ls,os[q]?=some true
 closed:∀ q:Nat,os[q]?=some true→q∈ls∨∀ f∈bs.getD q [],os[f.toNat]?=some true∨(cur q∧¬ seen f)
 curs:∀ q,cur q→os[q]?=some true
theorem eR.done {n p:Nat}{R:Int→List Int}{T:Int→Int}{bs:List (List Int)}{os:List Bool}(hT:Tab n p R)(hb:jD n R n (fun _=>False) bs)(h:eR n R T bs os [] (fun _=>False) (fun _=>True)){s:Int}(hs:In n s):os.getD s.toNat false=true↔ly n R T s:=by
 have e:(s.toNat:Int)=s:=by unfold In at hs;omega
 have hlt:s.toNat<os.length:=by rw[h.len];unfold In at hs;omega
 have hg:os.getD s.toNat false=true↔os[s.toNat]?=some true:=by
  rw[List.getD_eq_getElem?_getD,List.getElem?_eq_getElem hlt];simp
 rw[hg]
 constructor
 ·intro h1
  have:=h.sound _ h1
  rwa [e]at this
 ·intro hl
  induction hl with
  | @tag s hs ht=>exact h.tags s.toNat (by unfold In at hs;omega) (by rw[Int.toNat_of_nonneg hs.1];exact ht)
  | @step s x hs hx hxi _ ih =>
   have hx1:=ih hxi (by rw[Int.toNat_of_nonneg hxi.1]) (by rw[h.len];unfold In at hxi;omega) (by
    rw[List.getD_eq_getElem?_getD,List.getElem?_eq_getElem (show x.toNat<os.length by rw[h.len];unfold In at hxi;omega)];simp)
   rcases h.closed _ hx1 with h2|h2
   ·cases h2
   ·have h3:s∈bs.getD x.toNat []:=(hb.mem x.toNat (by unfold In at hxi;omega) s).2 (.inl ⟨hs.1,hs.2,by rw[Int.toNat_of_nonneg hxi.1];exact hx⟩)
    rcases h2 s h3 with h4|h4
    ·exact h4
    ·exact h4.1.elim
theorem eR.pop {n:Nat}{R:Int→List Int}{T:Int→Int}{bs:List (List Int)}{os:List Bool}{ls:List Nat}{i:Nat}(h:eR n R T bs os (ls++[i]) (fun _=>False) (fun _=>True)):eR n R T bs os ls (fun q=>q=i) (fun _=>False):=by
 refine⟨h.len,h.sound,h.tags,fun q hq=>h.left q (by simp[hq]),fun q hq=>?_,fun q hq=>by subst hq;exact h.left q (by simp)⟩
 rcases h.closed q hq with h1|h1
 ·rcases List.mem_append.1 h1 with h1|h1
  ·exact .inl h1
  ·simp at h1;subst h1
   exact .inr fun f _ => .inr ⟨rfl,fun h=>h⟩
 ·right
  intro f hf
  rcases h1 f hf with h2|h2
  ·exact .inl h2
  ·exact h2.1.elim
theorem eR.iff {n:Nat}{R:Int→List Int}{T:Int→Int}{bs:List (List Int)}{os:List Bool}{ls:List Nat}{cur:Nat→Prop}{S S':Int→Prop}(h:eR n R T bs os ls cur S)(hs:∀ f,S' f→S f):eR n R T bs os ls cur S' :=
 ⟨h.len,h.sound,h.tags,h.left,fun q hq=>(h.closed q hq).imp id fun h1 f hf=>(h1 f hf).imp id fun⟨a,b⟩=>⟨a,fun c=>b (hs f c)⟩,h.curs⟩
theorem eR.old {n:Nat}{R:Int→List Int}{T:Int→Int}{bs:List (List Int)}{os:List Bool}{ls:List Nat}{cur:Nat→Prop}{S:Int→Prop}(h:eR n R T bs os ls cur S){x:Int}(hx:os[x.toNat]?=some true):eR n R T bs os ls cur (fun f=>S f∨f=x) :=
 ⟨h.len,h.sound,h.tags,h.left,fun q hq=>(h.closed q hq).imp id fun h1 f hf=>by
  rcases h1 f hf with h2|h2
  ·exact .inl h2
  ·by_cases e:f=x
   ·subst e;exact .inl hx
   ·exact .inr ⟨h2.1,fun h3=>h3.elim h2.2 e⟩,h.curs⟩
theorem xz {os:List Bool}{i q:Nat}(hi:i<os.length):(os.set i true)[q]?=some true↔q=i∨os[q]?=some true:=by
 rw[List.getElem?_set]
 by_cases e:i=q
 ·subst e;simp[hi]
 ·have e2:¬ q=i:=fun h=>e h.symm
  simp[e,e2]
theorem eR.mark {n:Nat}{R:Int→List Int}{T:Int→Int}{bs:List (List Int)}{os:List Bool}{ls:List Nat}{cur:Nat→Prop}{S:Int→Prop}(h:eR n R T bs os ls cur S){x:Int}(hx:In n x)(hl:ly n R T x):eR n R T bs (os.set x.toNat true) (ls++[x.toNat]) cur (fun f=>S f∨f=x):=by
 have hlt:x.toNat<os.length:=by rw[h.len];unfold In at hx;omega
 have st:=fun q=>xz (q:=q) hlt
 refine⟨by simp[h.len],fun q hq=>?_,fun q hq hT=>(st q).2 (.inr (h.tags q hq hT)),fun q hq=>(st q).2 ?_,fun q hq=>?_,fun q hq=>(st q).2 (.inr (h.curs q hq))⟩
 ·rcases (st q).1 hq with rfl|h1
  ·rw[Int.toNat_of_nonneg hx.1];exact hl
  ·exact h.sound q h1
 ·rcases List.mem_append.1 hq with hq|hq
  ·exact .inr (h.left q hq)
  ·simp at hq;exact .inl hq
 ·rcases (st q).1 hq with rfl|h1
  ·exact .inl (by simp)
  ·rcases h.closed q h1 with h2|h2
   ·exact .inl (by simp[h2])
   ·right
    intro f hf
    rcases h2 f hf with h3|h3
    ·exact .inl ((st _).2 (.inr h3))
    ·by_cases e:f=x
     ·subst e;exact .inl ((st _).2 (.inl rfl))
     ·exact .inr ⟨h3.1,fun h4=>h4.elim h3.2 e⟩
theorem eR.end_ {n:Nat}{R:Int→List Int}{T:Int→Int}{bs:List (List Int)}{os:List Bool}{ls:List Nat}{i:Nat}(h:eR n R T bs os ls (fun q=>q=i) (fun f=>f∈bs.getD i [])):eR n R T bs os ls (fun _=>False) (fun _=>True):=by
 refine⟨h.len,h.sound,h.tags,h.left,fun q hq=>(h.closed q hq).imp id fun h1 f hf=>?_,fun q hq=>hq.elim⟩
 rcases h1 f hf with h2|⟨rfl,h2⟩
 ·exact .inl h2
 ·exact absurd hf h2
def kQ (T:List Int)(n i:Nat):List Bool:=(List.range n).map fun q=>decide (q<i∧0≤T.getD q (-1))
def pk (T:List Int)(i:Nat):List Nat:=(List.range i).filter fun q=>decide (0≤T.getD q (-1))
theorem qq {T:List Int}{n i q:Nat}:(kQ T n i)[q]?=some true↔q<n∧q<i∧0≤T.getD q (-1):=by
 unfold kQ
 rw[List.getElem?_map]
 by_cases h:q<n
 ·rw[List.getElem?_range h];simp[h]
 ·rw[List.getElem?_eq_none (by simpa using h)];simp[h]
theorem vZ (T:List Int)(i:Nat):pk T (i+1)=pk T i++(if 0≤T.getD i (-1) then [i] else []):=by
 unfold pk
 rw[List.range_succ,List.filter_append]
 congr 1
 by_cases h:0≤T.getD i (-1)
 ·rw[if_pos h,List.filter_cons_of_pos (by simpa using h)];rfl
 ·rw[if_neg h,List.filter_cons_of_neg (by simpa using h)];rfl
theorem yK (T:List Int)(i:Nat):(pk T i).length≤i:=by
 have:=List.length_filter_le (fun q=>decide (0≤T.getD q (-1))) (List.range i)
 rw[List.length_range]at this
 exact this
theorem v6 {T:List Int}{n i:Nat}(hi:i<n):kQ T n (i+1)=if 0≤T.getD i (-1) then(kQ T n i).set i true else kQ T n i:=by
 by_cases h:0≤T.getD i (-1)
 ·rw[if_pos h]
  refine List.ext_getElem (by simp[kQ]) fun q h1 h2=>?_
  rw[List.getElem_set]
  simp only[kQ,List.getElem_map,List.getElem_range]
  by_cases e:i=q
  ·subst e
   rw[if_pos rfl]
   exact decide_eq_true ⟨by omega,h⟩
  ·rw[if_neg e]
   exact decide_eq_decide.2 (and_congr_left fun _=>by omega)
 ·rw[if_neg h]
  unfold kQ
  apply List.map_congr_left
  intro q _
  by_cases e:i=q
  ·subst e
   exact decide_eq_decide.2 ⟨fun a=>absurd a.2 h,fun a=>absurd a.2 h⟩
  ·exact decide_eq_decide.2 (and_congr_left fun _=>by omega)
theorem HW {n:Nat}{R:Int→List Int}{T:List Int}{bs:List (List Int)}:eR n R (fun s=>T.getD s.toNat (-1)) bs (kQ T n n) (pk T n) (fun _=>False) (fun _=>True):=by
 refine⟨by simp[kQ],fun q hq=>?_,fun q hq hT=>?_,fun q hq=>?_,fun q hq=>?_,fun q hq=>hq.elim⟩
 ·obtain⟨h1,h2,h3⟩:=qq.1 hq
  exact .tag (by unfold In;omega) (by simpa using h3)
 ·exact qq.2 ⟨hq,hq,by simpa using hT⟩
 ·unfold pk at hq
  rw[List.mem_filter,List.mem_range]at hq
  exact qq.2 ⟨hq.1,hq.1,by simpa using hq.2⟩
 ·left
  obtain⟨h1,h2,h3⟩:=qq.1 hq
  unfold pk
  rw[List.mem_filter,List.mem_range]
  exact⟨h1,by simpa using h3⟩
theorem CZ (T:List Int)(n:Nat):(pk T n).length+(kQ T n n).count false=n:=by
 have h1:(pk T n).length=(List.range n).countP fun q=>decide (0≤T.getD q (-1)):=by
  unfold pk
  rw[List.countP_eq_length_filter]
 have h2:(kQ T n n).count false=(List.range n).countP fun q => !decide (0≤T.getD q (-1)):=by
  unfold kQ
  rw[List.count_eq_countP,List.countP_map]
  apply List.countP_congr
  intro q hq
  rw[List.mem_range]at hq
  simp[Function.comp,hq]
 have h3:=List.length_eq_countP_add_countP (fun q=>decide (0≤T.getD q (-1))) (l:=List.range n)
 rw[List.length_range]at h3
 have h4:(List.range n).countP (fun q => !decide (0≤T.getD q (-1)))=(List.range n).countP (fun a=>decide ¬(fun q=>decide (0≤T.getD q (-1))) a=true):=by
  apply List.countP_congr
  intro q _
  simp
 rw[h1,h2,h4]
 exact h3.symm
end
end Go.Proofs.YtlnobeojgifojaaGreatDoor
