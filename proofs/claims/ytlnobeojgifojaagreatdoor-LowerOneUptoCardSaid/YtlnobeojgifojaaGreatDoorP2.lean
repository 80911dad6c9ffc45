/- Least machines, plainly: empty parts, dead states; what the least machine tells. Least machines, plainly: by any names the same; twice the same. Least machines, plainly: states told apart in as many rounds as there are states. How many a set has; sets that have nothing in common. Which states are live: the plain law of the search. -/
import Derived.Test.YtlnobeojgifojaaGreatDoorP1
set_option linter.unusedVariables false
set_option linter.unusedSimpArgs false
namespace Go.Proofs.YtlnobeojgifojaaGreatDoor
section
open Go
theorem o7 {l m:List Int}(hl:l.length=m.length)(h:∀ k,k<l.length→l.getD k (-1)=m.getD k (-1)):l=m:=by
 refine List.ext_getElem hl fun i h1 h2=>?_
 have:=h i h1
 simpa[List.getD_eq_getElem?_getD,h1,h2] using this
def ej (d:PD):List Nat:=(List.range d.p).filter fun k => !(d.part k).isEmpty
def cm (d:PD):PD:=⟨(ej d).map d.part,d.next.map fun r=>(ej d).map fun k=>r.getD k (-1),d.tags⟩
def c6 (lv:Int→Bool)(x:Int):Int:=if x ≠ -1∧lv x=false then -1 else x
def dp (lv:Int→Bool)(d:PD):PD:=⟨d.parts,d.next.map fun r=>r.map (c6 lv),d.tags⟩
inductive j0 (n:Nat) (R:Int→List Int) (T:Int→Int):Int→Prop
 | tag {s}:In n s→0≤T s→j0 n R T s
 | step {s x}:In n s→x∈R s→In n x→j0 n R T x→j0 n R T s
structure dY (d x:PD):Prop where
 ex:∃ (lv:Int→Bool) (κ:Int→Int),(∀ s,In d.n s→(lv s=true↔j0 d.n (cm d).row d.tag s))∧iV d.n (dp lv (cm d)).row d.tag κ∧x=cA κ (dp lv (cm d))
theorem zi (d:PD):(cm d).p=(ej d).length:=by simp[cm,PD.p]
theorem lN {d:PD}{k:Nat}:k∈ej d↔k<d.p∧d.part k≠[]:=by
 simp[ej,List.mem_filter]
theorem nA {d:PD}{j:Nat}(hj:j<(ej d).length):(cm d).part j=d.part ((ej d).getD j 0):=cV _ _ _ 0 _ hj
theorem Ez {d:PD}(h:d.Ok){s:Int}(hs:In d.n s):(cm d).row s=(ej d).map (col d.row s):=by
 have h1:s.toNat<d.next.length:=by rw[h.nl];unfold In at hs;omega
 exact cV _ _ _ [] _ h1
theorem BN {lv:Int→Bool}{d:PD}(s:Int):(dp lv d).row s=(d.row s).map (c6 lv):=by
 unfold PD.row dp
 by_cases h:s.toNat<d.next.length
 ·exact cV _ _ _ [] _ h
 ·rw[gn (by simpa using h),gn h];rfl
theorem BO {lv:Int→Bool}{d:PD}(s:Int)(k:Nat):col (dp lv d).row s k=c6 lv (col d.row s k):=by
 unfold col
 rw[BN]
 by_cases h:k<(d.row s).length
 ·exact cV _ _ _ (-1) _ h
 ·rw[gn (by simpa using h),gn h];simp[c6]
theorem EA {d:PD}(h:d.Ok){s:Int}(hs:In d.n s){j:Nat}(hj:j<(ej d).length):col (cm d).row s j=col d.row s ((ej d).getD j 0):=by
 show((cm d).row s).getD j (-1)=_
 rw[Ez h hs]
 exact cV _ _ _ 0 _ hj
theorem xM (d:PD):(ej d).Nodup:=List.Pairwise.filter _ List.nodup_range
theorem ph {d:PD}(h:d.Ok):(cm d).Ok∧∀ q∈(cm d).parts,q≠[]:=by
 have hlen:(cm d).p=(ej d).length:=zi d
 refine⟨⟨?_,h.n1,h.n2,by simp[cm,h.nl],fun q hq=>?_,fun i j hij hj x ⟨h1,h2⟩=>?_,fun r hr=>?_,h.tags⟩,fun q hq=>?_⟩
 ·rw[hlen]
  have:=List.length_filter_le (fun k => !(d.part k).isEmpty) (List.range d.p)
  rw[List.length_range]at this
  have:=h.p1
  unfold ej;omega
 ·obtain⟨k,hk,rfl⟩:=List.mem_map.1 hq
  exact h.norm _ (PD.part_mem (lN.1 hk).1)
 ·rw[hlen]at hj
  rw[nA HT]at h1
  rw[nA hj]at h2
  have e:=kB h h1 h2
  have h3:i<(ej d).length:=by omega
  simp only[List.getD_eq_getElem?_getD,List.getElem?_eq_getElem hj,List.getElem?_eq_getElem h3,Option.getD_some]at e
  have:=(List.getElem_inj (h₀:=h3) (h₁:=hj) (xM d)).1 e
  omega
 ·obtain⟨r0,hr0,rfl⟩:=List.mem_map.1 hr
  refine⟨by simp[hlen],fun x hx=>?_⟩
  obtain⟨k,hk,rfl⟩:=List.mem_map.1 hx
  rcases kF (l:=r0) (i:=k) (d := -1) with h1|h1
  ·exact .inl h1
  ·exact(h.rows r0 hr0).2 _ h1
 ·obtain⟨k,hk,rfl⟩:=List.mem_map.1 hq
  exact(lN.1 hk).2
theorem BP {lv:Int→Bool}{n:Nat}{x:Int}(h:x = -1∨In n x):c6 lv x = -1∨In n (c6 lv x):=by
 unfold c6
 split
 ·exact .inl rfl
 ·exact h
theorem wR {d:PD}(h:d.Ok)(lv:Int→Bool):(dp lv d).Ok :=
 ⟨h.p1,h.n1,h.n2,by simp[dp,h.nl],h.norm,h.apart,fun r hr=>by
  obtain⟨r0,hr0,rfl⟩:=List.mem_map.1 hr
  refine⟨by rw[List.length_map];exact(h.rows r0 hr0).1,fun x hx=>?_⟩
  obtain⟨y,hy,rfl⟩:=List.mem_map.1 hx
  exact BP ((h.rows r0 hr0).2 y hy),h.tags⟩
theorem dY.final {d x:PD}(h:dY d x)(hd:d.Ok):∃ (lv:Int→Bool) (κ:Int→Int),(∀ s,In d.n s→(lv s=true↔j0 d.n (cm d).row d.tag s))∧(dp lv (cm d)).Ok∧(∀ q∈(dp lv (cm d)).parts,q≠[])∧iV (dp lv (cm d)).n (dp lv (cm d)).row (dp lv (cm d)).tag κ∧x=cA κ (dp lv (cm d)):=by
 obtain⟨lv,κ,h1,h2,h3⟩:=h.ex
 exact⟨lv,κ,h1,wR (ph hd).1 lv,(ph hd).2,h2,h3⟩
theorem dY.ok {d x:PD}(h:dY d x)(hd:d.Ok):x.Ok:=by
 obtain⟨lv,κ,h1,h2,h3,h4,rfl⟩:=h.final hd
 exact jO h2 h4
theorem dY.few {d x:PD}(h:dY d x)(hd:d.Ok):x.n≤d.n∧x.p≤d.p:=by
 obtain⟨lv,κ,h1,h2,h3,h4,rfl⟩:=h.final hd
 constructor
 ·rw[xg]
  exact(pi h2 h4).1.most
 ·rw[DK]
  have hb:(dp lv (cm d)).p≤d.p:=by
   show(cm d).p≤_
   have:=List.length_filter_le (fun k => !(d.part k).isEmpty) (List.range d.p)
   rw[List.length_range]at this
   simp only[PD.p,cm,ej,List.length_map];exact this
  have h5:=(jO h2 h4)
  have h6:((dp lv (cm d)).cols κ).length≤(dp lv (cm d)).p:=by
   have hgr:=mO h2 h4
   have hd2:((dp lv (cm d)).cols κ).Nodup:=by
    unfold PD.cols
    refine List.Pairwise.map _ (R:=fun a b=>a∈(dp lv (cm d)).O κ∧b∈(dp lv (cm d)).O κ∧a≠b) (fun a b ⟨ha,hb,hab⟩ e=>hab ?_) (List.Pairwise.and_mem.1 (n9 _ _))
    have ha:=gm.1 ha
    have hb:=gm.1 hb
    refine hgr.apart a b _ _ (by rw[List.getElem?_eq_getElem ha]) (by rw[List.getElem?_eq_getElem hb]) ?_
    have e1:((dp lv (cm d)).G κ).getD a []=((dp lv (cm d)).G κ)[a]:=by simp[List.getD_eq_getElem?_getD,ha]
    have e2:((dp lv (cm d)).G κ).getD b []=((dp lv (cm d)).G κ)[b]:=by simp[List.getD_eq_getElem?_getD,hb]
    rw[← e1,← e2,e]
    exact kJ _
   have h7:=mH (dp lv (cm d)).p (((dp lv (cm d)).cols κ).map fun c:Nat=>(c:Int)) (List.Pairwise.map _ (fun a b hab e=>hab (Int.ofNat.inj e)) hd2) fun x hx=>by
    obtain⟨c,hc,rfl⟩:=List.mem_map.1 hx
    have:=(vO h2 h4 hc).1
    unfold In;omega
   simpa using h7
  exact Nat.le_trans h6 hb
def f6 (parts:List (List am))(r:Int):Option Nat:=parts.findIdx? fun q=>yT q r
def bT (d:PD):Int→List Int→Nat→Int×Int→Int×Int
 | _,[],_,acc=>acc
 | s,r::l,i,acc=>match f6 d.parts r with
  | none=>acc
  | some k=>if col d.row s k<0 then acc else bT d (col d.row s k) l (i+1) (if 0≤d.tag (col d.row s k) then((i:Int)+1,d.tag (col d.row s k)) else acc)
def lD (d:PD)(l:List Int):Int×Int:=bT d 0 l 0 (0,-1)
theorem se {q:List am}(hq:aZ q=q){r:Int}:yT q r=true↔inS q r:=by
 rw[← (jb q).2 r,hq]
theorem en {d:PD}(h:d.Ok){r:Int}{k:Nat}:f6 d.parts r=some k↔k<d.p∧inS (d.part k) r:=by
 unfold f6
 rw[List.findIdx?_eq_some_iff_getElem]
 have hp:∀ {k:Nat} (hk:k<d.p),d.parts[k]=d.part k:=fun hk=>by simp[PD.part,List.getD_eq_getElem?_getD,hk]
 constructor
 ·rintro⟨hk,h1,_⟩
  rw[hp hk,se (gG h k)]at h1
  exact⟨hk,h1⟩
 ·rintro⟨hk,h1⟩
  refine⟨hk,by rw[hp hk,se (gG h k)];exact h1,fun j hj=>?_⟩
  rw[hp (show j<d.p by omega),se (gG h j)]
  intro h2
  have:=kB h h2 h1
  omega
theorem kf {d:PD}(h:d.Ok){r:Int}:f6 d.parts r=none↔∀ k,k<d.p→¬ inS (d.part k) r:=by
 constructor
 ·intro h1 k hk h2
  rw[(en h).2 ⟨hk,h2⟩]at h1
  cases h1
 ·intro h1
  cases h2:f6 d.parts r with
  | none=>rfl
  | some k =>
   obtain⟨h3,h4⟩:=(en h).1 h2
   exact absurd h4 (h1 k h3)
theorem xy {d:PD}(h:d.Ok):∀ (l:List Int) (s:Int) (i:Nat) (acc:Int×Int),In d.n s→¬ j0 d.n d.row d.tag s→bT d s l i acc=acc
 | [],s,i,acc,_,_=>rfl
 | r::l,s,i,acc,hs,hd=>by
  unfold bT
  split
  ·rfl
  ·rename_i k _
   split
   ·rfl
   ·rename_i hn
    have hne:col d.row s k ≠ -1:=fun e=>hn HT
    have hin:=(h.tab.col hs k).resolve_left hne
    have hd2:¬ j0 d.n d.row d.tag (col d.row s k):=fun h1=>hd (.step hs (zR hne) hin h1)
    rw[if_neg (fun h1=>hd2 (.tag hin h1))]
    exact xy h l _ _ _ hin hd2
theorem xL {d:PD}(h:d.Ok):∀ (l:List Int) (s:Int) (i:Nat) (acc:Int×Int),In d.n s→bT d s l i acc=bT (cm d) s l i acc
 | [],s,i,acc,_=>rfl
 | r::l,s,i,acc,hs=>by
  have hb:=(ph h).1
  unfold bT
  cases h1:f6 d.parts r with
  | none =>
   have h2:f6 (cm d).parts r=none:=by
    rw[kf hb]
    intro k hk h3
    have hk2:k<(ej d).length:=by rwa [zi]at hk
    rw[nA hk2]at h3
    exact(kf h).1 h1 _ (lN.1 (jg hk2)).1 h3
   rw[h2]
  | some k =>
   obtain⟨hk,h3⟩:=(en h).1 h1
   have hkm:k∈ej d:=lN.2 ⟨hk,fun e=>by rw[e]at h3;obtain⟨_,h4,_⟩:=h3;cases h4⟩
   obtain⟨j,hj,hjk⟩:=List.getElem_of_mem hkm
   have hg:(ej d).getD j 0=k:=by simp[List.getD_eq_getElem?_getD,hj,hjk]
   have h2:f6 (cm d).parts r=some j:=(en hb).2 ⟨by rw[zi];exact hj,by rw[nA hj,hg];exact h3⟩
   rw[h2]
   dsimp only
   rw[EA h hs hj,hg]
   split
   ·rfl
   ·rename_i hn
    have hin:=(h.tab.col hs k).resolve_left (fun e=>hn HT)
    rw[xL h l _ _ _ hin]
    rfl
theorem tZ {d:PD}(h:d.Ok){lv:Int→Bool}(hlv:∀ s,In d.n s→(lv s=true↔j0 d.n d.row d.tag s)):∀ (l:List Int) (s:Int) (i:Nat) (acc:Int×Int),In d.n s→bT d s l i acc=bT (dp lv d) s l i acc
 | [],s,i,acc,_=>rfl
 | r::l,s,i,acc,hs=>by
  unfold bT
  show(match f6 d.parts r with|none=>acc|some k=>_)=(match f6 d.parts r with|none=>acc|some k=>_)
  cases h1:f6 d.parts r with
  | none=>rfl
  | some k =>
   dsimp only
   rw[BO]
   by_cases hneg:col d.row s k<0
   ·have e:col d.row s k = -1:=by
     rcases h.tab.col hs k with e|e
     ·exact e
     ·unfold In at e;omega
    rw[if_pos hneg,if_pos]
    rw[e];simp[c6]
   ·have hin:=(h.tab.col hs k).resolve_left (fun e=>hneg HT)
    rw[if_neg hneg]
    by_cases hl:lv (col d.row s k)=true
    ·have e:c6 lv (col d.row s k)=col d.row s k:=by simp[c6,hl]
     rw[e,if_neg hneg,tZ h hlv l _ _ _ hin]
     rfl
    ·have e:c6 lv (col d.row s k) = -1:=by simp[c6,hin.ne,hl]
     have hd:¬ j0 d.n d.row d.tag (col d.row s k):=fun h2=>hl ((hlv _ hin).2 h2)
     rw[e,if_neg (fun h2=>hd (.tag hin h2)),if_pos (show(-1:Int)<0 by decide)]
     exact xy h l _ _ _ hin hd
theorem uh {κ:Int→Int}{d:PD}(h:d.Ok)(hK:iV d.n d.row d.tag κ):∀ (l:List Int) (s j:Int) (i:Nat) (acc:Int×Int),In d.n s→In (cA κ d).n j→κ s=κ (d.st κ j)→bT d s l i acc=bT (cA κ d) j l i acc
 | [],s,j,i,acc,_,_,_=>rfl
 | r::l,s,j,i,acc,hs,hj,he=>by
  have hf:=jO h hK
  have hpO:(cA κ d).p=(d.O κ).length:=by simp[cA,PD.p]
  have hcO:(d.cols κ).length=(d.O κ).length:=by simp[PD.cols]
  have hsj:=(zt h hK hj).1
  obtain⟨t1,ht1,e1⟩:=List.mem_map.1 (GJ h hK _ (zt h hK hj).2)
  have it1:=(EK h hK).1.inn t1 ht1
  unfold bT
  cases h1:f6 d.parts r with
  | none =>
   have h2:f6 (cA κ d).parts r=none:=by
    rw[kf hf]
    intro q hq h3
    rw[hpO]at hq
    rw[oY hq,iW (CE hq),pp h]at h3
    obtain⟨k,hk,h4⟩:=h3
    have hk2:=(mO h hK).mem _ (jg (CE hq)) k hk
    exact(kf h).1 h1 k hk2.1 h4
   rw[h2]
  | some k =>
   obtain⟨hk,h3⟩:=(en h).1 h1
   dsimp only
   have ks:=hK.step s _ hs hsj he k
   have k1:=hK.step t1 _ it1 hsj e1 k
   by_cases hlive:kI d.row (d.L1 κ) k=true
   ·obtain⟨g,hg,hkg,hrep⟩:=FF h hK hk hlive
    obtain⟨q,hq,hgq⟩:=List.getElem_of_mem (show g∈d.O κ from gm.2 hg)
    have hgq':(d.O κ).getD q 0=g:=by simp[List.getD_eq_getElem?_getD,hq,hgq]
    have h2:f6 (cA κ d).parts r=some q:=(en hf).2 ⟨by omega,by
     rw[oY hq,hgq',iW hg,pp h]
     exact⟨k,hkg,h3⟩⟩
    rw[h2]
    dsimp only
    have hc:(d.cols κ).getD q 0=((d.G κ).getD g []).headD 0:=by
     rw[← hgq']
     exact cV _ _ _ 0 _ hq
    rw[← hc]at hrep
    have hgo:=FW h hK hj (show q<(d.cols κ).length by omega)
    generalize (d.cols κ).getD q 0=c at hrep hgo
    have ec:κ (col d.row s k)=κ (col d.row (d.st κ j) c):=by
     rw[ks,← k1,← hrep t1 ht1,hK.step t1 _ it1 hsj e1 c]
    rcases hgo with⟨g1,g2⟩|⟨g1,g2,g3⟩
    ·rw[g1,hK.no,hK.col_no h.tab hs]at ec
     rw[ec,g2]
     rfl
    ·have hne:col d.row s k ≠ -1:=fun e=>by
      rw[e,hK.no]at ec
      have:=hK.yes _ g1
      omega
     have hin:=(h.tab.col hs k).resolve_left hne
     have n1:¬ col d.row s k<0:=by have:=hin.1;omega
     have n2:¬ col (cA κ d).row j q<0:=by have:=g2.1;omega
     rw[if_neg n1,if_neg n2]
     have et:d.tag (col d.row s k)=(cA κ d).tag (col (cA κ d).row j q):=by
      rw[DJ g2]
      exact hK.tag _ _ hin (zt h hK g2).1 (ec.trans g3.symm)
     rw[et]
     exact uh h hK l _ _ _ _ hin g2 (ec.trans g3.symm)
   ·have hno:col d.row t1 k = -1:=by
     apply Classical.byContradiction
     intro hn
     exact hlive (List.any_eq_true.2 ⟨t1,ht1,by simpa using hn⟩)
    have e:col d.row s k = -1:=by
     rw[← hK.col_no h.tab hs,ks,← k1,hno,hK.no]
    rw[e,if_pos HT]
    cases h2:f6 (cA κ d).parts r with
    | none=>rfl
    | some q =>
     exfalso
     obtain⟨hq,h4⟩:=(en hf).1 h2
     rw[hpO]at hq
     rw[oY hq,iW (CE hq),pp h]at h4
     obtain⟨k',hk',h4⟩:=h4
     have hk2:=(mO h hK).mem _ (jg (CE hq)) k' hk'
     have:=kB h h3 h4
     subst this
     exact hlive hk2.2.1
theorem EX {κ:Int→Int}{d:PD}(h:d.Ok)(hK:iV d.n d.row d.tag κ):d.st κ 0=0:=by
 have h1:=(pi h hK).1.first
 show(d.L2 κ).getD 0 0=0
 rw[List.getD_eq_getElem?_getD,h1];rfl
theorem dY.tells {d x:PD}(h:dY d x)(hd:d.Ok)(l:List Int):lD x l=lD d l:=by
 obtain⟨lv,κ,h1,h2,h3,h4,rfl⟩:=h.final hd
 have hb:=(ph hd).1
 unfold lD
 rw[xL hd l 0 0 _ hd.zero,tZ hb h1 l 0 0 _ hd.zero]
 exact(uh h2 h4 l 0 0 0 _ h2.zero (jO h2 h4).zero (by rw[EX h2 h4])).symm
end
section
open Go
theorem qu {n p:Nat}{κ:Int→Int}{R R':Int→List Int}{s0:Int}(hT:Tab n p R)(h0:In n s0)(he:∀ s,In n s→R s=R' s):∀ i,cp κ R s0 i=cp κ R' s0 i
 | 0=>rfl
 | i+1=>by
  have ih:=qu hT h0 he (κ:=κ) i
  rw[cp,cp,← ih]
  split
  ·rename_i s hs
   rw[he s ((iL hT h0 i).1.inn s (List.mem_of_getElem? hs))]
  ·rfl
section
variable {κ:Int→Int} {d:PD} (h:d.Ok) (hne:∀ q∈d.parts,q≠[]) (hK:iV d.n d.row d.tag κ)
include h hK
end
end
section
open Go
def vR (d:PD):Nat→Int→List Int
 | 0,s=>[d.tag s]
 | r+1,s=>d.tag s::(d.row s).map fun x=>if x = -1 then -1 else(cH (bB ((List.range d.n).map fun i:Nat=>vR d r i)) (vR d r x):Nat)
end
section
open Go
def fK (l:List am):Int:=l.foldl (fun n s=>n+(s.hi-s.lo+1)) 0
theorem rr (l:List am)(s:am):fK (l++[s])=fK l+(s.hi-s.lo+1):=by simp[fK]
theorem yn (l:List am):∀ n:Int,l.foldl (fun n s=>n+(s.hi-s.lo+1)) n=n+fK l:=by
 induction l with
 | nil=>intro n;simp[fK]
 | cons a l ih =>
  intro n
  unfold fK
  rw[List.foldl_cons,List.foldl_cons,ih,ih (0+_)]
  omega
theorem rt (a:am)(l:List am):fK (a::l)=(a.hi-a.lo+1)+fK l:=by
 have:=yn l (0+(a.hi-a.lo+1))
 unfold fK at *
 rw[List.foldl_cons,this]
 omega
def kE (l:List am)(x:Nat):Bool:=l.any fun s=>decide (s.lo≤x)&&decide ((x:Int)≤s.hi)
theorem jN {l:List am}{x:Nat}:kE l x=true↔inS l x:=by
 unfold kE inS
 simp only[List.any_eq_true,Bool.and_eq_true,decide_eq_true_eq]
def mg:Nat:=1114112
theorem uI:mg=1114112:=rfl
attribute [local irreducible] mg
def su (q:Nat→Bool):Nat:=(List.range mg).countP q
theorem pO {α:Type}(p q:α→Bool):∀ l:List α,l.countP (fun x=>p x||q x)+l.countP (fun x=>p x&&q x)=l.countP p+l.countP q
 | []=>rfl
 | a::l=>by
  have ih:=pO p q l
  simp only[List.countP_cons]
  cases p a<;>cases q a<;>simp<;>omega
theorem sr (s:am)(h0:0≤s.lo)(h1:s.lo≤s.hi+1):∀ n:Nat,((List.range n).countP (fun x:Nat=>decide (s.lo≤x)&&decide ((x:Int)≤s.hi)):Int)=min (n:Int) (s.hi+1)-min (n:Int) s.lo
 | 0=>by simp;omega
 | n+1=>by
  have ih:=sr s h0 h1 n
  rw[List.range_succ,List.countP_append]
  simp only[List.countP_cons,List.countP_nil,Nat.zero_add]
  by_cases h2:s.lo≤n<;>by_cases h3:(n:Int)≤s.hi
  all_goals simp only[h2,h3,decide_true,decide_false,Bool.and_true,Bool.and_false,Bool.true_and,Bool.false_and,if_true,if_false,Bool.false_eq_true]
  all_goals omega
theorem ro:∀ {l:List am},ld l→(∀ s∈l,0≤s.lo∧s.hi≤1114111)→fK l=(su (kE l):Int)
 | [],_,_=>by
  have:su (kE [])=0:=by
   unfold su
   rw[List.countP_eq_zero]
   intro x _
   simp[kE]
  rw[this];rfl
 | a::l,hc,hr=>by
  have ih:=ro (oq hc) fun s hs=>hr s (by simp[hs])
  have ha:=hr a HU
  have h1:=hc.2 a HU
  have h2:=pO (fun x:Nat=>decide (a.lo≤x)&&decide ((x:Int)≤a.hi)) (kE l) (List.range mg)
  have h3:(List.range mg).countP (fun x:Nat=>(decide (a.lo≤x)&&decide ((x:Int)≤a.hi))&&kE l x)=0:=by
   rw[List.countP_eq_zero]
   intro x _ h
   simp only[Bool.and_eq_true,decide_eq_true_eq]at h
   have:=mY hc (jN.1 h.2)
   omega
  have h4:=sr a ha.1 HT mg
  have h5:su (kE (a::l))=(List.range mg).countP (fun x:Nat=>(decide (a.lo≤x)&&decide ((x:Int)≤a.hi))||kE l x):=rfl
  rw[rt,ih,h5]
  unfold su
  rw[h3]at h2
  have htop:=uI
  have e1:min (mg:Int) (a.hi+1)=a.hi+1:=by omega
  have e2:min (mg:Int) a.lo=a.lo:=by omega
  rw[e1,e2]at h4
  generalize (List.range mg).countP (fun x:Nat=>decide (a.lo≤x)&&decide ((x:Int)≤a.hi))=c1 at h2 h4
  generalize (List.range mg).countP (kE l)=c2 at h2 ⊢
  generalize (List.range mg).countP (fun x:Nat=>(decide (a.lo≤x)&&decide ((x:Int)≤a.hi))||kE l x)=c3 at h2 ⊢
  omega
theorem rX {l:List am}(h:aZ l=l):∀ s∈l,0≤s.lo∧s.hi≤1114111:=fun s hs=>by
 have h1:=(gY h).2 s hs
 have h2:=er.1 (ju h ⟨s,hs,Int.le_refl _,h1⟩)
 have h3:=er.1 (ju h ⟨s,hs,h1,Int.le_refl _⟩)
 omega
theorem nf {l:List am}(h:aZ l=l):fK l=(su (kE l):Int):=ro (gY h) (rX h)
theorem AB {l:List am}(h:∀ s∈l,s.lo≤s.hi):(l.length:Int)≤fK l:=by
 induction l with
 | nil=>simp[fK]
 | cons a l ih =>
  have h1:=ih fun s hs=>h s (by simp[hs])
  have h2:=h a HU
  rw[rt,List.length_cons]
  omega
theorem qd {l:List am}(h:aZ l=l):l.length≤1114112:=by
 have h1:=nf h
 have h2:=AB (gY h).2
 have h3:su (kE l)≤mg:=by
  unfold su
  have:=List.countP_le_length (p:=kE l) (l:=List.range mg)
  rwa [List.length_range]at this
 have h4:=uI
 omega
def fh (P:List (List am)):List am:=P.flatMap id
theorem DN {P:List (List am)}{x:Int}:inS (fh P) x↔∃ p∈P,inS p x:=by
 unfold fh inS
 constructor
 ·rintro⟨s,hs,h⟩
  obtain⟨p,hp,hsp⟩:=List.mem_flatMap.1 hs
  exact⟨p,hp,s,hsp,h⟩
 ·rintro⟨p,hp,s,hs,h⟩
  exact⟨s,List.mem_flatMap.2 ⟨p,hp,hs⟩,h⟩
theorem jG {P:List (List am)}(hn:∀ p∈P,aZ p=p){x:Int}:inS (aZ (fh P)) x↔∃ p∈P,inS p x:=by
 rw[gH,DN]
 constructor
 ·exact fun h=>h.2
 ·rintro⟨p,hp,h⟩
  exact⟨ju (hn p hp) h,p,hp,h⟩
def jr (P:List (List am)):Int:=P.foldl (fun n p=>n+fK p) 0
theorem mu (P:List (List am))(p:List am):jr (P++[p])=jr P+fK p:=by simp[jr]
def oz (P:List (List am)):Prop:=∀ i j,i<j→j<P.length→∀ x,¬ (inS (P.getD i []) x∧inS (P.getD j []) x)
theorem zj {P:List (List am)}{p:List am}:oz (P++[p])↔oz P∧∀ x,¬ ((∃ q∈P,inS q x)∧inS p x):=by
 have g1:∀ {i},i<P.length→(P++[p]).getD i []=P.getD i []:=fun hi=>by
  simp[List.getD_eq_getElem?_getD,List.getElem?_append_left hi]
 have g2:(P++[p]).getD P.length []=p:=by simp[List.getD_eq_getElem?_getD]
 constructor
 ·intro h
  refine⟨fun i j hij hj x hx=>h i j hij (by simp;omega) x (by rw[g1 HT,g1 hj];exact hx),fun x ⟨⟨q,hq,h1⟩,h2⟩=>?_⟩
  obtain⟨i,hi,rfl⟩:=List.getElem_of_mem hq
  refine h i P.length hi HU x ⟨?_,by rw[g2];exact h2⟩
  rw[g1 hi]
  simpa[List.getD_eq_getElem?_getD,hi] using h1
 ·rintro⟨h1,h2⟩ i j hij hj x ⟨h3,h4⟩
  rw[List.length_append]at hj
  simp only[List.length_cons,List.length_nil]at hj
  by_cases hj2:j<P.length
  ·rw[g1 HT]at h3
   rw[g1 hj2]at h4
   exact h1 i j hij hj2 x ⟨h3,h4⟩
  ·have:j=P.length:=by omega
   subst this
   rw[g2]at h4
   rw[g1 hij]at h3
   refine h2 x ⟨⟨P.getD i [],jg hij,h3⟩,h4⟩
theorem wG (P:List (List am)):(∀ p∈P,aZ p=p)→fK (aZ (fh P))≤jr P∧(fK (aZ (fh P))=jr P↔oz P):=by
 refine mt (P:=fun P=>(∀ p∈P,aZ p=p)→fK (aZ (fh P))≤jr P∧(fK (aZ (fh P))=jr P↔oz P)) ?_ ?_ P
 ·intro _
  have e:aZ (fh [])=[]:=(oD (l:=[]) HU).1
  rw[e]
  exact⟨Int.le_refl _,fun _ i j _ hj=>by simp at hj,fun _=>rfl⟩
 ·intro P p ih hn
  have hnP:∀ q∈P,aZ q=q:=fun q hq=>hn q (by simp[hq])
  have hnp:aZ p=p:=hn p HU
  obtain⟨i1,i2⟩:=ih hnP
  have hU:=nf (lW (fh P))
  have hU2:=nf (lW (fh (P++[p])))
  have hp:=nf hnp
  have hco:=pO (kE (aZ (fh P))) (kE p) (List.range mg)
  have hor:(List.range mg).countP (fun x=>kE (aZ (fh P)) x||kE p x)=su (kE (aZ (fh (P++[p])))):=by
   unfold su
   congr 1
   funext x
   rw[Bool.eq_iff_iff,Bool.or_eq_true,jN,jN,jN,jG hnP,jG hn]
   constructor
   ·rintro(⟨q,hq,h⟩|h)
    ·exact⟨q,by simp[hq],h⟩
    ·exact⟨p,by simp,h⟩
   ·rintro⟨q,hq,h⟩
    rcases List.mem_append.1 hq with hq|hq
    ·exact .inl ⟨q,hq,h⟩
    ·simp at hq;subst hq;exact .inr h
  have h0:(List.range mg).countP (fun x=>kE (aZ (fh P)) x&&kE p x)=0↔∀ x,¬ ((∃ q∈P,inS q x)∧inS p x):=by
   rw[List.countP_eq_zero]
   constructor
   ·rintro h x ⟨⟨q,hq,h1⟩,h2⟩
    have hs:=er.1 (ju hnp h2)
    have hx:(x.toNat:Int)=x:=by omega
    have htop:=uI
    refine h x.toNat (by rw[List.mem_range];omega) ?_
    rw[Bool.and_eq_true,jN,jN,hx,jG hnP]
    exact⟨⟨q,hq,h1⟩,h2⟩
   ·intro h x _ hb
    rw[Bool.and_eq_true,jN,jN,jG hnP]at hb
    exact h x hb
  rw[hor]at hco
  rw[mu,zj,← h0,← i2]
  rw[hU2,hp]
  rw[hU]at i1 i2 ⊢
  unfold su at *
  generalize (List.range mg).countP (fun x=>kE (aZ (fh P)) x&&kE p x)=c1 at hco ⊢
  omega
end
section
open Go
structure ix (n:Nat)(R:Int→List Int)(i:Nat)(front:Int→Prop)(bs:List (List Int)):Prop where
 len:bs.length=n
 mem:∀ (t:Nat),t<n→∀ f:Int,f∈bs.getD t []↔(0≤f∧f<i∧(t:Int)∈R f)∨(f=i∧front t)
theorem ix.begin (n:Nat)(R:Int→List Int):ix n R 0 (fun _=>False) (List.replicate n []) :=
 ⟨by simp,fun t ht f=>by
  have:(List.replicate n ([]:List Int)).getD t []=[]:=by simp[List.getD_eq_getElem?_getD,ht]
  rw[this]
  constructor
  ·intro h;cases h
  ·rintro(⟨h1,h2,_⟩|⟨_,h⟩)
   ·omega
   ·exact h.elim⟩
theorem ix.iff {n:Nat}{R:Int→List Int}{i:Nat}{F F':Int→Prop}{bs:List (List Int)}(hb:ix n R i F bs)(h:∀ t:Nat,F t↔F' t):ix n R i F' bs :=
 ⟨hb.len,fun t ht f=>by rw[hb.mem t ht f,h]⟩
theorem ix.add {n:Nat}{R:Int→List Int}{i:Nat}{F:Int→Prop}{bs:List (List Int)}(hb:ix n R i F bs){x:Nat}(hx:x<n):ix n R i (fun t=>F t∨t=x) (bs.set x (bs.getD x []++[(i:Int)])):=by
 refine⟨by simp[hb.len],fun t ht f=>?_⟩
 have hl:=hb.len
 by_cases e:x=t
 ·subst e
  have:(bs.set x (bs.getD x []++[(i:Int)])).getD x []=bs.getD x []++[(i:Int)]:=by
   rw[List.getD_eq_getElem?_getD,List.getElem?_set_self HT];rfl
  rw[this,List.mem_append,hb.mem x ht f,List.mem_singleton]
  constructor
  ·rintro((h|h)|h)
   ·exact .inl h
   ·exact .inr ⟨h.1,.inl h.2⟩
   ·exact .inr ⟨h,.inr rfl⟩
  ·rintro(h|⟨h,_⟩)
   ·exact .inl (.inl h)
   ·exact .inr h
 ·have:(bs.set x (bs.getD x []++[(i:Int)])).getD t []=bs.getD t []:=by
   rw[List.getD_eq_getElem?_getD,List.getElem?_set_ne e,← List.getD_eq_getElem?_getD]
  rw[this,hb.mem t ht f]
  have e2:¬ ((t:Int)=(x:Int)):=by omega
  simp[e2]
theorem ix.next {n:Nat}{R:Int→List Int}{i:Nat}{bs:List (List Int)}(hb:ix n R i (fun t=>t∈R i) bs):ix n R (i+1) (fun _=>False) bs :=
 ⟨hb.len,fun t ht f=>by
  rw[hb.mem t ht f]
  constructor
  ·rintro(⟨h1,h2,h3⟩|⟨rfl,h⟩)
   ·exact .inl ⟨h1,by omega,h3⟩
   ·exact .inl ⟨by omega,by omega,h⟩
  ·rintro(⟨h1,h2,h3⟩|⟨_,h⟩)
   ·by_cases e:f=i
    ·subst e;exact .inr ⟨rfl,h3⟩
    ·exact .inl ⟨h1,by omega,h3⟩
   ·exact h.elim⟩
structure dX (n:Nat)(R:Int→List Int)(T:Int→Int)(bs:List (List Int))(os:List Bool)(ls:List Nat)(cur:Nat→Prop)(seen:Int→Prop):Prop where
 len:os.length=n
 sound:∀ q:Nat,os[q]?=some true→j0 n R T q
 tags:∀ q:Nat,q<n→0≤T q→os[q]?=some true
 left:∀ q∈ls,os[q]?=some true
 closed:∀ q:Nat,os[q]?=some true→q∈ls∨∀ f∈bs.getD q [],os[f.toNat]?=some true∨(cur q∧¬ seen f)
 curs:∀ q,cur q→os[q]?=some true
theorem dX.done {n p:Nat}{R:Int→List Int}{T:Int→Int}{bs:List (List Int)}{os:List Bool}(hT:Tab n p R)(hb:ix n R n (fun _=>False) bs)(h:dX n R T bs os [] (fun _=>False) (fun _=>True)){s:Int}(hs:In n s):os.getD s.toNat false=true↔j0 n R T s:=by
 have e:(s.toNat:Int)=s:=by unfold In at hs;omega
 have hlt:s.toNat<os.length:=by rw[h.len];unfold In at hs;omega
 have hg:os.getD s.toNat false=true↔os[s.toNat]?=some true:=by
  rw[List.getD_eq_getElem?_getD,List.getElem?_eq_getElem hlt];simp
 rw[hg]
 constructor
 ·intro h1
  have:=h.sound _ h1
  rwa [e]at this
 ·intro hl
  induction hl with
  | @tag s hs ht=>exact h.tags s.toNat (by unfold In at hs;omega) (by rw[Int.toNat_of_nonneg hs.1];exact ht)
  | @step s x hs hx hxi _ ih =>
   have hx1:=ih hxi (by rw[Int.toNat_of_nonneg hxi.1]) (by rw[h.len];unfold In at hxi;omega) (by
    rw[List.getD_eq_getElem?_getD,List.getElem?_eq_getElem (show x.toNat<os.length by rw[h.len];unfold In at hxi;omega)];simp)
   rcases h.closed _ hx1 with h2|h2
   ·cases h2
   ·have h3:s∈bs.getD x.toNat []:=(hb.mem x.toNat (by unfold In at hxi;omega) s).2 (.inl ⟨hs.1,hs.2,by rw[Int.toNat_of_nonneg hxi.1];exact hx⟩)
    rcases h2 s h3 with h4|h4
    ·exact h4
    ·exact h4.1.elim
theorem dX.pop {n:Nat}{R:Int→List Int}{T:Int→Int}{bs:List (List Int)}{os:List Bool}{ls:List Nat}{i:Nat}(h:dX n R T bs os (ls++[i]) (fun _=>False) (fun _=>True)):dX n R T bs os ls (fun q=>q=i) (fun _=>False):=by
 refine⟨h.len,h.sound,h.tags,fun q hq=>h.left q (by simp[hq]),fun q hq=>?_,fun q hq=>by subst hq;exact h.left q HU⟩
 rcases h.closed q hq with h1|h1
 ·rcases List.mem_append.1 h1 with h1|h1
  ·exact .inl h1
  ·simp at h1;subst h1
   exact .inr fun f _ => .inr ⟨rfl,fun h=>h⟩
 ·right
  intro f hf
  rcases h1 f hf with h2|h2
  ·exact .inl h2
  ·exact h2.1.elim
theorem dX.iff {n:Nat}{R:Int→List Int}{T:Int→Int}{bs:List (List Int)}{os:List Bool}{ls:List Nat}{cur:Nat→Prop}{S S':Int→Prop}(h:dX n R T bs os ls cur S)(hs:∀ f,S' f→S f):dX n R T bs os ls cur S' :=
 ⟨h.len,h.sound,h.tags,h.left,fun q hq=>(h.closed q hq).imp id fun h1 f hf=>(h1 f hf).imp id fun⟨a,b⟩=>⟨a,fun c=>b (hs f c)⟩,h.curs⟩
theorem dX.old {n:Nat}{R:Int→List Int}{T:Int→Int}{bs:List (List Int)}{os:List Bool}{ls:List Nat}{cur:Nat→Prop}{S:Int→Prop}(h:dX n R T bs os ls cur S){x:Int}(hx:os[x.toNat]?=some true):dX n R T bs os ls cur (fun f=>S f∨f=x) :=
 ⟨h.len,h.sound,h.tags,h.left,fun q hq=>(h.closed q hq).imp id fun h1 f hf=>by
  rcases h1 f hf with h2|h2
  ·exact .inl h2
  ·by_cases e:f=x
   ·subst e;exact .inl hx
   ·exact .inr ⟨h2.1,fun h3=>h3.elim h2.2 e⟩,h.curs⟩
theorem uX {os:List Bool}{i q:Nat}(hi:i<os.length):(os.set i true)[q]?=some true↔q=i∨os[q]?=some true:=by
 rw[List.getElem?_set]
 by_cases e:i=q
 ·subst e;simp[hi]
 ·have e2:¬ q=i:=fun h=>e h.symm
  simp[e,e2]
theorem dX.mark {n:Nat}{R:Int→List Int}{T:Int→Int}{bs:List (List Int)}{os:List Bool}{ls:List Nat}{cur:Nat→Prop}{S:Int→Prop}(h:dX n R T bs os ls cur S){x:Int}(hx:In n x)(hl:j0 n R T x):dX n R T bs (os.set x.toNat true) (ls++[x.toNat]) cur (fun f=>S f∨f=x):=by
 have hlt:x.toNat<os.length:=by rw[h.len];unfold In at hx;omega
 have st:=fun q=>uX (q:=q) hlt
 refine⟨by simp[h.len],fun q hq=>?_,fun q hq hT=>(st q).2 (.inr (h.tags q hq hT)),fun q hq=>(st q).2 ?_,fun q hq=>?_,fun q hq=>(st q).2 (.inr (h.curs q hq))⟩
 ·rcases (st q).1 hq with rfl|h1
  ·rw[Int.toNat_of_nonneg hx.1];exact hl
  ·exact h.sound q h1
 ·rcases List.mem_append.1 hq with hq|hq
  ·exact .inr (h.left q hq)
  ·simp at hq;exact .inl hq
 ·rcases (st q).1 hq with rfl|h1
  ·exact .inl HU
  ·rcases h.closed q h1 with h2|h2
   ·exact .inl (by simp[h2])
   ·right
    intro f hf
    rcases h2 f hf with h3|h3
    ·exact .inl ((st _).2 (.inr h3))
    ·by_cases e:f=x
     ·subst e;exact .inl ((st _).2 (.inl rfl))
     ·exact .inr ⟨h3.1,fun h4=>h4.elim h3.2 e⟩
theorem dX.end_ {n:Nat}{R:Int→List Int}{T:Int→Int}{bs:List (List Int)}{os:List Bool}{ls:List Nat}{i:Nat}(h:dX n R T bs os ls (fun q=>q=i) (fun f=>f∈bs.getD i [])):dX n R T bs os ls (fun _=>False) (fun _=>True):=by
 refine⟨h.len,h.sound,h.tags,h.left,fun q hq=>(h.closed q hq).imp id fun h1 f hf=>?_,fun q hq=>hq.elim⟩
 rcases h1 f hf with h2|⟨rfl,h2⟩
 ·exact .inl h2
 ·exact absurd hf h2
def jI (T:List Int)(n i:Nat):List Bool:=(List.range n).map fun q=>decide (q<i∧0≤T.getD q (-1))
def nE (T:List Int)(i:Nat):List Nat:=(List.range i).filter fun q=>decide (0≤T.getD q (-1))
theorem oF {T:List Int}{n i q:Nat}:(jI T n i)[q]?=some true↔q<n∧q<i∧0≤T.getD q (-1):=by
 unfold jI
 rw[List.getElem?_map]
 by_cases h:q<n
 ·rw[List.getElem?_range h];simp[h]
 ·rw[List.getElem?_eq_none (by simpa using h)];simp[h]
theorem tF (T:List Int)(i:Nat):nE T (i+1)=nE T i++(if 0≤T.getD i (-1) then [i] else []):=by
 unfold nE
 rw[List.range_succ,List.filter_append]
 congr 1
 by_cases h:0≤T.getD i (-1)
 ·rw[if_pos h,List.filter_cons_of_pos (by simpa using h)];rfl
 ·rw[if_neg h,List.filter_cons_of_neg (by simpa using h)];rfl
theorem wp (T:List Int)(i:Nat):(nE T i).length≤i:=by
 have:=List.length_filter_le (fun q=>decide (0≤T.getD q (-1))) (List.range i)
 rw[List.length_range]at this
 exact this
theorem tG {T:List Int}{n i:Nat}(hi:i<n):jI T n (i+1)=if 0≤T.getD i (-1) then(jI T n i).set i true else jI T n i:=by
 by_cases h:0≤T.getD i (-1)
 ·rw[if_pos h]
  refine List.ext_getElem (by simp[jI]) fun q h1 h2=>?_
  rw[List.getElem_set]
  simp only[jI,List.getElem_map,List.getElem_range]
  by_cases e:i=q
  ·subst e
   rw[if_pos rfl]
   exact decide_eq_true ⟨by omega,h⟩
  ·rw[if_neg e]
   exact decide_eq_decide.2 (and_congr_left fun _=>by omega)
 ·rw[if_neg h]
  unfold jI
  apply List.map_congr_left
  intro q _
  by_cases e:i=q
  ·subst e
   exact decide_eq_decide.2 ⟨fun a=>absurd a.2 h,fun a=>absurd a.2 h⟩
  ·exact decide_eq_decide.2 (and_congr_left fun _=>by omega)
theorem EV {n:Nat}{R:Int→List Int}{T:List Int}{bs:List (List Int)}:dX n R (fun s=>T.getD s.toNat (-1)) bs (jI T n n) (nE T n) (fun _=>False) (fun _=>True):=by
 refine⟨by simp[jI],fun q hq=>?_,fun q hq hT=>?_,fun q hq=>?_,fun q hq=>?_,fun q hq=>hq.elim⟩
 ·obtain⟨h1,h2,h3⟩:=oF.1 hq
  exact .tag (by unfold In;omega) (by simpa using h3)
 ·exact oF.2 ⟨hq,hq,by simpa using hT⟩
 ·unfold nE at hq
  rw[List.mem_filter,List.mem_range]at hq
  exact oF.2 ⟨hq.1,hq.1,by simpa using hq.2⟩
 ·left
  obtain⟨h1,h2,h3⟩:=oF.1 hq
  unfold nE
  rw[List.mem_filter,List.mem_range]
  exact⟨h1,by simpa using h3⟩
theorem Ao (T:List Int)(n:Nat):(nE T n).length+(jI T n n).count false=n:=by
 have h1:(nE T n).length=(List.range n).countP fun q=>decide (0≤T.getD q (-1)):=by
  unfold nE
  rw[List.countP_eq_length_filter]
 have h2:(jI T n n).count false=(List.range n).countP fun q => !decide (0≤T.getD q (-1)):=by
  unfold jI
  rw[List.count_eq_countP,List.countP_map]
  apply List.countP_congr
  intro q hq
  rw[List.mem_range]at hq
  simp[Function.comp,hq]
 have h3:=List.length_eq_countP_add_countP (fun q=>decide (0≤T.getD q (-1))) (l:=List.range n)
 rw[List.length_range]at h3
 have h4:(List.range n).countP (fun q => !decide (0≤T.getD q (-1)))=(List.range n).countP (fun a=>decide ¬(fun q=>decide (0≤T.getD q (-1))) a=true):=by
  apply List.countP_congr
  intro q _
  simp
 rw[h1,h2,h4]
 exact h3.symm
end
end Go.Proofs.YtlnobeojgifojaaGreatDoor
