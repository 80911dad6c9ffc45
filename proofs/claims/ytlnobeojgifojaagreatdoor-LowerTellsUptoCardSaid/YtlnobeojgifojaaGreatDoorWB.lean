/- Machines of bytes, plainly: ways' machine, and what it tells. -/
import Derived.Test.YtlnobeojgifojaaGreatDoorWA
import Derived.Test.YtlnobeojgifojaaGreatDoorP2
set_option linter.unusedVariables false
set_option linter.unusedSimpArgs false
namespace Go.Proofs.YtlnobeojgifojaaGreatDoor
section
open Go
def l7 (x:PD):Int→List Int→Nat→Int×Int→Int×Int
 | _,[],_,acc=>acc
 | s,c::b,i,acc=>if col x.row s c.toNat = -1 then acc else l7 x (col x.row s c.toNat) b (i+1) (if 0≤x.tag (col x.row s c.toNat) then((i+1:Nat),x.tag (col x.row s c.toNat)) else acc)
abbrev RSt:=Int×List Way
def eu (d:PD)(a:RSt):List Way:=if a.1<0 then a.2 else cL d.parts (d.row a.1)
def cX (d:PD)(a:RSt)(c:Int):Option RSt:=match jb (eu d a) c with
 | .none=>none
 | .own i=>some (i,[])
 | .amid l=>some (-1,l)
def nV (d:PD)(a:RSt):Int:=if a.1<0 then -1 else d.tag a.1
def dO (d:PD)(a:RSt):List (Option RSt):=(List.range 256).map fun c:Nat=>cX d a c
def cH (d:PD)(m:Nat):List RSt:=fg (dO d) (0,[]) m
def jp (d:PD)(m:Nat):PD:=⟨[],j9 (dO d) (cH d m),(cH d m).map (nV d)⟩
def InR (d:PD)(a:RSt):Prop:=(In d.n a.1∧a.2=[])∨(a.1 = -1∧∀ w∈a.2,In d.n w.2)
theorem xm {d:PD}(h:d.Ok){s:Int}(hs:In d.n s):∀ w∈cL d.parts (d.row s),In d.n w.2:=by
 intro w hw
 obtain⟨k,p,_,h2,h3,_⟩:=fI.1 hw
 exact(h.tab.to s hs _ (List.mem_of_getElem? h2)).resolve_left h3
theorem GH {n:Nat}{l:List Way}(h:∀ w∈l,In n w.2)(c:Int):∀ w∈dS l c,In n w.2:=fun w hw=>by
 obtain⟨p,hp,_⟩:=eP.1 hw
 exact h (p::w.1,w.2) hp
theorem sX {n:Nat}{l:List Way}(h:∀ w∈l,In n w.2){c i:Int}(hs:jb l c = .own i):In n i:=by
 unfold jb at hs
 split at hs
 ·rename_i w hw
  injection hs with hs
  subst hs
  exact GH h c w (List.mem_of_find?_eq_some hw)
 ·split at hs<;>cases hs
theorem rB {l l':List Way}{c:Int}(hs:jb l c = .amid l'):l'=dS l c:=by
 unfold jb at hs
 split at hs
 ·cases hs
 ·split at hs
  ·cases hs
  ·injection hs with hs
   exact hs.symm
theorem nZ {d:PD}(h:d.Ok){a:RSt}(ha:InR d a):∀ w∈eu d a,In d.n w.2:=by
 unfold eu
 rcases ha with⟨h1,h2⟩|⟨h1,h2⟩
 ·rw[if_neg (by have:=h1.1;omega)]
  exact xm h h1
 ·rw[if_pos Ll]
  exact h2
theorem z6 {d:PD}(h:d.Ok){a b:RSt}(ha:InR d a){c:Int}(hb:cX d a c=some b):InR d b:=by
 have hw:=nZ h ha
 unfold cX at hb
 split at hb
 ·cases hb
 ·rename_i i hi
  cases hb
  exact .inl ⟨sX hw hi,rfl⟩
 ·rename_i l hl
  cases hb
  exact .inr ⟨rfl,by rw[rB hl];exact GH hw c⟩
theorem og {d:PD}{a b:RSt}(h:some b∈dO d a):∃ c:Nat,c<256∧cX d a c=some b:=by
 obtain⟨c,hc,e⟩:=List.mem_map.1 h
 exact⟨c,List.mem_range.1 hc,e⟩
theorem It {d:PD}(h:d.Ok)(m:Nat):∀ a∈cH d m,InR d a :=
 rq (.inl ⟨h.zero,rfl⟩) (fun a b ha hb=>by
  obtain⟨c,_,hc⟩:=og hb
  exact z6 h ha hc) m
theorem Ir {d:PD}{m s:Nat}{a:RSt}(ha:(cH d m)[s]?=some a):(jp d m).row s=(dO d a).map (gR (cH d m)):=by
 show(j9 (dO d) (cH d m)).getD (s:Int).toNat []=_
 unfold j9
 rw[Int.toNat_natCast,List.getD_eq_getElem?_getD,List.getElem?_map,ha]
 rfl
theorem sZ {d:PD}{m s:Nat}{a:RSt}(ha:(cH d m)[s]?=some a):(jp d m).tag s=nV d a:=by
 show((cH d m).map (nV d)).getD (s:Int).toNat (-1)=_
 rw[Int.toNat_natCast,List.getD_eq_getElem?_getD,List.getElem?_map,ha]
 rfl
theorem Cn {d:PD}{m s:Nat}{a:RSt}(ha:(cH d m)[s]?=some a){c:Nat}(hc:c<256):col (jp d m).row s c=gR (cH d m) (cX d a c):=by
 unfold col
 rw[Ir ha,List.getD_eq_getElem?_getD,List.getElem?_map]
 have:(dO d a)[c]?=some (cX d a c):=by
  unfold dO
  rw[List.getElem?_map,List.getElem?_range hc]
  rfl
 rw[this]
 rfl
def lA (d:PD):List Way→List Int→Nat→Int×Int→Int×Int
 | _,[],_,acc=>acc
 | l,c::b,i,acc=>match jb l c with
  | .none=>acc
  | .own t=>lA d (cL d.parts (d.row t)) b (i+1) (if 0≤d.tag t then((i+1:Nat),d.tag t) else acc)
  | .amid l'=>lA d l' b (i+1) acc
theorem xO {d:PD}(h:d.Ok){m:Nat}(hle:(cH d m).length≤m):∀ (b:List Int),(∀ c∈b,0≤c∧c<256)→∀ (s i:Nat) (a:RSt) (acc:Int×Int),(cH d m)[s]?=some a→l7 (jp d m) s b i acc=lA d (eu d a) b i acc
 | [],_,_,_,_,_,_=>rfl
 | c::b,hb,s,i,a,acc,ha=>by
  have hc:=hb c Lm
  have hb2:∀ c∈b,0≤c∧c<256:=fun x hx=>hb x (by simp[hx])
  obtain⟨k,rfl⟩:∃ k:Nat,c=k:=⟨c.toNat,by omega⟩
  have hai:=It h m a (List.mem_of_getElem? ha)
  have hcol:=Cn ha (c:=k) Ll
  unfold l7 lA
  rw[Int.toNat_natCast,hcol]
  cases hs:jb (eu d a) (k:Int) with
  | none =>
   have e:cX d a (k:Int)=none:=by unfold cX;rw[hs]
   rw[e]
   rfl
  | own t =>
   have e:cX d a (k:Int)=some (t,[]):=by unfold cX;rw[hs]
   have ht:=sX (nZ h hai) hs
   have hm:(t,[])∈cH d m:=oQ hle ha (List.mem_map.2 ⟨k,List.mem_range.2 Ll,e⟩)
   obtain⟨q,hq,hql,hqa⟩:=pb hm
   rw[e,hq,if_neg Ll,sZ hqa,xO h hle b hb2 q (i+1) _ _ hqa]
   have e2:nV d (t,[])=d.tag t:=by unfold nV;rw[if_neg (by have:=ht.1;simp only;omega)]
   have e3:eu d (t,[])=cL d.parts (d.row t):=by unfold eu;rw[if_neg (by have:=ht.1;simp only;omega)]
   rw[e2,e3]
  | amid l =>
   have e:cX d a (k:Int)=some (-1,l):=by unfold cX;rw[hs]
   have hm:(-1,l)∈cH d m:=oQ hle ha (List.mem_map.2 ⟨k,List.mem_range.2 Ll,e⟩)
   obtain⟨q,hq,hql,hqa⟩:=pb hm
   rw[e,hq,if_neg Ll,sZ hqa,xO h hle b hb2 q (i+1) _ _ hqa]
   have e2:nV d (-1,l) = -1:=by unfold nV;rw[if_pos (by simp only;omega)]
   have e3:eu d (-1,l)=l:=by unfold eu;rw[if_pos (by simp only;omega)]
   rw[e2,e3,if_neg Ll]
theorem Bn (d:PD)(l:List Way)(c:Int)(b:List Int)(i:Nat)(acc:Int×Int):lA d l (c::b) i acc=match jb l c with
  | .none=>acc
  | .own t=>lA d (cL d.parts (d.row t)) b (i+1) (if 0≤d.tag t then((i+1:Nat),d.tag t) else acc)
  | .amid l'=>lA d l' b (i+1) acc:=rfl
theorem zQ (d:PD):∀ (b:List Int) {l:List Way},xi l→∀ (i:Nat) (acc:Int×Int),
  (∀ u v t,b=u++v→yF l u t→lA d l b i acc=lA d (cL d.parts (d.row t)) v (i+u.length) (if 0≤d.tag t then((i+u.length:Nat),d.tag t) else acc))∧((∀ u v t,b=u++v→¬ yF l u t)→lA d l b i acc=acc)
 | [],l,hg,i,acc=>by
  refine⟨fun u v t e h=>?_,fun _=>rfl⟩
  have:u=[]:=by
   cases u with
   | nil=>rfl
   | cons _ _=>cases e
  subst this
  exact absurd h (rn hg t)
 | c::b,l,hg,i,acc=>by
  rw[Bn]
  cases hs:jb l c with
  | none =>
   have h0:=AO hs
   refine⟨fun u v t e h=>?_,fun _=>rfl⟩
   cases u with
   | nil=>exact absurd h (rn hg t)
   | cons x u =>
    injection e with e1 e2
    subst e1
    rw[rm,h0]at h
    obtain⟨w,hw,_⟩:=h
    cases hw
  | own q =>
   have h0:=De hg hs
   refine⟨fun u v t e h=>?_,fun hn=>absurd ((h0 [] q).2 ⟨rfl,rfl⟩) (hn [c] b q rfl)⟩
   cases u with
   | nil=>exact absurd h (rn hg t)
   | cons x u =>
    injection e with e1 e2
    subst e1
    obtain⟨rfl,rfl⟩:=(h0 u t).1 h
    have e2:b=v:=e2
    subst e2
    rfl
  | amid l' =>
   obtain⟨e0,_,hg2⟩:=AP hg hs
   obtain⟨i1,i2⟩:=zQ d b hg2 (i+1) acc
   refine⟨fun u v t e h=>?_,fun hn=>i2 fun u v t e h=>hn (c::u) v t (by rw[e];rfl) (rm.2 (by rw[← e0];exact h))⟩
   cases u with
   | nil=>exact absurd h (rn hg t)
   | cons x u =>
    injection e with e1 e2
    subst e1
    rw[rm,← e0]at h
    have:=i1 u v t e2 h
    show lA d l' b (i+1) acc=_
    rw[this]
    have e3:i+1+u.length=i+(c::u).length:=by simp;omega
    rw[e3]
theorem PD.Ok.apart' {d:PD}(h:d.Ok):B8 d.parts:=by
 intro i j p q hp hq x hx hy
 have e1:d.part i=p:=by simp[PD.part,List.getD_eq_getElem?_getD,hp]
 have e2:d.part j=q:=by simp[PD.part,List.getD_eq_getElem?_getD,hq]
 have n1:=ga h i
 have n2:=ga h j
 rw[e1]at n1
 rw[e2]at n2
 rw[n1]at hx
 rw[n2]at hy
 exact lZ h (by rw[e1];exact hx) (by rw[e2];exact hy)
theorem CK {d:PD}(h:d.Ok){s:Int}(hs:In d.n s){u:List Int}{t:Int}:yF (cL d.parts (d.row s)) u t↔∃ (k:Nat) (x:Int),d6 d.parts x=some k∧col d.row s k=t∧t ≠ -1∧bt x=u∧0≤x:=by
 rw[C6]
 constructor
 ·rintro⟨k,p,x,h1,h2,h3,h4,h5⟩
  have hk:=lt_of_getElem? h1
  have e1:d.part k=p:=by simp[PD.part,List.getD_eq_getElem?_getD,h1]
  have n1:=ga h k
  rw[e1]at n1
  have hn:=kY h4
  rw[n1]at h4
  refine⟨k,x,(dR h).2 ⟨hk,by rw[e1];exact h4⟩,?_,h3,h5,hn.1⟩
  unfold col
  rw[List.getD_eq_getElem?_getD,h2]
  rfl
 ·rintro⟨k,x,h1,h2,h3,h4,h5⟩
  obtain⟨g1,g2⟩:=(dR h).1 h1
  have hl:=h.tab.len s hs
  refine⟨k,d.part k,x,?_,?_,h3,?_,h4⟩
  ·simp[PD.part,List.getD_eq_getElem?_getD,g1]
  ·have:k<(d.row s).length:=by rw[hl];exact g1
   rw[← h2]
   unfold col
   rw[List.getD_eq_getElem?_getD,List.getElem?_eq_getElem this]
   rfl
  ·rw[ga h k]
   exact g2
theorem IX {x y:Int}(hx:0≤x)(hy:0≤y){v w:List Int}(h:bt x++v=bt y++w):x=y∧v=w:=by
 obtain⟨c,u,e1,s1,_⟩:=q9 hx
 obtain⟨d,u2,e2,s2,_⟩:=q9 hy
 have h1:=h
 rw[e1,e2]at h1
 injection h1 with h1 h2
 subst h1
 obtain⟨a1,a2⟩:=List.append_inj h (by rw[dq,dq,← s1,← s2])
 exact⟨by rw[← tf hx,← tf hy,a1],a2⟩
theorem AL {d:PD}(h:d.Ok){s:Int}(hs:In d.n s){x:Int}(hx:0≤x)(rest:List Int)(i:Nat)(acc:Int×Int) :
  lA d (cL d.parts (d.row s)) (bt x++rest) i acc=match d6 d.parts x with
   | none=>acc
   | some k=>if col d.row s k<0 then acc else lA d (cL d.parts (d.row (col d.row s k))) rest (i+(bt x).length) (if 0≤d.tag (col d.row s k) then((i+(bt x).length:Nat),d.tag (col d.row s k)) else acc):=by
 obtain⟨h1,h2⟩:=zQ d (bt x++rest) (AI h.apart' (d.row s)) i acc
 have hno:∀ u v t,bt x++rest=u++v→yF (cL d.parts (d.row s)) u t→∃ k,d6 d.parts x=some k∧col d.row s k=t∧t ≠ -1:=fun u v t e ha=>by
  obtain⟨k,y,a1,a2,a3,a4,a5⟩:=(CK h hs).1 ha
  subst a4
  obtain⟨rfl,_⟩:=IX hx a5 e
  exact⟨k,a1,a2,a3⟩
 cases hw:d6 d.parts x with
 | none =>
  refine h2 fun u v t e ha=>?_
  obtain⟨k,a1,_⟩:=hno u v t e ha
  rw[hw]at a1
  cases a1
 | some k =>
  show _=if col d.row s k<0 then acc else _
  by_cases hc:col d.row s k = -1
  ·rw[if_pos Ll]
   refine h2 fun u v t e ha=>?_
   obtain⟨k',a1,a2,a3⟩:=hno u v t e ha
   rw[hw]at a1
   cases a1
   exact a3 (a2.symm.trans hc)
  ·have hin:=(h.tab.col hs k).resolve_left hc
   rw[if_neg (by have:=hin.1;omega)]
   exact h1 (bt x) rest _ rfl ((CK h hs).2 ⟨k,x,hw,rfl,hc,rfl,hx⟩)
def sS (l:List Int)(k:Nat):Nat:=((l.take k).flatMap bt).length
theorem wN {l:List Int}{k:Nat}{x:Int}(h:l[k]?=some x):sS l (k+1)=sS l k+(bt x).length:=by
 unfold sS
 rw[aV h,List.flatMap_append,List.length_append]
 simp
theorem wg {d:PD}(h:d.Ok){l:List Int}(hl:∀ x∈l,0≤x):∀ (n j:Nat),l.length=j+n→∀ (s:Int),In d.n s→∀ acc:Int×Int,0≤acc.1 →
  lA d (cL d.parts (d.row s)) ((l.drop j).flatMap bt) (sS l j) (((sS l acc.1.toNat:Nat):Int),acc.2)=(((sS l (bu d s (l.drop j) j acc).1.toNat:Nat):Int),(bu d s (l.drop j) j acc).2)
 | 0,j,hn,s,hs,acc,ha=>by
  rw[List.drop_eq_nil_of_le Ll]
  rfl
 | n+1,j,hn,s,hs,acc,ha=>by
  have hj:j<l.length:=by omega
  have hx:l[j]?=some l[j]:=List.getElem?_eq_getElem hj
  rw[List.drop_eq_getElem_cons hj,List.flatMap_cons,AL h hs (hl _ (List.getElem_mem hj))]
  unfold bu
  cases hw:d6 d.parts l[j] with
  | none=>rfl
  | some k =>
   show(if col d.row s k<0 then _ else _)=_
   by_cases hc:col d.row s k<0
   ·rw[if_pos hc]
    simp only[if_pos hc]
   ·rw[if_neg hc]
    simp only[if_neg hc]
    have hin:=(h.tab.col hs k).resolve_left (fun e=>hc Ll)
    have ih:=fun acc ha=>wg h hl n (j+1) Ll _ hin acc ha
    rw[← wN hx]
    by_cases ht:0≤d.tag (col d.row s k)
    ·rw[if_pos ht,if_pos ht]
     have:=ih ((j:Int)+1,d.tag (col d.row s k)) (by simp only;omega)
     have e:((j:Int)+1).toNat=j+1:=by omega
     simp only[e]at this
     exact this
    ·rw[if_neg ht,if_neg ht]
     exact ih acc ha
theorem zR {d:PD}(h:d.Ok){l:List Int}(hl:∀ x∈l,0≤x):lA d (cL d.parts (d.row 0)) (l.flatMap bt) 0 (0,-1)=(((sS l (ig d l).1.toNat:Nat):Int),(ig d l).2):=by
 have:=wg h hl l.length 0 Ll 0 h.zero (0,-1) (Int.le_refl _)
 rw[List.drop_zero]at this
 exact this
end
section
open Go
def oz (R:Int→List Int)(of:List Int)(s:Nat):Int×List (Option Int):=(of.getD s 0,(R s).map fun to=>if to = -1 then none else some (of.getD to.toNat 0))
def mA (R:Int→List Int)(n:Nat)(of:List Int):List (Int×List (Option Int)):=(List.range n).map (oz R of)
def l4 (R:Int→List Int)(n:Nat)(of:List Int):List Int:=(hZ (mA R n of)).map fun k:Nat=>(k:Int)
def ofY (R:Int→List Int)(n:Nat)(T:List Int):Nat→List Int
 | 0=>T
 | r+1=>l4 R n (ofY R n T r)
def pB (R:Int→List Int)(n:Nat)(of:List Int):Nat:=(bP (mA R n of)).length
theorem rO {R:Int→List Int}{n:Nat}{of:List Int}{i:Nat}(h:i<n):(mA R n of)[i]?=some (oz R of i):=by
 unfold mA
 rw[List.getElem?_map,List.getElem?_range h]
 rfl
theorem x9 (R:Int→List Int)(n:Nat)(of:List Int):(l4 R n of).length=n:=by simp[l4,gg,mA]
theorem m6 {R:Int→List Int}{n:Nat}{of:List Int}{i j:Nat}(hi:i<n)(hj:j<n):(l4 R n of).getD i 0=(l4 R n of).getD j 0↔oz R of i=oz R of j:=by
 have h:=Cv (rO (R:=R) (of:=of) hi) (rO (R:=R) (of:=of) hj)
 rw[← h]
 have hl:(hZ (mA R n of)).length=n:=by simp[gg,mA]
 unfold l4
 rw[List.getD_eq_getElem?_getD,List.getD_eq_getElem?_getD,List.getElem?_map,List.getElem?_map,List.getElem?_eq_getElem Ll,List.getElem?_eq_getElem Ll]
 simp only[Option.map_some,Option.getD_some,Option.some.injEq]
 exact Int.ofNat_inj
theorem E8 {R:Int→List Int}{n:Nat}{of:List Int}{i:Nat}(hi:i<n):0≤(l4 R n of).getD i 0:=by
 unfold l4
 rw[List.getD_eq_getElem?_getD,List.getElem?_map]
 cases (hZ (mA R n of))[i]? with
 | none=>simp
 | some k=>simp
theorem zJ {R:Int→List Int}{n:Nat}{T:List Int}{i j:Nat}(hi:i<n)(hj:j<n)(r:Nat)(h:(ofY R n T (r+1)).getD i 0=(ofY R n T (r+1)).getD j 0):(ofY R n T r).getD i 0=(ofY R n T r).getD j 0:=by
 have:=(m6 hi hj).1 h
 exact congrArg Prod.fst this
theorem Ct {R:Int→List Int}{n:Nat}{T:List Int}{i j:Nat}(hi:i<n)(hj:j<n):∀ r,(ofY R n T r).getD i 0=(ofY R n T r).getD j 0→T.getD i 0=T.getD j 0
 | 0,h=>h
 | r+1,h=>Ct hi hj r (zJ hi hj r h)
theorem CE (R:Int→List Int)(n:Nat)(of:List Int):pB R n of≤n:=by
 have:=jJ (mA R n of)
 simpa[pB,mA] using this
theorem HA {R:Int→List Int}{n:Nat}(hn:1≤n)(of:List Int):1≤pB R n of:=by
 have:oz R of 0∈bP (mA R n of):=jr.2 (List.mem_map.2 ⟨0,by rw[List.mem_range];omega,rfl⟩)
 exact List.length_pos_of_mem this
theorem w5 (R:Int→List Int)(n:Nat)(of:List Int):pB R n of≤pB R n (l4 R n of)∧(pB R n of=pB R n (l4 R n of)→∀ i j,i<n→j<n→oz R of i=oz R of j→oz R (l4 R n of) i=oz R (l4 R n of) j):=by
 have hc:=Hz ((List.range n).map fun i:Nat=>(oz R of i,oz R (l4 R n of) i)) (by
  intro a ha b hb e
  obtain⟨i,hi,rfl⟩:=List.mem_map.1 ha
  obtain⟨j,hj,rfl⟩:=List.mem_map.1 hb
  rw[List.mem_range]at hi hj
  exact(m6 hi hj).1 (congrArg Prod.fst e))
 rw[List.map_map,List.map_map]at hc
 refine⟨hc.1,fun e i j hi hj hq=>?_⟩
 exact hc.2 e (oz R of i,oz R (l4 R n of) i) (List.mem_map.2 ⟨i,List.mem_range.2 hi,rfl⟩) (oz R of j,oz R (l4 R n of) j) (List.mem_map.2 ⟨j,List.mem_range.2 hj,rfl⟩) hq
def ur (of:List Int)(s:Int):Int:=if s = -1 then -1 else of.getD s.toNat 0
theorem xY {R:Int→List Int}{n p:Nat}(hT:Tab n p R){T:List Int}{B:Int→Int→Prop}(hB:Bis n R (fun s=>T.getD s.toNat 0) B):∀ (r:Nat) {s t:Int},In n s→In n t→B s t→(ofY R n T r).getD s.toNat 0=(ofY R n T r).getD t.toNat 0
 | 0,s,t,hs,ht,h=>(hB s t hs ht h).1
 | r+1,s,t,hs,ht,h=>by
  have hs1:=hs.1
  have hs2:=hs.2
  have ht1:=ht.1
  have ht2:=ht.2
  refine(m6 Ll Ll).2 ?_
  have e1:((s.toNat:Nat):Int)=s:=by omega
  have e2:((t.toNat:Nat):Int)=t:=by omega
  unfold oz
  rw[xY hT hB r hs ht h,e1,e2]
  refine congrArg (Prod.mk _) (List.ext_getElem? fun k=>?_)
  rw[List.getElem?_map,List.getElem?_map]
  have hl:(R s).length=(R t).length:=by rw[hT.len s hs,hT.len t ht]
  by_cases hk:k<(R s).length
  ·have g1:(R s)[k]?=some (col R s k):=by unfold col;rw[List.getD_eq_getElem?_getD,List.getElem?_eq_getElem hk];rfl
   have g2:(R t)[k]?=some (col R t k):=by unfold col;rw[List.getD_eq_getElem?_getD,List.getElem?_eq_getElem (hl ▸ hk)];rfl
   rw[g1,g2,Option.map_some,Option.map_some]
   rcases (hB s t hs ht h).2 k with⟨a1,a2⟩|⟨a1,a2,a3⟩
   ·rw[a1,a2]
   ·rw[if_neg a1,if_neg a2,xY hT hB r ((hT.col hs k).resolve_left a1) ((hT.col ht k).resolve_left a2) a3]
  ·rw[List.getElem?_eq_none Ll,List.getElem?_eq_none Ll]
theorem Fm {R:Int→List Int}{n p:Nat}(hT:Tab n p R){T:List Int}{r:Nat}(he:pB R n (ofY R n T r)=pB R n (ofY R n T (r+1))):jK n R (fun s=>T.getD s.toNat 0) (ur (ofY R n T (r+2))):=by
 have hsame:∀ i j,i<n→j<n→((ofY R n T (r+2)).getD i 0=(ofY R n T (r+2)).getD j 0↔(ofY R n T (r+1)).getD i 0=(ofY R n T (r+1)).getD j 0):=fun i j hi hj=>by
  constructor
  ·exact zJ hi hj (r+1)
  ·intro h
   exact(m6 hi hj).2 ((w5 R n (ofY R n T r)).2 he i j hi hj ((m6 hi hj).1 h))
 have kin:∀ {s:Int},In n s→ur (ofY R n T (r+2)) s=(ofY R n T (r+2)).getD s.toNat 0:=fun {s} hs=>by
  unfold ur
  rw[if_neg hs.ne]
 refine⟨by simp[ur],fun s hs=>?_,fun s t hs ht h=>?_,fun s t hs ht h k=>?_,fun B hB s t hs ht h=>?_⟩
 ·rw[kin hs]
  exact E8 (by have:=hs.1;have:=hs.2;omega)
 ·rw[kin hs,kin ht]at h
  have:=hs.1
  have:=hs.2
  have:=ht.1
  have:=ht.2
  exact Ct Ll Ll (r+2) h
 ·rw[kin hs,kin ht]at h
  have hs1:=hs.1
  have hs2:=hs.2
  have ht1:=ht.1
  have ht2:=ht.2
  have e1:((s.toNat:Nat):Int)=s:=by omega
  have e2:((t.toNat:Nat):Int)=t:=by omega
  have h2:=congrArg Prod.snd ((m6 Ll Ll).1 h)
  unfold oz at h2
  rw[e1,e2]at h2
  have hl:(R s).length=(R t).length:=by rw[hT.len s hs,hT.len t ht]
  by_cases hk:k<(R s).length
  ·have g1:(R s)[k]?=some (col R s k):=by unfold col;rw[List.getD_eq_getElem?_getD,List.getElem?_eq_getElem hk];rfl
   have g2:(R t)[k]?=some (col R t k):=by unfold col;rw[List.getD_eq_getElem?_getD,List.getElem?_eq_getElem (hl ▸ hk)];rfl
   have h3:=congrArg (fun l=>l[k]?) h2
   simp only[List.getElem?_map,g1,g2,Option.map_some]at h3
   have h3:=Option.some.inj h3
   rcases hT.col hs k with c1|c1
   ·rw[if_pos c1]at h3
    rcases hT.col ht k with c2|c2
    ·rw[c1,c2]
    ·rw[if_neg c2.ne]at h3
     cases h3
   ·rw[if_neg c1.ne]at h3
    rcases hT.col ht k with c2|c2
    ·rw[if_pos c2]at h3
     cases h3
    ·rw[if_neg c2.ne]at h3
     rw[kin c1,kin c2]
     have c11:=c1.1
     have c12:=c1.2
     have c21:=c2.1
     have c22:=c2.2
     exact(hsame _ _ Ll Ll).2 (Option.some.inj h3)
  ·have g1:col R s k = -1:=gh hk
   have g2:col R t k = -1:=gh Ll
   rw[g1,g2]
 ·rw[kin hs,kin ht]
  exact xY hT hB (r+2) hs ht h
def xN (κ:Int→Int)(n:Nat)(x:PD):PD:=⟨[],(cU n κ x.row 0).map fun s=>(x.row s).map (cr κ (cU n κ x.row 0)),(cU n κ x.row 0).map x.tag⟩
theorem Cm {κ:Int→Int}{n p:Nat}{x:PD}(hT:Tab n p x.row)(h0:In n 0)(hK:jK n x.row x.tag κ):∀ (b:List Int) (i:Nat) (s:Int) (j:Nat) (acc:Int×Int),i<(cU n κ x.row 0).length→In n s→κ ((cU n κ x.row 0).getD i 0)=κ s→l7 (xN κ n x) i b j acc=l7 x s b j acc
 | [],_,_,_,_,_,_,_=>rfl
 | c::b,i,s,j,acc,hi,hs,hk=>by
  obtain⟨hcome,hclosed⟩:=jo hT h0 (κ:=κ)
  have hg:=Hd (a:=(0:Int)) hi
  have hm:=jB (a:=(0:Int)) hi
  have hin:=hcome.inn _ hm
  have hrow:(xN κ n x).row i=(x.row ((cU n κ x.row 0).getD i 0)).map (cr κ (cU n κ x.row 0)):=by
   show((cU n κ x.row 0).map _).getD (i:Int).toNat []=_
   rw[Int.toNat_natCast,cS _ _ _ 0 _ hi]
  have hst:=hK.step _ s hin hs hk c.toNat
  have hcol:col (xN κ n x).row i c.toNat=cr κ (cU n κ x.row 0) (col x.row ((cU n κ x.row 0).getD i 0) c.toNat):=by
   unfold col
   rw[hrow]
   by_cases hc:c.toNat<(x.row ((cU n κ x.row 0).getD i 0)).length
   ·rw[cS _ _ _ (-1) _ hc]
   ·rw[gh (by simpa using hc),gh hc,jy]
  unfold l7
  rw[hcol]
  rcases hT.col hin c.toNat with c1|c1
  ·have c2:col x.row s c.toNat = -1:=by
    have:=(hK.col_no hT hin (k:=c.toNat)).2 c1
    rw[hst]at this
    exact(hK.col_no hT hs).1 this
   rw[c1,c2,jy,if_pos rfl,if_pos rfl]
  ·have hno:=c1.ne
   have hmem:κ (col x.row ((cU n κ x.row 0).getD i 0) c.toNat)∈(cU n κ x.row 0).map κ:=(hclosed _ hm _ (yw hno)).resolve_left hno
   obtain⟨q,hq,hql,hqk⟩:=pa hno hmem
   have c2:col x.row s c.toNat ≠ -1:=fun e=>by
    have:=(hK.col_no hT hs (k:=c.toNat)).2 e
    rw[← hst]at this
    exact hno ((hK.col_no hT hin).1 this)
   have hin2:=(hT.col hs c.toNat).resolve_left c2
   have hqk2:=hqk.trans hst
   have htag:(xN κ n x).tag q=x.tag (col x.row s c.toNat):=by
    show((cU n κ x.row 0).map x.tag).getD (q:Int).toNat (-1)=_
    rw[Int.toNat_natCast,cS _ _ _ 0 _ hql]
    exact hK.tag _ _ (hcome.inn _ (jB hql)) hin2 hqk2
   rw[hq,if_neg Ll,if_neg c2,htag]
   exact Cm hT h0 hK b q _ _ _ hql hin2 hqk2
end
section
open Go
def FK:jx→Prop
 | []=>True
 | p::r=>(p.1=p.2∧FK r)∨∀ q∈r,q=(128,191)
theorem BP:∀ {r:jx},(∀ q∈r,q=(128,191))→FK r
 | [],_=>trivial
 | p::r,h => .inr fun q hq=>h q (by simp[hq])
theorem GC {s:aj}(h:FJ s):FK (d5 s):=by
 have h0:=h.lo
 have hle:=h.le
 have hhi:=h.hi
 have hsz:=tO h.toOneSize
 obtain⟨a,b,c,d,elo,ha,hb,hc,hd⟩:=dig h0
 obtain⟨a',b',c',d',ehi,ha',hb',hc',hd'⟩:=dig (show 0≤s.hi by omega)
 obtain⟨x1,x2,x3,x4,x5,x6,x7,x8⟩:=gj elo hb hc hd
 obtain⟨y1,y2,y3,y4,y5,y6,y7,y8⟩:=gj ehi hb' hc' hd'
 have k1:=fun q=>Jq elo hb hc hd ehi hb' hc' hd' (h.a1 q)
 have k2:=fun q=>Jp elo hb hc hd ehi hb' hc' hd' (h.a2 q)
 have k3:=fun q=>Jo elo hb hc hd ehi hb' hc' hd' (h.a3 q)
 rcases hsz with q|⟨q1,q2⟩|⟨q1,q2⟩|q
 ·rw[d5,sD Ll,sD Ll]
  exact .inr (fun q hq=>by cases hq)
 ·have hs:bF s.lo=2:=by unfold bF;rw[if_neg Ll,if_pos Ll]
  have k1:=k1 Ll
  rw[d5,sC Ll Ll,sC Ll Ll,x3,x6,y3,y6]
  clear k2 k3 x1 x2 x3 x4 x5 x6 x7 x8 y1 y2 y3 y4 y5 y6 y7 y8
  rcases k1 with⟨rfl,rfl,rfl⟩|⟨rfl,rfl⟩
  ·exact .inl ⟨rfl,.inr (fun q hq=>by cases hq)⟩
  ·exact .inr (fun q hq=>by simpa using hq)
 ·have hs:bF s.lo=3:=by unfold bF;rw[if_neg Ll,if_neg Ll,if_pos Ll]
  have k1:=k1 Ll
  have k2:=k2 Ll
  rw[d5,ra Ll Ll,ra Ll Ll,x2,x5,x6,y2,y5,y6]
  clear k3 x1 x2 x3 x4 x5 x6 x7 x8 y1 y2 y3 y4 y5 y6 y7 y8
  rcases k2 with⟨rfl,rfl⟩|⟨rfl,rfl,rfl,rfl⟩
  ·refine .inl ⟨rfl,?_⟩
   rcases k1 with⟨_,_,rfl⟩|⟨rfl,rfl⟩
   ·exact .inl ⟨rfl,.inr (fun q hq=>by cases hq)⟩
   ·exact .inr (fun q hq=>by simpa using hq)
  ·exact .inr (fun q hq=>by
    rcases List.mem_cons.1 hq with rfl|hq
    ·rfl
    ·simpa using hq)
 ·have hs:bF s.lo=4:=by unfold bF;rw[if_neg Ll,if_neg Ll,if_neg Ll]
  have k1:=k1 Ll
  have k2:=k2 Ll
  have k3:=k3 Ll
  rw[d5,sB Ll,sB Ll,x1,x4,x5,x6,y1,y4,y5,y6]
  clear x1 x2 x3 x4 x5 x6 x7 x8 y1 y2 y3 y4 y5 y6 y7 y8
  rcases k3 with rfl|⟨rfl,rfl,rfl,rfl,rfl,rfl⟩
  ·refine .inl ⟨rfl,?_⟩
   rcases k2 with⟨_,rfl⟩|⟨rfl,rfl,rfl,rfl⟩
   ·refine .inl ⟨rfl,?_⟩
    rcases k1 with⟨_,_,rfl⟩|⟨rfl,rfl⟩
    ·exact .inl ⟨rfl,.inr (fun q hq=>by cases hq)⟩
    ·exact .inr (fun q hq=>by simpa using hq)
   ·exact .inr (fun q hq=>by
     rcases List.mem_cons.1 hq with rfl|hq
     ·rfl
     ·simpa using hq)
  ·exact .inr (fun q hq=>by
    rcases List.mem_cons.1 hq with rfl|hq
    ·rfl
    ·rcases List.mem_cons.1 hq with rfl|hq
     ·rfl
     ·simpa using hq)
def t5:List Way→List Int→List Way
 | l,[]=>l
 | l,c::u=>t5 (dS l c) u
def preRow:jx→List Int→Prop
 | _,[]=>True
 | [],_::_=>False
 | p::r,c::u=>(p.1≤c∧c≤p.2)∧preRow r u
theorem t4:∀ {u:List Int} {l:List Way} {v:Way},v∈t5 l u↔∃ w∈l,preRow w.1 u∧v=(w.1.drop u.length,w.2)
 | [],l,v=>by
  show v∈l↔_
  constructor
  ·intro h;exact⟨v,h,by cases v.1<;>trivial,rfl⟩
  ·rintro⟨w,hw,_,rfl⟩;exact hw
 | c::u,l,v=>by
  show v∈t5 (dS l c) u↔_
  rw[t4]
  constructor
  ·rintro⟨w,hw,h1,rfl⟩
   obtain⟨p,hp,hc⟩:=eP.1 hw
   exact⟨_,hp,⟨hc,h1⟩,rfl⟩
  ·rintro⟨⟨r,t⟩,hw,h1,rfl⟩
   cases r with
   | nil=>exact h1.elim
   | cons p r=>exact⟨(r,t),eP.2 ⟨p,hw,h1.1⟩,h1.2,rfl⟩
theorem wB:∀ (u:List Int) (l:List Way) (c:Int),t5 l (u++[c])=dS (t5 l u) c
 | [],l,c=>rfl
 | x::u,l,c=>wB u (dS l x) c
structure u6 (l:List Way):Prop where
 ne:∀ w∈l,w.1≠[]∧∀ p∈w.1,p.1≤p.2
 uni:∀ w∈l,∀ v∈l,∀ b t,ii w.1 b→ii v.1 (b++t)→t=[]∧w=v
 casc:∀ w∈l,FK w.1
 tail:∀ w∈l,∀ q∈w.1.tail,128≤q.1∧q.2≤191
theorem FC {p:Int×Int}{r:jx}(h:FK (p::r)):FK r:=by
 rcases h with h|h
 ·exact h.2
 ·exact BP h
theorem u6.rem {l:List Way}(h:u6 l){c:Int}(hne:∀ v∈dS l c,v.1≠[]):u6 (dS l c):=by
 refine⟨fun v hv=>⟨hne v hv,?_⟩,fun w hw v hv b t h1 h2=>?_,fun v hv=>?_,fun v hv q hq=>?_⟩
 ·obtain⟨p,hp,_⟩:=eP.1 hv
  exact fun q hq=>(h.ne _ hp).2 q (by simp[hq])
 ·obtain⟨p,hp,hpc⟩:=eP.1 hw
  obtain⟨q,hq,hqc⟩:=eP.1 hv
  obtain⟨g1,g2⟩:=h.uni _ hp _ hq (c::b) t ⟨hpc,h1⟩ ⟨hqc,h2⟩
  injection g2 with g2 g3
  injection g2 with g4 g5
  exact⟨g1,Prod.ext g5 g3⟩
 ·obtain⟨p,hp,_⟩:=eP.1 hv
  exact FC (h.casc _ hp)
 ·obtain⟨p,hp,_⟩:=eP.1 hv
  exact h.tail _ hp q (List.mem_of_mem_tail hq)
theorem wR {r:jx}{b:List Int}(h:ii r b):r.length=b.length:=by
 induction r generalizing b with
 | nil=>cases b with
  | nil=>rfl
  | cons _ _=>exact h.elim
 | cons p r ih=>cases b with
  | nil=>exact h.elim
  | cons c b=>simp[ih h.2]
theorem tv:∀ {r:jx},(∀ q∈r,q=(128,191))→∀ {b:List Int},(∀ c∈b,128≤c∧c≤191)→r.length=b.length→ii r b
 | [],_,[],_,_=>trivial
 | [],_,_::_,_,h=>by simp at h
 | _::_,_,[],_,h=>by simp at h
 | p::r,hr,c::b,hb,h=>by
  have e:=hr p Lm
  subst e
  exact⟨hb c Lm,tv (fun q hq=>hr q (by simp[hq])) (fun x hx=>hb x (by simp[hx])) (by simpa using h)⟩
theorem yk {r:jx}(h:∀ q∈r,128≤q.1∧q.2≤191){b:List Int}(hb:ii r b):∀ c∈b,128≤c∧c≤191:=by
 induction r generalizing b with
 | nil=>cases b with
  | nil=>intro c hc;cases hc
  | cons _ _=>exact hb.elim
 | cons p r ih=>cases b with
  | nil=>exact hb.elim
  | cons c b =>
   intro x hx
   have h1:=h p Lm
   rcases List.mem_cons.1 hx with rfl|hx
   ·have:=hb.1;omega
   ·exact ih (fun q hq=>h q (by simp[hq])) hb.2 x hx
theorem r8 {l:List Way}(h:u6 l){p:Int×Int}{r:jx}{t:Int}(hw:(p::r,t)∈l)(hr:∀ q∈r,q=(128,191)){c:Int}(hc:p.1≤c∧c≤p.2){v:Way}(hv:v∈l){q:Int×Int}{r2:jx}(e:v.1=q::r2)(hq:q.1≤c∧c≤q.2):(p::r,t)=v:=by
 have hne:=(h.ne v hv).2
 rw[e]at hne
 obtain⟨b,hb⟩:=uy (r:=r2) fun x hx=>hne x (by simp[hx])
 have htl:=h.tail v hv
 rw[e]at htl
 have hbb:=yk htl hb
 have hlb:=wR hb
 rcases Nat.le_total r.length b.length with hl|hl
 ·have h1:ii (p::r) (c::b.take r.length):=⟨hc,tv hr (fun x hx=>hbb x (List.mem_of_mem_take hx)) (by rw[List.length_take];omega)⟩
  exact(h.uni _ hw _ hv (c::b.take r.length) (b.drop r.length) h1 (by rw[e];exact⟨hq,show ii r2 (b.take r.length++b.drop r.length) by rw[List.take_append_drop];exact hb⟩)).2
 ·have h1:ii (p::r) (c::b++List.replicate (r.length-b.length) 128):=⟨hc,tv hr (fun x hx=>by
   rcases List.mem_append.1 hx with hx|hx
   ·exact hbb x hx
   ·rw[(List.mem_replicate.1 hx).2];omega) (by simp;omega)⟩
  exact(h.uni _ hv _ hw (c::b) _ (by rw[e];exact⟨hq,hb⟩) h1).2.symm
theorem t0 {c c':Int}:∀ {l:List Way},(∀ w∈l,∀ p r,w.1=p::r→((p.1≤c∧c≤p.2)↔(p.1≤c'∧c'≤p.2)))→dS l c=dS l c'
 | [],_=>rfl
 | w::l,h=>by
  have ih:=t0 (l:=l) fun v hv=>h v (by simp[hv])
  unfold dS at ih ⊢
  rw[List.filterMap_cons,List.filterMap_cons,ih]
  cases e:w.1 with
  | nil=>rfl
  | cons p r =>
   have:=h w Lm p r e
   by_cases hc:p.1≤c∧c≤p.2
   ·simp only[if_pos hc,if_pos (this.1 hc)]
   ·simp only[if_neg hc,if_neg (fun x=>hc (this.2 x))]
theorem zn:∀ (u u':List Int) {l:List Way},u6 l→∀ w∈l,u.length=u'.length→u.length<w.1.length→preRow w.1 u→preRow w.1 u'→t5 l u=t5 l u'
 | [],[],_,_,_,_,_,_,_,_=>rfl
 | [],_::_,_,_,_,_,h,_,_,_=>by simp at h
 | _::_,[],_,_,_,_,h,_,_,_=>by simp at h
 | c::u,c'::u',l,hg,(p::r,t),hw,hl,hlt,h1,h2=>by
  simp only[List.length_cons]at hl hlt
  have hm:(r,t)∈dS l c:=eP.2 ⟨p,hw,h1.1⟩
  have hrne:=(hg.ne _ hw).2
  have hgr:u6 (dS l c):=hg.rem fun v hv e=>by
   obtain⟨q,hq,hqc⟩:=eP.1 hv
   rw[e]at hq
   obtain⟨b,hb⟩:=uy (r:=r) fun x hx=>hrne x (by simp[hx])
   have g:=(hg.uni _ hq _ hw [c] b ⟨hqc,trivial⟩ ⟨h1.1,hb⟩).1
   subst g
   have:r.length=0:=wR hb
   omega
  have heq:dS l c=dS l c':=by
   rcases hg.casc _ hw with⟨g,_⟩|g
   ·have:c=c':=by have a1:p.1≤c∧c≤p.2:=h1.1;have a2:p.1≤c'∧c'≤p.2:=h2.1;omega
    rw[this]
   ·refine t0 fun v hv q r2 e=>⟨fun hq=>?_,fun hq=>?_⟩
    ·have:=r8 hg hw g h1.1 hv e hq
     rw[← this]at e
     injection e with e1 e2
     subst e1
     exact h2.1
    ·have:=r8 hg hw g h2.1 hv e hq
     rw[← this]at e
     injection e with e1 e2
     subst e1
     exact h1.1
  show t5 (dS l c) u=t5 (dS l c') u'
  rw[← heq]
  exact zn u u' hgr (r,t) hm Ll (by simp only;omega) h1.2 h2.2
theorem Ab {x:Int}(h:0≤x):∀ c∈(bt x).tail,128≤c∧c≤191:=by
 intro c hc
 unfold bt at hc
 split at hc
 ·simp at hc
 ·split at hc
  ·simp at hc;omega
  ·split at hc
   ·simp at hc;omega
   ·simp at hc;omega
theorem FL:∀ {a b:List Int},(a.zip b).tail=a.tail.zip b.tail
 | [],_=>by simp
 | _::_,[]=>by simp
 | x::a,y::b=>by simp
theorem GB {s:aj}(h:FJ s):∀ q∈(d5 s).tail,128≤q.1∧q.2≤191:=by
 intro q hq
 have h0:=h.lo
 have hle:=h.le
 unfold d5 at hq
 rw[FL]at hq
 have h1:=List.of_mem_zip (a:=q.1) (b:=q.2) hq
 exact⟨(Ab h0 _ h1.1).1,(Ab Ll _ h1.2).2⟩
theorem Iq (s:aj):(d5 s).length≤4:=by
 unfold d5
 rw[List.length_zip,dq,dq]
 have:=dn s.lo
 omega
theorem BE {l:List aj}{s t:aj}(hs:s∈eZ l)(ht:t∈eZ l){x:Int}(h1:s.lo≤x∧x≤s.hi)(h2:t.lo≤x∧x≤t.hi):s=t:=by
 obtain⟨i,hi⟩:=List.getElem?_of_mem hs
 obtain⟨j,hj⟩:=List.getElem?_of_mem ht
 obtain⟨hi1,hi2⟩:=List.getElem?_eq_some_iff.1 hi
 obtain⟨hj1,hj2⟩:=List.getElem?_eq_some_iff.1 hj
 have hp:=(iK l).2.2
 rcases Nat.lt_trichotomy i j with h|h|h
 ·have:=List.pairwise_iff_getElem.1 hp i j hi1 hj1 h
  rw[hi2,hj2]at this
  omega
 ·subst h
  rw[← hi2,← hj2]
 ·have:=List.pairwise_iff_getElem.1 hp j i hj1 hi1 h
  rw[hi2,hj2]at this
  omega
theorem yQ {parts:List (List aj)}(ha:B8 parts)(next:List Int):u6 (cL parts next):=by
 refine⟨fun w hw=>?_,fun w hw v hv b t h1 h2=>?_,fun w hw=>?_,fun w hw=>?_⟩
 ·obtain⟨k,p,_,_,_,h⟩:=fI.1 hw
  exact Cj h
 ·obtain⟨i,p,a1,a2,a3,a4⟩:=fI.1 hw
  obtain⟨j,q,b1,b2,b3,b4⟩:=fI.1 hv
  obtain⟨s1,c1,c2⟩:=List.mem_map.1 a4
  obtain⟨s2,d1,d2⟩:=List.mem_map.1 b4
  rw[← c2]at h1
  rw[← d2]at h2
  obtain⟨x,x1,x2,x3⟩:=(qH ((iK p).1 s1 c1) b).1 h1
  obtain⟨y,y1,y2,y3⟩:=(qH ((iK q).1 s2 d1) (b++t)).1 h2
  have hx:=((iK p).2.1 x).1 ⟨s1,c1,x1,x2⟩
  have hy:=((iK q).2.1 y).1 ⟨s2,d1,y1,y2⟩
  obtain⟨e1,e2⟩:=Ac (kY hx).1 (kY hy).1 (t:=t) (by rw[x3,y3])
  subst e1
  have e3:=ha i j p q a1 b1 x hx hy
  subst e3
  rw[a1]at b1
  have e4:=Option.some.inj b1
  subst e4
  have e5:=BE c1 d1 ⟨x1,x2⟩ ⟨y1,y2⟩
  subst e5
  rw[a2]at b2
  exact⟨e2,Prod.ext (c2.symm.trans d2) (Option.some.inj b2)⟩
 ·obtain⟨i,p,a1,a2,a3,a4⟩:=fI.1 hw
  obtain⟨s1,c1,c2⟩:=List.mem_map.1 a4
  rw[← c2]
  exact GC ((iK p).1 s1 c1)
 ·obtain⟨i,p,a1,a2,a3,a4⟩:=fI.1 hw
  obtain⟨s1,c1,c2⟩:=List.mem_map.1 a4
  rw[← c2]
  exact GB ((iK p).1 s1 c1)
theorem C5 {parts:List (List aj)}{next:List Int}:∀ w∈cL parts next,w.1.length≤4:=by
 intro w hw
 obtain⟨i,p,a1,a2,a3,a4⟩:=fI.1 hw
 obtain⟨s1,c1,c2⟩:=List.mem_map.1 a4
 rw[← c2]
 exact Iq s1
def KV (d:PD)(a:RSt):Prop:=(In d.n a.1∧a.2=[])∨(a.1 = -1∧∃ i u,In d.n i∧u≠[]∧a.2=t5 (cL d.parts (d.row i)) u∧a.2≠[]∧∀ w∈a.2,w.1≠[])
theorem qB {l l':List Way}{c:Int}(hs:jb l c = .amid l'):l'≠[]∧∀ w∈l',w.1≠[]:=by
 unfold jb at hs
 split at hs
 ·cases hs
 ·rename_i hf
  split at hs
  ·cases hs
  ·rename_i hne
   injection hs with hs
   subst hs
   refine⟨hne,fun w hw e=>?_⟩
   have:=List.find?_eq_none.1 hf w hw
   simp[e]at this
theorem EQ {d:PD}(h:d.Ok)(m:Nat):∀ a∈cH d m,KV d a:=by
 refine rq (.inl ⟨h.zero,rfl⟩) (fun a b ha hb=>?_) m
 obtain⟨c,_,hc⟩:=og hb
 have hin:InR d a:=by
  rcases ha with ha|⟨h1,i,u,h2,h3,h4,h5,h6⟩
  ·exact .inl ha
  ·refine .inr ⟨h1,fun w hw=>?_⟩
   rw[h4]at hw
   obtain⟨v,hv,_,rfl⟩:=t4.1 hw
   exact xm h h2 v hv
 unfold cX at hc
 split at hc
 ·cases hc
 ·rename_i i hi
  cases hc
  exact .inl ⟨sX (nZ h hin) hi,rfl⟩
 ·rename_i l hl
  cases hc
  obtain⟨g1,g2⟩:=qB hl
  have g3:=rB hl
  refine .inr ⟨rfl,?_⟩
  rcases ha with⟨h1,h2⟩|⟨h1,i,u,h2,h3,h4,h5,h6⟩
  ·have e:eu d a=cL d.parts (d.row a.1):=by unfold eu;rw[if_neg (by have:=h1.1;omega)]
   exact⟨a.1,[(c:Int)],h1,by simp,by rw[g3,e];rfl,g1,g2⟩
  ·have e:eu d a=a.2:=by unfold eu;rw[if_pos Ll]
   exact⟨i,u++[(c:Int)],h2,by simp,by rw[g3,e,h4,wB],g1,g2⟩
def jf (l:List Way):List (Way×Nat):=l.flatMap fun w=>(List.range (w.1.length-1)).map fun j=>(w,j+1)
theorem wK {l:List Way}{w:Way}{j:Nat}:(w,j)∈jf l↔w∈l∧1≤j∧j<w.1.length:=by
 unfold jf
 rw[List.mem_flatMap]
 constructor
 ·rintro⟨v,hv,h⟩
  obtain⟨k,hk,e⟩:=List.mem_map.1 h
  cases e
  rw[List.mem_range]at hk
  exact⟨hv,by omega,by omega⟩
 ·rintro⟨h1,h2,h3⟩
  exact⟨w,h1,List.mem_map.2 ⟨j-1,List.mem_range.2 Ll,by rw[show j-1+1=j by omega]⟩⟩
theorem wD {d:PD}(h:d.Ok){K:Nat}(hK:∀ i,In d.n i→(jf (cL d.parts (d.row i))).length≤K)(m:Nat):(cH d m).length≤d.n+d.n*K:=by
 have hp:=EQ h m
 -- a number for each
 have hex:∀ a∈cH d m,∃ x:Int,In (d.n+d.n*K) x∧((In d.n a.1∧a.2=[]∧x=a.1)∨(a.1 = -1∧∃ i u w,In d.n i∧(w,u.length)∈jf (cL d.parts (d.row i))∧preRow w.1 u∧a.2=t5 (cL d.parts (d.row i)) u∧x=d.n+(i*K+((jf (cL d.parts (d.row i))).idxOf (w,u.length):Nat)))):=by
  intro a ha
  rcases hp a ha with⟨h1,h2⟩|⟨h1,i,u,h2,h3,h4,h5,h6⟩
  ·refine⟨a.1,⟨h1.1,?_⟩,.inl ⟨h1,h2,rfl⟩⟩
   have:=h1.2
   omega
  ·obtain⟨v,hv⟩:=List.exists_mem_of_ne_nil _ h5
   have hv2:=hv
   rw[h4]at hv2
   obtain⟨w,hw,hpre,e⟩:=t4.1 hv2
   have hlt:u.length<w.1.length:=by
    have:=h6 v hv
    rw[e]at this
    apply Classical.byContradiction
    intro hn
    exact this (List.drop_eq_nil_of_le Ll)
   have hul:1≤u.length:=by
    cases u with
    | nil=>exact absurd rfl h3
    | cons _ _=>simp
   have hmem:=wK.2 ⟨hw,hul,hlt⟩
   have hidx:=List.idxOf_lt_length_iff.2 hmem
   have hk:=hK i h2
   obtain⟨n,rfl⟩:∃ n:Nat,i=n:=⟨i.toNat,by have:=h2.1;omega⟩
   have hn:=h2.2
   have hmul:n*K+K≤d.n*K:=by
    have:=Nat.mul_le_mul_right K (show n+1≤d.n by omega)
    rw[Nat.add_mul,Nat.one_mul]at this
    exact this
   refine⟨_,⟨?_,?_⟩,.inr ⟨h1,n,u,w,h2,hmem,hpre,h4,rfl⟩⟩
   ·have:(0:Int)≤(n:Int)*(K:Int):=by rw[← Int.natCast_mul];omega
    omega
   ·have e2:(n:Int)*(K:Int)=((n*K:Nat):Int):=by rw[Int.natCast_mul]
    rw[e2]
    omega
 let f:RSt→Int:=fun a=>if ha:a∈cH d m then Classical.choose (hex a ha) else 0
 have hf:∀ a (ha:a∈cH d m),f a=Classical.choose (hex a ha):=fun a ha=>dif_pos ha
 have hinj:∀ a∈cH d m,∀ b∈cH d m,f a=f b→a=b:=by
  intro a ha b hb e
  rw[hf a ha,hf b hb]at e
  obtain⟨a1,a2⟩:=Classical.choose_spec (hex a ha)
  obtain⟨b1,b2⟩:=Classical.choose_spec (hex b hb)
  generalize Classical.choose (hex a ha)=x at *
  generalize Classical.choose (hex b hb)=y at *
  subst e
  have big:∀ {i:Int} {q:Nat},In d.n i→(d.n:Int)≤d.n+(i*K+(q:Nat)):=fun {i q} hi=>by
   have:=Int.mul_nonneg hi.1 (Int.natCast_nonneg K)
   omega
  rcases a2 with⟨p1,p2,p3⟩|⟨p1,i,u,w,p2,p3,p4,p5,p6⟩<;>rcases b2 with⟨q1,q2,q3⟩|⟨q1,i',u',w',q2,q3,q4,q5,q6⟩
  ·exact Prod.ext Ll (p2.trans q2.symm)
  ·have:=big (q:=(jf (cL d.parts (d.row i'))).idxOf (w',u'.length)) q2
   have:=p1.2
   omega
  ·have:=big (q:=(jf (cL d.parts (d.row i))).idxOf (w,u.length)) p2
   have:=q1.2
   omega
  ·have k1:=List.idxOf_lt_length_iff.2 p3
   have k2:=List.idxOf_lt_length_iff.2 q3
   have k3:=hK i p2
   have k4:=hK i' q2
   have hii:i=i':=by
    have e:i*(K:Int)+((jf (cL d.parts (d.row i))).idxOf (w,u.length):Nat)=i'*(K:Int)+((jf (cL d.parts (d.row i'))).idxOf (w',u'.length):Nat):=by omega
    generalize (jf (cL d.parts (d.row i))).idxOf (w,u.length)=s at *
    generalize (jf (cL d.parts (d.row i'))).idxOf (w',u'.length)=t at *
    have hk0:0<(K:Int):=by omega
    have d1:(i*(K:Int)+s) / K=i:=by rw[Int.add_comm,Int.add_mul_ediv_right _ _ Ll,Int.ediv_eq_zero_of_lt Ll Ll];omega
    have d2:(i'*(K:Int)+t) / K=i':=by rw[Int.add_comm,Int.add_mul_ediv_right _ _ Ll,Int.ediv_eq_zero_of_lt Ll Ll];omega
    rw[← d1,← d2,e]
   subst hii
   have e2:(jf (cL d.parts (d.row i))).idxOf (w,u.length)=(jf (cL d.parts (d.row i))).idxOf (w',u'.length):=by omega
   have e3:(w,u.length)=(w',u'.length):=by
    have g1:=List.getElem_idxOf k1
    have g2:=List.getElem_idxOf k2
    rw[← g1,← g2]
    simp only[e2]
   injection e3 with e4 e5
   subst e4
   have hlt:=(wK.1 p3)
   refine Prod.ext (p1.trans q1.symm) ?_
   rw[p5,q5]
   exact zn u u' (yQ h.apart' _) w hlt.1 e5 hlt.2.2 p4 q4
 have hnd:((cH d m).map f).Nodup:=by
  have:=qq (dO d) ((0,[]):RSt) m
  refine List.Pairwise.map _ (R:=fun a b=>a∈cH d m∧b∈cH d m∧a≠b) (fun a b ⟨ha,hb,hab⟩ e=>hab (hinj a ha b hb e)) (List.Pairwise.and_mem.1 this)
 have:=ou (d.n+d.n*K) ((cH d m).map f) hnd fun x hx=>by
  obtain⟨a,ha,rfl⟩:=List.mem_map.1 hx
  rw[hf a ha]
  exact(Classical.choose_spec (hex a ha)).1
 simpa using this
end
section
open Go
def LvP (a b:Int):Prop:=(a=64∧b=4096)∨(a=64∧b=262144)∨(a=4096∧b=262144)
theorem uc (n:Nat):(jd n).Pairwise LvP:=by
 unfold jd
 split<;>simp[LvP]
theorem sl {m:Int}{ms:List Int}{s:aj}(h:ja m s):fL (m::ms) s=fL ms s:=by
 show(if s.lo / m=s.hi / m then fL ms s else if s.lo%m≠0 then(s.lo / m+1)*m else if s.hi%m≠m-1 then s.hi / m*m else fL ms s)=_
 split
 ·rfl
 ·rename_i h1
  have h2:=h.resolve_left h1
  rw[if_neg (by simp[h2.1]),if_neg (by simp[h2.2])]
theorem mt:∀ {pre ms:List Int} {s:aj},(∀ m∈pre,ja m s)→fL (pre++ms) s=fL ms s
 | [],_,_,_=>rfl
 | m::pre,ms,s,h=>by
  rw[List.cons_append,sl (h m Lm)]
  exact mt fun q hq=>h q (by simp[hq])
theorem pZ {ms:List Int}{s:aj}(h:∀ m∈ms,ja m s):fL ms s=0:=by
 have:=mt (ms:=[]) h
 rw[List.append_nil]at this
 rw[this]
 rfl
theorem uL {s:aj}{x:Int}(hx:eX s=x)(h1:s.lo<x)(h2:x≤s.hi):iG s=iG ⟨s.lo,x-1⟩++iG ⟨x,s.hi⟩:=by
 subst hx
 rw[iG,dif_pos ⟨h1,h2⟩]
theorem oK {s:aj}(hx:eX s=0)(h0:0≤s.lo):iG s=[s]:=by
 rw[iG,dif_neg (by rw[hx];omega)]
theorem pj {m' m:Int}(h:LvP m' m){s:aj}(he:ja m' s)(hd:¬ s.lo / m=s.hi / m):s.lo%m'=0∧s.hi%m'=m'-1:=by
 rcases he with he|he
 ·exfalso
  rcases h with⟨rfl,rfl⟩|⟨rfl,rfl⟩|⟨rfl,rfl⟩<;>omega
 ·exact he
theorem yd {m' m:Int}(h:LvP m' m)(q:Int):(q*m)%m'=0∧(q*m-1)%m'=m'-1:=by
 rcases h with⟨rfl,rfl⟩|⟨rfl,rfl⟩|⟨rfl,rfl⟩<;>omega
theorem Cw {m M:Int}(h:LvP m M){x y:Int}(hx:x / m=y / m):x / M=y / M:=by
 rcases h with⟨rfl,rfl⟩|⟨rfl,rfl⟩|⟨rfl,rfl⟩<;>omega
theorem zO {m:Int}(h:m=64∨m=4096∨m=262144)(x:Int):x / m=((x / m+1)*m-1) / m∧x / m*m / m=x / m∧((x / m+1)*m)%m=0∧(x / m*m-1)%m=m-1∧(x / m*m)%m=0:=by
 rcases h with rfl|rfl|rfl<;>omega
theorem w0 {n:Nat}{m:Int}{ms pre:List Int}(hp:pre++m::ms=jd n)
  (ih:∀ s,OneSize s→bF s.lo=n→(∀ q∈pre++[m],ja q s)→(iG s).length≤2*ms.length+1)
  (s:aj) (h1:OneSize s) (hn:bF s.lo=n) (he:∀ q∈pre,ja q s) (hz:s.lo%m=0):(iG s).length≤2*ms.length+2:=by
 have hpair:=uc n
 rw[← hp,List.pairwise_append]at hpair
 obtain⟨_,hp2,hp3⟩:=hpair
 have hlow:∀ q∈pre,LvP q m:=fun q hq=>hp3 q hq m Lm
 have hup:∀ q∈ms,LvP m q:=(List.pairwise_cons.1 hp2).1
 have hm:m=64∨m=4096∨m=262144:=o7 (n:=n) m (by rw[← hp];simp)
 by_cases hev:ja m s
 ·have:=ih s h1 hn fun q hq=>by
   rcases List.mem_append.1 hq with hq|hq
   ·exact he q hq
   ·simp only[List.mem_singleton]at hq;subst hq;exact hev
  omega
 ·have hd:¬ s.lo / m=s.hi / m:=fun e=>hev (.inl e)
  have hr:s.hi%m≠m-1:=fun e=>hev (.inr ⟨hz,e⟩)
  have hpl:eX s=s.hi / m*m:=by
   unfold eX
   rw[hn,← hp,mt he]
   show(if s.lo / m=s.hi / m then fL ms s else if s.lo%m≠0 then(s.lo / m+1)*m else if s.hi%m≠m-1 then s.hi / m*m else fL ms s)=_
   rw[if_neg hd,if_neg (by simp[hz]),if_pos hr]
  have hin:=(o9 h1.lo h1.le).resolve_left (by
   rw[hpl]
   have:=h1.lo
   have:=h1.le
   rcases hm with rfl|rfl|rfl<;>omega)
  rw[hpl]at hin
  obtain⟨g1,g2⟩:=qR h1 hin.1 hin.2
  obtain⟨b1,b2,b3,b4,b5⟩:=zO hm s.hi
  rw[uL hpl hin.1 hin.2,List.length_append]
  have k1:=ih ⟨s.lo,s.hi / m*m-1⟩ g1 hn fun q hq=>by
   rcases List.mem_append.1 hq with hq|hq
   ·exact .inr ⟨(pj (hlow q hq) (he q hq) hd).1,(yd (hlow q hq) _).2⟩
   ·simp only[List.mem_singleton]at hq;subst hq;exact .inr ⟨hz,b4⟩
  have k2:iG ⟨s.hi / m*m,s.hi⟩=[⟨s.hi / m*m,s.hi⟩]:=by
   refine oK ?_ g2.lo
   unfold eX
   have e:bF (s.hi / m*m)=n:=by
    have q1:=g2.size
    have q2:=h1.size
    simp only at q1
    rw[q1,← q2,hn]
   show fL (jd (bF (s.hi / m*m))) _=0
   rw[e,← hp]
   refine pZ fun q hq=>?_
   rcases List.mem_append.1 hq with hq|hq
   ·exact .inr ⟨(yd (hlow q hq) _).1,(pj (hlow q hq) (he q hq) hd).2⟩
   ·rcases List.mem_cons.1 hq with rfl|hq
    ·exact .inl b2
    ·exact .inl (Cw (hup q hq) b2)
  rw[k2]
  simp only[List.length_singleton]
  omega
theorem rW {n:Nat}:∀ (ms pre:List Int),pre++ms=jd n→∀ s,OneSize s→bF s.lo=n→(∀ q∈pre,ja q s)→(iG s).length≤2*ms.length+1
 | [],pre,hp,s,h1,hn,he=>by
  rw[List.append_nil]at hp
  have:eX s=0:=by
   unfold eX
   rw[hn,← hp]
   exact pZ he
  rw[oK this h1.lo]
  simp
 | m::ms,pre,hp,s,h1,hn,he=>by
  have ih:=fun s=>rW ms (pre++[m]) (by rw[← hp];simp) s
  have hpair:=uc n
  rw[← hp,List.pairwise_append]at hpair
  obtain⟨_,hp2,hp3⟩:=hpair
  have hlow:∀ q∈pre,LvP q m:=fun q hq=>hp3 q hq m Lm
  have hup:∀ q∈ms,LvP m q:=(List.pairwise_cons.1 hp2).1
  have hm:m=64∨m=4096∨m=262144:=o7 (n:=n) m (by rw[← hp];simp)
  by_cases hz:s.lo%m=0
  ·have:=w0 hp ih s h1 hn he hz
   simp only[List.length_cons]
   omega
  ·by_cases hd:s.lo / m=s.hi / m
   ·have:=ih s h1 hn fun q hq=>by
     rcases List.mem_append.1 hq with hq|hq
     ·exact he q hq
     ·simp only[List.mem_singleton]at hq;subst hq;exact .inl hd
    simp only[List.length_cons]
    omega
   ·have hpl:eX s=(s.lo / m+1)*m:=by
     unfold eX
     rw[hn,← hp,mt he]
     show(if s.lo / m=s.hi / m then fL ms s else if s.lo%m≠0 then(s.lo / m+1)*m else if s.hi%m≠m-1 then s.hi / m*m else fL ms s)=_
     rw[if_neg hd,if_pos hz]
    have hin:=(o9 h1.lo h1.le).resolve_left (by
     rw[hpl]
     have:=h1.lo
     have:=h1.le
     rcases hm with rfl|rfl|rfl<;>omega)
    rw[hpl]at hin
    obtain⟨g1,g2⟩:=qR h1 hin.1 hin.2
    obtain⟨b1,b2,b3,b4,b5⟩:=zO hm s.lo
    rw[uL hpl hin.1 hin.2,List.length_append]
    have k1:iG ⟨s.lo,(s.lo / m+1)*m-1⟩=[⟨s.lo,(s.lo / m+1)*m-1⟩]:=by
     refine oK ?_ g1.lo
     show fL (jd (bF s.lo)) _=0
     rw[hn,← hp]
     refine pZ fun q hq=>?_
     rcases List.mem_append.1 hq with hq|hq
     ·exact .inr ⟨(pj (hlow q hq) (he q hq) hd).1,(yd (hlow q hq) _).2⟩
     ·rcases List.mem_cons.1 hq with rfl|hq
      ·exact .inl b1
      ·exact .inl (Cw (hup q hq) b1)
    have e:bF ((s.lo / m+1)*m)=n:=by
     have q1:=g2.size
     have q2:=h1.size
     simp only at q1
     rw[q1,← q2,hn]
    have k2:=w0 hp ih ⟨(s.lo / m+1)*m,s.hi⟩ g2 e (fun q hq => .inr ⟨(yd (hlow q hq) _).1,(pj (hlow q hq) (he q hq) hd).2⟩) b3
    rw[k1]
    simp only[List.length_nil,List.length_cons]
    omega
theorem Hw {s:aj}(h:OneSize s):∀ q∈iG s,bF q.lo=bF s.lo:=by
 intro q hq
 obtain⟨k1,k2,k3⟩:=lI s h
 have hf:=k1 q hq
 have g1:=(k2 q.lo).1 ⟨q,hq,Int.le_refl _,hf.le⟩
 have a1:=lV g1.1
 have a2:=lV g1.2
 have:=h.size
 omega
def qe (l:List aj):Nat:=(l.map fun q=>bF q.lo-1).sum
theorem mu (a b:List aj):qe (a++b)=qe a+qe b:=by simp[qe]
theorem GZ {s:aj}(h:OneSize s):qe (iG s)≤(2*(bF s.lo-1)+1)*(bF s.lo-1):=by
 have hc:(iG s).length≤2*(bF s.lo-1)+1:=by
  have hl:(jd (bF s.lo)).length=bF s.lo-1:=by
   have:=dn s.lo
   have:bF s.lo=1∨bF s.lo=2∨bF s.lo=3∨bF s.lo=4:=by omega
   rcases this with e|e|e|e<;>rw[e]<;>rfl
  have:=rW (jd (bF s.lo)) [] rfl s h rfl (fun q hq=>by cases hq)
  rw[hl]at this
  exact this
 have key:∀ (l:List aj),(∀ q∈l,bF q.lo=bF s.lo)→qe l=l.length*(bF s.lo-1):=by
  intro l
  induction l with
  | nil=>intro _;simp[qe]
  | cons a l ih =>
   intro hl
   have h1:=ih fun q hq=>hl q (by simp[hq])
   have h2:=hl a Lm
   simp only[qe,List.map_cons,List.sum_cons,List.length_cons]at h1 ⊢
   rw[h1,h2,Nat.add_mul,Nat.one_mul]
   omega
 rw[key _ (Hw h)]
 exact Nat.mul_le_mul_right _ hc
theorem te {α β:Type}(f:α→Option β)(a:α)(l:List α):(a::l).filterMap f=(f a).toList++l.filterMap f:=by
 cases h:f a<;>simp[List.filterMap_cons,h]
theorem Fc (s:aj):qe ((dm s).flatMap iG)≤34:=by
  have key:∀ (p:Int×Int) (w:Nat),(∀ q:aj,max s.lo p.1≤min s.hi p.2→OneSize ⟨max s.lo p.1,min s.hi p.2⟩→bF (max s.lo p.1)=w)→p∈jz →
      qe (((if max s.lo p.1≤min s.hi p.2 then some (⟨max s.lo p.1,min s.hi p.2⟩:aj) else none).toList).flatMap iG)≤(2*(w-1)+1)*(w-1):=by
    intro p w hw hp
    split
    · rename_i hc
      have ho:OneSize ⟨max s.lo p.1,min s.hi p.2⟩:=lT (s:=s) (lU.2 ⟨p,hp,hc,rfl⟩)
      have:=GZ ho
      have e:bF (aj.mk (max s.lo p.1) (min s.hi p.2)).lo=w:=hw ⟨0,0⟩ hc ho
      rw[e]at this
      simpa using this
    · simp[qe]
  have e:dm s=(if max s.lo 0≤min s.hi 127 then some (⟨max s.lo 0,min s.hi 127⟩:aj) else none).toList++((if max s.lo 128≤min s.hi 2047 then some (⟨max s.lo 128,min s.hi 2047⟩:aj) else none).toList++((if max s.lo 2048≤min s.hi 65535 then some (⟨max s.lo 2048,min s.hi 65535⟩:aj) else none).toList++(if max s.lo 65536≤min s.hi 1114111 then some (⟨max s.lo 65536,min s.hi 1114111⟩:aj) else none).toList)):=by
    unfold dm jz
    rw[te,te,te,te,List.filterMap_nil,List.append_nil]
  rw[e,List.flatMap_append,List.flatMap_append,List.flatMap_append,mu,mu,mu]
  have k1:=key (0,127) 1 (fun _ h _=>by simp only at h ⊢;unfold bF;rw[if_pos Ll]) (by simp[jz])
  have k2:=key (128,2047) 2 (fun _ h _=>by simp only at h ⊢;unfold bF;rw[if_neg Ll,if_pos Ll]) (by simp[jz])
  have k3:=key (2048,65535) 3 (fun _ h _=>by simp only at h ⊢;unfold bF;rw[if_neg Ll,if_neg Ll,if_pos Ll]) (by simp[jz])
  have k4:=key (65536,1114111) 4 (fun _ h _=>by simp only at h ⊢;unfold bF;rw[if_neg Ll,if_neg Ll,if_neg Ll]) (by simp[jz])
  simp only at k1 k2 k3 k4
  omega
theorem Bh (l:List aj):qe (eZ l)≤34*(bd l).length:=by
 unfold eZ
 induction bd l with
 | nil=>simp[qe]
 | cons s t ih =>
  have h1:=Fc s
  rw[List.flatMap_cons,List.flatMap_append,mu,List.length_cons]
  omega
theorem Fa {α:Type}(l:List aj)(t:Int):(jf ((dp l).map fun r=>(r,t))).length=qe (eZ l):=by
 have hf:=(iK l).1
 unfold dp
 generalize eZ l=q at *
 induction q with
 | nil=>rfl
 | cons s q ih =>
  have h1:=ih fun x hx=>hf x (by simp[hx])
  have hs:=(hf s Lm).size
  have hl:(d5 s).length=bF s.lo:=by
   unfold d5
   rw[List.length_zip,dq,dq]
   omega
  simp only[jf,qe,List.map_cons,List.flatMap_cons,List.length_append,List.sum_cons,List.length_map,List.length_range]at h1 ⊢
  rw[h1,hl]
theorem yb (a b:List Way):jf (a++b)=jf a++jf b:=by simp[jf]
theorem rM:∀ (parts:List (List aj)) (next:List Int),(∀ p∈parts,bd p=p)→(jf (cL parts next)).length≤34*(parts.map List.length).sum
 | [],_,_=>by simp[cL,jf]
 | _::_,[],_=>by simp[cL,jf]
 | p::parts,t::next,h=>by
  have ih:=rM parts next fun q hq=>h q (by simp[hq])
  have e:cL (p::parts) (t::next)=(if t = -1 then [] else(dp p).map fun r=>(r,t))++cL parts next:=by simp[cL]
  rw[e,yb,List.length_append,List.map_cons,List.sum_cons]
  refine Nat.le_trans (Nat.add_le_add (b:=34*p.length) ?_ ih) Ll
  split
  ·simp[jf]
  ·rw[Fa (α:=Nat)]
   have:=Bh p
   rw[h p Lm]at this
   exact this
end
end Go.Proofs.YtlnobeojgifojaaGreatDoor
