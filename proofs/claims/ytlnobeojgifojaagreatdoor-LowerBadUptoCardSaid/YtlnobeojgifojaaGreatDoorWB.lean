/- Machines of bytes, plainly: ways' machine, and what it tells. Machines of bytes, plainly: kinds of states, told apart round by round; one state of each kind. Machines of bytes, plainly: how many states there are. Machines of bytes, plainly: how many rows there are. -/
import Derived.Test.YtlnobeojgifojaaGreatDoorWA
import Derived.Test.YtlnobeojgifojaaGreatDoorP2
set_option linter.unusedVariables false
set_option linter.unusedSimpArgs false
namespace Go.Proofs.YtlnobeojgifojaaGreatDoor
section
open Go
def lr (x:PD):Int→List Int→Nat→Int×Int→Int×Int
 | _,[],_,acc=>acc
 | s,c::b,i,acc=>if col x.row s c.toNat = -1 then acc else lr x (col x.row s c.toNat) b (i+1) (if 0≤x.tag (col x.row s c.toNat) then((i+1:Nat),x.tag (col x.row s c.toNat)) else acc)
abbrev RSt:=Int×List Way
def eo (d:PD)(a:RSt):List Way:=if a.1<0 then a.2 else cN d.parts (d.row a.1)
def cV (d:PD)(a:RSt)(c:Int):Option RSt:=match iZ (eo d a) c with
 | .none=>none
 | .own i=>some (i,[])
 | .amid l=>some (-1,l)
def nO (d:PD)(a:RSt):Int:=if a.1<0 then -1 else d.tag a.1
def dL (d:PD)(a:RSt):List (Option RSt):=(List.range 256).map fun c:Nat=>cV d a c
def cG (d:PD)(m:Nat):List RSt:=eZ (dL d) (0,[]) m
def jn (d:PD)(m:Nat):PD:=⟨[],j5 (dL d) (cG d m),(cG d m).map (nO d)⟩
def InR (d:PD)(a:RSt):Prop:=(In d.n a.1∧a.2=[])∨(a.1 = -1∧∀ w∈a.2,In d.n w.2)
theorem xc {d:PD}(h:d.Ok){s:Int}(hs:In d.n s):∀ w∈cN d.parts (d.row s),In d.n w.2:=by
 intro w hw
 obtain⟨k,p,_,h2,h3,_⟩:=fG.1 hw
 exact(h.tab.to s hs _ (List.mem_of_getElem? h2)).resolve_left h3
theorem Gt {n:Nat}{l:List Way}(h:∀ w∈l,In n w.2)(c:Int):∀ w∈dQ l c,In n w.2:=fun w hw=>by
 obtain⟨p,hp,_⟩:=eK.1 hw
 exact h (p::w.1,w.2) hp
theorem sR {n:Nat}{l:List Way}(h:∀ w∈l,In n w.2){c i:Int}(hs:iZ l c = .own i):In n i:=by
 unfold iZ at hs
 split at hs
 ·rename_i w hw
  injection hs with hs
  subst hs
  exact Gt h c w (List.mem_of_find?_eq_some hw)
 ·split at hs<;>cases hs
theorem rt {l l':List Way}{c:Int}(hs:iZ l c = .amid l'):l'=dQ l c:=by
 unfold iZ at hs
 split at hs
 ·cases hs
 ·split at hs
  ·cases hs
  ·injection hs with hs
   exact hs.symm
theorem nS {d:PD}(h:d.Ok){a:RSt}(ha:InR d a):∀ w∈eo d a,In d.n w.2:=by
 unfold eo
 rcases ha with⟨h1,h2⟩|⟨h1,h2⟩
 ·rw[if_neg (by have:=h1.1;omega)]
  exact xc h h1
 ·rw[if_pos (by omega)]
  exact h2
theorem zP {d:PD}(h:d.Ok){a b:RSt}(ha:InR d a){c:Int}(hb:cV d a c=some b):InR d b:=by
 have hw:=nS h ha
 unfold cV at hb
 split at hb
 ·cases hb
 ·rename_i i hi
  cases hb
  exact .inl ⟨sR hw hi,rfl⟩
 ·rename_i l hl
  cases hb
  exact .inr ⟨rfl,by rw[rt hl];exact Gt hw c⟩
theorem n8 {d:PD}{a b:RSt}(h:some b∈dL d a):∃ c:Nat,c<256∧cV d a c=some b:=by
 obtain⟨c,hc,e⟩:=List.mem_map.1 h
 exact⟨c,List.mem_range.1 hc,e⟩
theorem Ie {d:PD}(h:d.Ok)(m:Nat):∀ a∈cG d m,InR d a :=
 ri (.inl ⟨h.zero,rfl⟩) (fun a b ha hb=>by
  obtain⟨c,_,hc⟩:=n8 hb
  exact zP h ha hc) m
theorem Ib {d:PD}{m s:Nat}{a:RSt}(ha:(cG d m)[s]?=some a):(jn d m).row s=(dL d a).map (gR (cG d m)):=by
 show(j5 (dL d) (cG d m)).getD (s:Int).toNat []=_
 unfold j5
 rw[Int.toNat_natCast,List.getD_eq_getElem?_getD,List.getElem?_map,ha]
 rfl
theorem sT {d:PD}{m s:Nat}{a:RSt}(ha:(cG d m)[s]?=some a):(jn d m).tag s=nO d a:=by
 show((cG d m).map (nO d)).getD (s:Int).toNat (-1)=_
 rw[Int.toNat_natCast,List.getD_eq_getElem?_getD,List.getElem?_map,ha]
 rfl
theorem B8 {d:PD}{m s:Nat}{a:RSt}(ha:(cG d m)[s]?=some a){c:Nat}(hc:c<256):col (jn d m).row s c=gR (cG d m) (cV d a c):=by
 unfold col
 rw[Ib ha,List.getD_eq_getElem?_getD,List.getElem?_map]
 have:(dL d a)[c]?=some (cV d a c):=by
  unfold dL
  rw[List.getElem?_map,List.getElem?_range hc]
  rfl
 rw[this]
 rfl
def ml (d:PD):List Way→List Int→Nat→Int×Int→Int×Int
 | _,[],_,acc=>acc
 | l,c::b,i,acc=>match iZ l c with
  | .none=>acc
  | .own t=>ml d (cN d.parts (d.row t)) b (i+1) (if 0≤d.tag t then((i+1:Nat),d.tag t) else acc)
  | .amid l'=>ml d l' b (i+1) acc
theorem xC {d:PD}(h:d.Ok){m:Nat}(hle:(cG d m).length≤m):∀ (b:List Int),(∀ c∈b,0≤c∧c<256)→∀ (s i:Nat) (a:RSt) (acc:Int×Int),(cG d m)[s]?=some a→lr (jn d m) s b i acc=ml d (eo d a) b i acc
 | [],_,_,_,_,_,_=>rfl
 | c::b,hb,s,i,a,acc,ha=>by
  have hc:=hb c (by simp)
  have hb2:∀ c∈b,0≤c∧c<256:=fun x hx=>hb x (by simp[hx])
  obtain⟨k,rfl⟩:∃ k:Nat,c=k:=⟨c.toNat,by omega⟩
  have hai:=Ie h m a (List.mem_of_getElem? ha)
  have hcol:=B8 ha (c:=k) (by omega)
  unfold lr ml
  rw[Int.toNat_natCast,hcol]
  cases hs:iZ (eo d a) (k:Int) with
  | none =>
   have e:cV d a (k:Int)=none:=by unfold cV;rw[hs]
   rw[e]
   rfl
  | own t =>
   have e:cV d a (k:Int)=some (t,[]):=by unfold cV;rw[hs]
   have ht:=sR (nS h hai) hs
   have hm:(t,[])∈cG d m:=oH hle ha (List.mem_map.2 ⟨k,List.mem_range.2 (by omega),e⟩)
   obtain⟨q,hq,hql,hqa⟩:=oZ hm
   rw[e,hq,if_neg (by omega),sT hqa,xC h hle b hb2 q (i+1) _ _ hqa]
   have e2:nO d (t,[])=d.tag t:=by unfold nO;rw[if_neg (by have:=ht.1;simp only;omega)]
   have e3:eo d (t,[])=cN d.parts (d.row t):=by unfold eo;rw[if_neg (by have:=ht.1;simp only;omega)]
   rw[e2,e3]
  | amid l =>
   have e:cV d a (k:Int)=some (-1,l):=by unfold cV;rw[hs]
   have hm:(-1,l)∈cG d m:=oH hle ha (List.mem_map.2 ⟨k,List.mem_range.2 (by omega),e⟩)
   obtain⟨q,hq,hql,hqa⟩:=oZ hm
   rw[e,hq,if_neg (by omega),sT hqa,xC h hle b hb2 q (i+1) _ _ hqa]
   have e2:nO d (-1,l) = -1:=by unfold nO;rw[if_pos (by simp only;omega)]
   have e3:eo d (-1,l)=l:=by unfold eo;rw[if_pos (by simp only;omega)]
   rw[e2,e3,if_neg (by omega)]
theorem A8 (d:PD)(l:List Way)(c:Int)(b:List Int)(i:Nat)(acc:Int×Int):ml d l (c::b) i acc=match iZ l c with
  | .none=>acc
  | .own t=>ml d (cN d.parts (d.row t)) b (i+1) (if 0≤d.tag t then((i+1:Nat),d.tag t) else acc)
  | .amid l'=>ml d l' b (i+1) acc:=rfl
theorem zD (d:PD):∀ (b:List Int) {l:List Way},w8 l→∀ (i:Nat) (acc:Int×Int),
  (∀ u v t,b=u++v→yp l u t→ml d l b i acc=ml d (cN d.parts (d.row t)) v (i+u.length) (if 0≤d.tag t then((i+u.length:Nat),d.tag t) else acc))∧((∀ u v t,b=u++v→¬ yp l u t)→ml d l b i acc=acc)
 | [],l,hg,i,acc=>by
  refine⟨fun u v t e h=>?_,fun _=>rfl⟩
  have:u=[]:=by
   cases u with
   | nil=>rfl
   | cons _ _=>cases e
  subst this
  exact absurd h (rg hg t)
 | c::b,l,hg,i,acc=>by
  rw[A8]
  cases hs:iZ l c with
  | none =>
   have h0:=AC hs
   refine⟨fun u v t e h=>?_,fun _=>rfl⟩
   cases u with
   | nil=>exact absurd h (rg hg t)
   | cons x u =>
    injection e with e1 e2
    subst e1
    rw[re,h0]at h
    obtain⟨w,hw,_⟩:=h
    cases hw
  | own q =>
   have h0:=C0 hg hs
   refine⟨fun u v t e h=>?_,fun hn=>absurd ((h0 [] q).2 ⟨rfl,rfl⟩) (hn [c] b q rfl)⟩
   cases u with
   | nil=>exact absurd h (rg hg t)
   | cons x u =>
    injection e with e1 e2
    subst e1
    obtain⟨rfl,rfl⟩:=(h0 u t).1 h
    have e2:b=v:=e2
    subst e2
    rfl
  | amid l' =>
   obtain⟨e0,_,hg2⟩:=AD hg hs
   obtain⟨i1,i2⟩:=zD d b hg2 (i+1) acc
   refine⟨fun u v t e h=>?_,fun hn=>i2 fun u v t e h=>hn (c::u) v t (by rw[e];rfl) (re.2 (by rw[← e0];exact h))⟩
   cases u with
   | nil=>exact absurd h (rg hg t)
   | cons x u =>
    injection e with e1 e2
    subst e1
    rw[re,← e0]at h
    have:=i1 u v t e2 h
    show ml d l' b (i+1) acc=_
    rw[this]
    have e3:i+1+u.length=i+(c::u).length:=by simp;omega
    rw[e3]
theorem PD.Ok.apart' {d:PD}(h:d.Ok):BQ d.parts:=by
 intro i j p q hp hq x hx hy
 have e1:d.part i=p:=by simp[PD.part,List.getD_eq_getElem?_getD,hp]
 have e2:d.part j=q:=by simp[PD.part,List.getD_eq_getElem?_getD,hq]
 have n1:=fH h i
 have n2:=fH h j
 rw[e1]at n1
 rw[e2]at n2
 rw[n1]at hx
 rw[n2]at hy
 exact lS h (by rw[e1];exact hx) (by rw[e2];exact hy)
theorem IU {d:PD}(h:d.Ok){s:Int}(hs:In d.n s){u:List Int}{t:Int}:yp (cN d.parts (d.row s)) u t↔∃ (k:Nat) (x:Int),gP d.parts x=some k∧col d.row s k=t∧t ≠ -1∧br x=u∧0≤x:=by
 rw[CS]
 constructor
 ·rintro⟨k,p,x,h1,h2,h3,h4,h5⟩
  have hk:=lt_of_getElem? h1
  have e1:d.part k=p:=by simp[PD.part,List.getD_eq_getElem?_getD,h1]
  have n1:=fH h k
  rw[e1]at n1
  have hn:=kT h4
  rw[n1]at h4
  refine⟨k,x,(dP h).2 ⟨hk,by rw[e1];exact h4⟩,?_,h3,h5,hn.1⟩
  unfold col
  rw[List.getD_eq_getElem?_getD,h2]
  rfl
 ·rintro⟨k,x,h1,h2,h3,h4,h5⟩
  obtain⟨g1,g2⟩:=(dP h).1 h1
  have hl:=h.tab.len s hs
  refine⟨k,d.part k,x,?_,?_,h3,?_,h4⟩
  ·simp[PD.part,List.getD_eq_getElem?_getD,g1]
  ·have:k<(d.row s).length:=by rw[hl];exact g1
   rw[← h2]
   unfold col
   rw[List.getD_eq_getElem?_getD,List.getElem?_eq_getElem this]
   rfl
  ·rw[fH h k]
   exact g2
def sM (l:List Int)(k:Nat):Nat:=((l.take k).flatMap br).length
theorem Fc {l:List Int}{k:Nat}{x:Int}(h:l[k]?=some x):sM l (k+1)=sM l k+(br x).length:=by
 unfold sM
 rw[aS h,List.flatMap_append,List.length_append]
 simp
theorem Cy {d:PD}(h:d.Ok):∀ (n:Nat) (b:List Int),b.length≤n→∀ (s:Int),In d.n s→∀ (i:Nat) (acc:Int×Int),
  ml d (cN d.parts (d.row s)) b i acc=acc∨∃ (k:Nat) (l:List Int) (t:Int),ml d (cN d.parts (d.row s)) b i acc=(((i+k:Nat):Int),t)∧k≤b.length∧b.take k=l.flatMap br∧∀ x∈l,cv x=true
 | n,b,hn,s,hs,i,acc=>by
  obtain⟨h1,h2⟩:=zD d b (Ax h.apart' (d.row s)) i acc
  by_cases hex:∃ u v t,b=u++v∧yp (cN d.parts (d.row s)) u t
  ·obtain⟨u,v,t,e,ha⟩:=hex
   obtain⟨k,x,a1,a2,a3,a4,a5⟩:=(IU h hs).1 ha
   have hin:=(h.tab.col hs k).resolve_left (fun e=>a3 (a2.symm.trans e))
   rw[a2]at hin
   have hx:cv x=true:=by
    obtain⟨g1,g2⟩:=(dP h).1 a1
    exact gS (fH h k) g2
   have hu:=dv x
   have hr:=cO x
   rw[a4]at hu
   have hlen:b.length=u.length+v.length:=by rw[e,List.length_append]
   obtain⟨m,rfl⟩:∃ m,n=m+1:=⟨n-1,by omega⟩
   rw[h1 u v t e ha]
   rcases Cy h m v (by omega) t hin (i+u.length) (if 0≤d.tag t then((i+u.length:Nat),d.tag t) else acc) with q|⟨k2,l,t2,q1,q2,q3,q4⟩
   ·rw[q]
    by_cases ht:0≤d.tag t
    ·rw[if_pos ht]
     refine .inr ⟨u.length,[x],_,rfl,by omega,?_,by simpa using hx⟩
     rw[e,List.take_left']
     ·simp[a4]
     ·rfl
    ·rw[if_neg ht]
     exact .inl rfl
   ·right
    refine⟨u.length+k2,x::l,t2,?_,by omega,?_,fun y hy=>?_⟩
    ·rw[q1,Nat.add_assoc]
    ·rw[e,List.take_append,List.take_of_length_le (by omega),List.flatMap_cons,a4,← q3]
     congr 2
     omega
    ·rcases List.mem_cons.1 hy with rfl|hy
     ·exact hx
     ·exact q4 y hy
  ·exact .inl (h2 fun u v t e ha=>hex ⟨u,v,t,e,ha⟩)
end
section
open Go
def ot (R:Int→List Int)(of:List Int)(s:Nat):Int×List (Option Int):=(of.getD s 0,(R s).map fun to=>if to = -1 then none else some (of.getD to.toNat 0))
def mo (R:Int→List Int)(n:Nat)(of:List Int):List (Int×List (Option Int)):=(List.range n).map (ot R of)
def lT (R:Int→List Int)(n:Nat)(of:List Int):List Int:=(hZ (mo R n of)).map fun k:Nat=>(k:Int)
def ofY (R:Int→List Int)(n:Nat)(T:List Int):Nat→List Int
 | 0=>T
 | r+1=>lT R n (ofY R n T r)
def pm (R:Int→List Int)(n:Nat)(of:List Int):Nat:=(bN (mo R n of)).length
theorem rG {R:Int→List Int}{n:Nat}{of:List Int}{i:Nat}(h:i<n):(mo R n of)[i]?=some (ot R of i):=by
 unfold mo
 rw[List.getElem?_map,List.getElem?_range h]
 rfl
theorem xO (R:Int→List Int)(n:Nat)(of:List Int):(lT R n of).length=n:=by simp[lT,gh,mo]
theorem mS {R:Int→List Int}{n:Nat}{of:List Int}{i j:Nat}(hi:i<n)(hj:j<n):(lT R n of).getD i 0=(lT R n of).getD j 0↔ot R of i=ot R of j:=by
 have h:=Ch (rG (R:=R) (of:=of) hi) (rG (R:=R) (of:=of) hj)
 rw[← h]
 have hl:(hZ (mo R n of)).length=n:=by simp[gh,mo]
 unfold lT
 rw[List.getD_eq_getElem?_getD,List.getD_eq_getElem?_getD,List.getElem?_map,List.getElem?_map,List.getElem?_eq_getElem (by omega),List.getElem?_eq_getElem (by omega)]
 simp only[Option.map_some,Option.getD_some,Option.some.injEq]
 exact Int.ofNat_inj
theorem E0 {R:Int→List Int}{n:Nat}{of:List Int}{i:Nat}(hi:i<n):0≤(lT R n of).getD i 0:=by
 unfold lT
 rw[List.getD_eq_getElem?_getD,List.getElem?_map]
 cases (hZ (mo R n of))[i]? with
 | none=>simp
 | some k=>simp
theorem zw {R:Int→List Int}{n:Nat}{T:List Int}{i j:Nat}(hi:i<n)(hj:j<n)(r:Nat)(h:(ofY R n T (r+1)).getD i 0=(ofY R n T (r+1)).getD j 0):(ofY R n T r).getD i 0=(ofY R n T r).getD j 0:=by
 have:=(mS hi hj).1 h
 exact congrArg Prod.fst this
theorem Cf {R:Int→List Int}{n:Nat}{T:List Int}{i j:Nat}(hi:i<n)(hj:j<n):∀ r,(ofY R n T r).getD i 0=(ofY R n T r).getD j 0→T.getD i 0=T.getD j 0
 | 0,h=>h
 | r+1,h=>Cf hi hj r (zw hi hj r h)
theorem Ct (R:Int→List Int)(n:Nat)(of:List Int):pm R n of≤n:=by
 have:=jG (mo R n of)
 simpa[pm,mo] using this
theorem Hn {R:Int→List Int}{n:Nat}(hn:1≤n)(of:List Int):1≤pm R n of:=by
 have:ot R of 0∈bN (mo R n of):=jo.2 (List.mem_map.2 ⟨0,by rw[List.mem_range];omega,rfl⟩)
 exact List.length_pos_of_mem this
theorem wR (R:Int→List Int)(n:Nat)(of:List Int):pm R n of≤pm R n (lT R n of)∧(pm R n of=pm R n (lT R n of)→∀ i j,i<n→j<n→ot R of i=ot R of j→ot R (lT R n of) i=ot R (lT R n of) j):=by
 have hc:=Hm ((List.range n).map fun i:Nat=>(ot R of i,ot R (lT R n of) i)) (by
  intro a ha b hb e
  obtain⟨i,hi,rfl⟩:=List.mem_map.1 ha
  obtain⟨j,hj,rfl⟩:=List.mem_map.1 hb
  rw[List.mem_range]at hi hj
  exact(mS hi hj).1 (congrArg Prod.fst e))
 rw[List.map_map,List.map_map]at hc
 refine⟨hc.1,fun e i j hi hj hq=>?_⟩
 exact hc.2 e (ot R of i,ot R (lT R n of) i) (List.mem_map.2 ⟨i,List.mem_range.2 hi,rfl⟩) (ot R of j,ot R (lT R n of) j) (List.mem_map.2 ⟨j,List.mem_range.2 hj,rfl⟩) hq
def uj (of:List Int)(s:Int):Int:=if s = -1 then -1 else of.getD s.toNat 0
theorem xM {R:Int→List Int}{n p:Nat}(hT:Tab n p R){T:List Int}{B:Int→Int→Prop}(hB:Bis n R (fun s=>T.getD s.toNat 0) B):∀ (r:Nat) {s t:Int},In n s→In n t→B s t→(ofY R n T r).getD s.toNat 0=(ofY R n T r).getD t.toNat 0
 | 0,s,t,hs,ht,h=>(hB s t hs ht h).1
 | r+1,s,t,hs,ht,h=>by
  have hs1:=hs.1
  have hs2:=hs.2
  have ht1:=ht.1
  have ht2:=ht.2
  refine(mS (by omega) (by omega)).2 ?_
  have e1:((s.toNat:Nat):Int)=s:=by omega
  have e2:((t.toNat:Nat):Int)=t:=by omega
  unfold ot
  rw[xM hT hB r hs ht h,e1,e2]
  refine congrArg (Prod.mk _) (List.ext_getElem? fun k=>?_)
  rw[List.getElem?_map,List.getElem?_map]
  have hl:(R s).length=(R t).length:=by rw[hT.len s hs,hT.len t ht]
  by_cases hk:k<(R s).length
  ·have g1:(R s)[k]?=some (col R s k):=by unfold col;rw[List.getD_eq_getElem?_getD,List.getElem?_eq_getElem hk];rfl
   have g2:(R t)[k]?=some (col R t k):=by unfold col;rw[List.getD_eq_getElem?_getD,List.getElem?_eq_getElem (hl ▸ hk)];rfl
   rw[g1,g2,Option.map_some,Option.map_some]
   rcases (hB s t hs ht h).2 k with⟨a1,a2⟩|⟨a1,a2,a3⟩
   ·rw[a1,a2]
   ·rw[if_neg a1,if_neg a2,xM hT hB r ((hT.col hs k).resolve_left a1) ((hT.col ht k).resolve_left a2) a3]
  ·rw[List.getElem?_eq_none (by omega),List.getElem?_eq_none (by omega)]
theorem Ff {R:Int→List Int}{n p:Nat}(hT:Tab n p R){T:List Int}{r:Nat}(he:pm R n (ofY R n T r)=pm R n (ofY R n T (r+1))):jH n R (fun s=>T.getD s.toNat 0) (uj (ofY R n T (r+2))):=by
 have hsame:∀ i j,i<n→j<n→((ofY R n T (r+2)).getD i 0=(ofY R n T (r+2)).getD j 0↔(ofY R n T (r+1)).getD i 0=(ofY R n T (r+1)).getD j 0):=fun i j hi hj=>by
  constructor
  ·exact zw hi hj (r+1)
  ·intro h
   exact(mS hi hj).2 ((wR R n (ofY R n T r)).2 he i j hi hj ((mS hi hj).1 h))
 have kin:∀ {s:Int},In n s→uj (ofY R n T (r+2)) s=(ofY R n T (r+2)).getD s.toNat 0:=fun {s} hs=>by
  unfold uj
  rw[if_neg hs.ne]
 refine⟨by simp[uj],fun s hs=>?_,fun s t hs ht h=>?_,fun s t hs ht h k=>?_,fun B hB s t hs ht h=>?_⟩
 ·rw[kin hs]
  exact E0 (by have:=hs.1;have:=hs.2;omega)
 ·rw[kin hs,kin ht]at h
  have:=hs.1
  have:=hs.2
  have:=ht.1
  have:=ht.2
  exact Cf (by omega) (by omega) (r+2) h
 ·rw[kin hs,kin ht]at h
  have hs1:=hs.1
  have hs2:=hs.2
  have ht1:=ht.1
  have ht2:=ht.2
  have e1:((s.toNat:Nat):Int)=s:=by omega
  have e2:((t.toNat:Nat):Int)=t:=by omega
  have h2:=congrArg Prod.snd ((mS (by omega) (by omega)).1 h)
  unfold ot at h2
  rw[e1,e2]at h2
  have hl:(R s).length=(R t).length:=by rw[hT.len s hs,hT.len t ht]
  by_cases hk:k<(R s).length
  ·have g1:(R s)[k]?=some (col R s k):=by unfold col;rw[List.getD_eq_getElem?_getD,List.getElem?_eq_getElem hk];rfl
   have g2:(R t)[k]?=some (col R t k):=by unfold col;rw[List.getD_eq_getElem?_getD,List.getElem?_eq_getElem (hl ▸ hk)];rfl
   have h3:=congrArg (fun l=>l[k]?) h2
   simp only[List.getElem?_map,g1,g2,Option.map_some]at h3
   have h3:=Option.some.inj h3
   rcases hT.col hs k with c1|c1
   ·rw[if_pos c1]at h3
    rcases hT.col ht k with c2|c2
    ·rw[c1,c2]
    ·rw[if_neg c2.ne]at h3
     cases h3
   ·rw[if_neg c1.ne]at h3
    rcases hT.col ht k with c2|c2
    ·rw[if_pos c2]at h3
     cases h3
    ·rw[if_neg c2.ne]at h3
     rw[kin c1,kin c2]
     have c11:=c1.1
     have c12:=c1.2
     have c21:=c2.1
     have c22:=c2.2
     exact(hsame _ _ (by omega) (by omega)).2 (Option.some.inj h3)
  ·have g1:col R s k = -1:=gj hk
   have g2:col R t k = -1:=gj (by omega)
   rw[g1,g2]
 ·rw[kin hs,kin ht]
  exact xM hT hB (r+2) hs ht h
def xB (κ:Int→Int)(n:Nat)(x:PD):PD:=⟨[],(cR n κ x.row 0).map fun s=>(x.row s).map (cp κ (cR n κ x.row 0)),(cR n κ x.row 0).map x.tag⟩
theorem B7 {κ:Int→Int}{n p:Nat}{x:PD}(hT:Tab n p x.row)(h0:In n 0)(hK:jH n x.row x.tag κ):∀ (b:List Int) (i:Nat) (s:Int) (j:Nat) (acc:Int×Int),i<(cR n κ x.row 0).length→In n s→κ ((cR n κ x.row 0).getD i 0)=κ s→lr (xB κ n x) i b j acc=lr x s b j acc
 | [],_,_,_,_,_,_,_=>rfl
 | c::b,i,s,j,acc,hi,hs,hk=>by
  obtain⟨hcome,hclosed⟩:=jm hT h0 (κ:=κ)
  have hg:=G2 (a:=(0:Int)) hi
  have hm:=jx (a:=(0:Int)) hi
  have hin:=hcome.inn _ hm
  have hrow:(xB κ n x).row i=(x.row ((cR n κ x.row 0).getD i 0)).map (cp κ (cR n κ x.row 0)):=by
   show((cR n κ x.row 0).map _).getD (i:Int).toNat []=_
   rw[Int.toNat_natCast,cM _ _ _ 0 _ hi]
  have hst:=hK.step _ s hin hs hk c.toNat
  have hcol:col (xB κ n x).row i c.toNat=cp κ (cR n κ x.row 0) (col x.row ((cR n κ x.row 0).getD i 0) c.toNat):=by
   unfold col
   rw[hrow]
   by_cases hc:c.toNat<(x.row ((cR n κ x.row 0).getD i 0)).length
   ·rw[cM _ _ _ (-1) _ hc]
   ·rw[gj (by simpa using hc),gj hc,jv]
  unfold lr
  rw[hcol]
  rcases hT.col hin c.toNat with c1|c1
  ·have c2:col x.row s c.toNat = -1:=by
    have:=(hK.col_no hT hin (k:=c.toNat)).2 c1
    rw[hst]at this
    exact(hK.col_no hT hs).1 this
   rw[c1,c2,jv,if_pos rfl,if_pos rfl]
  ·have hno:=c1.ne
   have hmem:κ (col x.row ((cR n κ x.row 0).getD i 0) c.toNat)∈(cR n κ x.row 0).map κ:=(hclosed _ hm _ (yg hno)).resolve_left hno
   obtain⟨q,hq,hql,hqk⟩:=oY hno hmem
   have c2:col x.row s c.toNat ≠ -1:=fun e=>by
    have:=(hK.col_no hT hs (k:=c.toNat)).2 e
    rw[← hst]at this
    exact hno ((hK.col_no hT hin).1 this)
   have hin2:=(hT.col hs c.toNat).resolve_left c2
   have hqk2:=hqk.trans hst
   have htag:(xB κ n x).tag q=x.tag (col x.row s c.toNat):=by
    show((cR n κ x.row 0).map x.tag).getD (q:Int).toNat (-1)=_
    rw[Int.toNat_natCast,cM _ _ _ 0 _ hql]
    exact hK.tag _ _ (hcome.inn _ (jx hql)) hin2 hqk2
   rw[hq,if_neg (by omega),if_neg c2,htag]
   exact B7 hT h0 hK b q _ _ _ hql hin2 hqk2
end
section
open Go
def FB:ju→Prop
 | []=>True
 | p::r=>(p.1=p.2∧FB r)∨∀ q∈r,q=(128,191)
theorem BA:∀ {r:ju},(∀ q∈r,q=(128,191))→FB r
 | [],_=>trivial
 | p::r,h => .inr fun q hq=>h q (by simp[hq])
theorem Gq {s:ai}(h:FA s):FB (dY s):=by
 have h0:=h.lo
 have hle:=h.le
 have hhi:=h.hi
 have hsz:=tH h.toOneSize
 obtain⟨a,b,c,d,elo,ha,hb,hc,hd⟩:=dig h0
 obtain⟨a',b',c',d',ehi,ha',hb',hc',hd'⟩:=dig (show 0≤s.hi by omega)
 obtain⟨x1,x2,x3,x4,x5,x6,x7,x8⟩:=gk elo hb hc hd
 obtain⟨y1,y2,y3,y4,y5,y6,y7,y8⟩:=gk ehi hb' hc' hd'
 have k1:=fun q=>Jc elo hb hc hd ehi hb' hc' hd' (h.a1 q)
 have k2:=fun q=>Jb elo hb hc hd ehi hb' hc' hd' (h.a2 q)
 have k3:=fun q=>Ja elo hb hc hd ehi hb' hc' hd' (h.a3 q)
 rcases hsz with q|⟨q1,q2⟩|⟨q1,q2⟩|q
 ·rw[dY,ss (by omega),ss (by omega)]
  exact .inr (fun q hq=>by cases hq)
 ·have hs:bB s.lo=2:=by unfold bB;rw[if_neg (by omega),if_pos (by omega)]
  have k1:=k1 (by omega)
  rw[dY,sr (by omega) (by omega),sr (by omega) (by omega),x3,x6,y3,y6]
  clear k2 k3 x1 x2 x3 x4 x5 x6 x7 x8 y1 y2 y3 y4 y5 y6 y7 y8
  rcases k1 with⟨rfl,rfl,rfl⟩|⟨rfl,rfl⟩
  ·exact .inl ⟨rfl,.inr (fun q hq=>by cases hq)⟩
  ·exact .inr (fun q hq=>by simpa using hq)
 ·have hs:bB s.lo=3:=by unfold bB;rw[if_neg (by omega),if_neg (by omega),if_pos (by omega)]
  have k1:=k1 (by omega)
  have k2:=k2 (by omega)
  rw[dY,qV (by omega) (by omega),qV (by omega) (by omega),x2,x5,x6,y2,y5,y6]
  clear k3 x1 x2 x3 x4 x5 x6 x7 x8 y1 y2 y3 y4 y5 y6 y7 y8
  rcases k2 with⟨rfl,rfl⟩|⟨rfl,rfl,rfl,rfl⟩
  ·refine .inl ⟨rfl,?_⟩
   rcases k1 with⟨_,_,rfl⟩|⟨rfl,rfl⟩
   ·exact .inl ⟨rfl,.inr (fun q hq=>by cases hq)⟩
   ·exact .inr (fun q hq=>by simpa using hq)
  ·exact .inr (fun q hq=>by
    rcases List.mem_cons.1 hq with rfl|hq
    ·rfl
    ·simpa using hq)
 ·have hs:bB s.lo=4:=by unfold bB;rw[if_neg (by omega),if_neg (by omega),if_neg (by omega)]
  have k1:=k1 (by omega)
  have k2:=k2 (by omega)
  have k3:=k3 (by omega)
  rw[dY,sq (by omega),sq (by omega),x1,x4,x5,x6,y1,y4,y5,y6]
  clear x1 x2 x3 x4 x5 x6 x7 x8 y1 y2 y3 y4 y5 y6 y7 y8
  rcases k3 with rfl|⟨rfl,rfl,rfl,rfl,rfl,rfl⟩
  ·refine .inl ⟨rfl,?_⟩
   rcases k2 with⟨_,rfl⟩|⟨rfl,rfl,rfl,rfl⟩
   ·refine .inl ⟨rfl,?_⟩
    rcases k1 with⟨_,_,rfl⟩|⟨rfl,rfl⟩
    ·exact .inl ⟨rfl,.inr (fun q hq=>by cases hq)⟩
    ·exact .inr (fun q hq=>by simpa using hq)
   ·exact .inr (fun q hq=>by
     rcases List.mem_cons.1 hq with rfl|hq
     ·rfl
     ·simpa using hq)
  ·exact .inr (fun q hq=>by
    rcases List.mem_cons.1 hq with rfl|hq
    ·rfl
    ·rcases List.mem_cons.1 hq with rfl|hq
     ·rfl
     ·simpa using hq)
def tV:List Way→List Int→List Way
 | l,[]=>l
 | l,c::u=>tV (dQ l c) u
def preRow:ju→List Int→Prop
 | _,[]=>True
 | [],_::_=>False
 | p::r,c::u=>(p.1≤c∧c≤p.2)∧preRow r u
theorem tU:∀ {u:List Int} {l:List Way} {v:Way},v∈tV l u↔∃ w∈l,preRow w.1 u∧v=(w.1.drop u.length,w.2)
 | [],l,v=>by
  show v∈l↔_
  constructor
  ·intro h;exact⟨v,h,by cases v.1<;>trivial,rfl⟩
  ·rintro⟨w,hw,_,rfl⟩;exact hw
 | c::u,l,v=>by
  show v∈tV (dQ l c) u↔_
  rw[tU]
  constructor
  ·rintro⟨w,hw,h1,rfl⟩
   obtain⟨p,hp,hc⟩:=eK.1 hw
   exact⟨_,hp,⟨hc,h1⟩,rfl⟩
  ·rintro⟨⟨r,t⟩,hw,h1,rfl⟩
   cases r with
   | nil=>exact h1.elim
   | cons p r=>exact⟨(r,t),eK.2 ⟨p,hw,h1.1⟩,h1.2,rfl⟩
theorem wq:∀ (u:List Int) (l:List Way) (c:Int),tV l (u++[c])=dQ (tV l u) c
 | [],l,c=>rfl
 | x::u,l,c=>wq u (dQ l x) c
structure uT (l:List Way):Prop where
 ne:∀ w∈l,w.1≠[]∧∀ p∈w.1,p.1≤p.2
 uni:∀ w∈l,∀ v∈l,∀ b t,ic w.1 b→ic v.1 (b++t)→t=[]∧w=v
 casc:∀ w∈l,FB w.1
 tail:∀ w∈l,∀ q∈w.1.tail,128≤q.1∧q.2≤191
theorem Ft {p:Int×Int}{r:ju}(h:FB (p::r)):FB r:=by
 rcases h with h|h
 ·exact h.2
 ·exact BA h
theorem uT.rem {l:List Way}(h:uT l){c:Int}(hne:∀ v∈dQ l c,v.1≠[]):uT (dQ l c):=by
 refine⟨fun v hv=>⟨hne v hv,?_⟩,fun w hw v hv b t h1 h2=>?_,fun v hv=>?_,fun v hv q hq=>?_⟩
 ·obtain⟨p,hp,_⟩:=eK.1 hv
  exact fun q hq=>(h.ne _ hp).2 q (by simp[hq])
 ·obtain⟨p,hp,hpc⟩:=eK.1 hw
  obtain⟨q,hq,hqc⟩:=eK.1 hv
  obtain⟨g1,g2⟩:=h.uni _ hp _ hq (c::b) t ⟨hpc,h1⟩ ⟨hqc,h2⟩
  injection g2 with g2 g3
  injection g2 with g4 g5
  exact⟨g1,Prod.ext g5 g3⟩
 ·obtain⟨p,hp,_⟩:=eK.1 hv
  exact Ft (h.casc _ hp)
 ·obtain⟨p,hp,_⟩:=eK.1 hv
  exact h.tail _ hp q (List.mem_of_mem_tail hq)
theorem wH {r:ju}{b:List Int}(h:ic r b):r.length=b.length:=by
 induction r generalizing b with
 | nil=>cases b with
  | nil=>rfl
  | cons _ _=>exact h.elim
 | cons p r ih=>cases b with
  | nil=>exact h.elim
  | cons c b=>simp[ih h.2]
theorem tk:∀ {r:ju},(∀ q∈r,q=(128,191))→∀ {b:List Int},(∀ c∈b,128≤c∧c≤191)→r.length=b.length→ic r b
 | [],_,[],_,_=>trivial
 | [],_,_::_,_,h=>by simp at h
 | _::_,_,[],_,h=>by simp at h
 | p::r,hr,c::b,hb,h=>by
  have e:=hr p (by simp)
  subst e
  exact⟨hb c (by simp),tk (fun q hq=>hr q (by simp[hq])) (fun x hx=>hb x (by simp[hx])) (by simpa using h)⟩
theorem xY {r:ju}(h:∀ q∈r,128≤q.1∧q.2≤191){b:List Int}(hb:ic r b):∀ c∈b,128≤c∧c≤191:=by
 induction r generalizing b with
 | nil=>cases b with
  | nil=>intro c hc;cases hc
  | cons _ _=>exact hb.elim
 | cons p r ih=>cases b with
  | nil=>exact hb.elim
  | cons c b =>
   intro x hx
   have h1:=h p (by simp)
   rcases List.mem_cons.1 hx with rfl|hx
   ·have:=hb.1;omega
   ·exact ih (fun q hq=>h q (by simp[hq])) hb.2 x hx
theorem rX {l:List Way}(h:uT l){p:Int×Int}{r:ju}{t:Int}(hw:(p::r,t)∈l)(hr:∀ q∈r,q=(128,191)){c:Int}(hc:p.1≤c∧c≤p.2){v:Way}(hv:v∈l){q:Int×Int}{r2:ju}(e:v.1=q::r2)(hq:q.1≤c∧c≤q.2):(p::r,t)=v:=by
 have hne:=(h.ne v hv).2
 rw[e]at hne
 obtain⟨b,hb⟩:=up (r:=r2) fun x hx=>hne x (by simp[hx])
 have htl:=h.tail v hv
 rw[e]at htl
 have hbb:=xY htl hb
 have hlb:=wH hb
 rcases Nat.le_total r.length b.length with hl|hl
 ·have h1:ic (p::r) (c::b.take r.length):=⟨hc,tk hr (fun x hx=>hbb x (List.mem_of_mem_take hx)) (by rw[List.length_take];omega)⟩
  exact(h.uni _ hw _ hv (c::b.take r.length) (b.drop r.length) h1 (by rw[e];exact⟨hq,show ic r2 (b.take r.length++b.drop r.length) by rw[List.take_append_drop];exact hb⟩)).2
 ·have h1:ic (p::r) (c::b++List.replicate (r.length-b.length) 128):=⟨hc,tk hr (fun x hx=>by
   rcases List.mem_append.1 hx with hx|hx
   ·exact hbb x hx
   ·rw[(List.mem_replicate.1 hx).2];omega) (by simp;omega)⟩
  exact(h.uni _ hv _ hw (c::b) _ (by rw[e];exact⟨hq,hb⟩) h1).2.symm
theorem tT {c c':Int}:∀ {l:List Way},(∀ w∈l,∀ p r,w.1=p::r→((p.1≤c∧c≤p.2)↔(p.1≤c'∧c'≤p.2)))→dQ l c=dQ l c'
 | [],_=>rfl
 | w::l,h=>by
  have ih:=tT (l:=l) fun v hv=>h v (by simp[hv])
  unfold dQ at ih ⊢
  rw[List.filterMap_cons,List.filterMap_cons,ih]
  cases e:w.1 with
  | nil=>rfl
  | cons p r =>
   have:=h w (by simp) p r e
   by_cases hc:p.1≤c∧c≤p.2
   ·simp only[if_pos hc,if_pos (this.1 hc)]
   ·simp only[if_neg hc,if_neg (fun x=>hc (this.2 x))]
theorem zc:∀ (u u':List Int) {l:List Way},uT l→∀ w∈l,u.length=u'.length→u.length<w.1.length→preRow w.1 u→preRow w.1 u'→tV l u=tV l u'
 | [],[],_,_,_,_,_,_,_,_=>rfl
 | [],_::_,_,_,_,_,h,_,_,_=>by simp at h
 | _::_,[],_,_,_,_,h,_,_,_=>by simp at h
 | c::u,c'::u',l,hg,(p::r,t),hw,hl,hlt,h1,h2=>by
  simp only[List.length_cons]at hl hlt
  have hm:(r,t)∈dQ l c:=eK.2 ⟨p,hw,h1.1⟩
  have hrne:=(hg.ne _ hw).2
  have hgr:uT (dQ l c):=hg.rem fun v hv e=>by
   obtain⟨q,hq,hqc⟩:=eK.1 hv
   rw[e]at hq
   obtain⟨b,hb⟩:=up (r:=r) fun x hx=>hrne x (by simp[hx])
   have g:=(hg.uni _ hq _ hw [c] b ⟨hqc,trivial⟩ ⟨h1.1,hb⟩).1
   subst g
   have:r.length=0:=wH hb
   omega
  have heq:dQ l c=dQ l c':=by
   rcases hg.casc _ hw with⟨g,_⟩|g
   ·have:c=c':=by have a1:p.1≤c∧c≤p.2:=h1.1;have a2:p.1≤c'∧c'≤p.2:=h2.1;omega
    rw[this]
   ·refine tT fun v hv q r2 e=>⟨fun hq=>?_,fun hq=>?_⟩
    ·have:=rX hg hw g h1.1 hv e hq
     rw[← this]at e
     injection e with e1 e2
     subst e1
     exact h2.1
    ·have:=rX hg hw g h2.1 hv e hq
     rw[← this]at e
     injection e with e1 e2
     subst e1
     exact h1.1
  show tV (dQ l c) u=tV (dQ l c') u'
  rw[← heq]
  exact zc u u' hgr (r,t) hm (by omega) (by simp only;omega) h1.2 h2.2
theorem zU {x:Int}(h:0≤x):∀ c∈(br x).tail,128≤c∧c≤191:=by
 intro c hc
 unfold br at hc
 split at hc
 ·simp at hc
 ·split at hc
  ·simp at hc;omega
  ·split at hc
   ·simp at hc;omega
   ·simp at hc;omega
theorem FC:∀ {a b:List Int},(a.zip b).tail=a.tail.zip b.tail
 | [],_=>by simp
 | _::_,[]=>by simp
 | x::a,y::b=>by simp
theorem Gp {s:ai}(h:FA s):∀ q∈(dY s).tail,128≤q.1∧q.2≤191:=by
 intro q hq
 have h0:=h.lo
 have hle:=h.le
 unfold dY at hq
 rw[FC]at hq
 have h1:=List.of_mem_zip (a:=q.1) (b:=q.2) hq
 exact⟨(zU h0 _ h1.1).1,(zU (by omega) _ h1.2).2⟩
theorem H9 (s:ai):(dY s).length≤4:=by
 unfold dY
 rw[List.length_zip,dv,dv]
 have:=cO s.lo
 omega
theorem Bq {l:List ai}{s t:ai}(hs:s∈eV l)(ht:t∈eV l){x:Int}(h1:s.lo≤x∧x≤s.hi)(h2:t.lo≤x∧x≤t.hi):s=t:=by
 obtain⟨i,hi⟩:=List.getElem?_of_mem hs
 obtain⟨j,hj⟩:=List.getElem?_of_mem ht
 obtain⟨hi1,hi2⟩:=List.getElem?_eq_some_iff.1 hi
 obtain⟨hj1,hj2⟩:=List.getElem?_eq_some_iff.1 hj
 have hp:=(iJ l).2.2
 rcases Nat.lt_trichotomy i j with h|h|h
 ·have:=List.pairwise_iff_getElem.1 hp i j hi1 hj1 h
  rw[hi2,hj2]at this
  omega
 ·subst h
  rw[← hi2,← hj2]
 ·have:=List.pairwise_iff_getElem.1 hp j i hj1 hi1 h
  rw[hi2,hj2]at this
  omega
theorem yD {parts:List (List ai)}(ha:BQ parts)(next:List Int):uT (cN parts next):=by
 refine⟨fun w hw=>?_,fun w hw v hv b t h1 h2=>?_,fun w hw=>?_,fun w hw=>?_⟩
 ·obtain⟨k,p,_,_,_,h⟩:=fG.1 hw
  exact B3 h
 ·obtain⟨i,p,a1,a2,a3,a4⟩:=fG.1 hw
  obtain⟨j,q,b1,b2,b3,b4⟩:=fG.1 hv
  obtain⟨s1,c1,c2⟩:=List.mem_map.1 a4
  obtain⟨s2,d1,d2⟩:=List.mem_map.1 b4
  rw[← c2]at h1
  rw[← d2]at h2
  obtain⟨x,x1,x2,x3⟩:=(qA ((iJ p).1 s1 c1) b).1 h1
  obtain⟨y,y1,y2,y3⟩:=(qA ((iJ q).1 s2 d1) (b++t)).1 h2
  have hx:=((iJ p).2.1 x).1 ⟨s1,c1,x1,x2⟩
  have hy:=((iJ q).2.1 y).1 ⟨s2,d1,y1,y2⟩
  obtain⟨e1,e2⟩:=zW (kT hx).1 (kT hy).1 (t:=t) (by rw[x3,y3])
  subst e1
  have e3:=ha i j p q a1 b1 x hx hy
  subst e3
  rw[a1]at b1
  have e4:=Option.some.inj b1
  subst e4
  have e5:=Bq c1 d1 ⟨x1,x2⟩ ⟨y1,y2⟩
  subst e5
  rw[a2]at b2
  exact⟨e2,Prod.ext (c2.symm.trans d2) (Option.some.inj b2)⟩
 ·obtain⟨i,p,a1,a2,a3,a4⟩:=fG.1 hw
  obtain⟨s1,c1,c2⟩:=List.mem_map.1 a4
  rw[← c2]
  exact Gq ((iJ p).1 s1 c1)
 ·obtain⟨i,p,a1,a2,a3,a4⟩:=fG.1 hw
  obtain⟨s1,c1,c2⟩:=List.mem_map.1 a4
  rw[← c2]
  exact Gp ((iJ p).1 s1 c1)
theorem CR {parts:List (List ai)}{next:List Int}:∀ w∈cN parts next,w.1.length≤4:=by
 intro w hw
 obtain⟨i,p,a1,a2,a3,a4⟩:=fG.1 hw
 obtain⟨s1,c1,c2⟩:=List.mem_map.1 a4
 rw[← c2]
 exact H9 s1
def KI (d:PD)(a:RSt):Prop:=(In d.n a.1∧a.2=[])∨(a.1 = -1∧∃ i u,In d.n i∧u≠[]∧a.2=tV (cN d.parts (d.row i)) u∧a.2≠[]∧∀ w∈a.2,w.1≠[])
theorem qt {l l':List Way}{c:Int}(hs:iZ l c = .amid l'):l'≠[]∧∀ w∈l',w.1≠[]:=by
 unfold iZ at hs
 split at hs
 ·cases hs
 ·rename_i hf
  split at hs
  ·cases hs
  ·rename_i hne
   injection hs with hs
   subst hs
   refine⟨hne,fun w hw e=>?_⟩
   have:=List.find?_eq_none.1 hf w hw
   simp[e]at this
theorem EI {d:PD}(h:d.Ok)(m:Nat):∀ a∈cG d m,KI d a:=by
 refine ri (.inl ⟨h.zero,rfl⟩) (fun a b ha hb=>?_) m
 obtain⟨c,_,hc⟩:=n8 hb
 have hin:InR d a:=by
  rcases ha with ha|⟨h1,i,u,h2,h3,h4,h5,h6⟩
  ·exact .inl ha
  ·refine .inr ⟨h1,fun w hw=>?_⟩
   rw[h4]at hw
   obtain⟨v,hv,_,rfl⟩:=tU.1 hw
   exact xc h h2 v hv
 unfold cV at hc
 split at hc
 ·cases hc
 ·rename_i i hi
  cases hc
  exact .inl ⟨sR (nS h hin) hi,rfl⟩
 ·rename_i l hl
  cases hc
  obtain⟨g1,g2⟩:=qt hl
  have g3:=rt hl
  refine .inr ⟨rfl,?_⟩
  rcases ha with⟨h1,h2⟩|⟨h1,i,u,h2,h3,h4,h5,h6⟩
  ·have e:eo d a=cN d.parts (d.row a.1):=by unfold eo;rw[if_neg (by have:=h1.1;omega)]
   exact⟨a.1,[(c:Int)],h1,by simp,by rw[g3,e];rfl,g1,g2⟩
  ·have e:eo d a=a.2:=by unfold eo;rw[if_pos (by omega)]
   exact⟨i,u++[(c:Int)],h2,by simp,by rw[g3,e,h4,wq],g1,g2⟩
def jd (l:List Way):List (Way×Nat):=l.flatMap fun w=>(List.range (w.1.length-1)).map fun j=>(w,j+1)
theorem wC {l:List Way}{w:Way}{j:Nat}:(w,j)∈jd l↔w∈l∧1≤j∧j<w.1.length:=by
 unfold jd
 rw[List.mem_flatMap]
 constructor
 ·rintro⟨v,hv,h⟩
  obtain⟨k,hk,e⟩:=List.mem_map.1 h
  cases e
  rw[List.mem_range]at hk
  exact⟨hv,by omega,by omega⟩
 ·rintro⟨h1,h2,h3⟩
  exact⟨w,h1,List.mem_map.2 ⟨j-1,List.mem_range.2 (by omega),by rw[show j-1+1=j by omega]⟩⟩
theorem wt {d:PD}(h:d.Ok){K:Nat}(hK:∀ i,In d.n i→(jd (cN d.parts (d.row i))).length≤K)(m:Nat):(cG d m).length≤d.n+d.n*K:=by
 have hp:=EI h m
 -- a number for each
 have hex:∀ a∈cG d m,∃ x:Int,In (d.n+d.n*K) x∧((In d.n a.1∧a.2=[]∧x=a.1)∨(a.1 = -1∧∃ i u w,In d.n i∧(w,u.length)∈jd (cN d.parts (d.row i))∧preRow w.1 u∧a.2=tV (cN d.parts (d.row i)) u∧x=d.n+(i*K+((jd (cN d.parts (d.row i))).idxOf (w,u.length):Nat)))):=by
  intro a ha
  rcases hp a ha with⟨h1,h2⟩|⟨h1,i,u,h2,h3,h4,h5,h6⟩
  ·refine⟨a.1,⟨h1.1,?_⟩,.inl ⟨h1,h2,rfl⟩⟩
   have:=h1.2
   omega
  ·obtain⟨v,hv⟩:=List.exists_mem_of_ne_nil _ h5
   have hv2:=hv
   rw[h4]at hv2
   obtain⟨w,hw,hpre,e⟩:=tU.1 hv2
   have hlt:u.length<w.1.length:=by
    have:=h6 v hv
    rw[e]at this
    apply Classical.byContradiction
    intro hn
    exact this (List.drop_eq_nil_of_le (by omega))
   have hul:1≤u.length:=by
    cases u with
    | nil=>exact absurd rfl h3
    | cons _ _=>simp
   have hmem:=wC.2 ⟨hw,hul,hlt⟩
   have hidx:=List.idxOf_lt_length_iff.2 hmem
   have hk:=hK i h2
   obtain⟨n,rfl⟩:∃ n:Nat,i=n:=⟨i.toNat,by have:=h2.1;omega⟩
   have hn:=h2.2
   have hmul:n*K+K≤d.n*K:=by
    have:=Nat.mul_le_mul_right K (show n+1≤d.n by omega)
    rw[Nat.add_mul,Nat.one_mul]at this
    exact this
   refine⟨_,⟨?_,?_⟩,.inr ⟨h1,n,u,w,h2,hmem,hpre,h4,rfl⟩⟩
   ·have:(0:Int)≤(n:Int)*(K:Int):=by rw[← Int.natCast_mul];omega
    omega
   ·have e2:(n:Int)*(K:Int)=((n*K:Nat):Int):=by rw[Int.natCast_mul]
    rw[e2]
    omega
 let f:RSt→Int:=fun a=>if ha:a∈cG d m then Classical.choose (hex a ha) else 0
 have hf:∀ a (ha:a∈cG d m),f a=Classical.choose (hex a ha):=fun a ha=>dif_pos ha
 have hinj:∀ a∈cG d m,∀ b∈cG d m,f a=f b→a=b:=by
  intro a ha b hb e
  rw[hf a ha,hf b hb]at e
  obtain⟨a1,a2⟩:=Classical.choose_spec (hex a ha)
  obtain⟨b1,b2⟩:=Classical.choose_spec (hex b hb)
  generalize Classical.choose (hex a ha)=x at *
  generalize Classical.choose (hex b hb)=y at *
  subst e
  have big:∀ {i:Int} {q:Nat},In d.n i→(d.n:Int)≤d.n+(i*K+(q:Nat)):=fun {i q} hi=>by
   have:=Int.mul_nonneg hi.1 (Int.natCast_nonneg K)
   omega
  rcases a2 with⟨p1,p2,p3⟩|⟨p1,i,u,w,p2,p3,p4,p5,p6⟩<;>rcases b2 with⟨q1,q2,q3⟩|⟨q1,i',u',w',q2,q3,q4,q5,q6⟩
  ·exact Prod.ext (by omega) (p2.trans q2.symm)
  ·have:=big (q:=(jd (cN d.parts (d.row i'))).idxOf (w',u'.length)) q2
   have:=p1.2
   omega
  ·have:=big (q:=(jd (cN d.parts (d.row i))).idxOf (w,u.length)) p2
   have:=q1.2
   omega
  ·have k1:=List.idxOf_lt_length_iff.2 p3
   have k2:=List.idxOf_lt_length_iff.2 q3
   have k3:=hK i p2
   have k4:=hK i' q2
   have hii:i=i':=by
    have e:i*(K:Int)+((jd (cN d.parts (d.row i))).idxOf (w,u.length):Nat)=i'*(K:Int)+((jd (cN d.parts (d.row i'))).idxOf (w',u'.length):Nat):=by omega
    generalize (jd (cN d.parts (d.row i))).idxOf (w,u.length)=s at *
    generalize (jd (cN d.parts (d.row i'))).idxOf (w',u'.length)=t at *
    have hk0:0<(K:Int):=by omega
    have d1:(i*(K:Int)+s) / K=i:=by rw[Int.add_comm,Int.add_mul_ediv_right _ _ (by omega),Int.ediv_eq_zero_of_lt (by omega) (by omega)];omega
    have d2:(i'*(K:Int)+t) / K=i':=by rw[Int.add_comm,Int.add_mul_ediv_right _ _ (by omega),Int.ediv_eq_zero_of_lt (by omega) (by omega)];omega
    rw[← d1,← d2,e]
   subst hii
   have e2:(jd (cN d.parts (d.row i))).idxOf (w,u.length)=(jd (cN d.parts (d.row i))).idxOf (w',u'.length):=by omega
   have e3:(w,u.length)=(w',u'.length):=by
    have g1:=List.getElem_idxOf k1
    have g2:=List.getElem_idxOf k2
    rw[← g1,← g2]
    simp only[e2]
   injection e3 with e4 e5
   subst e4
   have hlt:=(wC.1 p3)
   refine Prod.ext (p1.trans q1.symm) ?_
   rw[p5,q5]
   exact zc u u' (yD h.apart' _) w hlt.1 e5 hlt.2.2 p4 q4
 have hnd:((cG d m).map f).Nodup:=by
  have:=qi (dL d) ((0,[]):RSt) m
  refine List.Pairwise.map _ (R:=fun a b=>a∈cG d m∧b∈cG d m∧a≠b) (fun a b ⟨ha,hb,hab⟩ e=>hab (hinj a ha b hb e)) (List.Pairwise.and_mem.1 this)
 have:=oj (d.n+d.n*K) ((cG d m).map f) hnd fun x hx=>by
  obtain⟨a,ha,rfl⟩:=List.mem_map.1 hx
  rw[hf a ha]
  exact(Classical.choose_spec (hex a ha)).1
 simpa using this
end
section
open Go
def LvP (a b:Int):Prop:=(a=64∧b=4096)∨(a=64∧b=262144)∨(a=4096∧b=262144)
theorem t5 (n:Nat):(jb n).Pairwise LvP:=by
 unfold jb
 split<;>simp[LvP]
theorem sd {m:Int}{ms:List Int}{s:ai}(h:iY m s):fK (m::ms) s=fK ms s:=by
 show(if s.lo / m=s.hi / m then fK ms s else if s.lo%m≠0 then(s.lo / m+1)*m else if s.hi%m≠m-1 then s.hi / m*m else fK ms s)=_
 split
 ·rfl
 ·rename_i h1
  have h2:=h.resolve_left h1
  rw[if_neg (by simp[h2.1]),if_neg (by simp[h2.2])]
theorem mg:∀ {pre ms:List Int} {s:ai},(∀ m∈pre,iY m s)→fK (pre++ms) s=fK ms s
 | [],_,_,_=>rfl
 | m::pre,ms,s,h=>by
  rw[List.cons_append,sd (h m (by simp))]
  exact mg fun q hq=>h q (by simp[hq])
theorem pR {ms:List Int}{s:ai}(h:∀ m∈ms,iY m s):fK ms s=0:=by
 have:=mg (ms:=[]) h
 rw[List.append_nil]at this
 rw[this]
 rfl
theorem uE {s:ai}{x:Int}(hx:eU s=x)(h1:s.lo<x)(h2:x≤s.hi):iF s=iF ⟨s.lo,x-1⟩++iF ⟨x,s.hi⟩:=by
 subst hx
 rw[iF,dif_pos ⟨h1,h2⟩]
theorem oD {s:ai}(hx:eU s=0)(h0:0≤s.lo):iF s=[s]:=by
 rw[iF,dif_neg (by rw[hx];omega)]
theorem o8 {m' m:Int}(h:LvP m' m){s:ai}(he:iY m' s)(hd:¬ s.lo / m=s.hi / m):s.lo%m'=0∧s.hi%m'=m'-1:=by
 rcases he with he|he
 ·exfalso
  rcases h with⟨rfl,rfl⟩|⟨rfl,rfl⟩|⟨rfl,rfl⟩<;>omega
 ·exact he
theorem xR {m' m:Int}(h:LvP m' m)(q:Int):(q*m)%m'=0∧(q*m-1)%m'=m'-1:=by
 rcases h with⟨rfl,rfl⟩|⟨rfl,rfl⟩|⟨rfl,rfl⟩<;>omega
theorem Cj {m M:Int}(h:LvP m M){x y:Int}(hx:x / m=y / m):x / M=y / M:=by
 rcases h with⟨rfl,rfl⟩|⟨rfl,rfl⟩|⟨rfl,rfl⟩<;>omega
theorem zB {m:Int}(h:m=64∨m=4096∨m=262144)(x:Int):x / m=((x / m+1)*m-1) / m∧x / m*m / m=x / m∧((x / m+1)*m)%m=0∧(x / m*m-1)%m=m-1∧(x / m*m)%m=0:=by
 rcases h with rfl|rfl|rfl<;>omega
theorem wQ {n:Nat}{m:Int}{ms pre:List Int}(hp:pre++m::ms=jb n)
  (ih:∀ s,OneSize s→bB s.lo=n→(∀ q∈pre++[m],iY q s)→(iF s).length≤2*ms.length+1)
  (s:ai) (h1:OneSize s) (hn:bB s.lo=n) (he:∀ q∈pre,iY q s) (hz:s.lo%m=0):(iF s).length≤2*ms.length+2:=by
 have hpair:=t5 n
 rw[← hp,List.pairwise_append]at hpair
 obtain⟨_,hp2,hp3⟩:=hpair
 have hlow:∀ q∈pre,LvP q m:=fun q hq=>hp3 q hq m (by simp)
 have hup:∀ q∈ms,LvP m q:=(List.pairwise_cons.1 hp2).1
 have hm:m=64∨m=4096∨m=262144:=oV (n:=n) m (by rw[← hp];simp)
 by_cases hev:iY m s
 ·have:=ih s h1 hn fun q hq=>by
   rcases List.mem_append.1 hq with hq|hq
   ·exact he q hq
   ·simp only[List.mem_singleton]at hq;subst hq;exact hev
  omega
 ·have hd:¬ s.lo / m=s.hi / m:=fun e=>hev (.inl e)
  have hr:s.hi%m≠m-1:=fun e=>hev (.inr ⟨hz,e⟩)
  have hpl:eU s=s.hi / m*m:=by
   unfold eU
   rw[hn,← hp,mg he]
   show(if s.lo / m=s.hi / m then fK ms s else if s.lo%m≠0 then(s.lo / m+1)*m else if s.hi%m≠m-1 then s.hi / m*m else fK ms s)=_
   rw[if_neg hd,if_neg (by simp[hz]),if_pos hr]
  have hin:=(oX h1.lo h1.le).resolve_left (by
   rw[hpl]
   have:=h1.lo
   have:=h1.le
   rcases hm with rfl|rfl|rfl<;>omega)
  rw[hpl]at hin
  obtain⟨g1,g2⟩:=qL h1 hin.1 hin.2
  obtain⟨b1,b2,b3,b4,b5⟩:=zB hm s.hi
  rw[uE hpl hin.1 hin.2,List.length_append]
  have k1:=ih ⟨s.lo,s.hi / m*m-1⟩ g1 hn fun q hq=>by
   rcases List.mem_append.1 hq with hq|hq
   ·exact .inr ⟨(o8 (hlow q hq) (he q hq) hd).1,(xR (hlow q hq) _).2⟩
   ·simp only[List.mem_singleton]at hq;subst hq;exact .inr ⟨hz,b4⟩
  have k2:iF ⟨s.hi / m*m,s.hi⟩=[⟨s.hi / m*m,s.hi⟩]:=by
   refine oD ?_ g2.lo
   unfold eU
   have e:bB (s.hi / m*m)=n:=by
    have q1:=g2.size
    have q2:=h1.size
    simp only at q1
    rw[q1,← q2,hn]
   show fK (jb (bB (s.hi / m*m))) _=0
   rw[e,← hp]
   refine pR fun q hq=>?_
   rcases List.mem_append.1 hq with hq|hq
   ·exact .inr ⟨(xR (hlow q hq) _).1,(o8 (hlow q hq) (he q hq) hd).2⟩
   ·rcases List.mem_cons.1 hq with rfl|hq
    ·exact .inl b2
    ·exact .inl (Cj (hup q hq) b2)
  rw[k2]
  simp only[List.length_singleton]
  omega
theorem rP {n:Nat}:∀ (ms pre:List Int),pre++ms=jb n→∀ s,OneSize s→bB s.lo=n→(∀ q∈pre,iY q s)→(iF s).length≤2*ms.length+1
 | [],pre,hp,s,h1,hn,he=>by
  rw[List.append_nil]at hp
  have:eU s=0:=by
   unfold eU
   rw[hn,← hp]
   exact pR he
  rw[oD this h1.lo]
  simp
 | m::ms,pre,hp,s,h1,hn,he=>by
  have ih:=fun s=>rP ms (pre++[m]) (by rw[← hp];simp) s
  have hpair:=t5 n
  rw[← hp,List.pairwise_append]at hpair
  obtain⟨_,hp2,hp3⟩:=hpair
  have hlow:∀ q∈pre,LvP q m:=fun q hq=>hp3 q hq m (by simp)
  have hup:∀ q∈ms,LvP m q:=(List.pairwise_cons.1 hp2).1
  have hm:m=64∨m=4096∨m=262144:=oV (n:=n) m (by rw[← hp];simp)
  by_cases hz:s.lo%m=0
  ·have:=wQ hp ih s h1 hn he hz
   simp only[List.length_cons]
   omega
  ·by_cases hd:s.lo / m=s.hi / m
   ·have:=ih s h1 hn fun q hq=>by
     rcases List.mem_append.1 hq with hq|hq
     ·exact he q hq
     ·simp only[List.mem_singleton]at hq;subst hq;exact .inl hd
    simp only[List.length_cons]
    omega
   ·have hpl:eU s=(s.lo / m+1)*m:=by
     unfold eU
     rw[hn,← hp,mg he]
     show(if s.lo / m=s.hi / m then fK ms s else if s.lo%m≠0 then(s.lo / m+1)*m else if s.hi%m≠m-1 then s.hi / m*m else fK ms s)=_
     rw[if_neg hd,if_pos hz]
    have hin:=(oX h1.lo h1.le).resolve_left (by
     rw[hpl]
     have:=h1.lo
     have:=h1.le
     rcases hm with rfl|rfl|rfl<;>omega)
    rw[hpl]at hin
    obtain⟨g1,g2⟩:=qL h1 hin.1 hin.2
    obtain⟨b1,b2,b3,b4,b5⟩:=zB hm s.lo
    rw[uE hpl hin.1 hin.2,List.length_append]
    have k1:iF ⟨s.lo,(s.lo / m+1)*m-1⟩=[⟨s.lo,(s.lo / m+1)*m-1⟩]:=by
     refine oD ?_ g1.lo
     show fK (jb (bB s.lo)) _=0
     rw[hn,← hp]
     refine pR fun q hq=>?_
     rcases List.mem_append.1 hq with hq|hq
     ·exact .inr ⟨(o8 (hlow q hq) (he q hq) hd).1,(xR (hlow q hq) _).2⟩
     ·rcases List.mem_cons.1 hq with rfl|hq
      ·exact .inl b1
      ·exact .inl (Cj (hup q hq) b1)
    have e:bB ((s.lo / m+1)*m)=n:=by
     have q1:=g2.size
     have q2:=h1.size
     simp only at q1
     rw[q1,← q2,hn]
    have k2:=wQ hp ih ⟨(s.lo / m+1)*m,s.hi⟩ g2 e (fun q hq => .inr ⟨(xR (hlow q hq) _).1,(o8 (hlow q hq) (he q hq) hd).2⟩) b3
    rw[k1]
    simp only[List.length_nil,List.length_cons]
    omega
theorem Hj {s:ai}(h:OneSize s):∀ q∈iF s,bB q.lo=bB s.lo:=by
 intro q hq
 obtain⟨k1,k2,k3⟩:=lB s h
 have hf:=k1 q hq
 have g1:=(k2 q.lo).1 ⟨q,hq,Int.le_refl _,hf.le⟩
 have a1:=lO g1.1
 have a2:=lO g1.2
 have:=h.size
 omega
def pZ (l:List ai):Nat:=(l.map fun q=>bB q.lo-1).sum
theorem mh (a b:List ai):pZ (a++b)=pZ a+pZ b:=by simp[pZ]
theorem GN {s:ai}(h:OneSize s):pZ (iF s)≤(2*(bB s.lo-1)+1)*(bB s.lo-1):=by
 have hc:(iF s).length≤2*(bB s.lo-1)+1:=by
  have hl:(jb (bB s.lo)).length=bB s.lo-1:=by
   have:=cO s.lo
   have:bB s.lo=1∨bB s.lo=2∨bB s.lo=3∨bB s.lo=4:=by omega
   rcases this with e|e|e|e<;>rw[e]<;>rfl
  have:=rP (jb (bB s.lo)) [] rfl s h rfl (fun q hq=>by cases hq)
  rw[hl]at this
  exact this
 have key:∀ (l:List ai),(∀ q∈l,bB q.lo=bB s.lo)→pZ l=l.length*(bB s.lo-1):=by
  intro l
  induction l with
  | nil=>intro _;simp[pZ]
  | cons a l ih =>
   intro hl
   have h1:=ih fun q hq=>hl q (by simp[hq])
   have h2:=hl a (by simp)
   simp only[pZ,List.map_cons,List.sum_cons,List.length_cons]at h1 ⊢
   rw[h1,h2,Nat.add_mul,Nat.one_mul]
   omega
 rw[key _ (Hj h)]
 exact Nat.mul_le_mul_right _ hc
theorem s7 {α β:Type}(f:α→Option β)(a:α)(l:List α):(a::l).filterMap f=(f a).toList++l.filterMap f:=by
 cases h:f a<;>simp[List.filterMap_cons,h]
theorem E4 (s:ai):pZ ((de s).flatMap iF)≤34:=by
  have key:∀ (p:Int×Int) (w:Nat),(∀ q:ai,max s.lo p.1≤min s.hi p.2→OneSize ⟨max s.lo p.1,min s.hi p.2⟩→bB (max s.lo p.1)=w)→p∈jw →
      pZ (((if max s.lo p.1≤min s.hi p.2 then some (⟨max s.lo p.1,min s.hi p.2⟩:ai) else none).toList).flatMap iF)≤(2*(w-1)+1)*(w-1):=by
    intro p w hw hp
    split
    · rename_i hc
      have ho:OneSize ⟨max s.lo p.1,min s.hi p.2⟩:=lM (s:=s) (lN.2 ⟨p,hp,hc,rfl⟩)
      have:=GN ho
      have e:bB (ai.mk (max s.lo p.1) (min s.hi p.2)).lo=w:=hw ⟨0,0⟩ hc ho
      rw[e]at this
      simpa using this
    · simp[pZ]
  have e:de s=(if max s.lo 0≤min s.hi 127 then some (⟨max s.lo 0,min s.hi 127⟩:ai) else none).toList++((if max s.lo 128≤min s.hi 2047 then some (⟨max s.lo 128,min s.hi 2047⟩:ai) else none).toList++((if max s.lo 2048≤min s.hi 65535 then some (⟨max s.lo 2048,min s.hi 65535⟩:ai) else none).toList++(if max s.lo 65536≤min s.hi 1114111 then some (⟨max s.lo 65536,min s.hi 1114111⟩:ai) else none).toList)):=by
    unfold de jw
    rw[s7,s7,s7,s7,List.filterMap_nil,List.append_nil]
  rw[e,List.flatMap_append,List.flatMap_append,List.flatMap_append,mh,mh,mh]
  have k1:=key (0,127) 1 (fun _ h _=>by simp only at h ⊢;unfold bB;rw[if_pos (by omega)]) (by simp[jw])
  have k2:=key (128,2047) 2 (fun _ h _=>by simp only at h ⊢;unfold bB;rw[if_neg (by omega),if_pos (by omega)]) (by simp[jw])
  have k3:=key (2048,65535) 3 (fun _ h _=>by simp only at h ⊢;unfold bB;rw[if_neg (by omega),if_neg (by omega),if_pos (by omega)]) (by simp[jw])
  have k4:=key (65536,1114111) 4 (fun _ h _=>by simp only at h ⊢;unfold bB;rw[if_neg (by omega),if_neg (by omega),if_neg (by omega)]) (by simp[jw])
  simp only at k1 k2 k3 k4
  omega
theorem A4 (l:List ai):pZ (eV l)≤34*(bi l).length:=by
 unfold eV
 induction bi l with
 | nil=>simp[pZ]
 | cons s t ih =>
  have h1:=E4 s
  rw[List.flatMap_cons,List.flatMap_append,mh,List.length_cons]
  omega
theorem E2 {α:Type}(l:List ai)(t:Int):(jd ((dh l).map fun r=>(r,t))).length=pZ (eV l):=by
 have hf:=(iJ l).1
 unfold dh
 generalize eV l=q at *
 induction q with
 | nil=>rfl
 | cons s q ih =>
  have h1:=ih fun x hx=>hf x (by simp[hx])
  have hs:=(hf s (by simp)).size
  have hl:(dY s).length=bB s.lo:=by
   unfold dY
   rw[List.length_zip,dv,dv]
   omega
  simp only[jd,pZ,List.map_cons,List.flatMap_cons,List.length_append,List.sum_cons,List.length_map,List.length_range]at h1 ⊢
  rw[h1,hl]
theorem xQ (a b:List Way):jd (a++b)=jd a++jd b:=by simp[jd]
theorem rE:∀ (parts:List (List ai)) (next:List Int),(∀ p∈parts,bi p=p)→(jd (cN parts next)).length≤34*(parts.map List.length).sum
 | [],_,_=>by simp[cN,jd]
 | _::_,[],_=>by simp[cN,jd]
 | p::parts,t::next,h=>by
  have ih:=rE parts next fun q hq=>h q (by simp[hq])
  have e:cN (p::parts) (t::next)=(if t = -1 then [] else(dh p).map fun r=>(r,t))++cN parts next:=by simp[cN]
  rw[e,xQ,List.length_append,List.map_cons,List.sum_cons]
  refine Nat.le_trans (Nat.add_le_add (b:=34*p.length) ?_ ih) (by omega)
  split
  ·simp[jd]
  ·rw[E2 (α:=Nat)]
   have:=A4 p
   rw[h p (by simp)]at this
   exact this
end
end Go.Proofs.YtlnobeojgifojaaGreatDoor
