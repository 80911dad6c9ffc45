/- Machines of bytes, plainly: ways' machine, and what it tells. Machines of bytes, plainly: kinds of states, told apart round by round; one state of each kind. Machines of bytes, plainly: how many states there are. Machines of bytes, plainly: how many rows there are. -/
import Derived.Test.YtlnobeojgifojaaGreatDoorWA
import Derived.Test.YtlnobeojgifojaaGreatDoorP2
set_option linter.unusedVariables false
set_option linter.unusedSimpArgs false
namespace Go.Proofs.YtlnobeojgifojaaGreatDoor
section
open Go
def mc (x:PD):Int→List Int→Nat→Int×Int→Int×Int
 | _,[],_,acc=>acc
 | s,c::b,i,acc=>if col x.row s c.toNat = -1 then acc else mc x (col x.row s c.toNat) b (i+1) (if 0≤x.tag (col x.row s c.toNat) then((i+1:Nat),x.tag (col x.row s c.toNat)) else acc)
abbrev RSt:=Int×List Way
def eK (d:PD)(a:RSt):List Way:=if a.1<0 then a.2 else dO d.parts (d.row a.1)
def cW (d:PD)(a:RSt)(c:Int):Option RSt:=match kR (eK d a) c with
 | .none=>none
 | .own i=>some (i,[])
 | .amid l=>some (-1,l)
def oE (d:PD)(a:RSt):Int:=if a.1<0 then -1 else d.tag a.1
def dg (d:PD)(a:RSt):List (Option RSt):=(List.range 256).map fun c:Nat=>cW d a c
def cK (d:PD)(m:Nat):List RSt:=ee (dg d) (0,[]) m
def iz (d:PD)(m:Nat):PD:=⟨[],ja (dg d) (cK d m),(cK d m).map (oE d)⟩
def InR (d:PD)(a:RSt):Prop:=(In d.n a.1∧a.2=[])∨(a.1 = -1∧∀ w∈a.2,In d.n w.2)
theorem uD {d:PD}(h:d.Ok){s:Int}(hs:In d.n s):∀ w∈dO d.parts (d.row s),In d.n w.2:=by
 intro w hw
 obtain⟨k,p,_,h2,h3,_⟩:=iN.1 hw
 exact(h.tab.to s hs _ (List.mem_of_getElem? h2)).resolve_left h3
theorem Do {n:Nat}{l:List Way}(h:∀ w∈l,In n w.2)(c:Int):∀ w∈dy l c,In n w.2:=fun w hw=>by
 obtain⟨p,hp,_⟩:=gX.1 hw
 exact h (p::w.1,w.2) hp
theorem uJ {n:Nat}{l:List Way}(h:∀ w∈l,In n w.2){c i:Int}(hs:kR l c = .own i):In n i:=by
 unfold kR at hs
 split at hs
 ·rename_i w hw
  injection hs with hs
  subst hs
  exact Do h c w (List.mem_of_find?_eq_some hw)
 ·split at hs<;>cases hs
theorem pu {l l':List Way}{c:Int}(hs:kR l c = .amid l'):l'=dy l c:=by
 unfold kR at hs
 split at hs
 ·cases hs
 ·split at hs
  ·cases hs
  ·injection hs with hs
   exact hs.symm
theorem oB {d:PD}(h:d.Ok){a:RSt}(ha:InR d a):∀ w∈eK d a,In d.n w.2:=by
 unfold eK
 rcases ha with⟨h1,h2⟩|⟨h1,h2⟩
 ·rw[if_neg (by have:=h1.1;omega)]
  exact uD h h1
 ·rw[if_pos HT]
  exact h2
theorem DO {d:PD}(h:d.Ok){a b:RSt}(ha:InR d a){c:Int}(hb:cW d a c=some b):InR d b:=by
 have hw:=oB h ha
 unfold cW at hb
 split at hb
 ·cases hb
 ·rename_i i hi
  cases hb
  exact .inl ⟨uJ hw hi,rfl⟩
 ·rename_i l hl
  cases hb
  exact .inr ⟨rfl,by rw[pu hl];exact Do hw c⟩
theorem oN {d:PD}{a b:RSt}(h:some b∈dg d a):∃ c:Nat,c<256∧cW d a c=some b:=by
 obtain⟨c,hc,e⟩:=List.mem_map.1 h
 exact⟨c,List.mem_range.1 hc,e⟩
theorem Fa {d:PD}{m s:Nat}{a:RSt}(ha:(cK d m)[s]?=some a):(iz d m).row s=(dg d a).map (fS (cK d m)):=by
 show(ja (dg d) (cK d m)).getD (s:Int).toNat []=_
 unfold ja
 rw[Int.toNat_natCast,List.getD_eq_getElem?_getD,List.getElem?_map,ha]
 rfl
theorem zA {d:PD}{m s:Nat}{a:RSt}(ha:(cK d m)[s]?=some a):(iz d m).tag s=oE d a:=by
 show((cK d m).map (oE d)).getD (s:Int).toNat (-1)=_
 rw[Int.toNat_natCast,List.getD_eq_getElem?_getD,List.getElem?_map,ha]
 rfl
theorem Fb {d:PD}{m s:Nat}{a:RSt}(ha:(cK d m)[s]?=some a){c:Nat}(hc:c<256):col (iz d m).row s c=fS (cK d m) (cW d a c):=by
 unfold col
 rw[Fa ha,List.getD_eq_getElem?_getD,List.getElem?_map]
 have:(dg d a)[c]?=some (cW d a c):=by
  unfold dg
  rw[List.getElem?_map,List.getElem?_range hc]
  rfl
 rw[this]
 rfl
theorem PD.Ok.apart' {d:PD}(h:d.Ok):EM d.parts:=by
 intro i j p q hp hq x hx hy
 have e1:d.part i=p:=by simp[PD.part,List.getD_eq_getElem?_getD,hp]
 have e2:d.part j=q:=by simp[PD.part,List.getD_eq_getElem?_getD,hq]
 have n1:=gG h i
 have n2:=gG h j
 rw[e1]at n1
 rw[e2]at n2
 rw[n1]at hx
 rw[n2]at hy
 exact kB h (by rw[e1];exact hx) (by rw[e2];exact hy)
end
section
open Go
def mL (R:Int→List Int)(of:List Int)(s:Nat):Int×List (Option Int):=(of.getD s 0,(R s).map fun to=>if to = -1 then none else some (of.getD to.toNat 0))
def kW (R:Int→List Int)(n:Nat)(of:List Int):List (Int×List (Option Int)):=(List.range n).map (mL R of)
def kC (R:Int→List Int)(n:Nat)(of:List Int):List Int:=(fZ (kW R n of)).map fun k:Nat=>(k:Int)
def ofY (R:Int→List Int)(n:Nat)(T:List Int):Nat→List Int
 | 0=>T
 | r+1=>kC R n (ofY R n T r)
def nF (R:Int→List Int)(n:Nat)(of:List Int):Nat:=(bB (kW R n of)).length
theorem pG {R:Int→List Int}{n:Nat}{of:List Int}{i:Nat}(h:i<n):(kW R n of)[i]?=some (mL R of i):=by
 unfold kW
 rw[List.getElem?_map,List.getElem?_range h]
 rfl
theorem vw (R:Int→List Int)(n:Nat)(of:List Int):(kC R n of).length=n:=by simp[kC,fm,kW]
theorem lB {R:Int→List Int}{n:Nat}{of:List Int}{i j:Nat}(hi:i<n)(hj:j<n):(kC R n of).getD i 0=(kC R n of).getD j 0↔mL R of i=mL R of j:=by
 have h:=zJ (pG (R:=R) (of:=of) hi) (pG (R:=R) (of:=of) hj)
 rw[← h]
 have hl:(fZ (kW R n of)).length=n:=by simp[fm,kW]
 unfold kC
 rw[List.getD_eq_getElem?_getD,List.getD_eq_getElem?_getD,List.getElem?_map,List.getElem?_map,List.getElem?_eq_getElem HT,List.getElem?_eq_getElem HT]
 simp only[Option.map_some,Option.getD_some,Option.some.injEq]
 exact Int.ofNat_inj
theorem B7 {R:Int→List Int}{n:Nat}{of:List Int}{i:Nat}(hi:i<n):0≤(kC R n of).getD i 0:=by
 unfold kC
 rw[List.getD_eq_getElem?_getD,List.getElem?_map]
 cases (fZ (kW R n of))[i]? with
 | none=>simp
 | some k=>simp
theorem w8 {R:Int→List Int}{n:Nat}{T:List Int}{i j:Nat}(hi:i<n)(hj:j<n)(r:Nat)(h:(ofY R n T (r+1)).getD i 0=(ofY R n T (r+1)).getD j 0):(ofY R n T r).getD i 0=(ofY R n T r).getD j 0:=by
 have:=(lB hi hj).1 h
 exact congrArg Prod.fst this
theorem zH {R:Int→List Int}{n:Nat}{T:List Int}{i j:Nat}(hi:i<n)(hj:j<n):∀ r,(ofY R n T r).getD i 0=(ofY R n T r).getD j 0→T.getD i 0=T.getD j 0
 | 0,h=>h
 | r+1,h=>zH hi hj r (w8 hi hj r h)
theorem zT (R:Int→List Int)(n:Nat)(of:List Int):nF R n of≤n:=by
 have:=iB (kW R n of)
 simpa[nF,kW] using this
theorem Ei {R:Int→List Int}{n:Nat}(hn:1≤n)(of:List Int):1≤nF R n of:=by
 have:mL R of 0∈bB (kW R n of):=gZ.2 (List.mem_map.2 ⟨0,by rw[List.mem_range];omega,rfl⟩)
 exact List.length_pos_of_mem this
theorem um (R:Int→List Int)(n:Nat)(of:List Int):nF R n of≤nF R n (kC R n of)∧(nF R n of=nF R n (kC R n of)→∀ i j,i<n→j<n→mL R of i=mL R of j→mL R (kC R n of) i=mL R (kC R n of) j):=by
 have hc:=Eh ((List.range n).map fun i:Nat=>(mL R of i,mL R (kC R n of) i)) (by
  intro a ha b hb e
  obtain⟨i,hi,rfl⟩:=List.mem_map.1 ha
  obtain⟨j,hj,rfl⟩:=List.mem_map.1 hb
  rw[List.mem_range]at hi hj
  exact(lB hi hj).1 (congrArg Prod.fst e))
 rw[List.map_map,List.map_map]at hc
 refine⟨hc.1,fun e i j hi hj hq=>?_⟩
 exact hc.2 e (mL R of i,mL R (kC R n of) i) (List.mem_map.2 ⟨i,List.mem_range.2 hi,rfl⟩) (mL R of j,mL R (kC R n of) j) (List.mem_map.2 ⟨j,List.mem_range.2 hj,rfl⟩) hq
def r8 (of:List Int)(s:Int):Int:=if s = -1 then -1 else of.getD s.toNat 0
theorem vm {R:Int→List Int}{n p:Nat}(hT:Tab n p R){T:List Int}{B:Int→Int→Prop}(hB:Bis n R (fun s=>T.getD s.toNat 0) B):∀ (r:Nat) {s t:Int},In n s→In n t→B s t→(ofY R n T r).getD s.toNat 0=(ofY R n T r).getD t.toNat 0
 | 0,s,t,hs,ht,h=>(hB s t hs ht h).1
 | r+1,s,t,hs,ht,h=>by
  have hs1:=hs.1
  have hs2:=hs.2
  have ht1:=ht.1
  have ht2:=ht.2
  refine(lB HT HT).2 ?_
  have e1:((s.toNat:Nat):Int)=s:=by omega
  have e2:((t.toNat:Nat):Int)=t:=by omega
  unfold mL
  rw[vm hT hB r hs ht h,e1,e2]
  refine congrArg (Prod.mk _) (List.ext_getElem? fun k=>?_)
  rw[List.getElem?_map,List.getElem?_map]
  have hl:(R s).length=(R t).length:=by rw[hT.len s hs,hT.len t ht]
  by_cases hk:k<(R s).length
  ·have g1:(R s)[k]?=some (col R s k):=by unfold col;rw[List.getD_eq_getElem?_getD,List.getElem?_eq_getElem hk];rfl
   have g2:(R t)[k]?=some (col R t k):=by unfold col;rw[List.getD_eq_getElem?_getD,List.getElem?_eq_getElem (hl ▸ hk)];rfl
   rw[g1,g2,Option.map_some,Option.map_some]
   rcases (hB s t hs ht h).2 k with⟨a1,a2⟩|⟨a1,a2,a3⟩
   ·rw[a1,a2]
   ·rw[if_neg a1,if_neg a2,vm hT hB r ((hT.col hs k).resolve_left a1) ((hT.col ht k).resolve_left a2) a3]
  ·rw[List.getElem?_eq_none HT,List.getElem?_eq_none HT]
theorem Ck {R:Int→List Int}{n p:Nat}(hT:Tab n p R){T:List Int}{r:Nat}(he:nF R n (ofY R n T r)=nF R n (ofY R n T (r+1))):iV n R (fun s=>T.getD s.toNat 0) (r8 (ofY R n T (r+2))):=by
 have hsame:∀ i j,i<n→j<n→((ofY R n T (r+2)).getD i 0=(ofY R n T (r+2)).getD j 0↔(ofY R n T (r+1)).getD i 0=(ofY R n T (r+1)).getD j 0):=fun i j hi hj=>by
  constructor
  ·exact w8 hi hj (r+1)
  ·intro h
   exact(lB hi hj).2 ((um R n (ofY R n T r)).2 he i j hi hj ((lB hi hj).1 h))
 have kin:∀ {s:Int},In n s→r8 (ofY R n T (r+2)) s=(ofY R n T (r+2)).getD s.toNat 0:=fun {s} hs=>by
  unfold r8
  rw[if_neg hs.ne]
 refine⟨by simp[r8],fun s hs=>?_,fun s t hs ht h=>?_,fun s t hs ht h k=>?_,fun B hB s t hs ht h=>?_⟩
 ·rw[kin hs]
  exact B7 (by have:=hs.1;have:=hs.2;omega)
 ·rw[kin hs,kin ht]at h
  have:=hs.1
  have:=hs.2
  have:=ht.1
  have:=ht.2
  exact zH HT HT (r+2) h
 ·rw[kin hs,kin ht]at h
  have hs1:=hs.1
  have hs2:=hs.2
  have ht1:=ht.1
  have ht2:=ht.2
  have e1:((s.toNat:Nat):Int)=s:=by omega
  have e2:((t.toNat:Nat):Int)=t:=by omega
  have h2:=congrArg Prod.snd ((lB HT HT).1 h)
  unfold mL at h2
  rw[e1,e2]at h2
  have hl:(R s).length=(R t).length:=by rw[hT.len s hs,hT.len t ht]
  by_cases hk:k<(R s).length
  ·have g1:(R s)[k]?=some (col R s k):=by unfold col;rw[List.getD_eq_getElem?_getD,List.getElem?_eq_getElem hk];rfl
   have g2:(R t)[k]?=some (col R t k):=by unfold col;rw[List.getD_eq_getElem?_getD,List.getElem?_eq_getElem (hl ▸ hk)];rfl
   have h3:=congrArg (fun l=>l[k]?) h2
   simp only[List.getElem?_map,g1,g2,Option.map_some]at h3
   have h3:=Option.some.inj h3
   rcases hT.col hs k with c1|c1
   ·rw[if_pos c1]at h3
    rcases hT.col ht k with c2|c2
    ·rw[c1,c2]
    ·rw[if_neg c2.ne]at h3
     cases h3
   ·rw[if_neg c1.ne]at h3
    rcases hT.col ht k with c2|c2
    ·rw[if_pos c2]at h3
     cases h3
    ·rw[if_neg c2.ne]at h3
     rw[kin c1,kin c2]
     have c11:=c1.1
     have c12:=c1.2
     have c21:=c2.1
     have c22:=c2.2
     exact(hsame _ _ HT HT).2 (Option.some.inj h3)
  ·have g1:col R s k = -1:=gn hk
   have g2:col R t k = -1:=gn HT
   rw[g1,g2]
 ·rw[kin hs,kin ht]
  exact vm hT hB (r+2) hs ht h
def Dq (κ:Int→Int)(n:Nat)(x:PD):PD:=⟨[],(ez n κ x.row 0).map fun s=>(x.row s).map (cf κ (ez n κ x.row 0)),(ez n κ x.row 0).map x.tag⟩
end
section
open Go
def CG:il→Prop
 | []=>True
 | p::r=>(p.1=p.2∧CG r)∨∀ q∈r,q=(128,191)
theorem ze:∀ {r:il},(∀ q∈r,q=(128,191))→CG r
 | [],_=>trivial
 | p::r,h => .inr fun q hq=>h q (by simp[hq])
theorem Dl {s:am}(h:CF s):CG (dh s):=by
 have h0:=h.lo
 have hle:=h.le
 have hhi:=h.hi
 have hsz:=rq h.toOneSize
 obtain⟨a,b,c,d,elo,ha,hb,hc,hd⟩:=dig h0
 obtain⟨a',b',c',d',ehi,ha',hb',hc',hd'⟩:=dig (show 0≤s.hi by omega)
 obtain⟨x1,x2,x3,x4,x5,x6,x7,x8⟩:=fp elo hb hc hd
 obtain⟨y1,y2,y3,y4,y5,y6,y7,y8⟩:=fp ehi hb' hc' hd'
 have k1:=fun q=>F1 elo hb hc hd ehi hb' hc' hd' (h.a1 q)
 have k2:=fun q=>F0 elo hb hc hd ehi hb' hc' hd' (h.a2 q)
 have k3:=fun q=>FZ elo hb hc hd ehi hb' hc' hd' (h.a3 q)
 rcases hsz with q|⟨q1,q2⟩|⟨q1,q2⟩|q
 ·rw[dh,qo HT,qo HT]
  exact .inr (fun q hq=>by cases hq)
 ·have hs:bq s.lo=2:=by unfold bq;rw[if_neg HT,if_pos HT]
  have k1:=k1 HT
  rw[dh,qn HT HT,qn HT HT,x3,x6,y3,y6]
  clear k2 k3 x1 x2 x3 x4 x5 x6 x7 x8 y1 y2 y3 y4 y5 y6 y7 y8
  rcases k1 with⟨rfl,rfl,rfl⟩|⟨rfl,rfl⟩
  ·exact .inl ⟨rfl,.inr (fun q hq=>by cases hq)⟩
  ·exact .inr (fun q hq=>by simpa using hq)
 ·have hs:bq s.lo=3:=by unfold bq;rw[if_neg HT,if_neg HT,if_pos HT]
  have k1:=k1 HT
  have k2:=k2 HT
  rw[dh,pa HT HT,pa HT HT,x2,x5,x6,y2,y5,y6]
  clear k3 x1 x2 x3 x4 x5 x6 x7 x8 y1 y2 y3 y4 y5 y6 y7 y8
  rcases k2 with⟨rfl,rfl⟩|⟨rfl,rfl,rfl,rfl⟩
  ·refine .inl ⟨rfl,?_⟩
   rcases k1 with⟨_,_,rfl⟩|⟨rfl,rfl⟩
   ·exact .inl ⟨rfl,.inr (fun q hq=>by cases hq)⟩
   ·exact .inr (fun q hq=>by simpa using hq)
  ·exact .inr (fun q hq=>by
    rcases List.mem_cons.1 hq with rfl|hq
    ·rfl
    ·simpa using hq)
 ·have hs:bq s.lo=4:=by unfold bq;rw[if_neg HT,if_neg HT,if_neg HT]
  have k1:=k1 HT
  have k2:=k2 HT
  have k3:=k3 HT
  rw[dh,qm HT,qm HT,x1,x4,x5,x6,y1,y4,y5,y6]
  clear x1 x2 x3 x4 x5 x6 x7 x8 y1 y2 y3 y4 y5 y6 y7 y8
  rcases k3 with rfl|⟨rfl,rfl,rfl,rfl,rfl,rfl⟩
  ·refine .inl ⟨rfl,?_⟩
   rcases k2 with⟨_,rfl⟩|⟨rfl,rfl,rfl,rfl⟩
   ·refine .inl ⟨rfl,?_⟩
    rcases k1 with⟨_,_,rfl⟩|⟨rfl,rfl⟩
    ·exact .inl ⟨rfl,.inr (fun q hq=>by cases hq)⟩
    ·exact .inr (fun q hq=>by simpa using hq)
   ·exact .inr (fun q hq=>by
     rcases List.mem_cons.1 hq with rfl|hq
     ·rfl
     ·simpa using hq)
  ·exact .inr (fun q hq=>by
    rcases List.mem_cons.1 hq with rfl|hq
    ·rfl
    ·rcases List.mem_cons.1 hq with rfl|hq
     ·rfl
     ·simpa using hq)
def rG:List Way→List Int→List Way
 | l,[]=>l
 | l,c::u=>rG (dy l c) u
def preRow:il→List Int→Prop
 | _,[]=>True
 | [],_::_=>False
 | p::r,c::u=>(p.1≤c∧c≤p.2)∧preRow r u
theorem rF:∀ {u:List Int} {l:List Way} {v:Way},v∈rG l u↔∃ w∈l,preRow w.1 u∧v=(w.1.drop u.length,w.2)
 | [],l,v=>by
  show v∈l↔_
  constructor
  ·intro h;exact⟨v,h,by cases v.1<;>trivial,rfl⟩
  ·rintro⟨w,hw,_,rfl⟩;exact hw
 | c::u,l,v=>by
  show v∈rG (dy l c) u↔_
  rw[rF]
  constructor
  ·rintro⟨w,hw,h1,rfl⟩
   obtain⟨p,hp,hc⟩:=gX.1 hw
   exact⟨_,hp,⟨hc,h1⟩,rfl⟩
  ·rintro⟨⟨r,t⟩,hw,h1,rfl⟩
   cases r with
   | nil=>exact h1.elim
   | cons p r=>exact⟨(r,t),gX.2 ⟨p,hw,h1.1⟩,h1.2,rfl⟩
theorem tW:∀ (u:List Int) (l:List Way) (c:Int),rG l (u++[c])=dy (rG l u) c
 | [],l,c=>rfl
 | x::u,l,c=>tW u (dy l x) c
structure sK (l:List Way):Prop where
 ne:∀ w∈l,w.1≠[]∧∀ p∈w.1,p.1≤p.2
 uni:∀ w∈l,∀ v∈l,∀ b t,je w.1 b→je v.1 (b++t)→t=[]∧w=v
 casc:∀ w∈l,CG w.1
 tail:∀ w∈l,∀ q∈w.1.tail,128≤q.1∧q.2≤191
theorem Cx {p:Int×Int}{r:il}(h:CG (p::r)):CG r:=by
 rcases h with h|h
 ·exact h.2
 ·exact ze h
theorem sK.rem {l:List Way}(h:sK l){c:Int}(hne:∀ v∈dy l c,v.1≠[]):sK (dy l c):=by
 refine⟨fun v hv=>⟨hne v hv,?_⟩,fun w hw v hv b t h1 h2=>?_,fun v hv=>?_,fun v hv q hq=>?_⟩
 ·obtain⟨p,hp,_⟩:=gX.1 hv
  exact fun q hq=>(h.ne _ hp).2 q (by simp[hq])
 ·obtain⟨p,hp,hpc⟩:=gX.1 hw
  obtain⟨q,hq,hqc⟩:=gX.1 hv
  obtain⟨g1,g2⟩:=h.uni _ hp _ hq (c::b) t ⟨hpc,h1⟩ ⟨hqc,h2⟩
  injection g2 with g2 g3
  injection g2 with g4 g5
  exact⟨g1,Prod.ext g5 g3⟩
 ·obtain⟨p,hp,_⟩:=gX.1 hv
  exact Cx (h.casc _ hp)
 ·obtain⟨p,hp,_⟩:=gX.1 hv
  exact h.tail _ hp q (List.mem_of_mem_tail hq)
theorem ue {r:il}{b:List Int}(h:je r b):r.length=b.length:=by
 induction r generalizing b with
 | nil=>cases b with
  | nil=>rfl
  | cons _ _=>exact h.elim
 | cons p r ih=>cases b with
  | nil=>exact h.elim
  | cons c b=>simp[ih h.2]
theorem qV:∀ {r:il},(∀ q∈r,q=(128,191))→∀ {b:List Int},(∀ c∈b,128≤c∧c≤191)→r.length=b.length→je r b
 | [],_,[],_,_=>trivial
 | [],_,_::_,_,h=>by simp at h
 | _::_,_,[],_,h=>by simp at h
 | p::r,hr,c::b,hb,h=>by
  have e:=hr p HU
  subst e
  exact⟨hb c HU,qV (fun q hq=>hr q (by simp[hq])) (fun x hx=>hb x (by simp[hx])) (by simpa using h)⟩
theorem vG {r:il}(h:∀ q∈r,128≤q.1∧q.2≤191){b:List Int}(hb:je r b):∀ c∈b,128≤c∧c≤191:=by
 induction r generalizing b with
 | nil=>cases b with
  | nil=>intro c hc;cases hc
  | cons _ _=>exact hb.elim
 | cons p r ih=>cases b with
  | nil=>exact hb.elim
  | cons c b =>
   intro x hx
   have h1:=h p HU
   rcases List.mem_cons.1 hx with rfl|hx
   ·have:=hb.1;omega
   ·exact ih (fun q hq=>h q (by simp[hq])) hb.2 x hx
theorem pT {l:List Way}(h:sK l){p:Int×Int}{r:il}{t:Int}(hw:(p::r,t)∈l)(hr:∀ q∈r,q=(128,191)){c:Int}(hc:p.1≤c∧c≤p.2){v:Way}(hv:v∈l){q:Int×Int}{r2:il}(e:v.1=q::r2)(hq:q.1≤c∧c≤q.2):(p::r,t)=v:=by
 have hne:=(h.ne v hv).2
 rw[e]at hne
 obtain⟨b,hb⟩:=sd (r:=r2) fun x hx=>hne x (by simp[hx])
 have htl:=h.tail v hv
 rw[e]at htl
 have hbb:=vG htl hb
 have hlb:=ue hb
 rcases Nat.le_total r.length b.length with hl|hl
 ·have h1:je (p::r) (c::b.take r.length):=⟨hc,qV hr (fun x hx=>hbb x (List.mem_of_mem_take hx)) (by rw[List.length_take];omega)⟩
  exact(h.uni _ hw _ hv (c::b.take r.length) (b.drop r.length) h1 (by rw[e];exact⟨hq,show je r2 (b.take r.length++b.drop r.length) by rw[List.take_append_drop];exact hb⟩)).2
 ·have h1:je (p::r) (c::b++List.replicate (r.length-b.length) 128):=⟨hc,qV hr (fun x hx=>by
   rcases List.mem_append.1 hx with hx|hx
   ·exact hbb x hx
   ·rw[(List.mem_replicate.1 hx).2];omega) (by simp;omega)⟩
  exact(h.uni _ hv _ hw (c::b) _ (by rw[e];exact⟨hq,hb⟩) h1).2.symm
theorem rE {c c':Int}:∀ {l:List Way},(∀ w∈l,∀ p r,w.1=p::r→((p.1≤c∧c≤p.2)↔(p.1≤c'∧c'≤p.2)))→dy l c=dy l c'
 | [],_=>rfl
 | w::l,h=>by
  have ih:=rE (l:=l) fun v hv=>h v (by simp[hv])
  unfold dy at ih ⊢
  rw[List.filterMap_cons,List.filterMap_cons,ih]
  cases e:w.1 with
  | nil=>rfl
  | cons p r =>
   have:=h w HU p r e
   by_cases hc:p.1≤c∧c≤p.2
   ·simp only[if_pos hc,if_pos (this.1 hc)]
   ·simp only[if_neg hc,if_neg (fun x=>hc (this.2 x))]
theorem wK:∀ (u u':List Int) {l:List Way},sK l→∀ w∈l,u.length=u'.length→u.length<w.1.length→preRow w.1 u→preRow w.1 u'→rG l u=rG l u'
 | [],[],_,_,_,_,_,_,_,_=>rfl
 | [],_::_,_,_,_,_,h,_,_,_=>by simp at h
 | _::_,[],_,_,_,_,h,_,_,_=>by simp at h
 | c::u,c'::u',l,hg,(p::r,t),hw,hl,hlt,h1,h2=>by
  simp only[List.length_cons]at hl hlt
  have hm:(r,t)∈dy l c:=gX.2 ⟨p,hw,h1.1⟩
  have hrne:=(hg.ne _ hw).2
  have hgr:sK (dy l c):=hg.rem fun v hv e=>by
   obtain⟨q,hq,hqc⟩:=gX.1 hv
   rw[e]at hq
   obtain⟨b,hb⟩:=sd (r:=r) fun x hx=>hrne x (by simp[hx])
   have g:=(hg.uni _ hq _ hw [c] b ⟨hqc,trivial⟩ ⟨h1.1,hb⟩).1
   subst g
   have:r.length=0:=ue hb
   omega
  have heq:dy l c=dy l c':=by
   rcases hg.casc _ hw with⟨g,_⟩|g
   ·have:c=c':=by have a1:p.1≤c∧c≤p.2:=h1.1;have a2:p.1≤c'∧c'≤p.2:=h2.1;omega
    rw[this]
   ·refine rE fun v hv q r2 e=>⟨fun hq=>?_,fun hq=>?_⟩
    ·have:=pT hg hw g h1.1 hv e hq
     rw[← this]at e
     injection e with e1 e2
     subst e1
     exact h2.1
    ·have:=pT hg hw g h2.1 hv e hq
     rw[← this]at e
     injection e with e1 e2
     subst e1
     exact h1.1
  show rG (dy l c) u=rG (dy l c') u'
  rw[← heq]
  exact wK u u' hgr (r,t) hm HT (by simp only;omega) h1.2 h2.2
theorem xq {x:Int}(h:0≤x):∀ c∈(bG x).tail,128≤c∧c≤191:=by
 intro c hc
 unfold bG at hc
 split at hc
 ·simp at hc
 ·split at hc
  ·simp at hc;omega
  ·split at hc
   ·simp at hc;omega
   ·simp at hc;omega
theorem CH:∀ {a b:List Int},(a.zip b).tail=a.tail.zip b.tail
 | [],_=>by simp
 | _::_,[]=>by simp
 | x::a,y::b=>by simp
theorem Dk {s:am}(h:CF s):∀ q∈(dh s).tail,128≤q.1∧q.2≤191:=by
 intro q hq
 have h0:=h.lo
 have hle:=h.le
 unfold dh at hq
 rw[CH]at hq
 have h1:=List.of_mem_zip (a:=q.1) (b:=q.2) hq
 exact⟨(xq h0 _ h1.1).1,(xq HT _ h1.2).2⟩
theorem E9 (s:am):(dh s).length≤4:=by
 unfold dh
 rw[List.length_zip,dI,dI]
 have:=de s.lo
 omega
theorem yX {l:List am}{s t:am}(hs:s∈d5 l)(ht:t∈d5 l){x:Int}(h1:s.lo≤x∧x≤s.hi)(h2:t.lo≤x∧x≤t.hi):s=t:=by
 obtain⟨i,hi⟩:=List.getElem?_of_mem hs
 obtain⟨j,hj⟩:=List.getElem?_of_mem ht
 obtain⟨hi1,hi2⟩:=List.getElem?_eq_some_iff.1 hi
 obtain⟨hj1,hj2⟩:=List.getElem?_eq_some_iff.1 hj
 have hp:=(hZ l).2.2
 rcases Nat.lt_trichotomy i j with h|h|h
 ·have:=List.pairwise_iff_getElem.1 hp i j hi1 hj1 h
  rw[hi2,hj2]at this
  omega
 ·subst h
  rw[← hi2,← hj2]
 ·have:=List.pairwise_iff_getElem.1 hp j i hj1 hi1 h
  rw[hi2,hj2]at this
  omega
theorem wj {parts:List (List am)}(ha:EM parts)(next:List Int):sK (dO parts next):=by
 refine⟨fun w hw=>?_,fun w hw v hv b t h1 h2=>?_,fun w hw=>?_,fun w hw=>?_⟩
 ·obtain⟨k,p,_,_,_,h⟩:=iN.1 hw
  exact E8 h
 ·obtain⟨i,p,a1,a2,a3,a4⟩:=iN.1 hw
  obtain⟨j,q,b1,b2,b3,b4⟩:=iN.1 hv
  obtain⟨s1,c1,c2⟩:=List.mem_map.1 a4
  obtain⟨s2,d1,d2⟩:=List.mem_map.1 b4
  rw[← c2]at h1
  rw[← d2]at h2
  obtain⟨x,x1,x2,x3⟩:=(uZ ((hZ p).1 s1 c1) b).1 h1
  obtain⟨y,y1,y2,y3⟩:=(uZ ((hZ q).1 s2 d1) (b++t)).1 h2
  have hx:=((hZ p).2.1 x).1 ⟨s1,c1,x1,x2⟩
  have hy:=((hZ q).2.1 y).1 ⟨s2,d1,y1,y2⟩
  obtain⟨e1,e2⟩:=D8 (qc hx).1 (qc hy).1 (t:=t) (by rw[x3,y3])
  subst e1
  have e3:=ha i j p q a1 b1 x hx hy
  subst e3
  rw[a1]at b1
  have e4:=Option.some.inj b1
  subst e4
  have e5:=yX c1 d1 ⟨x1,x2⟩ ⟨y1,y2⟩
  subst e5
  rw[a2]at b2
  exact⟨e2,Prod.ext (c2.symm.trans d2) (Option.some.inj b2)⟩
 ·obtain⟨i,p,a1,a2,a3,a4⟩:=iN.1 hw
  obtain⟨s1,c1,c2⟩:=List.mem_map.1 a4
  rw[← c2]
  exact Dl ((hZ p).1 s1 c1)
 ·obtain⟨i,p,a1,a2,a3,a4⟩:=iN.1 hw
  obtain⟨s1,c1,c2⟩:=List.mem_map.1 a4
  rw[← c2]
  exact Dk ((hZ p).1 s1 c1)
theorem Ai {parts:List (List am)}{next:List Int}:∀ w∈dO parts next,w.1.length≤4:=by
 intro w hw
 obtain⟨i,p,a1,a2,a3,a4⟩:=iN.1 hw
 obtain⟨s1,c1,c2⟩:=List.mem_map.1 a4
 rw[← c2]
 exact E9 s1
def Hw (d:PD)(a:RSt):Prop:=(In d.n a.1∧a.2=[])∨(a.1 = -1∧∃ i u,In d.n i∧u≠[]∧a.2=rG (dO d.parts (d.row i)) u∧a.2≠[]∧∀ w∈a.2,w.1≠[])
theorem oH {l l':List Way}{c:Int}(hs:kR l c = .amid l'):l'≠[]∧∀ w∈l',w.1≠[]:=by
 unfold kR at hs
 split at hs
 ·cases hs
 ·rename_i hf
  split at hs
  ·cases hs
  ·rename_i hne
   injection hs with hs
   subst hs
   refine⟨hne,fun w hw e=>?_⟩
   have:=List.find?_eq_none.1 hf w hw
   simp[e]at this
theorem BM {d:PD}(h:d.Ok)(m:Nat):∀ a∈cK d m,Hw d a:=by
 refine sH (.inl ⟨h.zero,rfl⟩) (fun a b ha hb=>?_) m
 obtain⟨c,_,hc⟩:=oN hb
 have hin:InR d a:=by
  rcases ha with ha|⟨h1,i,u,h2,h3,h4,h5,h6⟩
  ·exact .inl ha
  ·refine .inr ⟨h1,fun w hw=>?_⟩
   rw[h4]at hw
   obtain⟨v,hv,_,rfl⟩:=rF.1 hw
   exact uD h h2 v hv
 unfold cW at hc
 split at hc
 ·cases hc
 ·rename_i i hi
  cases hc
  exact .inl ⟨uJ (oB h hin) hi,rfl⟩
 ·rename_i l hl
  cases hc
  obtain⟨g1,g2⟩:=oH hl
  have g3:=pu hl
  refine .inr ⟨rfl,?_⟩
  rcases ha with⟨h1,h2⟩|⟨h1,i,u,h2,h3,h4,h5,h6⟩
  ·have e:eK d a=dO d.parts (d.row a.1):=by unfold eK;rw[if_neg (by have:=h1.1;omega)]
   exact⟨a.1,[(c:Int)],h1,by simp,by rw[g3,e];rfl,g1,g2⟩
  ·have e:eK d a=a.2:=by unfold eK;rw[if_pos HT]
   exact⟨i,u++[(c:Int)],h2,by simp,by rw[g3,e,h4,tW],g1,g2⟩
def gR (l:List Way):List (Way×Nat):=l.flatMap fun w=>(List.range (w.1.length-1)).map fun j=>(w,j+1)
theorem t9 {l:List Way}{w:Way}{j:Nat}:(w,j)∈gR l↔w∈l∧1≤j∧j<w.1.length:=by
 unfold gR
 rw[List.mem_flatMap]
 constructor
 ·rintro⟨v,hv,h⟩
  obtain⟨k,hk,e⟩:=List.mem_map.1 h
  cases e
  rw[List.mem_range]at hk
  exact⟨hv,by omega,by omega⟩
 ·rintro⟨h1,h2,h3⟩
  exact⟨w,h1,List.mem_map.2 ⟨j-1,List.mem_range.2 HT,by rw[show j-1+1=j by omega]⟩⟩
theorem tY {d:PD}(h:d.Ok){K:Nat}(hK:∀ i,In d.n i→(gR (dO d.parts (d.row i))).length≤K)(m:Nat):(cK d m).length≤d.n+d.n*K:=by
 have hp:=BM h m
 -- a number for each
 have hex:∀ a∈cK d m,∃ x:Int,In (d.n+d.n*K) x∧((In d.n a.1∧a.2=[]∧x=a.1)∨(a.1 = -1∧∃ i u w,In d.n i∧(w,u.length)∈gR (dO d.parts (d.row i))∧preRow w.1 u∧a.2=rG (dO d.parts (d.row i)) u∧x=d.n+(i*K+((gR (dO d.parts (d.row i))).idxOf (w,u.length):Nat)))):=by
  intro a ha
  rcases hp a ha with⟨h1,h2⟩|⟨h1,i,u,h2,h3,h4,h5,h6⟩
  ·refine⟨a.1,⟨h1.1,?_⟩,.inl ⟨h1,h2,rfl⟩⟩
   have:=h1.2
   omega
  ·obtain⟨v,hv⟩:=List.exists_mem_of_ne_nil _ h5
   have hv2:=hv
   rw[h4]at hv2
   obtain⟨w,hw,hpre,e⟩:=rF.1 hv2
   have hlt:u.length<w.1.length:=by
    have:=h6 v hv
    rw[e]at this
    apply Classical.byContradiction
    intro hn
    exact this (List.drop_eq_nil_of_le HT)
   have hul:1≤u.length:=by
    cases u with
    | nil=>exact absurd rfl h3
    | cons _ _=>simp
   have hmem:=t9.2 ⟨hw,hul,hlt⟩
   have hidx:=List.idxOf_lt_length_iff.2 hmem
   have hk:=hK i h2
   obtain⟨n,rfl⟩:∃ n:Nat,i=n:=⟨i.toNat,by have:=h2.1;omega⟩
   have hn:=h2.2
   have hmul:n*K+K≤d.n*K:=by
    have:=Nat.mul_le_mul_right K (show n+1≤d.n by omega)
    rw[Nat.add_mul,Nat.one_mul]at this
    exact this
   refine⟨_,⟨?_,?_⟩,.inr ⟨h1,n,u,w,h2,hmem,hpre,h4,rfl⟩⟩
   ·have:(0:Int)≤(n:Int)*(K:Int):=by rw[← Int.natCast_mul];omega
    omega
   ·have e2:(n:Int)*(K:Int)=((n*K:Nat):Int):=by rw[Int.natCast_mul]
    rw[e2]
    omega
 let f:RSt→Int:=fun a=>if ha:a∈cK d m then Classical.choose (hex a ha) else 0
 have hf:∀ a (ha:a∈cK d m),f a=Classical.choose (hex a ha):=fun a ha=>dif_pos ha
 have hinj:∀ a∈cK d m,∀ b∈cK d m,f a=f b→a=b:=by
  intro a ha b hb e
  rw[hf a ha,hf b hb]at e
  obtain⟨a1,a2⟩:=Classical.choose_spec (hex a ha)
  obtain⟨b1,b2⟩:=Classical.choose_spec (hex b hb)
  generalize Classical.choose (hex a ha)=x at *
  generalize Classical.choose (hex b hb)=y at *
  subst e
  have big:∀ {i:Int} {q:Nat},In d.n i→(d.n:Int)≤d.n+(i*K+(q:Nat)):=fun {i q} hi=>by
   have:=Int.mul_nonneg hi.1 (Int.natCast_nonneg K)
   omega
  rcases a2 with⟨p1,p2,p3⟩|⟨p1,i,u,w,p2,p3,p4,p5,p6⟩<;>rcases b2 with⟨q1,q2,q3⟩|⟨q1,i',u',w',q2,q3,q4,q5,q6⟩
  ·exact Prod.ext HT (p2.trans q2.symm)
  ·have:=big (q:=(gR (dO d.parts (d.row i'))).idxOf (w',u'.length)) q2
   have:=p1.2
   omega
  ·have:=big (q:=(gR (dO d.parts (d.row i))).idxOf (w,u.length)) p2
   have:=q1.2
   omega
  ·have k1:=List.idxOf_lt_length_iff.2 p3
   have k2:=List.idxOf_lt_length_iff.2 q3
   have k3:=hK i p2
   have k4:=hK i' q2
   have hii:i=i':=by
    have e:i*(K:Int)+((gR (dO d.parts (d.row i))).idxOf (w,u.length):Nat)=i'*(K:Int)+((gR (dO d.parts (d.row i'))).idxOf (w',u'.length):Nat):=by omega
    generalize (gR (dO d.parts (d.row i))).idxOf (w,u.length)=s at *
    generalize (gR (dO d.parts (d.row i'))).idxOf (w',u'.length)=t at *
    have hk0:0<(K:Int):=by omega
    have d1:(i*(K:Int)+s) / K=i:=by rw[Int.add_comm,Int.add_mul_ediv_right _ _ HT,Int.ediv_eq_zero_of_lt HT HT];omega
    have d2:(i'*(K:Int)+t) / K=i':=by rw[Int.add_comm,Int.add_mul_ediv_right _ _ HT,Int.ediv_eq_zero_of_lt HT HT];omega
    rw[← d1,← d2,e]
   subst hii
   have e2:(gR (dO d.parts (d.row i))).idxOf (w,u.length)=(gR (dO d.parts (d.row i))).idxOf (w',u'.length):=by omega
   have e3:(w,u.length)=(w',u'.length):=by
    have g1:=List.getElem_idxOf k1
    have g2:=List.getElem_idxOf k2
    rw[← g1,← g2]
    simp only[e2]
   injection e3 with e4 e5
   subst e4
   have hlt:=(t9.1 p3)
   refine Prod.ext (p1.trans q1.symm) ?_
   rw[p5,q5]
   exact wK u u' (wj h.apart' _) w hlt.1 e5 hlt.2.2 p4 q4
 have hnd:((cK d m).map f).Nodup:=by
  have:=ow (dg d) ((0,[]):RSt) m
  refine List.Pairwise.map _ (R:=fun a b=>a∈cK d m∧b∈cK d m∧a≠b) (fun a b ⟨ha,hb,hab⟩ e=>hab (hinj a ha b hb e)) (List.Pairwise.and_mem.1 this)
 have:=mH (d.n+d.n*K) ((cK d m).map f) hnd fun x hx=>by
  obtain⟨a,ha,rfl⟩:=List.mem_map.1 hx
  rw[hf a ha]
  exact(Classical.choose_spec (hex a ha)).1
 simpa using this
end
section
open Go
def LvP (a b:Int):Prop:=(a=64∧b=4096)∨(a=64∧b=262144)∨(a=4096∧b=262144)
theorem rN (n:Nat):(gP n).Pairwise LvP:=by
 unfold gP
 split<;>simp[LvP]
theorem qa {m:Int}{ms:List Int}{s:am}(h:gN m s):eQ (m::ms) s=eQ ms s:=by
 show(if s.lo / m=s.hi / m then eQ ms s else if s.lo%m≠0 then(s.lo / m+1)*m else if s.hi%m≠m-1 then s.hi / m*m else eQ ms s)=_
 split
 ·rfl
 ·rename_i h1
  have h2:=h.resolve_left h1
  rw[if_neg (by simp[h2.1]),if_neg (by simp[h2.2])]
theorem kS:∀ {pre ms:List Int} {s:am},(∀ m∈pre,gN m s)→eQ (pre++ms) s=eQ ms s
 | [],_,_,_=>rfl
 | m::pre,ms,s,h=>by
  rw[List.cons_append,qa (h m HU)]
  exact kS fun q hq=>h q (by simp[hq])
theorem n5 {ms:List Int}{s:am}(h:∀ m∈ms,gN m s):eQ ms s=0:=by
 have:=kS (ms:=[]) h
 rw[List.append_nil]at this
 rw[this]
 rfl
theorem sq {s:am}{x:Int}(hx:d3 s=x)(h1:s.lo<x)(h2:x≤s.hi):gl s=gl ⟨s.lo,x-1⟩++gl ⟨x,s.hi⟩:=by
 subst hx
 rw[gl,dif_pos ⟨h1,h2⟩]
theorem mV {s:am}(hx:d3 s=0)(h0:0≤s.lo):gl s=[s]:=by
 rw[gl,dif_neg (by rw[hx];omega)]
theorem nu {m' m:Int}(h:LvP m' m){s:am}(he:gN m' s)(hd:¬ s.lo / m=s.hi / m):s.lo%m'=0∧s.hi%m'=m'-1:=by
 rcases he with he|he
 ·exfalso
  rcases h with⟨rfl,rfl⟩|⟨rfl,rfl⟩|⟨rfl,rfl⟩<;>omega
 ·exact he
theorem vz {m' m:Int}(h:LvP m' m)(q:Int):(q*m)%m'=0∧(q*m-1)%m'=m'-1:=by
 rcases h with⟨rfl,rfl⟩|⟨rfl,rfl⟩|⟨rfl,rfl⟩<;>omega
theorem zK {m M:Int}(h:LvP m M){x y:Int}(hx:x / m=y / m):x / M=y / M:=by
 rcases h with⟨rfl,rfl⟩|⟨rfl,rfl⟩|⟨rfl,rfl⟩<;>omega
theorem xc {m:Int}(h:m=64∨m=4096∨m=262144)(x:Int):x / m=((x / m+1)*m-1) / m∧x / m*m / m=x / m∧((x / m+1)*m)%m=0∧(x / m*m-1)%m=m-1∧(x / m*m)%m=0:=by
 rcases h with rfl|rfl|rfl<;>omega
theorem ul {n:Nat}{m:Int}{ms pre:List Int}(hp:pre++m::ms=gP n)
  (ih:∀ s,OneSize s→bq s.lo=n→(∀ q∈pre++[m],gN q s)→(gl s).length≤2*ms.length+1)
  (s:am) (h1:OneSize s) (hn:bq s.lo=n) (he:∀ q∈pre,gN q s) (hz:s.lo%m=0):(gl s).length≤2*ms.length+2:=by
 have hpair:=rN n
 rw[← hp,List.pairwise_append]at hpair
 obtain⟨_,hp2,hp3⟩:=hpair
 have hlow:∀ q∈pre,LvP q m:=fun q hq=>hp3 q hq m HU
 have hup:∀ q∈ms,LvP m q:=(List.pairwise_cons.1 hp2).1
 have hm:m=64∨m=4096∨m=262144:=nk (n:=n) m (by rw[← hp];simp)
 by_cases hev:gN m s
 ·have:=ih s h1 hn fun q hq=>by
   rcases List.mem_append.1 hq with hq|hq
   ·exact he q hq
   ·simp only[List.mem_singleton]at hq;subst hq;exact hev
  omega
 ·have hd:¬ s.lo / m=s.hi / m:=fun e=>hev (.inl e)
  have hr:s.hi%m≠m-1:=fun e=>hev (.inr ⟨hz,e⟩)
  have hpl:d3 s=s.hi / m*m:=by
   unfold d3
   rw[hn,← hp,kS he]
   show(if s.lo / m=s.hi / m then eQ ms s else if s.lo%m≠0 then(s.lo / m+1)*m else if s.hi%m≠m-1 then s.hi / m*m else eQ ms s)=_
   rw[if_neg hd,if_neg (by simp[hz]),if_pos hr]
  have hin:=(nn h1.lo h1.le).resolve_left (by
   rw[hpl]
   have:=h1.lo
   have:=h1.le
   rcases hm with rfl|rfl|rfl<;>omega)
  rw[hpl]at hin
  obtain⟨g1,g2⟩:=oW h1 hin.1 hin.2
  obtain⟨b1,b2,b3,b4,b5⟩:=xc hm s.hi
  rw[sq hpl hin.1 hin.2,List.length_append]
  have k1:=ih ⟨s.lo,s.hi / m*m-1⟩ g1 hn fun q hq=>by
   rcases List.mem_append.1 hq with hq|hq
   ·exact .inr ⟨(nu (hlow q hq) (he q hq) hd).1,(vz (hlow q hq) _).2⟩
   ·simp only[List.mem_singleton]at hq;subst hq;exact .inr ⟨hz,b4⟩
  have k2:gl ⟨s.hi / m*m,s.hi⟩=[⟨s.hi / m*m,s.hi⟩]:=by
   refine mV ?_ g2.lo
   unfold d3
   have e:bq (s.hi / m*m)=n:=by
    have q1:=g2.size
    have q2:=h1.size
    simp only at q1
    rw[q1,← q2,hn]
   show eQ (gP (bq (s.hi / m*m))) _=0
   rw[e,← hp]
   refine n5 fun q hq=>?_
   rcases List.mem_append.1 hq with hq|hq
   ·exact .inr ⟨(vz (hlow q hq) _).1,(nu (hlow q hq) (he q hq) hd).2⟩
   ·rcases List.mem_cons.1 hq with rfl|hq
    ·exact .inl b2
    ·exact .inl (zK (hup q hq) b2)
  rw[k2]
  simp only[List.length_singleton]
  omega
theorem pN {n:Nat}:∀ (ms pre:List Int),pre++ms=gP n→∀ s,OneSize s→bq s.lo=n→(∀ q∈pre,gN q s)→(gl s).length≤2*ms.length+1
 | [],pre,hp,s,h1,hn,he=>by
  rw[List.append_nil]at hp
  have:d3 s=0:=by
   unfold d3
   rw[hn,← hp]
   exact n5 he
  rw[mV this h1.lo]
  simp
 | m::ms,pre,hp,s,h1,hn,he=>by
  have ih:=fun s=>pN ms (pre++[m]) (by rw[← hp];simp) s
  have hpair:=rN n
  rw[← hp,List.pairwise_append]at hpair
  obtain⟨_,hp2,hp3⟩:=hpair
  have hlow:∀ q∈pre,LvP q m:=fun q hq=>hp3 q hq m HU
  have hup:∀ q∈ms,LvP m q:=(List.pairwise_cons.1 hp2).1
  have hm:m=64∨m=4096∨m=262144:=nk (n:=n) m (by rw[← hp];simp)
  by_cases hz:s.lo%m=0
  ·have:=ul hp ih s h1 hn he hz
   simp only[List.length_cons]
   omega
  ·by_cases hd:s.lo / m=s.hi / m
   ·have:=ih s h1 hn fun q hq=>by
     rcases List.mem_append.1 hq with hq|hq
     ·exact he q hq
     ·simp only[List.mem_singleton]at hq;subst hq;exact .inl hd
    simp only[List.length_cons]
    omega
   ·have hpl:d3 s=(s.lo / m+1)*m:=by
     unfold d3
     rw[hn,← hp,kS he]
     show(if s.lo / m=s.hi / m then eQ ms s else if s.lo%m≠0 then(s.lo / m+1)*m else if s.hi%m≠m-1 then s.hi / m*m else eQ ms s)=_
     rw[if_neg hd,if_pos hz]
    have hin:=(nn h1.lo h1.le).resolve_left (by
     rw[hpl]
     have:=h1.lo
     have:=h1.le
     rcases hm with rfl|rfl|rfl<;>omega)
    rw[hpl]at hin
    obtain⟨g1,g2⟩:=oW h1 hin.1 hin.2
    obtain⟨b1,b2,b3,b4,b5⟩:=xc hm s.lo
    rw[sq hpl hin.1 hin.2,List.length_append]
    have k1:gl ⟨s.lo,(s.lo / m+1)*m-1⟩=[⟨s.lo,(s.lo / m+1)*m-1⟩]:=by
     refine mV ?_ g1.lo
     show eQ (gP (bq s.lo)) _=0
     rw[hn,← hp]
     refine n5 fun q hq=>?_
     rcases List.mem_append.1 hq with hq|hq
     ·exact .inr ⟨(nu (hlow q hq) (he q hq) hd).1,(vz (hlow q hq) _).2⟩
     ·rcases List.mem_cons.1 hq with rfl|hq
      ·exact .inl b1
      ·exact .inl (zK (hup q hq) b1)
    have e:bq ((s.lo / m+1)*m)=n:=by
     have q1:=g2.size
     have q2:=h1.size
     simp only at q1
     rw[q1,← q2,hn]
    have k2:=ul hp ih ⟨(s.lo / m+1)*m,s.hi⟩ g2 e (fun q hq => .inr ⟨(vz (hlow q hq) _).1,(nu (hlow q hq) (he q hq) hd).2⟩) b3
    rw[k1]
    simp only[List.length_nil,List.length_cons]
    omega
theorem Ee {s:am}(h:OneSize s):∀ q∈gl s,bq q.lo=bq s.lo:=by
 intro q hq
 obtain⟨k1,k2,k3⟩:=j6 s h
 have hf:=k1 q hq
 have g1:=(k2 q.lo).1 ⟨q,hq,Int.le_refl _,hf.le⟩
 have a1:=kw g1.1
 have a2:=kw g1.2
 have:=h.size
 omega
def od (l:List am):Nat:=(l.map fun q=>bq q.lo-1).sum
theorem kT (a b:List am):od (a++b)=od a+od b:=by simp[od]
theorem DG {s:am}(h:OneSize s):od (gl s)≤(2*(bq s.lo-1)+1)*(bq s.lo-1):=by
 have hc:(gl s).length≤2*(bq s.lo-1)+1:=by
  have hl:(gP (bq s.lo)).length=bq s.lo-1:=by
   have:=de s.lo
   have:bq s.lo=1∨bq s.lo=2∨bq s.lo=3∨bq s.lo=4:=by omega
   rcases this with e|e|e|e<;>rw[e]<;>rfl
  have:=pN (gP (bq s.lo)) [] rfl s h rfl (fun q hq=>by cases hq)
  rw[hl]at this
  exact this
 have key:∀ (l:List am),(∀ q∈l,bq q.lo=bq s.lo)→od l=l.length*(bq s.lo-1):=by
  intro l
  induction l with
  | nil=>intro _;simp[od]
  | cons a l ih =>
   intro hl
   have h1:=ih fun q hq=>hl q (by simp[hq])
   have h2:=hl a HU
   simp only[od,List.map_cons,List.sum_cons,List.length_cons]at h1 ⊢
   rw[h1,h2,Nat.add_mul,Nat.one_mul]
   omega
 rw[key _ (Ee h)]
 exact Nat.mul_le_mul_right _ hc
theorem qJ {α β:Type}(f:α→Option β)(a:α)(l:List α):(a::l).filterMap f=(f a).toList++l.filterMap f:=by
 cases h:f a<;>simp[List.filterMap_cons,h]
theorem Cc (s:am):od ((cJ s).flatMap gl)≤34:=by
  have key:∀ (p:Int×Int) (w:Nat),(∀ q:am,max s.lo p.1≤min s.hi p.2→OneSize ⟨max s.lo p.1,min s.hi p.2⟩→bq (max s.lo p.1)=w)→p∈ii →
      od (((if max s.lo p.1≤min s.hi p.2 then some (⟨max s.lo p.1,min s.hi p.2⟩:am) else none).toList).flatMap gl)≤(2*(w-1)+1)*(w-1):=by
    intro p w hw hp
    split
    · rename_i hc
      have ho:OneSize ⟨max s.lo p.1,min s.hi p.2⟩:=kp (s:=s) (ku.2 ⟨p,hp,hc,rfl⟩)
      have:=DG ho
      have e:bq (am.mk (max s.lo p.1) (min s.hi p.2)).lo=w:=hw ⟨0,0⟩ hc ho
      rw[e]at this
      simpa using this
    · simp[od]
  have e:cJ s=(if max s.lo 0≤min s.hi 127 then some (⟨max s.lo 0,min s.hi 127⟩:am) else none).toList++((if max s.lo 128≤min s.hi 2047 then some (⟨max s.lo 128,min s.hi 2047⟩:am) else none).toList++((if max s.lo 2048≤min s.hi 65535 then some (⟨max s.lo 2048,min s.hi 65535⟩:am) else none).toList++(if max s.lo 65536≤min s.hi 1114111 then some (⟨max s.lo 65536,min s.hi 1114111⟩:am) else none).toList)):=by
    unfold cJ ii
    rw[qJ,qJ,qJ,qJ,List.filterMap_nil,List.append_nil]
  rw[e,List.flatMap_append,List.flatMap_append,List.flatMap_append,kT,kT,kT]
  have k1:=key (0,127) 1 (fun _ h _=>by simp only at h ⊢;unfold bq;rw[if_pos HT]) (by simp[ii])
  have k2:=key (128,2047) 2 (fun _ h _=>by simp only at h ⊢;unfold bq;rw[if_neg HT,if_pos HT]) (by simp[ii])
  have k3:=key (2048,65535) 3 (fun _ h _=>by simp only at h ⊢;unfold bq;rw[if_neg HT,if_neg HT,if_pos HT]) (by simp[ii])
  have k4:=key (65536,1114111) 4 (fun _ h _=>by simp only at h ⊢;unfold bq;rw[if_neg HT,if_neg HT,if_neg HT]) (by simp[ii])
  simp only at k1 k2 k3 k4
  omega
theorem yG (l:List am):od (d5 l)≤34*(aZ l).length:=by
 unfold d5
 induction aZ l with
 | nil=>simp[od]
 | cons s t ih =>
  have h1:=Cc s
  rw[List.flatMap_cons,List.flatMap_append,kT,List.length_cons]
  omega
theorem Ca {α:Type}(l:List am)(t:Int):(gR ((cO l).map fun r=>(r,t))).length=od (d5 l):=by
 have hf:=(hZ l).1
 unfold cO
 generalize d5 l=q at *
 induction q with
 | nil=>rfl
 | cons s q ih =>
  have h1:=ih fun x hx=>hf x (by simp[hx])
  have hs:=(hf s HU).size
  have hl:(dh s).length=bq s.lo:=by
   unfold dh
   rw[List.length_zip,dI,dI]
   omega
  simp only[gR,od,List.map_cons,List.flatMap_cons,List.length_append,List.sum_cons,List.length_map,List.length_range]at h1 ⊢
  rw[h1,hl]
theorem vy (a b:List Way):gR (a++b)=gR a++gR b:=by simp[gR]
theorem pE:∀ (parts:List (List am)) (next:List Int),(∀ p∈parts,aZ p=p)→(gR (dO parts next)).length≤34*(parts.map List.length).sum
 | [],_,_=>by simp[dO,gR]
 | _::_,[],_=>by simp[dO,gR]
 | p::parts,t::next,h=>by
  have ih:=pE parts next fun q hq=>h q (by simp[hq])
  have e:dO (p::parts) (t::next)=(if t = -1 then [] else(cO p).map fun r=>(r,t))++dO parts next:=by simp[dO]
  rw[e,vy,List.length_append,List.map_cons,List.sum_cons]
  refine Nat.le_trans (Nat.add_le_add (b:=34*p.length) ?_ ih) HT
  split
  ·simp[gR]
  ·rw[Ca (α:=Nat)]
   have:=yG p
   rw[h p HU]at this
   exact this
end
end Go.Proofs.YtlnobeojgifojaaGreatDoor
