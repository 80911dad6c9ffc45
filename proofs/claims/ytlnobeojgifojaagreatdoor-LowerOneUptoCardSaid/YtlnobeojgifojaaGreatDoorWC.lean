/- Machines of bytes, plainly: one scalar's is a chain. Machines of bytes, plainly: one scalar's machine, with one state of each kind. Machines of bytes, plainly: what one made of a least machine is like; the least machine of one scalar. Machines of bytes, plainly: what a chain tells; what may be a machine of bytes; texts of scalars. -/
import Derived.Test.YtlnobeojgifojaaGreatDoorWB
set_option linter.unusedVariables false
set_option linter.unusedSimpArgs false
namespace Go.Proofs.YtlnobeojgifojaaGreatDoor
section
open Go
def cF (r:Int):PD:=⟨[[⟨r,r⟩]],[[1],[-1]],[-1,5]⟩
def om (b:List Int):il:=b.map fun c=>(c,c)
theorem rS {r:Int}(h:eI r=true):aZ [⟨r,r⟩]=[⟨r,r⟩]:=by
 refine ln ⟨by simp,by simp⟩ fun x hx=>?_
 obtain⟨s,hs,h1,h2⟩:=hx
 simp only[List.mem_singleton]at hs
 subst hs
 simp only at h1 h2
 have:x=r:=by omega
 rw[this]
 exact h
theorem wc:∀ b:List Int,b.zip b=om b
 | []=>rfl
 | c::b=>by
  have:=wc b
  simp only[om,List.zip_cons_cons,List.map_cons]at this ⊢
  rw[this]
theorem oS (r:Int):∀ ms:List Int,eQ ms ⟨r,r⟩=0
 | []=>rfl
 | m::ms=>by
  rw[qa (.inl rfl)]
  exact oS r ms
theorem B4 {r:Int}(h:0≤r∧r≤1114111):cJ ⟨r,r⟩=[⟨r,r⟩]:=by
 unfold cJ ii
 simp only[List.filterMap_cons,List.filterMap_nil]
 by_cases c1:r<128
 ·rw[if_pos HT,if_neg HT,if_neg HT,if_neg HT]
  simp only[List.cons.injEq,am.mk.injEq,and_true]
  omega
 ·by_cases c2:r<2048
  ·rw[if_neg HT,if_pos HT,if_neg HT,if_neg HT]
   simp only[List.cons.injEq,am.mk.injEq,and_true]
   omega
  ·by_cases c3:r<65536
   ·rw[if_neg HT,if_neg HT,if_pos HT,if_neg HT]
    simp only[List.cons.injEq,am.mk.injEq,and_true]
    omega
   ·rw[if_neg HT,if_neg HT,if_neg HT,if_pos HT]
    simp only[List.cons.injEq,am.mk.injEq,and_true]
    omega
theorem Dv {r:Int}(h:eI r=true):cO [⟨r,r⟩]=[om (bG r)]:=by
 have hr:=er.1 h
 have hc:gl ⟨r,r⟩=[⟨r,r⟩]:=mV (oS r _) hr.1
 unfold cO d5
 rw[rS h]
 simp only[List.flatMap_cons,List.flatMap_nil,List.append_nil]
 rw[B4 ⟨hr.1,hr.2.1⟩]
 simp only[List.flatMap_cons,List.flatMap_nil,List.append_nil]
 rw[hc]
 simp only[List.map_cons,List.map_nil,dh]
 rw[wc]
theorem w6 {r:Int}(h:eI r=true):dO (cF r).parts [1]=[(om (bG r),1)]∧dO (cF r).parts [-1]=[]:=by
 constructor
 ·show([([⟨r,r⟩],(1:Int))]:List (List am×Int)).flatMap _=_
  simp only[List.flatMap_cons,List.flatMap_nil,List.append_nil]
  rw[if_neg HT,Dv h]
  rfl
 ·show([([⟨r,r⟩],(-1:Int))]:List (List am×Int)).flatMap _=_
  simp only[List.flatMap_cons,List.flatMap_nil,List.append_nil]
  rw[if_pos trivial]
def stO (b:List Int)(k:Nat):RSt:=if k=0 then(0,[]) else if k<b.length then(-1,[(om (b.drop k),1)]) else(1,[])
theorem Ed {b:List Int}{k:Nat}{c x:Int}(hx:b[k]?=some x):dy [(om (b.drop k),1)] c=if c=x then [(om (b.drop (k+1)),1)] else []:=by
 obtain⟨hk,e⟩:=List.getElem?_eq_some_iff.1 hx
 have e2:om (b.drop k)=(x,x)::om (b.drop (k+1)):=by
  rw[List.drop_eq_getElem_cons hk,e]
  rfl
 rw[e2]
 unfold dy
 simp only[List.filterMap_cons,List.filterMap_nil]
 by_cases h:c=x
 ·rw[if_pos HT,if_pos h]
 ·rw[if_neg HT,if_neg h]
theorem rj {r:Int}(h:eI r=true){k:Nat}{x:Int}(hx:(bG r)[k]?=some x)(c:Int):cW (cF r) (stO (bG r) k) c=if c=x then some (stO (bG r) (k+1)) else none:=by
 have hk:=lt_of_getElem? hx
 have hw:eK (cF r) (stO (bG r) k)=[(om ((bG r).drop k),1)]:=by
  unfold stO eK
  by_cases h0:k=0
  ·subst h0
   rw[if_pos rfl,if_neg (by simp only;omega)]
   exact(w6 h).1
  ·rw[if_neg h0,if_pos hk,if_pos (by simp only;omega)]
 unfold cW kR
 rw[hw,Ed hx]
 by_cases hc:c=x
 ·rw[if_pos hc,if_pos hc]
  unfold stO
  by_cases hl:k+1<(bG r).length
  ·have hne:(om ((bG r).drop (k+1))).isEmpty=false:=by
    rw[List.drop_eq_getElem_cons hl]
    rfl
   simp only[List.find?_cons,List.find?_nil,hne,if_neg (show ¬ k+1=0 by omega),if_pos hl]
   rw[if_neg HU]
  ·have hnil:om ((bG r).drop (k+1))=[]:=by
    rw[List.drop_eq_nil_of_le HT]
    rfl
   rw[hnil]
   simp only[List.find?_cons,List.isEmpty_nil,if_neg (show ¬ k+1=0 by omega),if_neg hl]
 ·rw[if_neg hc,if_neg hc]
  simp
theorem wC {r:Int}(h:eI r=true)(c:Int):cW (cF r) (stO (bG r) (bG r).length) c=none:=by
 have hl:=dI r
 have hr:=de r
 have e:stO (bG r) (bG r).length=(1,[]):=by
  unfold stO
  rw[if_neg HT,if_neg HT]
 have hw:eK (cF r) (stO (bG r) (bG r).length)=[]:=by
  rw[e]
  unfold eK
  rw[if_neg (by show ¬ (1:Int)<0;omega)]
  exact(w6 h).2
 unfold cW kR
 rw[hw]
 simp[dy]
theorem zu {b:List Int}(hb:1≤b.length){i j:Nat}(hi:i≤b.length)(hj:j≤b.length)(h:stO b i=stO b j):i=j:=by
 have key:∀ k,(om (b.drop k)).length=b.length-k:=fun k=>by simp[om]
 have m0:stO b 0=(0,[]):=rfl
 have m1:∀ {k},k≠0→k<b.length→stO b k=(-1,[(om (b.drop k),1)]):=fun {k} h1 h2=>by unfold stO;rw[if_neg h1,if_pos h2]
 have m2:stO b b.length=(1,[]):=by unfold stO;rw[if_neg HT,if_neg HT]
 have hi2:i=0∨(i≠0∧i<b.length)∨i=b.length:=by omega
 have hj2:j=0∨(j≠0∧j<b.length)∨j=b.length:=by omega
 rcases hi2 with rfl|⟨a1,a2⟩|rfl<;>rcases hj2 with rfl|⟨b1,b2⟩|rfl
 ·rfl
 ·rw[m0,m1 b1 b2]at h;injection h with h1 _;omega
 ·rw[m0,m2]at h;injection h with h1 _;omega
 ·rw[m0,m1 a1 a2]at h;injection h with h1 _;omega
 ·rw[m1 a1 a2,m1 b1 b2]at h
  injection h with _ h2
  injection h2 with h3 _
  injection h3 with h5 _
  have:=congrArg List.length h5
  rw[key,key]at this
  omega
 ·rw[m1 a1 a2,m2]at h;injection h with h1 _;omega
 ·rw[m0,m2]at h;injection h with h1 _;omega
 ·rw[m1 b1 b2,m2]at h;injection h with h1 _;omega
 ·rfl
theorem kQ {α:Type}[DecidableEq α]{x:α}:∀ {tos:List (Option α)} {L:List α},(∀ a,some a∈tos→a=x)→(x∈L→cB L tos=L)∧(some x∈tos→x∉L→cB L tos=L++[x])
 | [],L,_=>⟨fun _=>rfl,fun h=>by cases h⟩
 | none::tos,L,h=>by
  obtain⟨i1,i2⟩:=kQ (x:=x) (tos:=tos) (L:=L) fun a ha=>h a (by simp[ha])
  refine⟨fun hx=>i1 hx,fun ht hx=>i2 ?_ hx⟩
  rcases List.mem_cons.1 ht with e|ht
  ·cases e
  ·exact ht
 | some a::tos,L,h=>by
  have e:=h a HU
  subst e
  refine⟨fun hx=>?_,fun _ hx=>?_⟩
  ·have:cv L (some a)=L:=by show(if a∈L then L else L++[a])=L;rw[if_pos hx]
   show cB (cv L (some a)) tos=L
   rw[this]
   exact(kQ fun b hb=>h b (by simp[hb])).1 hx
  ·have:cv L (some a)=L++[a]:=by show(if a∈L then L else L++[a])=L++[a];rw[if_neg hx]
   show cB (cv L (some a)) tos=L++[a]
   rw[this]
   exact(kQ fun b hb=>h b (by simp[hb])).1 HU
theorem o9 {r:Int}(h:eI r=true):∀ c∈bG r,0≤c∧c<256:=by
 have hr:=er.1 h
 intro c hc
 unfold bG at hc
 split at hc
 ·simp at hc;omega
 ·split at hc
  ·simp at hc;omega
  ·split at hc
   ·simp at hc;omega
   ·simp at hc;omega
theorem zG {r:Int}(h:eI r=true):∀ i,i≤(bG r).length→ee (dg (cF r)) (0,[]) i=(List.range (i+1)).map (stO (bG r))
 | 0,_=>rfl
 | i+1,hi=>by
  have ih:=zG h i HT
  have hl:=dI r
  have hr:=de r
  obtain⟨x,hx⟩:=aK (l:=bG r) (i:=i) HT
  have hxb:=o9 h x (List.mem_of_getElem? hx)
  have hg:(ee (dg (cF r)) (0,[]) i)[i]?=some (stO (bG r) i):=by
   rw[ih,List.getElem?_map,List.getElem?_range HT]
   rfl
  rw[ee,hg]
  show cB (ee (dg (cF r)) (0,[]) i) (dg (cF r) (stO (bG r) i))=_
  rw[ih,List.range_succ (n:=i+1),List.map_append,List.map_singleton]
  refine(kQ (x:=stO (bG r) (i+1)) fun a ha=>?_).2 ?_ ?_
  ·obtain⟨c,_,e⟩:=oN ha
   rw[rj h hx]at e
   split at e
   ·exact(Option.some.inj e).symm
   ·cases e
  ·refine List.mem_map.2 ⟨x.toNat,List.mem_range.2 HT,?_⟩
   rw[rj h hx,if_pos HT]
  ·intro hm
   obtain⟨j,hj,e⟩:=List.mem_map.1 hm
   rw[List.mem_range]at hj
   have:=zu HT HT HT e
   omega
theorem oV {r:Int}(h:eI r=true){m:Nat}(hle:(cK (cF r) m).length≤m):cK (cF r) m=(List.range ((bG r).length+1)).map (stO (bG r)):=by
 have h1:=zG h (bG r).length (Nat.le_refl _)
 have h2:ee (dg (cF r)) (0,[]) ((bG r).length+1)=ee (dg (cF r)) (0,[]) (bG r).length:=by
  have hg:(ee (dg (cF r)) (0,[]) (bG r).length)[(bG r).length]?=some (stO (bG r) (bG r).length):=by
   rw[h1,List.getElem?_map,List.getElem?_range HT]
   rfl
  rw[ee,hg]
  have:∀ tos:List (Option RSt),(∀ x∈tos,x=none)→∀ L,cB L tos=L:=by
   intro tos
   induction tos with
   | nil=>intro _ L;rfl
   | cons a tos ih =>
    intro ht L
    rw[ht a HU]
    exact ih (fun x hx=>ht x (by simp[hx])) L
  refine this _ (fun x hx=>?_) _
  obtain⟨c,_,e⟩:=List.mem_map.1 hx
  rw[← e]
  exact wC h c
 have h3:=fun {j:Nat} (hj:(bG r).length+1≤j)=>nB (dg (cF r)) ((0,[]):RSt) (i:=(bG r).length+1) (by rw[h2,h1];simp) hj
 show ee (dg (cF r)) (0,[]) m=_
 rcases Nat.le_total ((bG r).length+1) m with hm|hm
 ·rw[h3 hm,h2,h1]
 ·have h4:=nB (dg (cF r)) ((0,[]):RSt) hle hm
  rw[← h4,h2,h1]
end
section
open Go
theorem u0 {d:PD}(h:d.Ok){m:Nat}(hle:(cK d m).length≤m):Tab (cK d m).length 256 (iz d m).row:=by
 have ht:=tS (row:=dg d) (s0:=((0,[]):RSt)) (m:=m) (p:=256) hle (fun a=>by simp[dg])
 have hrow:∀ s,In (cK d m).length s→(iz d m).row s∈ja (dg d) (cK d m):=fun s hs=>by
  have h1:=hs.1
  have h2:=hs.2
  show(ja (dg d) (cK d m)).getD s.toNat []∈_
  exact jg (by unfold ja;rw[List.length_map];omega)
 exact⟨fun s hs=>(ht _ (hrow s hs)).1,fun s hs=>(ht _ (hrow s hs)).2⟩
def ka (d x:PD):Prop:=∃ (m:Nat) (κ:Int→Int),(cK d m).length≤m∧iV (cK d m).length (iz d m).row (iz d m).tag κ∧x=Dq κ (cK d m).length (iz d m)
theorem pC {r:Int}(h:eI r=true):(cF r).Ok:=by
 refine⟨by simp[cF,PD.p],by simp[cF,PD.n],by simp[cF,PD.n],rfl,fun q hq=>?_,fun i j hij hj x hx=>?_,fun q hq=>?_,fun t ht=>?_⟩
 ·simp only[cF,List.mem_singleton]at hq
  subst hq
  exact rS h
 ·simp only[cF,PD.p,List.length_singleton]at hj
  omega
 ·simp only[cF,List.mem_cons,List.not_mem_nil,or_false]at hq
  rcases hq with rfl|rfl
  ·exact⟨rfl,fun x hx=>by simp only[List.mem_singleton]at hx;subst hx;right;simp[In,cF,PD.n]⟩
  ·exact⟨rfl,fun x hx=>by simp only[List.mem_singleton]at hx;exact .inl hx⟩
 ·simp only[cF,List.mem_cons,List.not_mem_nil,or_false]at ht
  omega
def eE (b:List Int):PD:=⟨[],(List.range (b.length+1)).map fun k:Nat=>(List.range 256).map fun c:Nat=>if b[k]?=some (c:Int) then((k+1:Nat):Int) else -1,(List.range (b.length+1)).map fun k:Nat=>if k=b.length then 5 else -1⟩
theorem vg {r:Int}(h:eI r=true){m:Nat}(hle:(cK (cF r) m).length≤m){k:Nat}(hk:k≤(bG r).length){c:Nat}(hc:c<256):col (iz (cF r) m).row k c=if (bG r)[k]?=some (c:Int) then((k+1:Nat):Int) else -1:=by
 have hA:=oV h hle
 have hl:=dI r
 have hr:=de r
 have hg:∀ {k:Nat},k≤(bG r).length→(cK (cF r) m)[k]?=some (stO (bG r) k):=fun {k} hk=>by
  rw[hA,List.getElem?_map,List.getElem?_range HT]
  rfl
 rw[Fb (hg hk) hc]
 by_cases hk2:k<(bG r).length
 ·obtain⟨x,hx⟩:=aK hk2
  rw[rj h hx,hx]
  by_cases e:(c:Int)=x
  ·rw[if_pos e,if_pos (by rw[e])]
   have hm:stO (bG r) (k+1)∈cK (cF r) m:=List.mem_of_getElem? (hg (k:=k+1) HT)
   obtain⟨q,hq,hql,hqa⟩:=t0 hm
   rw[hq]
   have hq2:q≤(bG r).length:=by
    rw[hA]at hql
    simp at hql
    omega
   rw[hg hq2]at hqa
   have:=zu HT hq2 HT (Option.some.inj hqa)
   rw[this]
  ·rw[if_neg e,if_neg (fun e2=>e (Option.some.inj e2).symm)]
   rfl
 ·have:k=(bG r).length:=by omega
  subst this
  rw[wC h,List.getElem?_eq_none HT,if_neg HU]
  rfl
theorem vf {r:Int}(h:eI r=true){m:Nat}(hle:(cK (cF r) m).length≤m){k:Nat}(hk:k≤(bG r).length):(iz (cF r) m).tag k=if k=(bG r).length then 5 else -1:=by
 have hA:=oV h hle
 have hl:=dI r
 have hr:=de r
 have hg:(cK (cF r) m)[k]?=some (stO (bG r) k):=by
  rw[hA,List.getElem?_map,List.getElem?_range HT]
  rfl
 rw[zA hg]
 unfold stO oE
 by_cases h0:k=0
 ·rw[if_pos h0,if_neg (by simp only;omega),if_neg HT]
  rfl
 ·rw[if_neg h0]
  by_cases h1:k<(bG r).length
  ·rw[if_pos h1,if_pos (by simp only;omega),if_neg HT]
  ·rw[if_neg h1,if_neg (by simp only;omega),if_pos HT]
   rfl
theorem pD {r:Int}(h:eI r=true){m:Nat}(hle:(cK (cF r) m).length≤m){κ:Int→Int}(hK:iV (cK (cF r) m).length (iz (cF r) m).row (iz (cF r) m).tag κ):∀ (n i j:Nat),i<j→j+n=(bG r).length→κ i≠κ j
 | 0,i,j,hij,hj,e=>by
  have hA:=oV h hle
  have hn:(cK (cF r) m).length=(bG r).length+1:=by rw[hA];simp
  have h1:=hK.tag i j (by rw[hn];unfold In;omega) (by rw[hn];unfold In;omega) e
  rw[vf h hle HT,vf h hle HT,if_neg HT,if_pos HT]at h1
  omega
 | n+1,i,j,hij,hj,e=>by
  have hA:=oV h hle
  have hn:(cK (cF r) m).length=(bG r).length+1:=by rw[hA];simp
  obtain⟨x,hx⟩:=aK (l:=bG r) (i:=j) HT
  have hxb:=o9 h x (List.mem_of_getElem? hx)
  have h1:=hK.step i j (by rw[hn];unfold In;omega) (by rw[hn];unfold In;omega) e x.toNat
  have ex:((x.toNat:Nat):Int)=x:=by omega
  rw[vg h hle HT HT,vg h hle HT HT,ex,if_pos hx]at h1
  split at h1
  ·exact pD h hle hK n (i+1) (j+1) HT HT h1
  ·have h2:=hK.yes ((j+1:Nat):Int) (by rw[hn];unfold In;omega)
   rw[hK.no]at h1
   omega
theorem lV {κ:Int→Int}{x:Int}(hx:x ≠ -1):∀ {row acc:List Int},(∀ y∈row,y = -1∨y=x)→(κ x∈acc.map κ→visits κ acc row=acc)∧(x∈row→κ x∉acc.map κ→visits κ acc row=acc++[x])
 | [],acc,_=>⟨fun _=>rfl,fun h=>by cases h⟩
 | y::row,acc,h=>by
  have e:visits κ acc (y::row)=visits κ (visit κ acc y) row:=rfl
  have hr:∀ z∈row,z = -1∨z=x:=fun z hz=>h z (by simp[hz])
  rcases h y HU with rfl|rfl
  ·have e2:visit κ acc (-1)=acc:=by unfold visit;rw[if_pos (.inl rfl)]
   obtain⟨i1,i2⟩:=lV (κ:=κ) hx (acc:=acc) hr
   rw[e,e2]
   refine⟨i1,fun hm=>i2 ?_⟩
   rcases List.mem_cons.1 hm with e|hm
   ·exact absurd e hx
   ·exact hm
  ·rw[e]
   refine⟨fun hm=>?_,fun _ hm=>?_⟩
   ·have e2:visit κ acc y=acc:=by unfold visit;rw[if_pos (.inr hm)]
    rw[e2]
    exact(lV hx hr).1 hm
   ·have e2:visit κ acc y=acc++[y]:=by unfold visit;rw[if_neg (fun h=>h.elim hx hm)]
    rw[e2]
    exact(lV hx hr).1 HU
theorem Fh {r:Int}(h:eI r=true){x:PD}(hx:ka (cF r) x):x=eE (bG r):=by
 obtain⟨m,κ,hle,hK,rfl⟩:=hx
 have hA:=oV h hle
 have hn:(cK (cF r) m).length=(bG r).length+1:=by rw[hA];simp
 have hT:=u0 (pC h) hle
 have hlb:=dI r
 have hrb:=de r
 have hne:∀ {i j:Nat},i≤(bG r).length→j≤(bG r).length→κ i=κ j→i=j:=fun {i j} hi hj e=>by
  rcases Nat.lt_trichotomy i j with h1|h1|h1
  ·exact absurd e (pD h hle hK ((bG r).length-j) i j h1 HT)
  ·exact h1
  ·exact absurd e.symm (pD h hle hK ((bG r).length-i) j i h1 HT)
 have hrow:∀ k:Nat,k≤(bG r).length→(iz (cF r) m).row k=(List.range 256).map fun c:Nat=>if (bG r)[k]?=some (c:Int) then((k+1:Nat):Int) else -1:=fun k hk=>by
  have hl:=hT.len k (by rw[hn];unfold In;omega)
  refine o7 (by rw[hl];simp) fun c hc=>?_
  rw[hl]at hc
  rw[cV _ _ _ 0 _ (by simpa using hc)]
  have:=vg h hle hk hc
  unfold col at this
  rw[this]
  have e:(List.range 256).getD c 0=c:=by rw[List.getD_eq_getElem?_getD,List.getElem?_range hc];rfl
  rw[e]
 have hacc:∀ i,i≤(bG r).length→cp κ (iz (cF r) m).row 0 i=(List.range (i+1)).map fun k:Nat=>(k:Int):=by
  intro i
  induction i with
  | zero=>intro _;rfl
  | succ i ih =>
   intro hi
   have ih:=ih HT
   have hg:(cp κ (iz (cF r) m).row 0 i)[i]?=some (i:Int):=by
    rw[ih,List.getElem?_map,List.getElem?_range HT]
    rfl
   rw[cp,hg]
   show visits κ (cp κ (iz (cF r) m).row 0 i) ((iz (cF r) m).row i)=_
   rw[ih,hrow i HT,List.range_succ (n:=i+1),List.map_append,List.map_singleton]
   obtain⟨y,hy⟩:=aK (l:=bG r) (i:=i) HT
   have hyb:=o9 h y (List.mem_of_getElem? hy)
   refine(lV (x:=((i+1:Nat):Int)) HT fun z hz=>?_).2 ?_ ?_
   ·obtain⟨c,_,e⟩:=List.mem_map.1 hz
    split at e
    ·exact .inr e.symm
    ·exact .inl e.symm
   ·exact List.mem_map.2 ⟨y.toNat,List.mem_range.2 HT,by rw[if_pos (by rw[hy];congr 1;omega)]⟩
   ·intro hm
    rw[List.map_map]at hm
    obtain⟨j,hj,e⟩:=List.mem_map.1 hm
    rw[List.mem_range]at hj
    have:=hne (i:=j) (j:=i+1) HT HT e
    omega
 have hreach:ez (cK (cF r) m).length κ (iz (cF r) m).row 0=(List.range ((bG r).length+1)).map fun k:Nat=>(k:Int):=by
  have h0:In (cK (cF r) m).length 0:=by rw[hn];unfold In;omega
  have hc:=(jL hT h0 (κ:=κ)).1
  obtain⟨t,ht⟩:=vZ κ (iz (cF r) m).row 0 (bG r).length
  have e:ez (cK (cF r) m).length κ (iz (cF r) m).row 0=cp κ (iz (cF r) m).row 0 (bG r).length++t:=by
   unfold ez
   rw[hn,ht]
  have hm:=hc.most
  rw[e,hacc _ (Nat.le_refl _),List.length_append,List.length_map,List.length_range,hn]at hm
  have:t=[]:=List.eq_nil_of_length_eq_zero HT
  rw[e,this,List.append_nil,hacc _ (Nat.le_refl _)]
 unfold Dq eE
 rw[hreach,List.map_map,List.map_map]
 congr 1
 ·refine List.map_congr_left fun k hk=>?_
  rw[List.mem_range]at hk
  show((iz (cF r) m).row (k:Int)).map _=_
  rw[hrow k HT,List.map_map]
  refine List.map_congr_left fun c hc=>?_
  show cf κ _ (if (bG r)[k]?=some (c:Int) then((k+1:Nat):Int) else -1)=_
  by_cases e:(bG r)[k]?=some (c:Int)
  ·rw[if_pos e]
   have hlt:=lt_of_getElem? e
   have hmem:κ ((k+1:Nat):Int)∈((List.range ((bG r).length+1)).map fun k:Nat=>(k:Int)).map κ:=List.mem_map.2 ⟨_,List.mem_map.2 ⟨k+1,List.mem_range.2 HT,rfl⟩,rfl⟩
   obtain⟨q,hq,hql,hqk⟩:=pB HT hmem
   rw[hq]
   have hql2:q<(bG r).length+1:=by simpa using hql
   have e3:((List.range ((bG r).length+1)).map fun k:Nat=>(k:Int)).getD q 0=q:=by
    rw[cV _ _ _ 0 _ (by simpa using hql),List.getD_eq_getElem?_getD,List.getElem?_range hql2]
    rfl
   rw[e3]at hqk
   have:=hne (i:=q) (j:=k+1) HT HT hqk
   rw[this]
  ·rw[if_neg e,js]
 ·refine List.map_congr_left fun k hk=>?_
  rw[List.mem_range]at hk
  exact vf h hle HT
end
section
open Go
structure OkB (x:PD):Prop where
 n1:1≤x.n
 nl:x.next.length=x.n
 rows:∀ r∈x.next,r.length=256∧∀ y∈r,y = -1∨In x.n y
 tags:∀ t∈x.tags,-1≤t
theorem wM {d:PD}(h:d.Ok){m:Nat}{s:Int}(hs:In (cK d m).length s) : -1≤(iz d m).tag s:=by
 obtain⟨k,rfl⟩:∃ k:Nat,s=k:=⟨s.toNat,by have:=hs.1;omega⟩
 obtain⟨a,ha⟩:=aK (l:=cK d m) (i:=k) (by have:=hs.2;omega)
 rw[zA ha]
 unfold oE
 split
 ·omega
 ·unfold PD.tag
  rcases kF (l:=d.tags) (i:=a.1.toNat) (d := -1) with e|e
  ·omega
  ·exact h.tags _ e
theorem ka.ok {d x:PD}(h:ka d x)(hd:d.Ok):OkB x:=by
 obtain⟨m,κ,h1,h2,rfl⟩:=h
 have hT:=u0 hd h1
 have hpos:1≤(cK d m).length:=sG (dg d) ((0,[]):RSt) m
 have h0:In (cK d m).length 0:=⟨Int.le_refl _,by omega⟩
 obtain⟨hc,hcl⟩:=jL hT h0 (κ:=κ)
 have hl:0<(ez (cK d m).length κ (iz d m).row 0).length:=lt_of_getElem? hc.first
 refine⟨by show 1≤((ez _ κ _ 0).map _).length;rw[List.length_map];exact hl,by show((ez _ κ _ 0).map _).length=((ez _ κ _ 0).map _).length;rw[List.length_map,List.length_map],fun r hr=>?_,fun t ht=>?_⟩
 ·obtain⟨s,hs,rfl⟩:=List.mem_map.1 hr
  have hin:=hc.inn s hs
  refine⟨by rw[List.length_map];exact hT.len s hin,fun y hy=>?_⟩
  obtain⟨z,hz,rfl⟩:=List.mem_map.1 hy
  by_cases e:z = -1
  ·left;rw[e,js]
  ·right
   obtain⟨q,hq,hql,_⟩:=pB e ((hcl s hs z hz).resolve_left e)
   rw[hq]
   show In ((ez _ κ _ 0).map _).length _
   rw[List.length_map]
   unfold In;omega
 ·obtain⟨s,hs,rfl⟩:=List.mem_map.1 ht
  exact wM hd (hc.inn s hs)
theorem ka.most {d x:PD}(h:ka d x)(hd:d.Ok){K:Nat}(hK:∀ i,In d.n i→(gR (dO d.parts (d.row i))).length≤K):x.n≤d.n+d.n*K:=by
 obtain⟨m,κ,h1,h2,rfl⟩:=h
 have hT:=u0 hd h1
 have hpos:1≤(cK d m).length:=sG (dg d) ((0,[]):RSt) m
 have h0:In (cK d m).length 0:=⟨Int.le_refl _,by omega⟩
 have hc:=(jL hT h0 (κ:=κ)).1
 have:=hc.most
 have h3:=tY hd hK m
 show((ez _ κ _ 0).map _).length≤_
 rw[List.length_map]
 omega
theorem dY.tag0 {d x:PD}(h:dY d x)(hd:d.Ok):x.tag 0=d.tag 0:=by
 obtain⟨lv,κ,h1,h2,h3,h4,rfl⟩:=h.final hd
 have hx:=jO h2 h4
 rw[DJ hx.zero]
 have hc:=(pi h2 h4).1
 have:(dp lv (cm d)).st κ 0=0:=by
  show((dp lv (cm d)).L2 κ).getD (0:Int).toNat 0=0
  have e:(0:Int).toNat=0:=rfl
  rw[e,List.getD_eq_getElem?_getD,hc.first]
  rfl
 rw[this]
 rfl
theorem lA {r y:Int}(h:eI r=true):f6 (cF r).parts y=if y=r then some 0 else none:=by
 split
 ·rename_i e
  subst e
  exact(en (pC h)).2 ⟨by simp[cF,PD.p],⟨⟨y,y⟩,by simp[cF,PD.part],Int.le_refl _,Int.le_refl _⟩⟩
 ·rename_i e
  refine(kf (pC h)).2 fun k hk hs=>e ?_
  have:k=0:=by simp[cF,PD.p]at hk;omega
  subst this
  obtain⟨s,hs,h1,h2⟩:=hs
  simp[cF,PD.part]at hs
  subst hs
  simp only at h1 h2
  omega
theorem rT {r:Int}(h:eI r=true)(y:Int):lD (cF r) [y]=(if y=r then(1,5) else(0,-1))∧lD (cF r) [r,y]=(1,5):=by
 have c0:col (cF r).row 0 0=1:=rfl
 have c1:col (cF r).row 1 0 = -1:=rfl
 have t1:(cF r).tag 1=5:=rfl
 constructor
 ·unfold lD bT
  rw[lA h]
  by_cases e:y=r
  ·rw[if_pos e,if_pos e]
   simp only[c0,t1]
   rfl
  ·rw[if_neg e,if_neg e]
 ·unfold lD bT
  rw[lA h,if_pos rfl]
  simp only[c0,t1]
  unfold bT
  rw[lA h]
  by_cases e:y=r
  ·rw[if_pos e]
   simp only[c1]
   rfl
  ·rw[if_neg e]
   rfl
theorem pF {r:Int}(h:eI r=true){x:PD}(hx:dY (cF r) x):x=cF r:=by
 have hd:=pC h
 have ho:=hx.ok hd
 obtain⟨f1,f2⟩:=hx.few hd
 have f1:x.n≤2:=f1
 have f2:x.p≤1:=f2
 have ht:=hx.tells hd
 have h1:=ht [r]
 rw[(rT h r).1,if_pos rfl]at h1
 -- the first step
 have key:∃ t,f6 x.parts r=some 0∧col x.row 0 0=t∧In x.n t∧x.tag t=5:=by
  unfold lD bT at h1
  cases hw:f6 x.parts r with
  | none=>rw[hw]at h1;simp at h1
  | some k =>
   have hk:=(en ho).1 hw
   have:k=0:=by omega
   subst this
   rw[hw]at h1
   simp only at h1
   split at h1
   ·simp at h1
   ·rename_i hc
    have hin:=(ho.tab.col ho.zero 0).resolve_left (fun e=>hc HT)
    refine⟨_,rfl,rfl,hin,?_⟩
    unfold bT at h1
    split at h1
    ·injection h1 with _ h1
    ·simp at h1
 obtain⟨t,hw,hc,hin,htag⟩:=key
 have hp1:x.p=1:=by have:=((en ho).1 hw).1;omega
 have ht0:x.tag 0 = -1:=(hx.tag0 hd).trans rfl
 have ht1:t=1:=by
  have:=hin.1
  have:=hin.2
  have:t≠0:=fun e=>by rw[e,ht0]at htag;omega
  omega
 subst ht1
 have hn:x.n=2:=by have:=hin.2;omega
 -- nothing else is in the part
 have hpart:x.part 0=[⟨r,r⟩]:=by
  have hnm:=gG ho 0
  have hr:=(en ho).1 hw
  have hcan:=gY hnm
  refine j8 hcan (by rw[← rS h];exact(jb _).1) fun y=>⟨fun hy=>?_,fun hy=>?_⟩
  ·have h2:=ht [y]
   rw[(rT h y).1]at h2
   have hwy:f6 x.parts y=some 0:=(en ho).2 ⟨by omega,hy⟩
   by_cases e:y=r
   ·rw[e];exact⟨⟨r,r⟩,by simp,Int.le_refl _,Int.le_refl _⟩
   ·rw[if_neg e]at h2
    unfold lD bT at h2
    rw[hwy]at h2
    simp only[hc,htag]at h2
    unfold bT at h2
    simp at h2
  ·obtain⟨s,hs,a1,a2⟩:=hy
   simp only[List.mem_singleton]at hs
   subst hs
   simp only at a1 a2
   have:y=r:=by omega
   rw[this]
   exact hr.2
 have hc1:col x.row 1 0 = -1:=by
  rcases ho.tab.col hin 0 with e|e
  ·exact e
  ·exfalso
   have h2:=ht [r,r]
   rw[(rT h r).2]at h2
   have h3:=ht [r,r,r]
   have e3:lD (cF r) [r,r,r]=(1,5):=by
    unfold lD bT
    rw[lA h,if_pos rfl]
    show bT (cF r) 1 [r,r] 1 (1,5)=_
    unfold bT
    rw[lA h,if_pos rfl]
    rfl
   rw[e3]at h3
   have e1:=e.1
   have e2:=e.2
   rw[hn]at e2
   have hor:col x.row 1 0=0∨col x.row 1 0=1:=by omega
   rcases hor with e0|e0
   ·unfold lD bT at h3
    rw[hw]at h3
    simp only[hc,htag]at h3
    unfold bT at h3
    rw[hw]at h3
    simp only[e0,ht0]at h3
    unfold bT at h3
    rw[hw]at h3
    simp only[hc,htag]at h3
    unfold bT at h3
    simp at h3
   ·unfold lD bT at h2
    rw[hw]at h2
    simp only[hc,htag]at h2
    unfold bT at h2
    rw[hw]at h2
    simp only[e0,htag]at h2
    unfold bT at h2
    simp at h2
 have hnl:=ho.nl
 refine PD.ext' ?_ ?_ ?_
 ·show x.parts=[[⟨r,r⟩]]
  refine List.ext_getElem (by simpa[PD.p] using hp1) fun i i1 i2=>?_
  have:i=0:=by simp at i2;omega
  subst this
  have e:x.part 0=x.parts[0]:=by simp[PD.part,List.getD_eq_getElem?_getD,i1]
  rw[← e,hpart]
  rfl
 ·show x.next=[[1],[-1]]
  refine List.ext_getElem (by rw[hnl,hn];rfl) fun i i1 i2=>?_
  have hi:i=0∨i=1:=by simp at i2;omega
  have hl:=(ho.rows _ (List.getElem_mem i1)).1
  rw[hp1]at hl
  rcases hi with rfl|rfl
  ·have e:x.row 0=x.next[0]:=by
    have e0:(0:Int).toNat=0:=rfl
    simp[PD.row,List.getD_eq_getElem?_getD,i1]
   refine o7 (by rw[hl];rfl) fun k hk=>?_
   have:k=0:=by omega
   subst this
   rw[← e]
   exact hc
  ·have e:x.row 1=x.next[1]:=by
    have e0:(1:Int).toNat=1:=rfl
    simp[PD.row,List.getD_eq_getElem?_getD,i1]
   refine o7 (by rw[hl];rfl) fun k hk=>?_
   have:k=0:=by omega
   subst this
   rw[← e]
   exact hc1
 ·show x.tags=[-1,5]
  refine o7 (by show x.n=2;exact hn) fun k hk=>?_
  have hk2:k<x.n:=hk
  have hi:k=0∨k=1:=by omega
  rcases hi with rfl|rfl
  ·exact ht0
  ·exact htag
end
section
open Go
theorem ny {b:List Int}{k:Nat}(hk:k≤b.length){c:Nat}(hc:c<256):col (eE b).row k c=if b[k]?=some (c:Int) then((k+1:Nat):Int) else -1:=by
 have e:(eE b).row (k:Int)=(List.range 256).map fun c:Nat=>if b[k]?=some (c:Int) then((k+1:Nat):Int) else -1:=by
  show(eE b).next.getD (k:Int).toNat []=_
  rw[Int.toNat_natCast,List.getD_eq_getElem?_getD]
  show(((List.range (b.length+1)).map _)[k]?).getD []=_
  rw[List.getElem?_map,List.getElem?_range HT]
  rfl
 rw[col,e,List.getD_eq_getElem?_getD,List.getElem?_map,List.getElem?_range hc]
 rfl
theorem uq {b:List Int}{k:Nat}(hk:k≤b.length):(eE b).next[k]?=some ((List.range 256).map fun c:Nat=>if b[k]?=some (c:Int) then((k+1:Nat):Int) else -1):=by
 have e:(eE b).next=(List.range (b.length+1)).map fun k:Nat=>(List.range 256).map fun c:Nat=>if b[k]?=some (c:Int) then((k+1:Nat):Int) else -1:=rfl
 rw[e,List.getElem?_map,List.getElem?_range HT]
 rfl
theorem pP {b:List Int}{k:Nat}(hk:k≤b.length):(eE b).tag k=if k=b.length then 5 else -1:=by
 show(eE b).tags.getD (k:Int).toNat (-1)=_
 rw[Int.toNat_natCast,List.getD_eq_getElem?_getD]
 show(((List.range (b.length+1)).map _)[k]?).getD (-1)=_
 rw[List.getElem?_map,List.getElem?_range HT]
 rfl
theorem oo {b:List Int}(hb:∀ c∈b,0≤c∧c<256):∀ (j k:Nat) (acc:Int×Int),k+j≤b.length→mc (eE b) k ((b.drop k).take j) k acc=if k+j=b.length∧0<j then(((b.length:Nat):Int),(5:Int)) else acc
 | 0,k,acc,_=>by
  rw[List.take_zero,if_neg HT]
  rfl
 | j+1,k,acc,h=>by
  have hk:k<b.length:=by omega
  have hbk:=hb _ (List.getElem_mem hk)
  rw[List.drop_eq_getElem_cons hk,List.take_succ_cons]
  unfold mc
  have hc:=ny (b:=b) (k:=k) HT (c:=b[k].toNat) HT
  rw[if_pos (by rw[List.getElem?_eq_getElem hk];congr 1;omega)]at hc
  rw[hc,if_neg HT,pP HT]
  have ih:=oo hb j (k+1)
  by_cases e:k+1=b.length
  ·have hj:j=0:=by omega
   subst hj
   rw[if_pos e,if_pos (show(0:Int)≤5 by omega),ih _ HT,if_neg (show ¬ (k+1+0=b.length∧0<0) by omega),if_pos (show k+(0+1)=b.length∧0<0+1 by omega),e]
  ·rw[if_neg e,if_neg (show ¬ (0:Int) ≤ -1 by omega),ih _ HT]
   by_cases e2:k+1+j=b.length
   ·rw[if_pos ⟨e2,by omega⟩,if_pos ⟨by omega,by omega⟩]
   ·rw[if_neg HT,if_neg HT]
theorem xB {b:List Int}(hb:∀ c∈b,0≤c∧c<256)(h1:1≤b.length):mc (eE b) 0 b 0 (0,-1)=(((b.length:Nat):Int),(5:Int)):=by
 have:=oo hb b.length 0 (0,-1) HT
 rw[List.drop_zero,List.take_length,if_pos ⟨by omega,by omega⟩]at this
 exact this
theorem xD {b:List Int}(hb:∀ c∈b,0≤c∧c<256)(h1:1≤b.length):mc (eE b) 0 (b.take (b.length-1)) 0 (0,-1)=(0,-1):=by
 have:=oo hb (b.length-1) 0 (0,-1) HT
 rw[List.drop_zero,if_neg HT]at this
 exact this
theorem GB:bG 233=[195,169]:=by decide
theorem Em:mc (eE [195,169]) 0 [195,169,65] 0 (0,-1)=(2,5):=by
 have hb:∀ c∈([195,169]:List Int),0≤c∧c<256:=by simp
 have c0:col (eE [195,169]).row 0 195=1:=ny (k:=0) HU (c:=195) HT
 have c1:col (eE [195,169]).row 1 169=2:=ny (k:=1) HU (c:=169) HT
 have c2:col (eE [195,169]).row 2 65 = -1:=ny (k:=2) HU (c:=65) HT
 have t1:(eE [195,169]).tag 1 = -1:=pP (k:=1) HU
 have t2:(eE [195,169]).tag 2=5:=pP (k:=2) HU
 simp[mc,c0,c1,c2,t1,t2]
end
end Go.Proofs.YtlnobeojgifojaaGreatDoor
