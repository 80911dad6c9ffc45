/- Machines of bytes, plainly: one scalar's is a chain. Machines of bytes, plainly: one scalar's machine, with one state of each kind. Machines of bytes, plainly: what one made of a least machine is like; the least machine of one scalar. Machines of bytes, plainly: what a chain tells; what may be a machine of bytes; texts of scalars. -/
import Derived.Test.YtlnobeojgifojaaGreatDoorWB
set_option linter.unusedVariables false
set_option linter.unusedSimpArgs false
namespace Go.Proofs.YtlnobeojgifojaaGreatDoor
section
open Go
def cT (r:Int):PD:=⟨[[⟨r,r⟩]],[[1],[-1]],[-1,5]⟩
def p7 (b:List Int):js:=b.map fun c=>(c,c)
theorem t0 {r:Int}(h:cx r=true):bi [⟨r,r⟩]=[⟨r,r⟩]:=by
 refine kG ⟨by simp,by simp⟩ fun x hx=>?_
 obtain⟨s,hs,h1,h2⟩:=hx
 simp only[List.mem_singleton]at hs
 subst hs
 simp only at h1 h2
 have:x=r:=by omega
 rw[this]
 exact h
theorem yl:∀ b:List Int,b.zip b=p7 b
 | []=>rfl
 | c::b=>by
  have:=yl b
  simp only[p7,List.zip_cons_cons,List.map_cons]at this ⊢
  rw[this]
theorem qG (r:Int):∀ ms:List Int,fF ms ⟨r,r⟩=0
 | []=>rfl
 | m::ms=>by
  rw[r9 (.inl rfl)]
  exact qG r ms
theorem ED {r:Int}(h:0≤r∧r≤1114111):cZ ⟨r,r⟩=[⟨r,r⟩]:=by
 unfold cZ jq
 simp only[List.filterMap_cons,List.filterMap_nil]
 by_cases c1:r<128
 ·rw[if_pos (by omega),if_neg (by omega),if_neg (by omega),if_neg (by omega)]
  simp only[List.cons.injEq,aj.mk.injEq,and_true]
  omega
 ·by_cases c2:r<2048
  ·rw[if_neg (by omega),if_pos (by omega),if_neg (by omega),if_neg (by omega)]
   simp only[List.cons.injEq,aj.mk.injEq,and_true]
   omega
  ·by_cases c3:r<65536
   ·rw[if_neg (by omega),if_neg (by omega),if_pos (by omega),if_neg (by omega)]
    simp only[List.cons.injEq,aj.mk.injEq,and_true]
    omega
   ·rw[if_neg (by omega),if_neg (by omega),if_neg (by omega),if_pos (by omega)]
    simp only[List.cons.injEq,aj.mk.injEq,and_true]
    omega
theorem Gd {r:Int}(h:cx r=true):c9 [⟨r,r⟩]=[p7 (bu r)]:=by
 have hr:=cw.1 h
 have hc:iu ⟨r,r⟩=[⟨r,r⟩]:=ov (qG r _) hr.1
 unfold c9 eQ
 rw[t0 h]
 simp only[List.flatMap_cons,List.flatMap_nil,List.append_nil]
 rw[ED ⟨hr.1,hr.2.1⟩]
 simp only[List.flatMap_cons,List.flatMap_nil,List.append_nil]
 rw[hc]
 simp only[List.map_cons,List.map_nil,dW]
 rw[yl]
theorem zj {r:Int}(h:cx r=true):dC (cT r).parts [1]=[(p7 (bu r),1)]∧dC (cT r).parts [-1]=[]:=by
 constructor
 ·show([([⟨r,r⟩],(1:Int))]:List (List aj×Int)).flatMap _=_
  simp only[List.flatMap_cons,List.flatMap_nil,List.append_nil]
  rw[if_neg (by omega),Gd h]
  rfl
 ·show([([⟨r,r⟩],(-1:Int))]:List (List aj×Int)).flatMap _=_
  simp only[List.flatMap_cons,List.flatMap_nil,List.append_nil]
  rw[if_pos trivial]
def stO (b:List Int)(k:Nat):RSt:=if k=0 then(0,[]) else if k<b.length then(-1,[(p7 (b.drop k),1)]) else(1,[])
theorem GW {b:List Int}{k:Nat}{c x:Int}(hx:b[k]?=some x):dX [(p7 (b.drop k),1)] c=if c=x then [(p7 (b.drop (k+1)),1)] else []:=by
 obtain⟨hk,e⟩:=List.getElem?_eq_some_iff.1 hx
 have e2:p7 (b.drop k)=(x,x)::p7 (b.drop (k+1)):=by
  rw[List.drop_eq_getElem_cons hk,e]
  rfl
 rw[e2]
 unfold dX
 simp only[List.filterMap_cons,List.filterMap_nil]
 by_cases h:c=x
 ·rw[if_pos (by omega),if_pos h]
 ·rw[if_neg (by omega),if_neg h]
theorem tq {r:Int}(h:cx r=true){k:Nat}{x:Int}(hx:(bu r)[k]?=some x)(c:Int):dp (cT r) (stO (bu r) k) c=if c=x then some (stO (bu r) (k+1)) else none:=by
 have hk:=lt_of_getElem? hx
 have hw:fm (cT r) (stO (bu r) k)=[(p7 ((bu r).drop k),1)]:=by
  unfold stO fm
  by_cases h0:k=0
  ·subst h0
   rw[if_pos rfl,if_neg (by simp only;omega)]
   exact(zj h).1
  ·rw[if_neg h0,if_pos hk,if_pos (by simp only;omega)]
 unfold dp lD
 rw[hw,GW hx]
 by_cases hc:c=x
 ·rw[if_pos hc,if_pos hc]
  unfold stO
  by_cases hl:k+1<(bu r).length
  ·have hne:(p7 ((bu r).drop (k+1))).isEmpty=false:=by
    rw[List.drop_eq_getElem_cons hl]
    rfl
   simp only[List.find?_cons,List.find?_nil,hne,if_neg (show ¬ k+1=0 by omega),if_pos hl]
   rw[if_neg (by simp)]
  ·have hnil:p7 ((bu r).drop (k+1))=[]:=by
    rw[List.drop_eq_nil_of_le (by omega)]
    rfl
   rw[hnil]
   simp only[List.find?_cons,List.isEmpty_nil,if_neg (show ¬ k+1=0 by omega),if_neg hl]
 ·rw[if_neg hc,if_neg hc]
  simp
theorem yK {r:Int}(h:cx r=true)(c:Int):dp (cT r) (stO (bu r) (bu r).length) c=none:=by
 have hl:=dG r
 have hr:=c8 r
 have e:stO (bu r) (bu r).length=(1,[]):=by
  unfold stO
  rw[if_neg (by omega),if_neg (by omega)]
 have hw:fm (cT r) (stO (bu r) (bu r).length)=[]:=by
  rw[e]
  unfold fm
  rw[if_neg (by show ¬ (1:Int)<0;omega)]
  exact(zj h).2
 unfold dp lD
 rw[hw]
 simp[dX]
theorem BE {b:List Int}(hb:1≤b.length){i j:Nat}(hi:i≤b.length)(hj:j≤b.length)(h:stO b i=stO b j):i=j:=by
 have key:∀ k,(p7 (b.drop k)).length=b.length-k:=fun k=>by simp[p7]
 have m0:stO b 0=(0,[]):=rfl
 have m1:∀ {k},k≠0→k<b.length→stO b k=(-1,[(p7 (b.drop k),1)]):=fun {k} h1 h2=>by unfold stO;rw[if_neg h1,if_pos h2]
 have m2:stO b b.length=(1,[]):=by unfold stO;rw[if_neg (by omega),if_neg (by omega)]
 have hi2:i=0∨(i≠0∧i<b.length)∨i=b.length:=by omega
 have hj2:j=0∨(j≠0∧j<b.length)∨j=b.length:=by omega
 rcases hi2 with rfl|⟨a1,a2⟩|rfl<;>rcases hj2 with rfl|⟨b1,b2⟩|rfl
 ·rfl
 ·rw[m0,m1 b1 b2]at h;injection h with h1 _;omega
 ·rw[m0,m2]at h;injection h with h1 _;omega
 ·rw[m0,m1 a1 a2]at h;injection h with h1 _;omega
 ·rw[m1 a1 a2,m1 b1 b2]at h
  injection h with _ h2
  injection h2 with h3 _
  injection h3 with h5 _
  have:=congrArg List.length h5
  rw[key,key]at this
  omega
 ·rw[m1 a1 a2,m2]at h;injection h with h1 _;omega
 ·rw[m0,m2]at h;injection h with h1 _;omega
 ·rw[m1 b1 b2,m2]at h;injection h with h1 _;omega
 ·rfl
theorem ma {α:Type}[DecidableEq α]{x:α}:∀ {tos:List (Option α)} {L:List α},(∀ a,some a∈tos→a=x)→(x∈L→cN L tos=L)∧(some x∈tos→x∉L→cN L tos=L++[x])
 | [],L,_=>⟨fun _=>rfl,fun h=>by cases h⟩
 | none::tos,L,h=>by
  obtain⟨i1,i2⟩:=ma (x:=x) (tos:=tos) (L:=L) fun a ha=>h a (by simp[ha])
  refine⟨fun hx=>i1 hx,fun ht hx=>i2 ?_ hx⟩
  rcases List.mem_cons.1 ht with e|ht
  ·cases e
  ·exact ht
 | some a::tos,L,h=>by
  have e:=h a (by simp)
  subst e
  refine⟨fun hx=>?_,fun _ hx=>?_⟩
  ·have:cF L (some a)=L:=by show(if a∈L then L else L++[a])=L;rw[if_pos hx]
   show cN (cF L (some a)) tos=L
   rw[this]
   exact(ma fun b hb=>h b (by simp[hb])).1 hx
  ·have:cF L (some a)=L++[a]:=by show(if a∈L then L else L++[a])=L++[a];rw[if_neg hx]
   show cN (cF L (some a)) tos=L++[a]
   rw[this]
   exact(ma fun b hb=>h b (by simp[hb])).1 (by simp)
theorem uu {r:Int}(h:cx r=true):∀ c∈bu r,0≤c∧c<256:=by
 have hr:=cw.1 h
 intro c hc
 unfold bu at hc
 split at hc
 ·simp at hc;omega
 ·split at hc
  ·simp at hc;omega
  ·split at hc
   ·simp at hc;omega
   ·simp at hc;omega
theorem BS {r:Int}(h:cx r=true):∀ i,i≤(bu r).length→eU (dE (cT r)) (0,[]) i=(List.range (i+1)).map (stO (bu r))
 | 0,_=>rfl
 | i+1,hi=>by
  have ih:=BS h i (by omega)
  have hl:=dG r
  have hr:=c8 r
  obtain⟨x,hx⟩:=aN (l:=bu r) (i:=i) (by omega)
  have hxb:=uu h x (List.mem_of_getElem? hx)
  have hg:(eU (dE (cT r)) (0,[]) i)[i]?=some (stO (bu r) i):=by
   rw[ih,List.getElem?_map,List.getElem?_range (by omega)]
   rfl
  rw[eU,hg]
  show cN (eU (dE (cT r)) (0,[]) i) (dE (cT r) (stO (bu r) i))=_
  rw[ih,List.range_succ (n:=i+1),List.map_append,List.map_singleton]
  refine(ma (x:=stO (bu r) (i+1)) fun a ha=>?_).2 ?_ ?_
  ·obtain⟨c,_,e⟩:=qz ha
   rw[tq h hx]at e
   split at e
   ·exact(Option.some.inj e).symm
   ·cases e
  ·refine List.mem_map.2 ⟨x.toNat,List.mem_range.2 (by omega),?_⟩
   rw[tq h hx,if_pos (by omega)]
  ·intro hm
   obtain⟨j,hj,e⟩:=List.mem_map.1 hm
   rw[List.mem_range]at hj
   have:=BE (by omega) (by omega) (by omega) e
   omega
theorem qJ {r:Int}(h:cx r=true){m:Nat}(hle:(cC (cT r) m).length≤m):cC (cT r) m=(List.range ((bu r).length+1)).map (stO (bu r)):=by
 have h1:=BS h (bu r).length (Nat.le_refl _)
 have h2:eU (dE (cT r)) (0,[]) ((bu r).length+1)=eU (dE (cT r)) (0,[]) (bu r).length:=by
  have hg:(eU (dE (cT r)) (0,[]) (bu r).length)[(bu r).length]?=some (stO (bu r) (bu r).length):=by
   rw[h1,List.getElem?_map,List.getElem?_range (by omega)]
   rfl
  rw[eU,hg]
  have:∀ tos:List (Option RSt),(∀ x∈tos,x=none)→∀ L,cN L tos=L:=by
   intro tos
   induction tos with
   | nil=>intro _ L;rfl
   | cons a tos ih =>
    intro ht L
    rw[ht a (by simp)]
    exact ih (fun x hx=>ht x (by simp[hx])) L
  refine this _ (fun x hx=>?_) _
  obtain⟨c,_,e⟩:=List.mem_map.1 hx
  rw[← e]
  exact yK h c
 have h3:=fun {j:Nat} (hj:(bu r).length+1≤j)=>o7 (dE (cT r)) ((0,[]):RSt) (i:=(bu r).length+1) (by rw[h2,h1];simp) hj
 show eU (dE (cT r)) (0,[]) m=_
 rcases Nat.le_total ((bu r).length+1) m with hm|hm
 ·rw[h3 hm,h2,h1]
 ·have h4:=o7 (dE (cT r)) ((0,[]):RSt) hle hm
  rw[← h4,h2,h1]
end
section
open Go
theorem qE {d:PD}(h:d.Ok){m:Nat}(hle:(cC d m).length≤m):Tab (cC d m).length 256 (fS d m).row:=by
 have ht:=we (row:=dE d) (s0:=((0,[]):RSt)) (m:=m) (p:=256) hle (fun a=>by simp[dE])
 have hrow:∀ s,In (cC d m).length s→(fS d m).row s∈jY (dE d) (cC d m):=fun s hs=>by
  have h1:=hs.1
  have h2:=hs.2
  show(jY (dE d) (cC d m)).getD s.toNat []∈_
  exact jE (by unfold jY;rw[List.length_map];omega)
 exact⟨fun s hs=>(ht _ (hrow s hs)).1,fun s hs=>(ht _ (hrow s hs)).2⟩
def ix (d x:PD):Prop:=∃ (m:Nat) (κ:Int→Int),(cC d m).length≤m∧jT (cC d m).length (fS d m).row (fS d m).tag κ∧x=Ei κ (cC d m).length (fS d m)
theorem rt {r:Int}(h:cx r=true):(cT r).Ok:=by
 refine⟨by simp[cT,PD.p],by simp[cT,PD.n],by simp[cT,PD.n],rfl,fun q hq=>?_,fun i j hij hj x hx=>?_,fun q hq=>?_,fun t ht=>?_⟩
 ·simp only[cT,List.mem_singleton]at hq
  subst hq
  exact t0 h
 ·simp only[cT,PD.p,List.length_singleton]at hj
  omega
 ·simp only[cT,List.mem_cons,List.not_mem_nil,or_false]at hq
  rcases hq with rfl|rfl
  ·exact⟨rfl,fun x hx=>by simp only[List.mem_singleton]at hx;subst hx;right;simp[In,cT,PD.n]⟩
  ·exact⟨rfl,fun x hx=>by simp only[List.mem_singleton]at hx;exact .inl hx⟩
 ·simp only[cT,List.mem_cons,List.not_mem_nil,or_false]at ht
  omega
def gT (b:List Int):PD:=⟨[],(List.range (b.length+1)).map fun k:Nat=>(List.range 256).map fun c:Nat=>if b[k]?=some (c:Int) then((k+1:Nat):Int) else -1,(List.range (b.length+1)).map fun k:Nat=>if k=b.length then 5 else -1⟩
theorem xB {r:Int}(h:cx r=true){m:Nat}(hle:(cC (cT r) m).length≤m){k:Nat}(hk:k≤(bu r).length){c:Nat}(hc:c<256):col (fS (cT r) m).row k c=if (bu r)[k]?=some (c:Int) then((k+1:Nat):Int) else -1:=by
 have hA:=qJ h hle
 have hl:=dG r
 have hr:=c8 r
 have hg:∀ {k:Nat},k≤(bu r).length→(cC (cT r) m)[k]?=some (stO (bu r) k):=fun {k} hk=>by
  rw[hA,List.getElem?_map,List.getElem?_range (by omega)]
  rfl
 rw[BM (hg hk) hc]
 by_cases hk2:k<(bu r).length
 ·obtain⟨x,hx⟩:=aN hk2
  rw[tq h hx,hx]
  by_cases e:(c:Int)=x
  ·rw[if_pos e,if_pos (by rw[e])]
   have hm:stO (bu r) (k+1)∈cC (cT r) m:=List.mem_of_getElem? (hg (k:=k+1) (by omega))
   obtain⟨q,hq,hql,hqa⟩:=wo hm
   rw[hq]
   have hq2:q≤(bu r).length:=by
    rw[hA]at hql
    simp at hql
    omega
   rw[hg hq2]at hqa
   have:=BE (by omega) hq2 (by omega) (Option.some.inj hqa)
   rw[this]
  ·rw[if_neg e,if_neg (fun e2=>e (Option.some.inj e2).symm)]
   rfl
 ·have:k=(bu r).length:=by omega
  subst this
  rw[yK h,List.getElem?_eq_none (by omega),if_neg (by simp)]
  rfl
theorem xA {r:Int}(h:cx r=true){m:Nat}(hle:(cC (cT r) m).length≤m){k:Nat}(hk:k≤(bu r).length):(fS (cT r) m).tag k=if k=(bu r).length then 5 else -1:=by
 have hA:=qJ h hle
 have hl:=dG r
 have hr:=c8 r
 have hg:(cC (cT r) m)[k]?=some (stO (bu r) k):=by
  rw[hA,List.getElem?_map,List.getElem?_range (by omega)]
  rfl
 rw[BL hg]
 unfold stO qm
 by_cases h0:k=0
 ·rw[if_pos h0,if_neg (by simp only;omega),if_neg (by omega)]
  rfl
 ·rw[if_neg h0]
  by_cases h1:k<(bu r).length
  ·rw[if_pos h1,if_pos (by simp only;omega),if_neg (by omega)]
  ·rw[if_neg h1,if_neg (by simp only;omega),if_pos (by omega)]
   rfl
theorem ru {r:Int}(h:cx r=true){m:Nat}(hle:(cC (cT r) m).length≤m){κ:Int→Int}(hK:jT (cC (cT r) m).length (fS (cT r) m).row (fS (cT r) m).tag κ):∀ (n i j:Nat),i<j→j+n=(bu r).length→κ i≠κ j
 | 0,i,j,hij,hj,e=>by
  have hA:=qJ h hle
  have hn:(cC (cT r) m).length=(bu r).length+1:=by rw[hA];simp
  have h1:=hK.tag i j (by rw[hn];unfold In;omega) (by rw[hn];unfold In;omega) e
  rw[xA h hle (by omega),xA h hle (by omega),if_neg (by omega),if_pos (by omega)]at h1
  omega
 | n+1,i,j,hij,hj,e=>by
  have hA:=qJ h hle
  have hn:(cC (cT r) m).length=(bu r).length+1:=by rw[hA];simp
  obtain⟨x,hx⟩:=aN (l:=bu r) (i:=j) (by omega)
  have hxb:=uu h x (List.mem_of_getElem? hx)
  have h1:=hK.step i j (by rw[hn];unfold In;omega) (by rw[hn];unfold In;omega) e x.toNat
  have ex:((x.toNat:Nat):Int)=x:=by omega
  rw[xB h hle (by omega) (by omega),xB h hle (by omega) (by omega),ex,if_pos hx]at h1
  split at h1
  ·exact ru h hle hK n (i+1) (j+1) (by omega) (by omega) h1
  ·have h2:=hK.yes ((j+1:Nat):Int) (by rw[hn];unfold In;omega)
   rw[hK.no]at h1
   omega
theorem nk {κ:Int→Int}{x:Int}(hx:x ≠ -1):∀ {row acc:List Int},(∀ y∈row,y = -1∨y=x)→(κ x∈acc.map κ→visits κ acc row=acc)∧(x∈row→κ x∉acc.map κ→visits κ acc row=acc++[x])
 | [],acc,_=>⟨fun _=>rfl,fun h=>by cases h⟩
 | y::row,acc,h=>by
  have e:visits κ acc (y::row)=visits κ (visit κ acc y) row:=rfl
  have hr:∀ z∈row,z = -1∨z=x:=fun z hz=>h z (by simp[hz])
  rcases h y (by simp) with rfl|rfl
  ·have e2:visit κ acc (-1)=acc:=by unfold visit;rw[if_pos (.inl rfl)]
   obtain⟨i1,i2⟩:=nk (κ:=κ) hx (acc:=acc) hr
   rw[e,e2]
   refine⟨i1,fun hm=>i2 ?_⟩
   rcases List.mem_cons.1 hm with e|hm
   ·exact absurd e hx
   ·exact hm
  ·rw[e]
   refine⟨fun hm=>?_,fun _ hm=>?_⟩
   ·have e2:visit κ acc y=acc:=by unfold visit;rw[if_pos (.inr hm)]
    rw[e2]
    exact(nk hx hr).1 hm
   ·have e2:visit κ acc y=acc++[y]:=by unfold visit;rw[if_neg (fun h=>h.elim hx hm)]
    rw[e2]
    exact(nk hx hr).1 (by simp)
theorem HX {r:Int}(h:cx r=true){x:PD}(hx:ix (cT r) x):x=gT (bu r):=by
 obtain⟨m,κ,hle,hK,rfl⟩:=hx
 have hA:=qJ h hle
 have hn:(cC (cT r) m).length=(bu r).length+1:=by rw[hA];simp
 have hT:=qE (rt h) hle
 have hlb:=dG r
 have hrb:=c8 r
 have hne:∀ {i j:Nat},i≤(bu r).length→j≤(bu r).length→κ i=κ j→i=j:=fun {i j} hi hj e=>by
  rcases Nat.lt_trichotomy i j with h1|h1|h1
  ·exact absurd e (ru h hle hK ((bu r).length-j) i j h1 (by omega))
  ·exact h1
  ·exact absurd e.symm (ru h hle hK ((bu r).length-i) j i h1 (by omega))
 have hrow:∀ k:Nat,k≤(bu r).length→(fS (cT r) m).row k=(List.range 256).map fun c:Nat=>if (bu r)[k]?=some (c:Int) then((k+1:Nat):Int) else -1:=fun k hk=>by
  have hl:=hT.len k (by rw[hn];unfold In;omega)
  refine qS (by rw[hl];simp) fun c hc=>?_
  rw[hl]at hc
  rw[cU _ _ _ 0 _ (by simpa using hc)]
  have:=xB h hle hk hc
  unfold col at this
  rw[this]
  have e:(List.range 256).getD c 0=c:=by rw[List.getD_eq_getElem?_getD,List.getElem?_range hc];rfl
  rw[e]
 have hacc:∀ i,i≤(bu r).length→cA κ (fS (cT r) m).row 0 i=(List.range (i+1)).map fun k:Nat=>(k:Int):=by
  intro i
  induction i with
  | zero=>intro _;rfl
  | succ i ih =>
   intro hi
   have ih:=ih (by omega)
   have hg:(cA κ (fS (cT r) m).row 0 i)[i]?=some (i:Int):=by
    rw[ih,List.getElem?_map,List.getElem?_range (by omega)]
    rfl
   rw[cA,hg]
   show visits κ (cA κ (fS (cT r) m).row 0 i) ((fS (cT r) m).row i)=_
   rw[ih,hrow i (by omega),List.range_succ (n:=i+1),List.map_append,List.map_singleton]
   obtain⟨y,hy⟩:=aN (l:=bu r) (i:=i) (by omega)
   have hyb:=uu h y (List.mem_of_getElem? hy)
   refine(nk (x:=((i+1:Nat):Int)) (by omega) fun z hz=>?_).2 ?_ ?_
   ·obtain⟨c,_,e⟩:=List.mem_map.1 hz
    split at e
    ·exact .inr e.symm
    ·exact .inl e.symm
   ·exact List.mem_map.2 ⟨y.toNat,List.mem_range.2 (by omega),by rw[if_pos (by rw[hy];congr 1;omega)]⟩
   ·intro hm
    rw[List.map_map]at hm
    obtain⟨j,hj,e⟩:=List.mem_map.1 hm
    rw[List.mem_range]at hj
    have:=hne (i:=j) (j:=i+1) (by omega) (by omega) e
    omega
 have hreach:dr (cC (cT r) m).length κ (fS (cT r) m).row 0=(List.range ((bu r).length+1)).map fun k:Nat=>(k:Int):=by
  have h0:In (cC (cT r) m).length 0:=by rw[hn];unfold In;omega
  have hc:=(jj hT h0 (κ:=κ)).1
  obtain⟨t,ht⟩:=yh κ (fS (cT r) m).row 0 (bu r).length
  have e:dr (cC (cT r) m).length κ (fS (cT r) m).row 0=cA κ (fS (cT r) m).row 0 (bu r).length++t:=by
   unfold dr
   rw[hn,ht]
  have hm:=hc.most
  rw[e,hacc _ (Nat.le_refl _),List.length_append,List.length_map,List.length_range,hn]at hm
  have:t=[]:=List.eq_nil_of_length_eq_zero (by omega)
  rw[e,this,List.append_nil,hacc _ (Nat.le_refl _)]
 unfold Ei gT
 rw[hreach,List.map_map,List.map_map]
 congr 1
 ·refine List.map_congr_left fun k hk=>?_
  rw[List.mem_range]at hk
  show((fS (cT r) m).row (k:Int)).map _=_
  rw[hrow k (by omega),List.map_map]
  refine List.map_congr_left fun c hc=>?_
  show cq κ _ (if (bu r)[k]?=some (c:Int) then((k+1:Nat):Int) else -1)=_
  by_cases e:(bu r)[k]?=some (c:Int)
  ·rw[if_pos e]
   have hlt:=lt_of_getElem? e
   have hmem:κ ((k+1:Nat):Int)∈((List.range ((bu r).length+1)).map fun k:Nat=>(k:Int)).map κ:=List.mem_map.2 ⟨_,List.mem_map.2 ⟨k+1,List.mem_range.2 (by omega),rfl⟩,rfl⟩
   obtain⟨q,hq,hql,hqk⟩:=oR (by omega) hmem
   rw[hq]
   have hql2:q<(bu r).length+1:=by simpa using hql
   have e3:((List.range ((bu r).length+1)).map fun k:Nat=>(k:Int)).getD q 0=q:=by
    rw[cU _ _ _ 0 _ (by simpa using hql),List.getD_eq_getElem?_getD,List.getElem?_range hql2]
    rfl
   rw[e3]at hqk
   have:=hne (i:=q) (j:=k+1) (by omega) (by omega) hqk
   rw[this]
  ·rw[if_neg e,jP]
 ·refine List.map_congr_left fun k hk=>?_
  rw[List.mem_range]at hk
  exact xA h hle (by omega)
end
section
open Go
structure OkB (x:PD):Prop where
 n1:1≤x.n
 nl:x.next.length=x.n
 rows:∀ r∈x.next,r.length=256∧∀ y∈r,y = -1∨In x.n y
 tags:∀ t∈x.tags,-1≤t
theorem yV {d:PD}(h:d.Ok){m:Nat}{s:Int}(hs:In (cC d m).length s) : -1≤(fS d m).tag s:=by
 obtain⟨k,rfl⟩:∃ k:Nat,s=k:=⟨s.toNat,by have:=hs.1;omega⟩
 obtain⟨a,ha⟩:=aN (l:=cC d m) (i:=k) (by have:=hs.2;omega)
 rw[BL ha]
 unfold qm
 split
 ·omega
 ·unfold PD.tag
  rcases lT (l:=d.tags) (i:=a.1.toNat) (d := -1) with e|e
  ·omega
  ·exact h.tags _ e
theorem ix.ok {d x:PD}(h:ix d x)(hd:d.Ok):OkB x:=by
 obtain⟨m,κ,h1,h2,rfl⟩:=h
 have hT:=qE hd h1
 have hpos:1≤(cC d m).length:=oz (dE d) ((0,[]):RSt) m
 have h0:In (cC d m).length 0:=⟨Int.le_refl _,by omega⟩
 obtain⟨hc,hcl⟩:=jj hT h0 (κ:=κ)
 have hl:0<(dr (cC d m).length κ (fS d m).row 0).length:=lt_of_getElem? hc.first
 refine⟨by show 1≤((dr _ κ _ 0).map _).length;rw[List.length_map];exact hl,by show((dr _ κ _ 0).map _).length=((dr _ κ _ 0).map _).length;rw[List.length_map,List.length_map],fun r hr=>?_,fun t ht=>?_⟩
 ·obtain⟨s,hs,rfl⟩:=List.mem_map.1 hr
  have hin:=hc.inn s hs
  refine⟨by rw[List.length_map];exact hT.len s hin,fun y hy=>?_⟩
  obtain⟨z,hz,rfl⟩:=List.mem_map.1 hy
  by_cases e:z = -1
  ·left;rw[e,jP]
  ·right
   obtain⟨q,hq,hql,_⟩:=oR e ((hcl s hs z hz).resolve_left e)
   rw[hq]
   show In ((dr _ κ _ 0).map _).length _
   rw[List.length_map]
   unfold In;omega
 ·obtain⟨s,hs,rfl⟩:=List.mem_map.1 ht
  exact yV hd (hc.inn s hs)
theorem ix.most {d x:PD}(h:ix d x)(hd:d.Ok){K:Nat}(hK:∀ i,In d.n i→(ja (dC d.parts (d.row i))).length≤K):x.n≤d.n+d.n*K:=by
 obtain⟨m,κ,h1,h2,rfl⟩:=h
 have hT:=qE hd h1
 have hpos:1≤(cC d m).length:=oz (dE d) ((0,[]):RSt) m
 have h0:In (cC d m).length 0:=⟨Int.le_refl _,by omega⟩
 have hc:=(jj hT h0 (κ:=κ)).1
 have:=hc.most
 have h3:=wm hd hK m
 show((dr _ κ _ 0).map _).length≤_
 rw[List.length_map]
 omega
theorem ix.come {d x:PD}(h:ix d x)(hd:d.Ok){q:Nat}(hq1:1≤q)(hq2:q<x.n):∃ r∈x.next,(q:Int)∈r:=by
 obtain⟨m,κ,h1,h2,rfl⟩:=h
 have hT:=qE hd h1
 have hpos:1≤(cC d m).length:=oz (dE d) ((0,[]):RSt) m
 have h0:In (cC d m).length 0:=⟨Int.le_refl _,by omega⟩
 obtain⟨hc,hcl⟩:=jj hT h0 (κ:=κ)
 have hql:q<(dr (cC d m).length κ (fS d m).row 0).length:=by
  have:q<((dr (cC d m).length κ (fS d m).row 0).map (fS d m).tag).length:=hq2
  rwa [List.length_map]at this
 have hl:0<(dr (cC d m).length κ (fS d m).row 0).length:=lt_of_getElem? hc.first
 have hg:(dr (cC d m).length κ (fS d m).row 0).getD 0 0=0:=by rw[List.getD_eq_getElem?_getD,hc.first];rfl
 have hm:=jE (a:=(0:Int)) hql
 rcases hc.src _ hm with e|⟨t,ht,hs⟩
 ·have:=pP hc.nodup hql hl (by rw[e,hg])
  omega
 ·have hne:(dr (cC d m).length κ (fS d m).row 0).getD q 0 ≠ -1:=(hc.inn _ hm).ne
  refine⟨_,List.mem_map.2 ⟨t,ht,rfl⟩,List.mem_map.2 ⟨_,hs,?_⟩⟩
  obtain⟨i,hi,hil,hik⟩:=oR hne (List.mem_map.2 ⟨_,hm,rfl⟩)
  rw[hi,pP hc.nodup hil hql hik]
theorem ix.lead {d x:PD}(h:ix d x)(hd:d.Ok){c:Nat}(hc256:c<256)(hne:col x.row 0 c ≠ -1):c<128∨(194≤c∧c≤244):=by
 obtain⟨m,κ,h1,h2,rfl⟩:=h
 have hT:=qE hd h1
 have hpos:1≤(cC d m).length:=oz (dE d) ((0,[]):RSt) m
 have h0:In (cC d m).length 0:=⟨Int.le_refl _,by omega⟩
 obtain⟨hc,hcl⟩:=jj hT h0 (κ:=κ)
 have hl:0<(dr (cC d m).length κ (fS d m).row 0).length:=lt_of_getElem? hc.first
 have hg:(dr (cC d m).length κ (fS d m).row 0).getD 0 0=0:=by rw[List.getD_eq_getElem?_getD,hc.first];rfl
 have hrow:(Ei κ (cC d m).length (fS d m)).row 0=((fS d m).row 0).map (cq κ (dr (cC d m).length κ (fS d m).row 0)):=by
  show((dr (cC d m).length κ (fS d m).row 0).map _).getD (0:Int).toNat []=_
  have:(0:Int).toNat=0:=rfl
  rw[this,cU _ _ _ 0 _ hl,hg]
 have hraw:col (fS d m).row 0 c ≠ -1:=fun e=>hne (by
  unfold col at e ⊢
  rw[hrow]
  have hlen:=hT.len 0 h0
  rw[cU _ _ _ (-1) _ (by omega),e,jP])
 have hcol:=BM (Bt (dE d) ((0,[]):RSt) m:(cC d m)[0]?=_) hc256
 rw[show((0:Nat):Int)=0 from rfl]at hcol
 rw[hcol]at hraw
 have hw:fm d (0,[])=dC d.parts (d.row 0):=by unfold fm;rw[if_neg (by simp only;omega)]
 have hrem:dX (dC d.parts (d.row 0)) c≠[]:=fun e=>hraw (by
  have:dp d (0,[]) (c:Int)=none:=by
   unfold dp lD
   rw[hw,e]
   rfl
  rw[this]
  rfl)
 obtain⟨v,hv⟩:=List.exists_mem_of_ne_nil _ hrem
 obtain⟨p,hp,hpc⟩:=iz.1 hv
 have hne2:=(Ai hd.apart' (d.row 0)).ne _ hp
 obtain⟨b,hb⟩:=pU (r:=v.1) fun q hq=>hne2.2 q (by simp[hq])
 have hacc:Kn (dC d.parts (d.row 0)) ((c:Int)::b) v.2:=⟨_,hp,(⟨hpc,hb⟩:jb (p::v.1) ((c:Int)::b)),rfl⟩
 obtain⟨k,p2,y,_,_,_,hy,hyb⟩:=Cy.1 hacc
 have hn:=kP hy
 obtain⟨c2,t,e1,_,e3⟩:=ut hn.1
 rw[hyb]at e1
 injection e1 with e1 _
 subst e1
 rcases e3 with e3|⟨e3,e4⟩
 ·left;omega
 ·right
  have:=e4 hn.2
  omega
theorem eE.tag0 {d x:PD}(h:eE d x)(hd:d.Ok):x.tag 0=d.tag 0:=by
 obtain⟨lv,κ,h1,h2,h3,h4,rfl⟩:=h.final hd
 have hx:=kT h2 h4
 rw[Gv hx.zero]
 have hc:=(rc h2 h4).1
 have:(dY lv (cy d)).st κ 0=0:=by
  show((dY lv (cy d)).L2 κ).getD (0:Int).toNat 0=0
  have e:(0:Int).toNat=0:=rfl
  rw[e,List.getD_eq_getElem?_getD,hc.first]
  rfl
 rw[this]
 rfl
theorem mK {r y:Int}(h:cx r=true):gZ (cT r).parts y=if y=r then some 0 else none:=by
 split
 ·rename_i e
  subst e
  exact(fi (rt h)).2 ⟨by simp[cT,PD.p],⟨⟨y,y⟩,by simp[cT,PD.part],Int.le_refl _,Int.le_refl _⟩⟩
 ·rename_i e
  refine(lB (rt h)).2 fun k hk hs=>e ?_
  have:k=0:=by simp[cT,PD.p]at hk;omega
  subst this
  obtain⟨s,hs,h1,h2⟩:=hs
  simp[cT,PD.part]at hs
  subst hs
  simp only at h1 h2
  omega
theorem t4 {r:Int}(h:cx r=true)(y:Int):mP (cT r) [y]=(if y=r then(1,5) else(0,-1))∧mP (cT r) [r,y]=(1,5):=by
 have c0:col (cT r).row 0 0=1:=rfl
 have c1:col (cT r).row 1 0 = -1:=rfl
 have t1:(cT r).tag 1=5:=rfl
 constructor
 ·unfold mP cf
  rw[mK h]
  by_cases e:y=r
  ·rw[if_pos e,if_pos e]
   simp only[c0,t1]
   rfl
  ·rw[if_neg e,if_neg e]
 ·unfold mP cf
  rw[mK h,if_pos rfl]
  simp only[c0,t1]
  unfold cf
  rw[mK h]
  by_cases e:y=r
  ·rw[if_pos e]
   simp only[c1]
   rfl
  ·rw[if_neg e]
   rfl
theorem rB {r:Int}(h:cx r=true){x:PD}(hx:eE (cT r) x):x=cT r:=by
 have hd:=rt h
 have ho:=hx.ok hd
 obtain⟨f1,f2⟩:=hx.few hd
 have f1:x.n≤2:=f1
 have f2:x.p≤1:=f2
 have ht:=hx.tells hd
 have h1:=ht [r]
 rw[(t4 h r).1,if_pos rfl]at h1
 -- the first step
 have key:∃ t,gZ x.parts r=some 0∧col x.row 0 0=t∧In x.n t∧x.tag t=5:=by
  unfold mP cf at h1
  cases hw:gZ x.parts r with
  | none=>rw[hw]at h1;simp at h1
  | some k =>
   have hk:=(fi ho).1 hw
   have:k=0:=by omega
   subst this
   rw[hw]at h1
   simp only at h1
   split at h1
   ·simp at h1
   ·rename_i hc
    have hin:=(ho.tab.col ho.zero 0).resolve_left (fun e=>hc (by omega))
    refine⟨_,rfl,rfl,hin,?_⟩
    unfold cf at h1
    split at h1
    ·injection h1 with _ h1
    ·simp at h1
 obtain⟨t,hw,hc,hin,htag⟩:=key
 have hp1:x.p=1:=by have:=((fi ho).1 hw).1;omega
 have ht0:x.tag 0 = -1:=(hx.tag0 hd).trans rfl
 have ht1:t=1:=by
  have:=hin.1
  have:=hin.2
  have:t≠0:=fun e=>by rw[e,ht0]at htag;omega
  omega
 subst ht1
 have hn:x.n=2:=by have:=hin.2;omega
 -- nothing else is in the part
 have hpart:x.part 0=[⟨r,r⟩]:=by
  have hnm:=iP ho 0
  have hr:=(fi ho).1 hw
  have hcan:=eG hnm
  refine ly hcan (by rw[← t0 h];exact(jx _).1) fun y=>⟨fun hy=>?_,fun hy=>?_⟩
  ·have h2:=ht [y]
   rw[(t4 h y).1]at h2
   have hwy:gZ x.parts y=some 0:=(fi ho).2 ⟨by omega,hy⟩
   by_cases e:y=r
   ·rw[e];exact⟨⟨r,r⟩,by simp,Int.le_refl _,Int.le_refl _⟩
   ·rw[if_neg e]at h2
    unfold mP cf at h2
    rw[hwy]at h2
    simp only[hc,htag]at h2
    unfold cf at h2
    simp at h2
  ·obtain⟨s,hs,a1,a2⟩:=hy
   simp only[List.mem_singleton]at hs
   subst hs
   simp only at a1 a2
   have:y=r:=by omega
   rw[this]
   exact hr.2
 have hc1:col x.row 1 0 = -1:=by
  rcases ho.tab.col hin 0 with e|e
  ·exact e
  ·exfalso
   have h2:=ht [r,r]
   rw[(t4 h r).2]at h2
   have h3:=ht [r,r,r]
   have e3:mP (cT r) [r,r,r]=(1,5):=by
    unfold mP cf
    rw[mK h,if_pos rfl]
    show cf (cT r) 1 [r,r] 1 (1,5)=_
    unfold cf
    rw[mK h,if_pos rfl]
    rfl
   rw[e3]at h3
   have e1:=e.1
   have e2:=e.2
   rw[hn]at e2
   have hor:col x.row 1 0=0∨col x.row 1 0=1:=by omega
   rcases hor with e0|e0
   ·unfold mP cf at h3
    rw[hw]at h3
    simp only[hc,htag]at h3
    unfold cf at h3
    rw[hw]at h3
    simp only[e0,ht0]at h3
    unfold cf at h3
    rw[hw]at h3
    simp only[hc,htag]at h3
    unfold cf at h3
    simp at h3
   ·unfold mP cf at h2
    rw[hw]at h2
    simp only[hc,htag]at h2
    unfold cf at h2
    rw[hw]at h2
    simp only[e0,htag]at h2
    unfold cf at h2
    simp at h2
 have hnl:=ho.nl
 refine PD.ext' ?_ ?_ ?_
 ·show x.parts=[[⟨r,r⟩]]
  refine List.ext_getElem (by simpa[PD.p] using hp1) fun i i1 i2=>?_
  have:i=0:=by simp at i2;omega
  subst this
  have e:x.part 0=x.parts[0]:=by simp[PD.part,List.getD_eq_getElem?_getD,i1]
  rw[← e,hpart]
  rfl
 ·show x.next=[[1],[-1]]
  refine List.ext_getElem (by rw[hnl,hn];rfl) fun i i1 i2=>?_
  have hi:i=0∨i=1:=by simp at i2;omega
  have hl:=(ho.rows _ (List.getElem_mem i1)).1
  rw[hp1]at hl
  rcases hi with rfl|rfl
  ·have e:x.row 0=x.next[0]:=by
    have e0:(0:Int).toNat=0:=rfl
    simp[PD.row,List.getD_eq_getElem?_getD,i1]
   refine qS (by rw[hl];rfl) fun k hk=>?_
   have:k=0:=by omega
   subst this
   rw[← e]
   exact hc
  ·have e:x.row 1=x.next[1]:=by
    have e0:(1:Int).toNat=1:=rfl
    simp[PD.row,List.getD_eq_getElem?_getD,i1]
   refine qS (by rw[hl];rfl) fun k hk=>?_
   have:k=0:=by omega
   subst this
   rw[← e]
   exact hc1
 ·show x.tags=[-1,5]
  refine qS (by show x.n=2;exact hn) fun k hk=>?_
  have hk2:k<x.n:=hk
  have hi:k=0∨k=1:=by omega
  rcases hi with rfl|rfl
  ·exact ht0
  ·exact htag
end
section
open Go
theorem rN {b:List Int}{k:Nat}(hk:k≤b.length){c:Nat}(hc:c<256):col (gT b).row k c=if b[k]?=some (c:Int) then((k+1:Nat):Int) else -1:=by
 have e:(gT b).row (k:Int)=(List.range 256).map fun c:Nat=>if b[k]?=some (c:Int) then((k+1:Nat):Int) else -1:=by
  show(gT b).next.getD (k:Int).toNat []=_
  rw[Int.toNat_natCast,List.getD_eq_getElem?_getD]
  show(((List.range (b.length+1)).map _)[k]?).getD []=_
  rw[List.getElem?_map,List.getElem?_range (by omega)]
  rfl
 rw[col,e,List.getD_eq_getElem?_getD,List.getElem?_map,List.getElem?_range hc]
 rfl
theorem wP {b:List Int}{k:Nat}(hk:k≤b.length):(gT b).next[k]?=some ((List.range 256).map fun c:Nat=>if b[k]?=some (c:Int) then((k+1:Nat):Int) else -1):=by
 have e:(gT b).next=(List.range (b.length+1)).map fun k:Nat=>(List.range 256).map fun c:Nat=>if b[k]?=some (c:Int) then((k+1:Nat):Int) else -1:=rfl
 rw[e,List.getElem?_map,List.getElem?_range (by omega)]
 rfl
theorem wO {b:List Int}{k:Nat}(hk:k≤b.length):(gT b).tag k=if k=b.length then 5 else -1:=by
 show(gT b).tags.getD (k:Int).toNat (-1)=_
 rw[Int.toNat_natCast,List.getD_eq_getElem?_getD]
 show(((List.range (b.length+1)).map _)[k]?).getD (-1)=_
 rw[List.getElem?_map,List.getElem?_range (by omega)]
 rfl
theorem Js:bu 233=[195,169]:=by decide
theorem G5:sd (gT [195,169]) 0 [195,169,65] 0 (0,-1)=(2,5):=by
 have hb:∀ c∈([195,169]:List Int),0≤c∧c<256:=by simp
 have c0:col (gT [195,169]).row 0 195=1:=rN (k:=0) (by simp) (c:=195) (by omega)
 have c1:col (gT [195,169]).row 1 169=2:=rN (k:=1) (by simp) (c:=169) (by omega)
 have c2:col (gT [195,169]).row 2 65 = -1:=rN (k:=2) (by simp) (c:=65) (by omega)
 have t1:(gT [195,169]).tag 1 = -1:=wO (k:=1) (by simp)
 have t2:(gT [195,169]).tag 2=5:=wO (k:=2) (by simp)
 simp[sd,c0,c1,c2,t1,t2]
end
end Go.Proofs.YtlnobeojgifojaaGreatDoor
