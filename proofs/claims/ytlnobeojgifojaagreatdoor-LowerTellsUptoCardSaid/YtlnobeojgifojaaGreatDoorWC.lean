/- Machines of bytes, plainly: one scalar's is a chain. -/
import Derived.Test.YtlnobeojgifojaaGreatDoorWB
set_option linter.unusedVariables false
set_option linter.unusedSimpArgs false
namespace Go.Proofs.YtlnobeojgifojaaGreatDoor
section
open Go
def cZ (r:Int):PD:=⟨[[⟨r,r⟩]],[[1],[-1]],[-1,5]⟩
def ql (b:List Int):jx:=b.map fun c=>(c,c)
theorem uh {r:Int}(h:cv r=true):bd [⟨r,r⟩]=[⟨r,r⟩]:=by
 refine kP ⟨by simp,by simp⟩ fun x hx=>?_
 obtain⟨s,hs,h1,h2⟩:=hx
 simp only[List.mem_singleton]at hs
 subst hs
 simp only at h1 h2
 have:x=r:=by omega
 rw[this]
 exact h
theorem yK:∀ b:List Int,b.zip b=ql b
 | []=>rfl
 | c::b=>by
  have:=yK b
  simp only[ql,List.zip_cons_cons,List.map_cons]at this ⊢
  rw[this]
theorem qN (r:Int):∀ ms:List Int,fL ms ⟨r,r⟩=0
 | []=>rfl
 | m::ms=>by
  rw[sl (.inl rfl)]
  exact qN r ms
theorem E5 {r:Int}(h:0≤r∧r≤1114111):dm ⟨r,r⟩=[⟨r,r⟩]:=by
 unfold dm jz
 simp only[List.filterMap_cons,List.filterMap_nil]
 by_cases c1:r<128
 ·rw[if_pos Ll,if_neg Ll,if_neg Ll,if_neg Ll]
  simp only[List.cons.injEq,aj.mk.injEq,and_true]
  omega
 ·by_cases c2:r<2048
  ·rw[if_neg Ll,if_pos Ll,if_neg Ll,if_neg Ll]
   simp only[List.cons.injEq,aj.mk.injEq,and_true]
   omega
  ·by_cases c3:r<65536
   ·rw[if_neg Ll,if_neg Ll,if_pos Ll,if_neg Ll]
    simp only[List.cons.injEq,aj.mk.injEq,and_true]
    omega
   ·rw[if_neg Ll,if_neg Ll,if_neg Ll,if_pos Ll]
    simp only[List.cons.injEq,aj.mk.injEq,and_true]
    omega
theorem GN {r:Int}(h:cv r=true):dp [⟨r,r⟩]=[ql (bt r)]:=by
 have hr:=cx.1 h
 have hc:iG ⟨r,r⟩=[⟨r,r⟩]:=oK (qN r _) hr.1
 unfold dp eZ
 rw[uh h]
 simp only[List.flatMap_cons,List.flatMap_nil,List.append_nil]
 rw[E5 ⟨hr.1,hr.2.1⟩]
 simp only[List.flatMap_cons,List.flatMap_nil,List.append_nil]
 rw[hc]
 simp only[List.map_cons,List.map_nil,d5]
 rw[yK]
theorem zI {r:Int}(h:cv r=true):cL (cZ r).parts [1]=[(ql (bt r),1)]∧cL (cZ r).parts [-1]=[]:=by
 constructor
 ·show([([⟨r,r⟩],(1:Int))]:List (List aj×Int)).flatMap _=_
  simp only[List.flatMap_cons,List.flatMap_nil,List.append_nil]
  rw[if_neg Ll,GN h]
  rfl
 ·show([([⟨r,r⟩],(-1:Int))]:List (List aj×Int)).flatMap _=_
  simp only[List.flatMap_cons,List.flatMap_nil,List.append_nil]
  rw[if_pos trivial]
def stO (b:List Int)(k:Nat):RSt:=if k=0 then(0,[]) else if k<b.length then(-1,[(ql (b.drop k),1)]) else(1,[])
theorem Hv {b:List Int}{k:Nat}{c x:Int}(hx:b[k]?=some x):dS [(ql (b.drop k),1)] c=if c=x then [(ql (b.drop (k+1)),1)] else []:=by
 obtain⟨hk,e⟩:=List.getElem?_eq_some_iff.1 hx
 have e2:ql (b.drop k)=(x,x)::ql (b.drop (k+1)):=by
  rw[List.drop_eq_getElem_cons hk,e]
  rfl
 rw[e2]
 unfold dS
 simp only[List.filterMap_cons,List.filterMap_nil]
 by_cases h:c=x
 ·rw[if_pos Ll,if_pos h]
 ·rw[if_neg Ll,if_neg h]
theorem tG {r:Int}(h:cv r=true){k:Nat}{x:Int}(hx:(bt r)[k]?=some x)(c:Int):cX (cZ r) (stO (bt r) k) c=if c=x then some (stO (bt r) (k+1)) else none:=by
 have hk:=lt_of_getElem? hx
 have hw:eu (cZ r) (stO (bt r) k)=[(ql ((bt r).drop k),1)]:=by
  unfold stO eu
  by_cases h0:k=0
  ·subst h0
   rw[if_pos rfl,if_neg (by simp only;omega)]
   exact(zI h).1
  ·rw[if_neg h0,if_pos hk,if_pos (by simp only;omega)]
 unfold cX jb
 rw[hw,Hv hx]
 by_cases hc:c=x
 ·rw[if_pos hc,if_pos hc]
  unfold stO
  by_cases hl:k+1<(bt r).length
  ·have hne:(ql ((bt r).drop (k+1))).isEmpty=false:=by
    rw[List.drop_eq_getElem_cons hl]
    rfl
   simp only[List.find?_cons,List.find?_nil,hne,if_neg (show ¬ k+1=0 by omega),if_pos hl]
   rw[if_neg Lm]
  ·have hnil:ql ((bt r).drop (k+1))=[]:=by
    rw[List.drop_eq_nil_of_le Ll]
    rfl
   rw[hnil]
   simp only[List.find?_cons,List.isEmpty_nil,if_neg (show ¬ k+1=0 by omega),if_neg hl]
 ·rw[if_neg hc,if_neg hc]
  simp
theorem ze {r:Int}(h:cv r=true)(c:Int):cX (cZ r) (stO (bt r) (bt r).length) c=none:=by
 have hl:=dq r
 have hr:=dn r
 have e:stO (bt r) (bt r).length=(1,[]):=by
  unfold stO
  rw[if_neg Ll,if_neg Ll]
 have hw:eu (cZ r) (stO (bt r) (bt r).length)=[]:=by
  rw[e]
  unfold eu
  rw[if_neg (by show ¬ (1:Int)<0;omega)]
  exact(zI h).2
 unfold cX jb
 rw[hw]
 simp[dS]
theorem Cg {b:List Int}(hb:1≤b.length){i j:Nat}(hi:i≤b.length)(hj:j≤b.length)(h:stO b i=stO b j):i=j:=by
 have key:∀ k,(ql (b.drop k)).length=b.length-k:=fun k=>by simp[ql]
 have m0:stO b 0=(0,[]):=rfl
 have m1:∀ {k},k≠0→k<b.length→stO b k=(-1,[(ql (b.drop k),1)]):=fun {k} h1 h2=>by unfold stO;rw[if_neg h1,if_pos h2]
 have m2:stO b b.length=(1,[]):=by unfold stO;rw[if_neg Ll,if_neg Ll]
 have hi2:i=0∨(i≠0∧i<b.length)∨i=b.length:=by omega
 have hj2:j=0∨(j≠0∧j<b.length)∨j=b.length:=by omega
 rcases hi2 with rfl|⟨a1,a2⟩|rfl<;>rcases hj2 with rfl|⟨b1,b2⟩|rfl
 ·rfl
 ·rw[m0,m1 b1 b2]at h;injection h with h1 _;omega
 ·rw[m0,m2]at h;injection h with h1 _;omega
 ·rw[m0,m1 a1 a2]at h;injection h with h1 _;omega
 ·rw[m1 a1 a2,m1 b1 b2]at h
  injection h with _ h2
  injection h2 with h3 _
  injection h3 with h5 _
  have:=congrArg List.length h5
  rw[key,key]at this
  omega
 ·rw[m1 a1 a2,m2]at h;injection h with h1 _;omega
 ·rw[m0,m2]at h;injection h with h1 _;omega
 ·rw[m1 b1 b2,m2]at h;injection h with h1 _;omega
 ·rfl
theorem mq {α:Type}[DecidableEq α]{x:α}:∀ {tos:List (Option α)} {L:List α},(∀ a,some a∈tos→a=x)→(x∈L→cR L tos=L)∧(some x∈tos→x∉L→cR L tos=L++[x])
 | [],L,_=>⟨fun _=>rfl,fun h=>by cases h⟩
 | none::tos,L,h=>by
  obtain⟨i1,i2⟩:=mq (x:=x) (tos:=tos) (L:=L) fun a ha=>h a (by simp[ha])
  refine⟨fun hx=>i1 hx,fun ht hx=>i2 ?_ hx⟩
  rcases List.mem_cons.1 ht with e|ht
  ·cases e
  ·exact ht
 | some a::tos,L,h=>by
  have e:=h a Lm
  subst e
  refine⟨fun hx=>?_,fun _ hx=>?_⟩
  ·have:cE L (some a)=L:=by show(if a∈L then L else L++[a])=L;rw[if_pos hx]
   show cR (cE L (some a)) tos=L
   rw[this]
   exact(mq fun b hb=>h b (by simp[hb])).1 hx
  ·have:cE L (some a)=L++[a]:=by show(if a∈L then L else L++[a])=L++[a];rw[if_neg hx]
   show cR (cE L (some a)) tos=L++[a]
   rw[this]
   exact(mq fun b hb=>h b (by simp[hb])).1 Lm
theorem oH {r:Int}(h:cv r=true):∀ c∈bt r,0≤c∧c<256:=by
 have hr:=cx.1 h
 intro c hc
 unfold bt at hc
 split at hc
 ·simp at hc;omega
 ·split at hc
  ·simp at hc;omega
  ·split at hc
   ·simp at hc;omega
   ·simp at hc;omega
theorem Cs {r:Int}(h:cv r=true):∀ i,i≤(bt r).length→fg (dO (cZ r)) (0,[]) i=(List.range (i+1)).map (stO (bt r))
 | 0,_=>rfl
 | i+1,hi=>by
  have ih:=Cs h i Ll
  have hl:=dq r
  have hr:=dn r
  obtain⟨x,hx⟩:=aK (l:=bt r) (i:=i) Ll
  have hxb:=oH h x (List.mem_of_getElem? hx)
  have hg:(fg (dO (cZ r)) (0,[]) i)[i]?=some (stO (bt r) i):=by
   rw[ih,List.getElem?_map,List.getElem?_range Ll]
   rfl
  rw[fg,hg]
  show cR (fg (dO (cZ r)) (0,[]) i) (dO (cZ r) (stO (bt r) i))=_
  rw[ih,List.range_succ (n:=i+1),List.map_append,List.map_singleton]
  refine(mq (x:=stO (bt r) (i+1)) fun a ha=>?_).2 ?_ ?_
  ·obtain⟨c,_,e⟩:=og ha
   rw[tG h hx]at e
   split at e
   ·exact(Option.some.inj e).symm
   ·cases e
  ·refine List.mem_map.2 ⟨x.toNat,List.mem_range.2 Ll,?_⟩
   rw[tG h hx,if_pos Ll]
  ·intro hm
   obtain⟨j,hj,e⟩:=List.mem_map.1 hm
   rw[List.mem_range]at hj
   have:=Cg Ll Ll Ll e
   omega
theorem qQ {r:Int}(h:cv r=true){m:Nat}(hle:(cH (cZ r) m).length≤m):cH (cZ r) m=(List.range ((bt r).length+1)).map (stO (bt r)):=by
 have h1:=Cs h (bt r).length (Nat.le_refl _)
 have h2:fg (dO (cZ r)) (0,[]) ((bt r).length+1)=fg (dO (cZ r)) (0,[]) (bt r).length:=by
  have hg:(fg (dO (cZ r)) (0,[]) (bt r).length)[(bt r).length]?=some (stO (bt r) (bt r).length):=by
   rw[h1,List.getElem?_map,List.getElem?_range Ll]
   rfl
  rw[fg,hg]
  have:∀ tos:List (Option RSt),(∀ x∈tos,x=none)→∀ L,cR L tos=L:=by
   intro tos
   induction tos with
   | nil=>intro _ L;rfl
   | cons a tos ih =>
    intro ht L
    rw[ht a Lm]
    exact ih (fun x hx=>ht x (by simp[hx])) L
  refine this _ (fun x hx=>?_) _
  obtain⟨c,_,e⟩:=List.mem_map.1 hx
  rw[← e]
  exact ze h c
 have h3:=fun {j:Nat} (hj:(bt r).length+1≤j)=>pw (dO (cZ r)) ((0,[]):RSt) (i:=(bt r).length+1) (by rw[h2,h1];simp) hj
 show fg (dO (cZ r)) (0,[]) m=_
 rcases Nat.le_total ((bt r).length+1) m with hm|hm
 ·rw[h3 hm,h2,h1]
 ·have h4:=pw (dO (cZ r)) ((0,[]):RSt) hle hm
  rw[← h4,h2,h1]
end
section
open Go
theorem s7 {d:PD}(h:d.Ok){m:Nat}(hle:(cH d m).length≤m):Tab (cH d m).length 256 (jp d m).row:=by
 have ht:=wv (row:=dO d) (s0:=((0,[]):RSt)) (m:=m) (p:=256) hle (fun a=>by simp[dO])
 have hrow:∀ s,In (cH d m).length s→(jp d m).row s∈j9 (dO d) (cH d m):=fun s hs=>by
  have h1:=hs.1
  have h2:=hs.2
  show(j9 (dO d) (cH d m)).getD s.toNat []∈_
  exact jB (by unfold j9;rw[List.length_map];omega)
 exact⟨fun s hs=>(ht _ (hrow s hs)).1,fun s hs=>(ht _ (hrow s hs)).2⟩
def jE (d x:PD):Prop:=∃ (m:Nat) (κ:Int→Int),(cH d m).length≤m∧jK (cH d m).length (jp d m).row (jp d m).tag κ∧x=xN κ (cH d m).length (jp d m)
theorem jE.run {d x:PD}(h:jE d x)(hd:d.Ok){b:List Int}(hb:∀ c∈b,0≤c∧c<256):l7 x 0 b 0 (0,-1)=lA d (cL d.parts (d.row 0)) b 0 (0,-1):=by
 obtain⟨m,κ,h1,h2,rfl⟩:=h
 have hT:=s7 hd h1
 have hpos:1≤(cH d m).length:=ro (dO d) ((0,[]):RSt) m
 have h0:In (cH d m).length 0:=⟨Int.le_refl _,by omega⟩
 obtain⟨hc,_⟩:=jo hT h0 (κ:=κ)
 have hl:0<(cU (cH d m).length κ (jp d m).row 0).length:=lt_of_getElem? hc.first
 have hg:(cU (cH d m).length κ (jp d m).row 0).getD 0 0=0:=by rw[List.getD_eq_getElem?_getD,hc.first];rfl
 have r1:=Cm hT h0 h2 b 0 0 0 (0,-1) hl h0 (by rw[hg])
 have r2:=xO hd h1 b hb 0 0 (0,[]) (0,-1) (B4 (dO d) ((0,[]):RSt) m)
 have e:eu d (0,[])=cL d.parts (d.row 0):=by unfold eu;rw[if_neg (by simp only;omega)]
 rw[e]at r2
 exact r1.trans r2
theorem rI {r:Int}(h:cv r=true):(cZ r).Ok:=by
 refine⟨by simp[cZ,PD.p],by simp[cZ,PD.n],by simp[cZ,PD.n],rfl,fun q hq=>?_,fun i j hij hj x hx=>?_,fun q hq=>?_,fun t ht=>?_⟩
 ·simp only[cZ,List.mem_singleton]at hq
  subst hq
  exact uh h
 ·simp only[cZ,PD.p,List.length_singleton]at hj
  omega
 ·simp only[cZ,List.mem_cons,List.not_mem_nil,or_false]at hq
  rcases hq with rfl|rfl
  ·exact⟨rfl,fun x hx=>by simp only[List.mem_singleton]at hx;subst hx;right;simp[In,cZ,PD.n]⟩
  ·exact⟨rfl,fun x hx=>by simp only[List.mem_singleton]at hx;exact .inl hx⟩
 ·simp only[cZ,List.mem_cons,List.not_mem_nil,or_false]at ht
  omega
def g9 (b:List Int):PD:=⟨[],(List.range (b.length+1)).map fun k:Nat=>(List.range 256).map fun c:Nat=>if b[k]?=some (c:Int) then((k+1:Nat):Int) else -1,(List.range (b.length+1)).map fun k:Nat=>if k=b.length then 5 else -1⟩
theorem xV {r:Int}(h:cv r=true){m:Nat}(hle:(cH (cZ r) m).length≤m){k:Nat}(hk:k≤(bt r).length){c:Nat}(hc:c<256):col (jp (cZ r) m).row k c=if (bt r)[k]?=some (c:Int) then((k+1:Nat):Int) else -1:=by
 have hA:=qQ h hle
 have hl:=dq r
 have hr:=dn r
 have hg:∀ {k:Nat},k≤(bt r).length→(cH (cZ r) m)[k]?=some (stO (bt r) k):=fun {k} hk=>by
  rw[hA,List.getElem?_map,List.getElem?_range Ll]
  rfl
 rw[Cn (hg hk) hc]
 by_cases hk2:k<(bt r).length
 ·obtain⟨x,hx⟩:=aK hk2
  rw[tG h hx,hx]
  by_cases e:(c:Int)=x
  ·rw[if_pos e,if_pos (by rw[e])]
   have hm:stO (bt r) (k+1)∈cH (cZ r) m:=List.mem_of_getElem? (hg (k:=k+1) Ll)
   obtain⟨q,hq,hql,hqa⟩:=pb hm
   rw[hq]
   have hq2:q≤(bt r).length:=by
    rw[hA]at hql
    simp at hql
    omega
   rw[hg hq2]at hqa
   have:=Cg Ll hq2 Ll (Option.some.inj hqa)
   rw[this]
  ·rw[if_neg e,if_neg (fun e2=>e (Option.some.inj e2).symm)]
   rfl
 ·have:k=(bt r).length:=by omega
  subst this
  rw[ze h,List.getElem?_eq_none Ll,if_neg Lm]
  rfl
theorem xU {r:Int}(h:cv r=true){m:Nat}(hle:(cH (cZ r) m).length≤m){k:Nat}(hk:k≤(bt r).length):(jp (cZ r) m).tag k=if k=(bt r).length then 5 else -1:=by
 have hA:=qQ h hle
 have hl:=dq r
 have hr:=dn r
 have hg:(cH (cZ r) m)[k]?=some (stO (bt r) k):=by
  rw[hA,List.getElem?_map,List.getElem?_range Ll]
  rfl
 rw[sZ hg]
 unfold stO nV
 by_cases h0:k=0
 ·rw[if_pos h0,if_neg (by simp only;omega),if_neg Ll]
  rfl
 ·rw[if_neg h0]
  by_cases h1:k<(bt r).length
  ·rw[if_pos h1,if_pos (by simp only;omega),if_neg Ll]
  ·rw[if_neg h1,if_neg (by simp only;omega),if_pos Ll]
   rfl
theorem rJ {r:Int}(h:cv r=true){m:Nat}(hle:(cH (cZ r) m).length≤m){κ:Int→Int}(hK:jK (cH (cZ r) m).length (jp (cZ r) m).row (jp (cZ r) m).tag κ):∀ (n i j:Nat),i<j→j+n=(bt r).length→κ i≠κ j
 | 0,i,j,hij,hj,e=>by
  have hA:=qQ h hle
  have hn:(cH (cZ r) m).length=(bt r).length+1:=by rw[hA];simp
  have h1:=hK.tag i j (by rw[hn];unfold In;omega) (by rw[hn];unfold In;omega) e
  rw[xU h hle Ll,xU h hle Ll,if_neg Ll,if_pos Ll]at h1
  omega
 | n+1,i,j,hij,hj,e=>by
  have hA:=qQ h hle
  have hn:(cH (cZ r) m).length=(bt r).length+1:=by rw[hA];simp
  obtain⟨x,hx⟩:=aK (l:=bt r) (i:=j) Ll
  have hxb:=oH h x (List.mem_of_getElem? hx)
  have h1:=hK.step i j (by rw[hn];unfold In;omega) (by rw[hn];unfold In;omega) e x.toNat
  have ex:((x.toNat:Nat):Int)=x:=by omega
  rw[xV h hle Ll Ll,xV h hle Ll Ll,ex,if_pos hx]at h1
  split at h1
  ·exact rJ h hle hK n (i+1) (j+1) Ll Ll h1
  ·have h2:=hK.yes ((j+1:Nat):Int) (by rw[hn];unfold In;omega)
   rw[hK.no]at h1
   omega
theorem nD {κ:Int→Int}{x:Int}(hx:x ≠ -1):∀ {row acc:List Int},(∀ y∈row,y = -1∨y=x)→(κ x∈acc.map κ→visits κ acc row=acc)∧(x∈row→κ x∉acc.map κ→visits κ acc row=acc++[x])
 | [],acc,_=>⟨fun _=>rfl,fun h=>by cases h⟩
 | y::row,acc,h=>by
  have e:visits κ acc (y::row)=visits κ (visit κ acc y) row:=rfl
  have hr:∀ z∈row,z = -1∨z=x:=fun z hz=>h z (by simp[hz])
  rcases h y Lm with rfl|rfl
  ·have e2:visit κ acc (-1)=acc:=by unfold visit;rw[if_pos (.inl rfl)]
   obtain⟨i1,i2⟩:=nD (κ:=κ) hx (acc:=acc) hr
   rw[e,e2]
   refine⟨i1,fun hm=>i2 ?_⟩
   rcases List.mem_cons.1 hm with e|hm
   ·exact absurd e hx
   ·exact hm
  ·rw[e]
   refine⟨fun hm=>?_,fun _ hm=>?_⟩
   ·have e2:visit κ acc y=acc:=by unfold visit;rw[if_pos (.inr hm)]
    rw[e2]
    exact(nD hx hr).1 hm
   ·have e2:visit κ acc y=acc++[y]:=by unfold visit;rw[if_neg (fun h=>h.elim hx hm)]
    rw[e2]
    exact(nD hx hr).1 Lm
theorem Iy {r:Int}(h:cv r=true){x:PD}(hx:jE (cZ r) x):x=g9 (bt r):=by
 obtain⟨m,κ,hle,hK,rfl⟩:=hx
 have hA:=qQ h hle
 have hn:(cH (cZ r) m).length=(bt r).length+1:=by rw[hA];simp
 have hT:=s7 (rI h) hle
 have hlb:=dq r
 have hrb:=dn r
 have hne:∀ {i j:Nat},i≤(bt r).length→j≤(bt r).length→κ i=κ j→i=j:=fun {i j} hi hj e=>by
  rcases Nat.lt_trichotomy i j with h1|h1|h1
  ·exact absurd e (rJ h hle hK ((bt r).length-j) i j h1 Ll)
  ·exact h1
  ·exact absurd e.symm (rJ h hle hK ((bt r).length-i) j i h1 Ll)
 have hrow:∀ k:Nat,k≤(bt r).length→(jp (cZ r) m).row k=(List.range 256).map fun c:Nat=>if (bt r)[k]?=some (c:Int) then((k+1:Nat):Int) else -1:=fun k hk=>by
  have hl:=hT.len k (by rw[hn];unfold In;omega)
  refine qY (by rw[hl];simp) fun c hc=>?_
  rw[hl]at hc
  rw[cS _ _ _ 0 _ (by simpa using hc)]
  have:=xV h hle hk hc
  unfold col at this
  rw[this]
  have e:(List.range 256).getD c 0=c:=by rw[List.getD_eq_getElem?_getD,List.getElem?_range hc];rfl
  rw[e]
 have hacc:∀ i,i≤(bt r).length→cB κ (jp (cZ r) m).row 0 i=(List.range (i+1)).map fun k:Nat=>(k:Int):=by
  intro i
  induction i with
  | zero=>intro _;rfl
  | succ i ih =>
   intro hi
   have ih:=ih Ll
   have hg:(cB κ (jp (cZ r) m).row 0 i)[i]?=some (i:Int):=by
    rw[ih,List.getElem?_map,List.getElem?_range Ll]
    rfl
   rw[cB,hg]
   show visits κ (cB κ (jp (cZ r) m).row 0 i) ((jp (cZ r) m).row i)=_
   rw[ih,hrow i Ll,List.range_succ (n:=i+1),List.map_append,List.map_singleton]
   obtain⟨y,hy⟩:=aK (l:=bt r) (i:=i) Ll
   have hyb:=oH h y (List.mem_of_getElem? hy)
   refine(nD (x:=((i+1:Nat):Int)) Ll fun z hz=>?_).2 ?_ ?_
   ·obtain⟨c,_,e⟩:=List.mem_map.1 hz
    split at e
    ·exact .inr e.symm
    ·exact .inl e.symm
   ·exact List.mem_map.2 ⟨y.toNat,List.mem_range.2 Ll,by rw[if_pos (by rw[hy];congr 1;omega)]⟩
   ·intro hm
    rw[List.map_map]at hm
    obtain⟨j,hj,e⟩:=List.mem_map.1 hm
    rw[List.mem_range]at hj
    have:=hne (i:=j) (j:=i+1) Ll Ll e
    omega
 have hreach:cU (cH (cZ r) m).length κ (jp (cZ r) m).row 0=(List.range ((bt r).length+1)).map fun k:Nat=>(k:Int):=by
  have h0:In (cH (cZ r) m).length 0:=by rw[hn];unfold In;omega
  have hc:=(jo hT h0 (κ:=κ)).1
  obtain⟨t,ht⟩:=yG κ (jp (cZ r) m).row 0 (bt r).length
  have e:cU (cH (cZ r) m).length κ (jp (cZ r) m).row 0=cB κ (jp (cZ r) m).row 0 (bt r).length++t:=by
   unfold cU
   rw[hn,ht]
  have hm:=hc.most
  rw[e,hacc _ (Nat.le_refl _),List.length_append,List.length_map,List.length_range,hn]at hm
  have:t=[]:=List.eq_nil_of_length_eq_zero Ll
  rw[e,this,List.append_nil,hacc _ (Nat.le_refl _)]
 unfold xN g9
 rw[hreach,List.map_map,List.map_map]
 congr 1
 ·refine List.map_congr_left fun k hk=>?_
  rw[List.mem_range]at hk
  show((jp (cZ r) m).row (k:Int)).map _=_
  rw[hrow k Ll,List.map_map]
  refine List.map_congr_left fun c hc=>?_
  show cr κ _ (if (bt r)[k]?=some (c:Int) then((k+1:Nat):Int) else -1)=_
  by_cases e:(bt r)[k]?=some (c:Int)
  ·rw[if_pos e]
   have hlt:=lt_of_getElem? e
   have hmem:κ ((k+1:Nat):Int)∈((List.range ((bt r).length+1)).map fun k:Nat=>(k:Int)).map κ:=List.mem_map.2 ⟨_,List.mem_map.2 ⟨k+1,List.mem_range.2 Ll,rfl⟩,rfl⟩
   obtain⟨q,hq,hql,hqk⟩:=pa Ll hmem
   rw[hq]
   have hql2:q<(bt r).length+1:=by simpa using hql
   have e3:((List.range ((bt r).length+1)).map fun k:Nat=>(k:Int)).getD q 0=q:=by
    rw[cS _ _ _ 0 _ (by simpa using hql),List.getD_eq_getElem?_getD,List.getElem?_range hql2]
    rfl
   rw[e3]at hqk
   have:=hne (i:=q) (j:=k+1) Ll Ll hqk
   rw[this]
  ·rw[if_neg e,jy]
 ·refine List.map_congr_left fun k hk=>?_
  rw[List.mem_range]at hk
  exact xU h hle Ll
end
section
open Go
structure OkB (x:PD):Prop where
 n1:1≤x.n
 nl:x.next.length=x.n
 rows:∀ r∈x.next,r.length=256∧∀ y∈r,y = -1∨In x.n y
 tags:∀ t∈x.tags,-1≤t
theorem zp {d:PD}(h:d.Ok){m:Nat}{s:Int}(hs:In (cH d m).length s) : -1≤(jp d m).tag s:=by
 obtain⟨k,rfl⟩:∃ k:Nat,s=k:=⟨s.toNat,by have:=hs.1;omega⟩
 obtain⟨a,ha⟩:=aK (l:=cH d m) (i:=k) (by have:=hs.2;omega)
 rw[sZ ha]
 unfold nV
 split
 ·omega
 ·unfold PD.tag
  rcases l9 (l:=d.tags) (i:=a.1.toNat) (d := -1) with e|e
  ·omega
  ·exact h.tags _ e
theorem jE.ok {d x:PD}(h:jE d x)(hd:d.Ok):OkB x:=by
 obtain⟨m,κ,h1,h2,rfl⟩:=h
 have hT:=s7 hd h1
 have hpos:1≤(cH d m).length:=ro (dO d) ((0,[]):RSt) m
 have h0:In (cH d m).length 0:=⟨Int.le_refl _,by omega⟩
 obtain⟨hc,hcl⟩:=jo hT h0 (κ:=κ)
 have hl:0<(cU (cH d m).length κ (jp d m).row 0).length:=lt_of_getElem? hc.first
 refine⟨by show 1≤((cU _ κ _ 0).map _).length;rw[List.length_map];exact hl,by show((cU _ κ _ 0).map _).length=((cU _ κ _ 0).map _).length;rw[List.length_map,List.length_map],fun r hr=>?_,fun t ht=>?_⟩
 ·obtain⟨s,hs,rfl⟩:=List.mem_map.1 hr
  have hin:=hc.inn s hs
  refine⟨by rw[List.length_map];exact hT.len s hin,fun y hy=>?_⟩
  obtain⟨z,hz,rfl⟩:=List.mem_map.1 hy
  by_cases e:z = -1
  ·left;rw[e,jy]
  ·right
   obtain⟨q,hq,hql,_⟩:=pa e ((hcl s hs z hz).resolve_left e)
   rw[hq]
   show In ((cU _ κ _ 0).map _).length _
   rw[List.length_map]
   unfold In;omega
 ·obtain⟨s,hs,rfl⟩:=List.mem_map.1 ht
  exact zp hd (hc.inn s hs)
theorem jE.most {d x:PD}(h:jE d x)(hd:d.Ok){K:Nat}(hK:∀ i,In d.n i→(jf (cL d.parts (d.row i))).length≤K):x.n≤d.n+d.n*K:=by
 obtain⟨m,κ,h1,h2,rfl⟩:=h
 have hT:=s7 hd h1
 have hpos:1≤(cH d m).length:=ro (dO d) ((0,[]):RSt) m
 have h0:In (cH d m).length 0:=⟨Int.le_refl _,by omega⟩
 have hc:=(jo hT h0 (κ:=κ)).1
 have:=hc.most
 have h3:=wD hd hK m
 show((cU _ κ _ 0).map _).length≤_
 rw[List.length_map]
 omega
theorem eF.tag0 {d x:PD}(h:eF d x)(hd:d.Ok):x.tag 0=d.tag 0:=by
 obtain⟨lv,κ,h1,h2,h3,h4,rfl⟩:=h.final hd
 have hx:=lf h2 h4
 rw[G4 hx.zero]
 have hc:=(rr h2 h4).1
 have:(d7 lv (cy d)).st κ 0=0:=by
  show((d7 lv (cy d)).L2 κ).getD (0:Int).toNat 0=0
  have e:(0:Int).toNat=0:=rfl
  rw[e,List.getD_eq_getElem?_getD,hc.first]
  rfl
 rw[this]
 rfl
theorem m5 {r y:Int}(h:cv r=true):d6 (cZ r).parts y=if y=r then some 0 else none:=by
 split
 ·rename_i e
  subst e
  exact(dR (rI h)).2 ⟨by simp[cZ,PD.p],⟨⟨y,y⟩,by simp[cZ,PD.part],Int.le_refl _,Int.le_refl _⟩⟩
 ·rename_i e
  refine(lN (rI h)).2 fun k hk hs=>e ?_
  have:k=0:=by simp[cZ,PD.p]at hk;omega
  subst this
  obtain⟨s,hs,h1,h2⟩:=hs
  simp[cZ,PD.part]at hs
  subst hs
  simp only at h1 h2
  omega
theorem ui {r:Int}(h:cv r=true)(y:Int):ig (cZ r) [y]=(if y=r then(1,5) else(0,-1))∧ig (cZ r) [r,y]=(1,5):=by
 have c0:col (cZ r).row 0 0=1:=rfl
 have c1:col (cZ r).row 1 0 = -1:=rfl
 have t1:(cZ r).tag 1=5:=rfl
 constructor
 ·unfold ig bu
  rw[m5 h]
  by_cases e:y=r
  ·rw[if_pos e,if_pos e]
   simp only[c0,t1]
   rfl
  ·rw[if_neg e,if_neg e]
 ·unfold ig bu
  rw[m5 h,if_pos rfl]
  simp only[c0,t1]
  unfold bu
  rw[m5 h]
  by_cases e:y=r
  ·rw[if_pos e]
   simp only[c1]
   rfl
  ·rw[if_neg e]
   rfl
theorem rN {r:Int}(h:cv r=true){x:PD}(hx:eF (cZ r) x):x=cZ r:=by
 have hd:=rI h
 have ho:=hx.ok hd
 obtain⟨f1,f2⟩:=hx.few hd
 have f1:x.n≤2:=f1
 have f2:x.p≤1:=f2
 have ht:=hx.tells hd
 have h1:=ht [r]
 rw[(ui h r).1,if_pos rfl]at h1
 -- the first step
 have key:∃ t,d6 x.parts r=some 0∧col x.row 0 0=t∧In x.n t∧x.tag t=5:=by
  unfold ig bu at h1
  cases hw:d6 x.parts r with
  | none=>rw[hw]at h1;simp at h1
  | some k =>
   have hk:=(dR ho).1 hw
   have:k=0:=by omega
   subst this
   rw[hw]at h1
   simp only at h1
   split at h1
   ·simp at h1
   ·rename_i hc
    have hin:=(ho.tab.col ho.zero 0).resolve_left (fun e=>hc Ll)
    refine⟨_,rfl,rfl,hin,?_⟩
    unfold bu at h1
    split at h1
    ·injection h1 with _ h1
    ·simp at h1
 obtain⟨t,hw,hc,hin,htag⟩:=key
 have hp1:x.p=1:=by have:=((dR ho).1 hw).1;omega
 have ht0:x.tag 0 = -1:=(hx.tag0 hd).trans rfl
 have ht1:t=1:=by
  have:=hin.1
  have:=hin.2
  have:t≠0:=fun e=>by rw[e,ht0]at htag;omega
  omega
 subst ht1
 have hn:x.n=2:=by have:=hin.2;omega
 -- nothing else is in the part
 have hpart:x.part 0=[⟨r,r⟩]:=by
  have hnm:=ga ho 0
  have hr:=(dR ho).1 hw
  have hcan:=eT hnm
  refine kn hcan (by rw[← uh h];exact(jq _).1) fun y=>⟨fun hy=>?_,fun hy=>?_⟩
  ·have h2:=ht [y]
   rw[(ui h y).1]at h2
   have hwy:d6 x.parts y=some 0:=(dR ho).2 ⟨by omega,hy⟩
   by_cases e:y=r
   ·rw[e];exact⟨⟨r,r⟩,by simp,Int.le_refl _,Int.le_refl _⟩
   ·rw[if_neg e]at h2
    unfold ig bu at h2
    rw[hwy]at h2
    simp only[hc,htag]at h2
    unfold bu at h2
    simp at h2
  ·obtain⟨s,hs,a1,a2⟩:=hy
   simp only[List.mem_singleton]at hs
   subst hs
   simp only at a1 a2
   have:y=r:=by omega
   rw[this]
   exact hr.2
 have hc1:col x.row 1 0 = -1:=by
  rcases ho.tab.col hin 0 with e|e
  ·exact e
  ·exfalso
   have h2:=ht [r,r]
   rw[(ui h r).2]at h2
   have h3:=ht [r,r,r]
   have e3:ig (cZ r) [r,r,r]=(1,5):=by
    unfold ig bu
    rw[m5 h,if_pos rfl]
    show bu (cZ r) 1 [r,r] 1 (1,5)=_
    unfold bu
    rw[m5 h,if_pos rfl]
    rfl
   rw[e3]at h3
   have e1:=e.1
   have e2:=e.2
   rw[hn]at e2
   have hor:col x.row 1 0=0∨col x.row 1 0=1:=by omega
   rcases hor with e0|e0
   ·unfold ig bu at h3
    rw[hw]at h3
    simp only[hc,htag]at h3
    unfold bu at h3
    rw[hw]at h3
    simp only[e0,ht0]at h3
    unfold bu at h3
    rw[hw]at h3
    simp only[hc,htag]at h3
    unfold bu at h3
    simp at h3
   ·unfold ig bu at h2
    rw[hw]at h2
    simp only[hc,htag]at h2
    unfold bu at h2
    rw[hw]at h2
    simp only[e0,htag]at h2
    unfold bu at h2
    simp at h2
 have hnl:=ho.nl
 refine PD.ext' ?_ ?_ ?_
 ·show x.parts=[[⟨r,r⟩]]
  refine List.ext_getElem (by simpa[PD.p] using hp1) fun i i1 i2=>?_
  have:i=0:=by simp at i2;omega
  subst this
  have e:x.part 0=x.parts[0]:=by simp[PD.part,List.getD_eq_getElem?_getD,i1]
  rw[← e,hpart]
  rfl
 ·show x.next=[[1],[-1]]
  refine List.ext_getElem (by rw[hnl,hn];rfl) fun i i1 i2=>?_
  have hi:i=0∨i=1:=by simp at i2;omega
  have hl:=(ho.rows _ (List.getElem_mem i1)).1
  rw[hp1]at hl
  rcases hi with rfl|rfl
  ·have e:x.row 0=x.next[0]:=by
    have e0:(0:Int).toNat=0:=rfl
    simp[PD.row,List.getD_eq_getElem?_getD,i1]
   refine qY (by rw[hl];rfl) fun k hk=>?_
   have:k=0:=by omega
   subst this
   rw[← e]
   exact hc
  ·have e:x.row 1=x.next[1]:=by
    have e0:(1:Int).toNat=1:=rfl
    simp[PD.row,List.getD_eq_getElem?_getD,i1]
   refine qY (by rw[hl];rfl) fun k hk=>?_
   have:k=0:=by omega
   subst this
   rw[← e]
   exact hc1
 ·show x.tags=[-1,5]
  refine qY (by show x.n=2;exact hn) fun k hk=>?_
  have hk2:k<x.n:=hk
  have hi:k=0∨k=1:=by omega
  rcases hi with rfl|rfl
  ·exact ht0
  ·exact htag
end
section
open Go
theorem rY {b:List Int}{k:Nat}(hk:k≤b.length){c:Nat}(hc:c<256):col (g9 b).row k c=if b[k]?=some (c:Int) then((k+1:Nat):Int) else -1:=by
 have e:(g9 b).row (k:Int)=(List.range 256).map fun c:Nat=>if b[k]?=some (c:Int) then((k+1:Nat):Int) else -1:=by
  show(g9 b).next.getD (k:Int).toNat []=_
  rw[Int.toNat_natCast,List.getD_eq_getElem?_getD]
  show(((List.range (b.length+1)).map _)[k]?).getD []=_
  rw[List.getElem?_map,List.getElem?_range Ll]
  rfl
 rw[col,e,List.getD_eq_getElem?_getD,List.getElem?_map,List.getElem?_range hc]
 rfl
theorem w9 {b:List Int}{k:Nat}(hk:k≤b.length):(g9 b).next[k]?=some ((List.range 256).map fun c:Nat=>if b[k]?=some (c:Int) then((k+1:Nat):Int) else -1):=by
 have e:(g9 b).next=(List.range (b.length+1)).map fun k:Nat=>(List.range 256).map fun c:Nat=>if b[k]?=some (c:Int) then((k+1:Nat):Int) else -1:=rfl
 rw[e,List.getElem?_map,List.getElem?_range Ll]
 rfl
theorem w8 {b:List Int}{k:Nat}(hk:k≤b.length):(g9 b).tag k=if k=b.length then 5 else -1:=by
 show(g9 b).tags.getD (k:Int).toNat (-1)=_
 rw[Int.toNat_natCast,List.getD_eq_getElem?_getD]
 show(((List.range (b.length+1)).map _)[k]?).getD (-1)=_
 rw[List.getElem?_map,List.getElem?_range Ll]
 rfl
theorem J0:bt 233=[195,169]:=by decide
theorem HE:l7 (g9 [195,169]) 0 [195,169,65] 0 (0,-1)=(2,5):=by
 have hb:∀ c∈([195,169]:List Int),0≤c∧c<256:=by simp
 have c0:col (g9 [195,169]).row 0 195=1:=rY (k:=0) Lm (c:=195) Ll
 have c1:col (g9 [195,169]).row 1 169=2:=rY (k:=1) Lm (c:=169) Ll
 have c2:col (g9 [195,169]).row 2 65 = -1:=rY (k:=2) Lm (c:=65) Ll
 have t1:(g9 [195,169]).tag 1 = -1:=w8 (k:=1) Lm
 have t2:(g9 [195,169]).tag 2=5:=w8 (k:=2) Lm
 simp[l7,c0,c1,c2,t1,t2]
end
end Go.Proofs.YtlnobeojgifojaaGreatDoor
