/- set.Has, and slices.IndexFunc, ContainsFunc. set.pieces, slices.AppendSeq, set.Norm. slices.AppendSeq, set.Norm. Sets of spans: the plain law. set.Norm. The document's sets: the plain law. -/
import Derived.Test.YtlnobeojgifojaaGreatDoorC
import Derived.Test.YtlnobeojgifojaaGreatDoorB2
import Derived.Test.YtlnobeojgifojaaGreatDoorA7
set_option linter.unusedVariables false
set_option linter.unusedSimpArgs false
set_option linter.unusedSectionVars false
namespace Go.Proofs.YtlnobeojgifojaaGreatDoor
section
open Go
set_option maxHeartbeats 4000000
attribute [local irreducible] aj bc bj dn bz cn dz bL wop cq aU
structure am where
 lo:Int
 hi:Int
 deriving DecidableEq
def am.av (s:am):List AV:=[.int .i64 s.lo,.int .i64 s.hi]
@[simp] theorem am.av_length (s:am):s.av.length=2:=rfl
def Fx (o:Option Nat):Int:=match o with
 | some i=>i
 | none => -1
end
section
open Go
set_option maxHeartbeats 4000000
attribute [local irreducible] aj bc bj dn bz cn dz bL wop cq aU
theorem BV {Φ:Lib}(L:gC Φ)(s:am):ia Φ 47 [.agg s.av] (.fn 59 [.rp s.av]):=by
 refine bb (fun _=>false) rfl L.f47 ?_
 repeat' first|apply ad|(apply gw;first|(apply gq0;first|refine ai (v:=AV.fn _ _) rfl ?_|refine ai (v:=AV.nilf) rfl ?_)|(refine gJ (v:=AV.agg _) rfl rfl ?_;intro id hid;try simp only[aa.set_none]at hid)|refine oI (vs:=[AV.ptr _ _ _]) rfl rfl ?_)|(apply gx;first|apply af|refine ae rfl ?_|apply aM)|apply ac
 exact fA (fun _=>True) rfl (.fn (.cons (.ptr trivial (aa.get_set_self _ _ _) HU (FzL.same _)) .nil)) rfl
def kU (s:am):am:=⟨max s.lo 0,min s.hi 55295⟩
def iI (s:am):am:=⟨max s.lo 57344,min s.hi 1114111⟩
def bN (s:am):List am:=(if (kU s).lo≤(kU s).hi then [kU s] else [])++(if (iI s).lo≤(iI s).hi then [iI s] else [])
def dR (s:am)(i:Nat):List am:=match i with
 | 0=>[]
 | 1=>if (kU s).lo≤(kU s).hi then [kU s] else []
 | _=>bN s
theorem wX {Φ:Lib}(L:gC Φ)(s:am):FK Φ 59 [.rp s.av] ((bN s).map fun p=>[.agg p.av]):=by
 intro y J hst hth hr D h hJ
 refine bb (fun _=>false) rfl L.f59 ?_
 repeat' first|apply ad|(apply gw;first|refine aw rfl ?_|(apply gq2;first|refine aI rfl b_ pv_ ?_|refine ak rfl hg_ HU b_ pv_ ?_)|refine yg rfl HU rfl ?_|(refine cd ?_;intro id hid;try simp only[aa.set_none]at hid)|refine cy (cs':=[AV.int _ _,AV.int _ _]) rfl rfl rfl rfl b_ rfl ?_|(apply Hn;first|refine dE (cs:=[AV.int _ _,AV.int _ _]) rfl ?_|refine dE (cs:=[AV.int _ _,AV.int _ _,AV.int _ _,AV.int _ _]) rfl ?_)|refine C0 rfl rfl rfl ?_|refine FR rfl rfl rfl ?_)|(apply gx;first|apply af|refine ae rfl ?_|apply au)|apply ac
 have hnew:∀ {i:Nat} {D:Nat→Prop} {h:aa} {id:Nat} {o:gB},J i D h→h.get id=none→J i D (h.set id o):=fun hj hn=>hst _ _ _ _ hj fun k hk=>aa.get_set_ne _ _ (fun e=>hth _ _ _ hj k hk (e ▸ hn))
 have hJ2:=hnew (o := .cells 0 [.int .i64 (max s.lo 57344),.int .i64 (min s.hi 1114111)]) (hnew (o := .cells 0 [.int .i64 (max s.lo 0),.int .i64 (min s.hi 55295)]) hJ ‹h.get _=none›) (aa.set_none.2 hid)
 refine ic (fun n env h'=>∃ i:Nat,n=2-i∧i≤2∧(∃ D',J (dR s i).length D' h')∧env.has [(24,.int .i64 i),(23,.agg ((kU s).av++(iI s).av)),(0,.yield y)]) 2 ⟨0,rfl,by omega,⟨_,hJ2⟩,rfl,rfl,rfl,trivial⟩ ?_
 rintro n env h' ⟨i,rfl,hi,⟨D',hJ'⟩,he⟩
 obtain⟨env,rfl⟩:=he.ex
 clear he hJ hJ2
 have h3:i=0∨i=1∨i=2:=by omega
 rcases h3 with rfl|rfl|rfl
 ·repeat' first|apply ad|(apply gw;first|(apply gq0;first|refine aw rfl ?_|refine bV rfl ?_|refine ai rv_ ?_)|(apply gq1;first|refine cI rfl ?_|refine cD rfl ?_)|refine ak rfl hg_ HU b_ pv_ ?_|(apply gq3;first|refine a8 rfl rfl rfl HT HT ?_|((first|refine aB rfl rfl rfl ?_ ?_|refine kj rfl rfl rfl ?_ ?_)<;>(intro hc;try omega)))|refine aq rfl (Nat.zero_add _) ?_|refine bh rfl rfl ?_|refine ri rfl rfl nt_ ?_|(refine cd ?_;intro id hid;try simp only[aa.set_none]at hid)|refine cy (cs':=[AV.int _ _,AV.int _ _]) rfl rfl rfl rfl b_ rfl ?_|refine tK (v:=AV.agg _) rfl rfl HT HT (by first|rfl|(simp;done)|(simp;omega)) rfl ?_)|(apply gx;first|apply af|refine ae rfl ?_|apply ay|apply au|refine al rfl ?_|refine ah rfl ?_)|apply ac|apply aJ
  ·refine bS (hr 0 _ (by simp[bN,hc];rfl) D' _ (hnew hJ' hid)) ?_
   rintro _ h2 ⟨rfl,_,D2,hJ3,_⟩
   repeat' first|apply ad|(apply gw;first|refine aw rfl ?_|refine cD rfl ?_|refine a8 rfl rfl rfl HT HT ?_|refine bU rfl rfl ?_|refine dm (b:=true) rfl ?_)|(apply gx;first|refine ae rfl ?_|apply ay|refine ah rfl ?_)|apply ac|apply aJ
   exact fo 1 HT ⟨1,rfl,by omega,⟨D2,by simpa[dR,hc] using hJ3⟩,rfl,rfl,rfl,trivial⟩
  ·exact fo 1 HT ⟨1,rfl,by omega,⟨D',by simpa[dR,hc] using hnew hJ' hid⟩,rfl,rfl,rfl,trivial⟩
 ·have hp:bN s=dR s 1++(if (iI s).lo≤(iI s).hi then [iI s] else []):=rfl
  repeat' first|apply ad|(apply gw;first|(apply gq0;first|refine aw rfl ?_|refine bV rfl ?_|refine ai rv_ ?_)|(apply gq1;first|refine cI rfl ?_|refine cD rfl ?_)|refine ak rfl hg_ HU b_ pv_ ?_|(apply gq3;first|refine a8 rfl rfl rfl HT HT ?_|((first|refine aB rfl rfl rfl ?_ ?_|refine kj rfl rfl rfl ?_ ?_)<;>(intro hc;try omega)))|refine aq rfl (Nat.zero_add _) ?_|refine bh rfl rfl ?_|refine ri rfl rfl nt_ ?_|(refine cd ?_;intro id hid;try simp only[aa.set_none]at hid)|refine cy (cs':=[AV.int _ _,AV.int _ _]) rfl rfl rfl rfl b_ rfl ?_|refine tK (v:=AV.agg _) rfl rfl HT HT (by first|rfl|(simp;done)|(simp;omega)) rfl ?_)|(apply gx;first|apply af|refine ae rfl ?_|apply ay|apply au|refine al rfl ?_|refine ah rfl ?_)|apply ac|apply aJ
  ·refine bS (hr (dR s 1).length [.agg (iI s).av] (by rw[hp,List.getElem?_map,List.getElem?_append_right (Nat.le_refl _)];simp[hc]) D' _ (hnew hJ' hid)) ?_
   rintro _ h2 ⟨rfl,_,D2,hJ3,_⟩
   repeat' first|apply ad|(apply gw;first|refine aw rfl ?_|refine cD rfl ?_|refine a8 rfl rfl rfl HT HT ?_|refine bU rfl rfl ?_|refine dm (b:=true) rfl ?_)|(apply gx;first|refine ae rfl ?_|apply ay|refine ah rfl ?_)|apply ac|apply aJ
   exact fo 0 HT ⟨2,rfl,by omega,⟨D2,by rw[show(dR s 2).length=(dR s 1).length+1 by simp[dR,hp,hc]];exact hJ3⟩,rfl,rfl,rfl,trivial⟩
  ·exact fo 0 HT ⟨2,rfl,by omega,⟨D',by rw[show(dR s 2).length=(dR s 1).length by simp[dR,hp,hc]];exact hnew hJ' hid⟩,rfl,rfl,rfl,trivial⟩
 ·repeat' first|apply ad|(refine aB rfl rfl rfl ?_ ?_<;>(intro hc;try omega))|(apply gx;first|apply af|refine ae rfl ?_|apply aP|refine ah rfl ?_)|apply ac|apply aQ|apply aR|apply ba|refine lH (v:=AV.tup _) rfl ?_
  exact⟨D',by simpa[dR] using hJ'⟩
end
section
open Go
set_option maxHeartbeats 4000000
theorem tH {Φ:Lib}{Z:Option Nat→Bool}{f:bl}{ps:List Nat}{a b:f5}{Q:Ex→Env→aa→Prop}{env:Env}{h:aa}(hw:bj (aU Φ) (.rangef f ps a b) Q env h):bc (aU Φ) Z (.rangef f ps a b) Q env h:=hw
attribute [local irreducible] aj bc bj dn bz cn dz bL wop cq aU
theorem vV {Φ:Lib}(L:gC Φ){g:Nat}{cap:List AV}{l:List am}(hI:FK Φ g cap (l.map fun p=>[.agg p.av])){h:aa}{v:AV}{n:Nat}{cs:List AV}(hrow:aA h v 2 n cs)(hlen:n+l.length≤4294967296) :
  aU Φ 46 [v,.fn g cap] h (fun v' h'=>aA h' v' 2 (n+l.length) (cs++l.flatMap am.av)):=by
 refine bb (fun _=>false) rfl L.f46 ?_
 apply af
 refine ae rfl ?_
 refine gJ rfl hrow.isVal ?_
 intro id0 hid0
 repeat' first|apply ad|(apply gq0;first|refine bm rfl ?_|refine ai (v:=AV.fn _ _) rfl ?_)|(apply gx;first|apply af|refine ae rfl ?_|apply au)|apply ac
 refine tH ?_
 have hidr:v.rowId≠some id0:=fun e=>hrow.there e hid0
 refine wm (xs:=l.map fun p=>[.agg p.av]) rfl hI (fun i D h'=>∃ vi,h'.get id0=some (.cells 0 [vi])∧aA h' vi 2 (n+i) (cs++(l.take i).flatMap am.av)∧(∀ k,D k↔(k=id0∨vi.rowId=some k))∧vi.rowId≠some id0) ?_ ?_
  (D:=fun k=>k=id0∨v.rowId=some k) ⟨v,?_,?_,fun _=>Iff.rfl,hidr⟩ HU ?_ ?_
 ·rintro i D h1 h2 ⟨vi,k1,k2,k3,k4⟩ hs
  exact⟨vi,(hs id0 ((k3 id0).2 (.inl rfl))).trans k1,k2.keep fun k hk=>hs k ((k3 k).2 (.inr hk)),k3,k4⟩
 ·rintro i D h1 ⟨vi,k1,k2,k3,k4⟩ k hk
  rcases (k3 k).1 hk with rfl|hk
  ·rw[k1];simp
  ·exact k2.there hk
 ·show(h.set id0 (.cells 0 v.cells)).get id0=_
  rw[hrow.cells];exact aa.get_set_self _ _ _
 ·simpa using hrow.keep fun k hk=>aa.get_set_ne _ _ (fun e=>hidr (by rw[hk,e]))
 ·intro i x hx y D h1 ⟨vi,k1,k2,k3,k4⟩ hyD hy0
  simp only[List.getElem?_map,Option.map_eq_some_iff]at hx
  obtain⟨p,hp,rfl⟩:=hx
  have hip:=(List.getElem?_eq_some_iff.1 hp).1
  refine EW (fun _=>false) ?_
  repeat' first|apply ad|(apply gw;first|(refine cd ?_;intro id hid;try simp only[aa.set_none]at hid)|refine cy (cs':=[AV.int _ _,AV.int _ _]) rfl rfl rfl rfl b_ rfl ?_)|refine ae rfl ?_
  have hD0:D id0:=(k3 id0).2 (.inl rfl)
  have hyid:y≠id0:=by rintro rfl;exact hyD hD0
  have hy1:y≠id:=by rintro rfl;exact hy0 hid
  have h01:id0≠id:=by rintro rfl;rw[k1]at hid;cases hid
  refine⟨rfl,aa.get_set_ne _ _ hy1,fun o=>?_⟩
  have kd:∀ k,D k→k≠y∧k≠id:=fun k hk=>⟨by rintro rfl;exact hyD hk,by rintro rfl;exact(by
   rcases (k3 _).1 hk with rfl|hk
   ·exact h01 rfl
   ·exact k2.there hk hid)⟩
  have hrow2:aA ((h1.set id (.cells 0 [.int .i64 p.lo,.int .i64 p.hi])).set y o) vi 2 (n+i) (cs++(l.take i).flatMap am.av):=k2.keep fun k hk=>by
   obtain⟨e1,e2⟩:=kd k ((k3 k).2 (.inr hk))
   rw[aa.get_set_ne _ _ e1,aa.get_set_ne _ _ e2]
  refine EW (fun _=>false) ?_
  apply au
  refine ae rfl ?_
  refine ak (v:=vi) rfl (by rw[aa.get_set_ne _ _ hyid.symm,aa.get_set_ne _ _ h01];exact k1) HU HU rfl ?_
  refine ak (v:=AV.agg p.av) rfl (by rw[aa.get_set_ne _ _ hy1.symm];exact aa.get_set_self _ _ _) HU HU rfl ?_
  refine bF (cs:=p.av) rfl rfl ?_
  refine br (m:=1) rfl hrow2 rfl rfl HT ?_
  intro v' h' hr hk hrid
  have hgid:h'.get id0=some (.cells 0 [vi]):=by
   rw[hk id0 (by rw[aa.get_set_ne _ _ hyid.symm,aa.get_set_ne _ _ h01,k1];simp) k4,aa.get_set_ne _ _ hyid.symm,aa.get_set_ne _ _ h01,k1]
  refine aY (cs':=[v']) rfl rfl hgid hr.isVal (by rw[show ev _ _=v' from rfl,hr.cells];rfl) HU (by rw[show ev _ _=v' from rfl,hr.cells];rfl) ?_
  repeat' first|apply ad|apply aJ
  have hk:∀ k,((h1.set id (.cells 0 [.int .i64 p.lo,.int .i64 p.hi])).set y o).get k≠none→vi.rowId≠some k→h'.get k=((h1.set id (.cells 0 [.int .i64 p.lo,.int .i64 p.hi])).set y o).get k:=hk
  have hrid:∀ k,v'.rowId=some k→vi.rowId=some k∨((h1.set id (.cells 0 [.int .i64 p.lo,.int .i64 p.hi])).set y o).get k=none:=hrid
  have hv0:v'.rowId≠some id0:=fun e=>by
   rcases hrid id0 e with h2|h2
   ·exact k4 h2
   ·rw[aa.get_set_ne _ _ hyid.symm,aa.get_set_ne _ _ h01,k1]at h2
    cases h2
  refine⟨rfl,fun k hkD hkn hky=>?_,?_,fun k=>k=id0∨v'.rowId=some k,⟨v',aa.get_set_self _ _ _,?_,fun _=>Iff.rfl,hv0⟩,fun k hk'=>?_⟩
  ·have e0:k≠id0:=by rintro rfl;exact hkD hD0
   have e1:k≠id:=by rintro rfl;exact hkn hid
   have e2:((h1.set id (.cells 0 [.int .i64 p.lo,.int .i64 p.hi])).set y o).get k=h1.get k:=by rw[aa.get_set_ne _ _ hky,aa.get_set_ne _ _ e1]
   rw[aa.get_set_ne _ _ e0,hk k (by rw[e2];exact hkn) (fun e=>hkD ((k3 k).2 (.inr e))),e2]
  ·rw[aa.get_set_ne _ _ hyid,hk y (by rw[aa.get_set_self];simp) (fun e=>hyD ((k3 y).2 (.inr e))),aa.get_set_self]
  ·have e:cs++(l.take (i+1)).flatMap am.av=cs++(l.take i).flatMap am.av++p.av:=by
    rw[List.take_add_one,hp]
    simp[List.append_assoc]
   rw[e]
   exact hr.keep fun k hk=>aa.get_set_ne _ _ (fun e=>hv0 (by rw[hk,e]))
  ·rcases hk' with rfl|hk'
   ·exact .inl hD0
   ·rcases hrid k hk' with h2|h2
    ·exact .inl ((k3 k).2 (.inr h2))
    ·rw[aa.set_none,aa.set_none]at h2
     exact .inr h2.2.2
 ·rintro D h1 ⟨vi,k1,k2,k3,k4⟩
  simp only[List.length_map,List.take_length]at k2
  apply aJ
  apply ac
  apply af
  refine ae rfl ?_
  refine ak (v:=vi) rfl k1 HU HU rfl ?_
  refine ai (v:=vi) rfl ?_
  repeat' first|apply ad|apply aM|apply ac
  exact aH (v:=vi) rfl k2
end
section
open Go
def ld (l:List am):Prop:=l.Pairwise (fun a b=>a.hi+1<b.lo)∧∀ s∈l,s.lo≤s.hi
def inS (l:List am)(x:Int):Prop:=∃ s∈l,s.lo≤x∧x≤s.hi
theorem oq {a:am}{l:List am}(h:ld (a::l)):ld l:=⟨(List.pairwise_cons.1 h.1).2,fun s hs=>h.2 s (List.mem_cons_of_mem _ hs)⟩
theorem mY {a:am}{l:List am}(h:ld (a::l)){x:Int}(hx:inS l x):a.hi+1<x:=by
 obtain⟨s,hs,h1,h2⟩:=hx
 have:=(List.pairwise_cons.1 h.1).1 s hs
 omega
theorem j8:∀ {l m:List am},ld l→ld m→(∀ x,inS l x↔inS m x)→l=m
 | [],[],_,_,_=>rfl
 | [],b::m,_,hm,h=>by
  have:=(h b.lo).2 ⟨b,by simp,by omega,hm.2 b HU⟩
  obtain⟨s,hs,_⟩:=this
  cases hs
 | a::l,[],hl,_,h=>by
  have:=(h a.lo).1 ⟨a,by simp,by omega,hl.2 a HU⟩
  obtain⟨s,hs,_⟩:=this
  cases hs
 | a::l,b::m,hl,hm,h=>by
  have ha:=hl.2 a HU
  have hb:=hm.2 b HU
  have low:∀ {c:am} {k:List am} {x:Int},ld (c::k)→inS (c::k) x→c.lo≤x:=fun hc hx=>by
   obtain⟨s,hs,h1,h2⟩:=hx
   rcases List.mem_cons.1 hs with rfl|hs
   ·exact h1
   ·have:=(List.pairwise_cons.1 hc.1).1 s hs
    have:=hc.2 _ (List.mem_cons_self ..)
    omega
  have e1:a.lo=b.lo:=by
   have h1:=low hm ((h a.lo).1 ⟨a,by simp,by omega,ha⟩)
   have h2:=low hl ((h b.lo).2 ⟨b,by simp,by omega,hb⟩)
   omega
  have notin:∀ {c:am} {k:List am},ld (c::k)→¬ inS (c::k) (c.hi+1):=fun hc hx=>by
   obtain⟨s,hs,h1,h2⟩:=hx
   rcases List.mem_cons.1 hs with rfl|hs
   ·omega
   ·have:=(List.pairwise_cons.1 hc.1).1 s hs
    omega
  have e2:a.hi=b.hi:=by
   rcases Int.lt_trichotomy a.hi b.hi with hlt|he|hgt
   ·exact absurd ((h (a.hi+1)).2 ⟨b,by simp,by omega,by omega⟩) (notin hl)
   ·exact he
   ·exact absurd ((h (b.hi+1)).1 ⟨a,by simp,by omega,by omega⟩) (notin hm)
  have eab:a=b:=by cases a;cases b;simp_all
  subst eab
  have rest:∀ x,inS l x↔inS m x:=fun x=>by
   constructor
   ·intro hx
    have hab:=mY hl hx
    obtain⟨s,hs,h1,h2⟩:=(h x).1 (by obtain⟨s,hs,h1⟩:=hx;exact⟨s,List.mem_cons_of_mem _ hs,h1⟩)
    rcases List.mem_cons.1 hs with rfl|hs
    ·omega
    ·exact⟨s,hs,h1,h2⟩
   ·intro hx
    have hab:=mY hm hx
    obtain⟨s,hs,h1,h2⟩:=(h x).2 (by obtain⟨s,hs,h1⟩:=hx;exact⟨s,List.mem_cons_of_mem _ hs,h1⟩)
    rcases List.mem_cons.1 hs with rfl|hs
    ·omega
    ·exact⟨s,hs,h1,h2⟩
  rw[j8 (oq hl) (oq hm) rest]
def eo (r:List am)(s:am):List am:=match r with
 | []=>[s]
 | a::r=>if s.lo≤a.hi+1 then⟨a.lo,max a.hi s.hi⟩::r else s::a::r
def v9 (l:List am):Prop:=l.Pairwise (fun a b=>b.hi+1<a.lo)∧∀ s∈l,s.lo≤s.hi
theorem Cd {r:List am}{s:am}(hr:v9 r)(hs:s.lo≤s.hi)(hlo:∀ a∈r,a.lo≤s.lo):v9 (eo r s)∧(∀ x,inS (eo r s) x↔inS r x∨(s.lo≤x∧x≤s.hi))∧∀ a∈eo r s,a.lo≤s.lo:=by
 cases r with
 | nil =>
  refine⟨⟨List.pairwise_singleton _ _,fun t ht=>by simp[eo]at ht;subst ht;exact hs⟩,fun x=>?_,fun a ha=>by simp[eo]at ha;subst ha;exact Int.le_refl _⟩
  simp[inS,eo]
 | cons a r =>
  have hp:=List.pairwise_cons.1 hr.1
  have ha:=hr.2 a HU
  have hal:=hlo a HU
  simp only[eo]
  split
  ·rename_i h
   refine⟨⟨List.pairwise_cons.2 ⟨fun b hb=>hp.1 b hb,hp.2⟩,fun t ht=>?_⟩,fun x=>?_,fun t ht=>?_⟩
   ·rcases List.mem_cons.1 ht with rfl|ht
    ·show a.lo≤max a.hi s.hi
     omega
    ·exact hr.2 t (List.mem_cons_of_mem _ ht)
   ·simp only[inS,List.mem_cons,exists_eq_or_imp]
    constructor
    ·rintro(⟨h1,h2⟩|h1)
     ·by_cases hx:x≤a.hi
      ·exact .inl (.inl ⟨h1,hx⟩)
      ·exact .inr ⟨by omega,by omega⟩
     ·exact .inl (.inr h1)
    ·rintro((⟨h1,h2⟩|h1)|⟨h1,h2⟩)
     ·exact .inl ⟨h1,by omega⟩
     ·exact .inr h1
     ·exact .inl ⟨by show a.lo≤x;omega,by omega⟩
   ·rcases List.mem_cons.1 ht with rfl|ht
    ·exact hal
    ·exact hlo t (List.mem_cons_of_mem _ ht)
  ·rename_i h
   refine⟨⟨List.pairwise_cons.2 ⟨fun b hb=>?_,hr.1⟩,fun t ht=>?_⟩,fun x=>?_,fun t ht=>?_⟩
   ·rcases List.mem_cons.1 hb with rfl|hb
    ·omega
    ·have:=hp.1 b hb
     have:=hr.2 b (List.mem_cons_of_mem _ hb)
     omega
   ·rcases List.mem_cons.1 ht with rfl|ht
    ·exact hs
    ·exact hr.2 t ht
   ·simp only[inS,List.mem_cons,exists_eq_or_imp]
    constructor
    ·rintro(h1|h1)
     ·exact .inr h1
     ·exact .inl h1
    ·rintro(h1|h1)
     ·exact .inr h1
     ·exact .inl h1
   ·rcases List.mem_cons.1 ht with rfl|ht
    ·exact Int.le_refl _
    ·exact hlo t ht
def mI (p:List am):List am:=(p.foldl eo []).reverse
theorem xb:∀ (p:List am) (r:List am),v9 r→p.Pairwise (fun a b=>a.lo≤b.lo)→(∀ s∈p,s.lo≤s.hi)→(∀ s∈p,∀ a∈r,a.lo≤s.lo)→v9 (p.foldl eo r)∧∀ x,inS (p.foldl eo r) x↔inS r x∨inS p x
 | [],r,hr,_,_,_=>⟨hr,fun x=>by simp[inS]⟩
 | s::p,r,hr,hp,hs,hlo=>by
  have hp':=List.pairwise_cons.1 hp
  obtain⟨k1,k2,k3⟩:=Cd hr (hs s HU) (hlo s HU)
  obtain⟨g1,g2⟩:=xb p (eo r s) k1 hp'.2 (fun t ht=>hs t (List.mem_cons_of_mem _ ht)) (fun t ht a ha=>Int.le_trans (k3 a ha) (hp'.1 t ht))
  refine⟨g1,fun x=>?_⟩
  rw[List.foldl_cons,g2 x,k2 x]
  simp only[inS,List.mem_cons,exists_eq_or_imp]
  constructor
  ·rintro((h|h)|h)
   ·exact .inl h
   ·exact .inr (.inl h)
   ·exact .inr (.inr h)
  ·rintro(h|h|h)
   ·exact .inl (.inl h)
   ·exact .inl (.inr h)
   ·exact .inr h
theorem lY {p:List am}(hp:p.Pairwise (fun a b=>a.lo≤b.lo))(hs:∀ s∈p,s.lo≤s.hi):ld (mI p)∧∀ x,inS (mI p) x↔inS p x:=by
 obtain⟨h1,h2⟩:=xb p [] ⟨.nil,fun s h=>by cases h⟩ hp hs (fun s _ a h=>by cases h)
 refine⟨⟨List.pairwise_reverse.2 h1.1,fun s hs=>h1.2 s (List.mem_reverse.1 hs)⟩,fun x=>?_⟩
 have:=h2 x
 simp only[inS,mI,List.mem_reverse]at this ⊢
 rw[this]
 simp
end
section
open Go
set_option maxHeartbeats 4000000
attribute [local irreducible] aj bc bj dn bz cn dz bL wop cq aU
structure eG (Φ:Lib):Prop where
 spans:Φ 48=some (.ext (jj 49))
 ints:Φ 42=some (.ext mS)
def aZ (l:List am):List am:=mI ((l.flatMap bN).mergeSort (fun a b=>decide (a.lo≤b.lo)))
theorem np {l:List am}:∀ s∈l.flatMap bN,s.lo≤s.hi:=by
 intro s hs
 obtain⟨a,_,ha⟩:=List.mem_flatMap.1 hs
 simp only[bN,List.mem_append]at ha
 rcases ha with ha|ha<;>· split at ha<;>simp at ha<;>subst ha<;>assumption
theorem BW {l:List am}:∀ s∈l.flatMap bN,0≤s.hi∧s.hi≤1114111:=by
 intro s hs
 have:=np s hs
 obtain⟨a,_,ha⟩:=List.mem_flatMap.1 hs
 simp only[bN,List.mem_append]at ha
 rcases ha with ha|ha<;>· split at ha<;>simp at ha<;>subst ha<;>simp only[kU,iI]at *<;>omega
theorem xl {l m:List am}(h:l.Perm m)(x:Int):inS l x↔inS m x:=by
 simp only[inS,h.mem_iff]
theorem Dz {l p:List am}(hp:p.Perm (l.flatMap bN))(hs:p.Pairwise (fun a b=>a.lo≤b.lo)):mI p=aZ l:=by
 have hq:((l.flatMap bN).mergeSort (fun a b=>decide (a.lo≤b.lo))).Pairwise (fun a b=>a.lo≤b.lo):=by
  have:=List.pairwise_mergeSort (le:=fun a b:am=>decide (a.lo≤b.lo)) (fun a b c h1 h2=>by simp at *;omega) (fun a b=>by simp;omega) (l.flatMap bN)
  exact this.imp (by intro a b h;simpa using h)
 obtain⟨a1,a2⟩:=lY hs (fun s h=>np s (hp.mem_iff.1 h))
 obtain⟨b1,b2⟩:=lY hq (fun s h=>np s ((List.mergeSort_perm _ _).mem_iff.1 h))
 refine j8 a1 b1 fun x=>?_
 rw[a2 x,show inS (aZ l) x↔_ from b2 x]
 exact xl (hp.trans (List.mergeSort_perm _ _).symm) x
theorem n7 (s:am):(bN s).length≤2:=by
 simp only[bN,List.length_append]
 split<;>split<;>simp
theorem oT (l:List am):fi (l.map fun s=>(s.lo,s.hi))=l.flatMap am.av:=by
 simp only[fi,List.flatMap_map];rfl
def mJ (out:List am)(s:am):List am:=match out.getLast? with
 | some a=>if s.lo≤a.hi+1 then out.set (out.length-1) ⟨a.lo,max a.hi s.hi⟩ else out++[s]
 | none=>[s]
theorem Ce (r:List am)(s:am):mJ r.reverse s=(eo r s).reverse:=by
 cases r with
 | nil=>rfl
 | cons a r =>
  simp only[mJ,eo,List.reverse_cons,List.getLast?_append,List.getLast?_singleton,Option.some_or]
  split
  ·simp
  ·simp
theorem rm {Φ:Lib}(S:eG Φ){h:aa}{v:AV}{all:List am}(hrow:aA h v 2 all.length (all.flatMap am.av))(hp2:all.length≤2097152):aU Φ 48 [v,.fn 49 []] h (fun _ h2=>∃ p:List am,p.Perm all∧p.Pairwise (fun a b=>a.lo≤b.lo)∧aA h2 v 2 p.length (p.flatMap am.av)):=by
 refine aU.ext rfl S.spans ?_
 rcases hrow with⟨rfl,h1,h2⟩|⟨id,g,rfl,h2,h3,h4⟩
 ·have:all=[]:=List.eq_nil_of_length_eq_zero h1
  subst this
  exact⟨rfl,rfl,rfl,rfl,[],List.Perm.refl _,List.Pairwise.nil,aA.nil _ _⟩
 ·refine⟨rfl,rfl,all.flatMap am.av,all.map fun s=>(s.lo,s.hi),h2,rfl,by omega,by omega,by rw[oT,Nat.zero_mul,List.drop_zero,← h4,List.take_length],fun l' hq hr=>?_⟩
  refine⟨l'.map fun x=>⟨x.1,x.2⟩,?_,?_,.inr ⟨id,g,?_,?_,h3,?_⟩⟩
  ·have h5:=hq.map (fun x:Int×Int=>am.mk x.1 x.2)
   have e:(all.map fun s=>(s.lo,s.hi)).map (fun x:Int×Int=>am.mk x.1 x.2)=all:=by
    rw[List.map_map];exact List.map_id _
   rwa [e]at h5
  ·rw[List.pairwise_map]
   exact hr
  ·have:=hq.length_eq
   simp at this
   simp[this]
  ·rw[aa.get_set_self]
   have e1:fi l'=(l'.map fun x=>am.mk x.1 x.2).flatMap am.av:=by
    rw[← oT,List.map_map]
    congr 1
    exact(List.map_id _).symm
   rw[← e1,Nat.zero_mul,List.take_zero,List.nil_append,Nat.zero_add,← h4,List.drop_length,List.append_nil]
  ·exact iS am.av 2 am.av_length (l'.map fun x=>⟨x.1,x.2⟩)
theorem qF {Φ:Lib}(L:gC Φ)(S:eG Φ)(l:List am)(hl:l.length≤1048576)(fl:Bool):ia Φ 38 [.rd l.length (l.flatMap am.av) fl] (.rd (aZ l).length ((aZ l).flatMap am.av) false):=by
 refine bb (fun _=>false) rfl L.f38 ?_
 repeat' first|apply ad|(apply gw;first|(apply gq0;first|refine aw rfl ?_|refine bm rfl ?_)|refine aD rfl ?_)|(apply gx;first|apply af|refine ae rfl ?_|apply au)|apply ac
 have hp:∀ (k:List am),k.length≤l.length→(k.flatMap bN).length≤2097152:=fun k hk=>by
  have:∀ k:List am,(k.flatMap bN).length≤2*k.length:=fun k=>by
   induction k with
   | nil=>simp
   | cons a k ih=>have:=n7 a;simp only[List.flatMap_cons,List.length_append,List.length_cons];omega
  have:=this k
  omega
 refine ic (fun n env h'=>∃ (i:Nat) (v:AV),n=l.length-i∧i≤l.length∧aA h' v 2 ((l.take i).flatMap bN).length (((l.take i).flatMap bN).flatMap am.av)∧env.has [(3,v),(4,.rd 0 [] true),(10,.rd l.length (l.flatMap am.av) fl),(11,.int .i64 l.length),(12,.int .i64 i)]) l.length ⟨0,_,rfl,by omega,aA.nil _ _,rfl,rfl,rfl,rfl,rfl,trivial⟩ ?_
 rintro n env h' ⟨i,v,rfl,hi,hrow,he⟩
 obtain⟨env,rfl⟩:=he.ex
 clear he
 have hnt:=hrow.notTup
 by_cases hi2:i<l.length
 ·obtain⟨a,ha⟩:∃ a,l[i]?=some a:=⟨_,List.getElem?_eq_getElem hi2⟩
  repeat' first|apply ad|(apply gw;first|refine ai rv_ ?_|(apply gq2;first|refine iH rfl (by first|rfl|(simp[*];done)|fail) ?_|refine ak rfl hg_ HU b_ pv_ ?_)|(refine aB rfl rfl rfl ?_ ?_<;>(intro hc;try omega))|refine lg rfl fl_ rfl rfl (by assumption) rfl ?_|refine aL rfl nt_ ?_|(refine cd ?_;intro id hid;try simp only[aa.set_none]at hid)|refine cy (cs':=[AV.int _ _,AV.int _ _]) rfl rfl rfl rfl b_ rfl ?_)|(apply gx;first|apply af|refine ae rfl ?_|apply ay|apply au|refine al rfl ?_)|apply ac
  refine bu (BV L a) rfl rfl ?_
  repeat' first|refine aL rfl nt_ ?_
  have hrow2:aA (h'.set id (.cells 0 [.int .i64 a.lo,.int .i64 a.hi])) v 2 ((l.take i).flatMap bN).length (((l.take i).flatMap bN).flatMap am.av):=hrow.keep fun k hk=>aa.get_set_ne _ _ (fun e=>hrow.disj hid (e ▸ hk))
  refine bS (vV L (wX L a) hrow2 (by have:=hp (l.take i) (by simp;omega);have:=n7 a;omega)) ?_
  intro v' h2 hrow3
  repeat' first|apply ad|(apply gw;first|(apply gq0;first|refine aw rfl ?_|refine ai rv_ ?_)|refine a8 rfl rfl rfl HT HT ?_)|refine ae rfl ?_|apply ac|apply aJ
  refine fo (l.length-(i+1)) HT ⟨i+1,v',rfl,by omega,?_,rfl,rfl,rfl,rfl,rfl,trivial⟩
  have e:(l.take (i+1)).flatMap bN=(l.take i).flatMap bN++bN a:=by
   rw[List.take_add_one,ha]
   simp
  rw[e,List.length_append,List.flatMap_append]
  exact hrow3
 ·repeat' first|apply ad|(apply gw;first|refine ai rv_ ?_|(refine aB rfl rfl rfl ?_ ?_<;>(intro hc;try omega))|refine aL rfl nt_ ?_)|(apply gx;first|apply af|refine ae rfl ?_|apply aP|refine ah rfl ?_)|apply ac|apply aQ|apply aR|apply ba
  rw[List.take_of_length_le HT]at hrow
  have hp2:=hp l (Nat.le_refl _)
  generalize he:l.flatMap bN=all at hrow hp2
  refine bS (rm S hrow hp2) ?_
  rintro _ h2 ⟨p,hperm,hsort,hrow2⟩
  have hlen:p.length=all.length:=hperm.length_eq
  have hbd:∀ s∈p,0≤s.hi∧s.hi≤1114111:=fun s hs=>by
   have h1:s∈l.flatMap bN:=he ▸ hperm.mem_iff.1 hs
   have:=BW s h1
   exact this
  clear hrow
  repeat' first|apply ad|(apply gw;first|(apply gq0;first|refine aw rfl ?_|refine ai rv_ ?_)|refine eP rv_ (by assumption) ?_)|(apply gx;first|apply af|refine ae rfl ?_|apply ay|apply au)|apply ac
  refine cl p.length (fun i env h'=>∃ vo out,out=((p.take i).foldl eo []).reverse∧out.length≤i∧(∀ s∈out,0≤s.hi∧s.hi≤1114111)∧aA h' v 2 p.length (p.flatMap am.av)∧aA h' vo 2 out.length (out.flatMap am.av)∧(∀ k,v.rowId=some k→vo.rowId≠some k)∧env.has [(4,vo),(23,v),(24,.int .i64 p.length),(25,.int .i64 i)]) ⟨_,[],rfl,by simp,by simp,hrow2,aA.nil _ _,(fun _ _=>by simp[AV.rowId]),hh_⟩ ?_
  rintro i env h' hi ⟨vo,out,hout,hol,hob,hrv,hro,hdis,he'⟩
  obtain⟨env,rfl⟩:=he'.ex
  clear he' hrow2
  have hp':∀ {id:Nat} {o:gB} {h2:aa},h'.get id=none→(∀ k,(h'.set id o).get k≠none→vo.rowId≠some k→h2.get k=(h'.set id o).get k)→aA h2 v 2 p.length (p.flatMap am.av):=fun hid hk =>
   (hrv.new hid).keep fun k hk'=>hk k ((hrv.new hid).there hk') (hdis k hk')
  have hq:∀ {id:Nat} {o:gB} {va:AV},h'.get id=none→(∀ k,va.rowId=some k→vo.rowId=some k∨(h'.set id o).get k=none)→∀ k,v.rowId=some k→va.rowId≠some k:=fun hid hk k hk1 hk2=>by
   rcases hk k hk2 with h|h
   ·exact hdis k hk1 h
   ·exact(hrv.new hid).there hk1 h
  by_cases hi2:i<p.length
  ·obtain⟨a,ha⟩:=aK hi2
   have hab:=hbd a (List.mem_of_getElem? ha)
   have hnext:((p.take (i+1)).foldl eo []).reverse=mJ out a:=by
    rw[aX ha,List.foldl_append,hout,Ce]
    rfl
   rcases hb:out[out.length-1]? with _|b
   ·have h0:out=[]:=by
     rw[List.getElem?_eq_none_iff]at hb
     exact List.eq_nil_of_length_eq_zero HT
    have h00:out.length=0:=by rw[h0];rfl
    repeat' first|apply ad|(apply gw;first|(apply gq0;first|refine aw rfl ?_|refine bV rfl ?_|refine ai rv_ ?_)|refine cI rfl ?_|(apply gq2;first|refine iX (g:=_) rfl hg_ (by assumption) fl_ eq_ ?_|refine ak rfl hg_ HU b_ pv_ ?_)|(apply gq3;first|refine a8 rfl rfl rfl HT HT ?_|((first|refine aB rfl rfl rfl ?_ ?_|refine dS rfl rfl rfl ?_ ?_)<;>(intro hc;try omega)))|(refine cM rv_ (by assumption) rfl HT HT ?_;intro ir gr hvr hgr hgp;have hner:=aa.ne_of hgr;have hner2:=aa.ne_of2 hgr)|refine eP rv_ (by assumption) ?_|refine bh rfl rfl ?_|(refine cd ?_;intro id hid;try simp only[aa.set_none]at hid)|refine cy (cs':=[AV.int _ _,AV.int _ _]) rfl rfl rfl rfl b_ rfl ?_|(refine br (m:=1) rv_ ir_ rfl rfl HT ?_;intro va hpa hra hka hria)|refine bF (cs:=[AV.int _ _,AV.int _ _]) rfl rfl ?_)|(apply gx;first|apply af|refine ae rfl ?_|apply ay|apply au|refine al rfl ?_|refine ah rfl ?_)|apply ac|apply aJ
    have hnew:=hp' hid hka
    refine aW hi2 ⟨va,out++[a],?_,by simp;omega,?_,?_,by simpa[am.av] using hra,?_,hh_⟩
    ·rw[hnext,h0];rfl
    ·intro s hs
     rcases List.mem_append.1 hs with hs|hs
     ·exact hob s hs
     ·simp only[List.mem_singleton]at hs
      subst hs;exact hab
    ·exact hnew
    ·exact hq hid hria
   ·have hbb:=hob b (List.mem_of_getElem? hb)
    have hol2:=lt_of_getElem? hb
    have hlast:out.getLast?=some b:=by rw[List.getLast?_eq_getElem?,hb]
    repeat' first|apply ad|(apply gw;first|(apply gq0;first|refine aw rfl ?_|refine bV rfl ?_|refine ai rv_ ?_)|refine cD rfl ?_|(apply gq2;first|refine iX (g:=_) rfl hg_ (by assumption) fl_ eq_ ?_|refine sP (e:=2) (j:=1) (g:=_) rfl hg_ (by assumption) fl_ eq_ (by decide) rfl ?_|refine ak rfl hg_ HU b_ pv_ ?_)|(apply gq3;first|refine a8 rfl rfl rfl HT HT ?_|refine iq rfl rfl rfl HT HT ?_|((first|refine aB rfl rfl rfl ?_ ?_|refine kj rfl rfl rfl ?_ ?_|refine dS rfl rfl rfl ?_ ?_)<;>(intro hc;try omega)))|(apply gq4;first|refine aq rfl (Nat.zero_add _) ?_|refine aq rfl rfl ?_)|(refine cM rv_ (by assumption) rfl HT HT ?_;intro ir gr hvr hgr hgp;have hner:=aa.ne_of hgr;have hner2:=aa.ne_of2 hgr)|refine eP rv_ (by assumption) ?_|refine bU rfl rfl ?_|(refine cd ?_;intro id hid;try simp only[aa.set_none]at hid)|refine cy (cs':=[AV.int _ _,AV.int _ _]) rfl rfl rfl rfl b_ rfl ?_|(refine br (m:=1) rv_ ir_ rfl rfl HT ?_;intro va hpa hra hka hria)|refine bF (cs:=[AV.int _ _,AV.int _ _]) rfl rfl ?_|refine C0 rfl rfl rfl ?_)|(apply gx;first|apply af|refine ae rfl ?_|apply ay|apply au|refine al rfl ?_|refine ah rfl ?_)|apply ac|apply aJ
    ·refine rc (e:=2) (j:=1) (a':=⟨b.lo,max b.hi a.hi⟩) rfl rfl hg_ hb am.av_length HT (by decide) rfl rfl rfl ?_
     repeat' first|apply ad|(apply gw;first|refine aw rfl ?_|refine a8 rfl rfl rfl HT HT ?_)|(apply gx;first|refine ae rfl ?_|apply aP)|apply ac|apply aQ|apply aR
     have hvir:v.rowId≠some ir:=fun e=>hdis _ e (by rw[hvr];rfl)
     have hvid:v.rowId≠some id:=hrv.disj hid
     refine aW hi2 ⟨vo,mJ out a,hnext.symm,?_,?_,?_,?_,hdis,hh_⟩
     ·simp only[mJ,hlast]
      rw[if_pos HT]
      simp;omega
     ·intro s hs
      simp only[mJ,hlast]at hs
      rw[if_pos HT]at hs
      rcases List.mem_or_eq_of_mem_set hs with hs|rfl
      ·exact hob s hs
      ·show 0≤max b.hi a.hi∧max b.hi a.hi≤1114111
       omega
     ·exact(hrv.set_ne hvid).set_ne hvir
     ·simp only[mJ,hlast]
      rw[if_pos HT,List.length_set]
      exact aA.set_row hvr hgp (by rw[iS am.av 2 am.av_length,List.length_set])
    ·have hnew:=hp' hid hka
     refine aW hi2 ⟨va,out++[a],?_,by simp;omega,?_,?_,by simpa[am.av] using hra,?_,hh_⟩
     ·rw[hnext]
      simp only[mJ,hlast]
      rw[if_neg HT]
     ·intro s hs
      rcases List.mem_append.1 hs with hs|hs
      ·exact hob s hs
      ·simp only[List.mem_singleton]at hs
       subst hs;exact hab
     ·exact hnew
     ·exact hq hid hria
  ·repeat' first|apply ad|(apply gw;first|refine ai rv_ ?_|(refine aB rfl rfl rfl ?_ ?_<;>(intro hc;try omega)))|(apply gx;first|apply af|refine ae rfl ?_|apply aM|apply aP|refine ah rfl ?_)|apply ac|apply aQ|apply aR|apply ba
   rw[List.take_of_length_le HT]at hout
   refine fA (fun k=>vo.rowId=some k) rfl (hro.fz _ (fun _ h=>h) (FzL.same _)) ?_
   rw[← Dz (he ▸ hperm) hsort,mI,← hout]
end
section
open Go
def eI (x:Int):Bool:=decide (0≤x)&&decide (x≤1114111)&&(decide (x<55296)||decide (57343<x))
theorem er {x:Int}:eI x=true↔0≤x∧x≤1114111∧(x<55296∨57343<x):=by
 simp[eI,and_assoc]
def yT (l:List am)(x:Int):Bool:=eI x&&l.any fun s=>decide (s.lo≤x)&&decide (x≤s.hi)
section
variable {e:List Int} (hr:e.Pairwise (·<·)) (hs:∀ y∈e,eI y=true) (h0:(0:Int)∈e) (h1:(57344:Int)∈e)
include hr
include hs
include h0 h1
end
theorem yR {l:List am}{x:Int}:inS (l.flatMap bN) x↔yT l x=true:=by
 simp only[inS,yT,Bool.and_eq_true,List.any_eq_true,decide_eq_true_eq,er,List.mem_flatMap]
 constructor
 ·rintro⟨s,⟨a,ha,hs⟩,h1,h2⟩
  simp only[bN,List.mem_append]at hs
  rcases hs with hs|hs
  ·split at hs
   ·simp only[List.mem_singleton]at hs
    subst hs
    simp only[kU]at h1 h2
    exact⟨by omega,a,ha,by omega,by omega⟩
   ·cases hs
  ·split at hs
   ·simp only[List.mem_singleton]at hs
    subst hs
    simp only[iI]at h1 h2
    exact⟨by omega,a,ha,by omega,by omega⟩
   ·cases hs
 ·rintro⟨h,a,ha,h1,h2⟩
  by_cases hx:x<55296
  ·refine⟨kU a,⟨a,ha,?_⟩,by simp only[kU];omega,by simp only[kU];omega⟩
   simp only[bN,List.mem_append]
   left
   rw[if_pos (by simp only[kU];omega)]
   simp
  ·refine⟨iI a,⟨a,ha,?_⟩,by simp only[iI];omega,by simp only[iI];omega⟩
   simp only[bN,List.mem_append]
   right
   rw[if_pos (by simp only[iI];omega)]
   simp
theorem jb (l:List am):ld (aZ l)∧∀ x,inS (aZ l) x↔yT l x=true:=by
 have hq:((l.flatMap bN).mergeSort (fun a b=>decide (a.lo≤b.lo))).Pairwise (fun a b=>a.lo≤b.lo):=by
  have:=List.pairwise_mergeSort (le:=fun a b:am=>decide (a.lo≤b.lo)) (fun a b c h1 h2=>by simp at *;omega) (fun a b=>by simp;omega) (l.flatMap bN)
  exact this.imp (by intro a b h;simpa using h)
 obtain⟨b1,b2⟩:=lY hq (fun s h=>np s ((List.mergeSort_perm _ _).mem_iff.1 h))
 refine⟨b1,fun x=>?_⟩
 rw[show inS (aZ l) x↔_ from b2 x,xl (List.mergeSort_perm _ _),yR]
end
end Go.Proofs.YtlnobeojgifojaaGreatDoor
