/- set.Has, and slices.IndexFunc, ContainsFunc. -/
import Derived.Test.YtlnobeojgifojaaGreatDoorC
import Derived.Test.YtlnobeojgifojaaGreatDoorB2
import Derived.Test.YtlnobeojgifojaaGreatDoorA7
set_option linter.unusedVariables false
set_option linter.unusedSimpArgs false
set_option linter.unusedSectionVars false
namespace Go.Proofs.YtlnobeojgifojaaGreatDoor
section
open Go
set_option maxHeartbeats 4000000
attribute [local irreducible] az bf bm de bz cw dH bJ wop cz bc
structure aj where
 lo:Int
 hi:Int
 deriving DecidableEq
def aj.av (s:aj):List AV:=[.int .i64 s.lo,.int .i64 s.hi]
@[simp] theorem aj.av_length (s:aj):s.av.length=2:=rfl
def yl (o:Option Nat):Int:=match o with
 | some i=>i
 | none => -1
end
section
open Go
set_option maxHeartbeats 4000000
attribute [local irreducible] az bf bm de bz cw dH bJ wop cz bc
theorem EY {Φ:Lib}(L:il Φ)(s:aj):eQ Φ 47 [.agg s.av] (.fn 59 [.rp s.av]):=by
 refine ba (fun _=>false) rfl L.f47 ?_
 repeat' first|apply ac|(apply gw;first|(apply gq0;first|refine au (v:=AV.fn _ _) rfl ?_|refine au (v:=AV.nilf) rfl ?_)|(refine gQ (v:=AV.agg _) rfl rfl ?_;intro id hid;try simp only[ad.set_none]at hid)|refine qC (vs:=[AV.ptr _ _ _]) rfl rfl ?_)|(apply gx;first|apply af|refine ae rfl ?_|apply aM)|apply aa
 exact fP (fun _=>True) rfl (.fn (.cons (.ptr trivial (ad.get_set_self _ _ _) Lm (FzL.same _)) .nil)) rfl
def my (s:aj):aj:=⟨max s.lo 0,min s.hi 55295⟩
def jR (s:aj):aj:=⟨max s.lo 57344,min s.hi 1114111⟩
def bW (s:aj):List aj:=(if (my s).lo≤(my s).hi then [my s] else [])++(if (jR s).lo≤(jR s).hi then [jR s] else [])
def eJ (s:aj)(i:Nat):List aj:=match i with
 | 0=>[]
 | 1=>if (my s).lo≤(my s).hi then [my s] else []
 | _=>bW s
theorem zC {Φ:Lib}(L:il Φ)(s:aj):Ja Φ 59 [.rp s.av] ((bW s).map fun p=>[.agg p.av]):=by
 intro y J hst hth hr D h hJ
 refine ba (fun _=>false) rfl L.f59 ?_
 repeat' first|apply ac|(apply gw;first|refine aq rfl ?_|(apply gq2;first|refine aB rfl b_ pv_ ?_|refine am rfl hg_ Lm b_ pv_ ?_)|refine jQ rfl Lm rfl ?_|(refine bV ?_;intro id hid;try simp only[ad.set_none]at hid)|refine cC (cs':=[AV.int _ _,AV.int _ _]) rfl rfl rfl rfl b_ rfl ?_|(apply KN;first|refine cO (cs:=[AV.int _ _,AV.int _ _]) rfl ?_|refine cO (cs:=[AV.int _ _,AV.int _ _,AV.int _ _,AV.int _ _]) rfl ?_)|refine y9 rfl rfl rfl ?_|refine F9 rfl rfl rfl ?_)|(apply gx;first|apply af|refine ae rfl ?_|apply al)|apply aa
 have hnew:∀ {i:Nat} {D:Nat→Prop} {h:ad} {id:Nat} {o:iQ},J i D h→h.get id=none→J i D (h.set id o):=fun hj hn=>hst _ _ _ _ hj fun k hk=>ad.get_set_ne _ _ (fun e=>hth _ _ _ hj k hk (e ▸ hn))
 have hJ2:=hnew (o := .cells 0 [.int .i64 (max s.lo 57344),.int .i64 (min s.hi 1114111)]) (hnew (o := .cells 0 [.int .i64 (max s.lo 0),.int .i64 (min s.hi 55295)]) hJ ‹h.get _=none›) (ad.set_none.2 hid)
 refine gL (fun n env h'=>∃ i:Nat,n=2-i∧i≤2∧(∃ D',J (eJ s i).length D' h')∧env.has [(24,.int .i64 i),(23,.agg ((my s).av++(jR s).av)),(0,.yield y)]) 2 ⟨0,rfl,by omega,⟨_,hJ2⟩,rfl,rfl,rfl,trivial⟩ ?_
 rintro n env h' ⟨i,rfl,hi,⟨D',hJ'⟩,he⟩
 obtain⟨env,rfl⟩:=he.ex
 clear he hJ hJ2
 have h3:i=0∨i=1∨i=2:=by omega
 rcases h3 with rfl|rfl|rfl
 ·repeat' first|apply ac|(apply gw;first|(apply gq0;first|refine aq rfl ?_|refine bl rfl ?_|refine au rv_ ?_)|(apply gq1;first|refine cf rfl ?_|refine cj rfl ?_)|refine am rfl hg_ Lm b_ pv_ ?_|(apply gq3;first|refine aT rfl rfl rfl Ll Ll ?_|((first|refine aA rfl rfl rfl ?_ ?_|refine kD rfl rfl rfl ?_ ?_)<;>(intro hc;try omega)))|refine ar rfl (Nat.zero_add _) ?_|refine bb rfl rfl ?_|refine tF rfl rfl nt_ ?_|(refine bV ?_;intro id hid;try simp only[ad.set_none]at hid)|refine cC (cs':=[AV.int _ _,AV.int _ _]) rfl rfl rfl rfl b_ rfl ?_|refine wn (v:=AV.agg _) rfl rfl Ll Ll (by first|rfl|(simp;done)|(simp;omega)) rfl ?_)|(apply gx;first|apply af|refine ae rfl ?_|apply ay|apply al|refine ak rfl ?_|refine ai rfl ?_)|apply aa|apply aI
  ·refine ci (hr 0 _ (by simp[bW,hc];rfl) D' _ (hnew hJ' hid)) ?_
   rintro _ h2 ⟨rfl,_,D2,hJ3,_⟩
   repeat' first|apply ac|(apply gw;first|refine aq rfl ?_|refine cj rfl ?_|refine aT rfl rfl rfl Ll Ll ?_|refine bi rfl rfl ?_|refine dh (b:=true) rfl ?_)|(apply gx;first|refine ae rfl ?_|apply ay|refine ai rfl ?_)|apply aa|apply aI
   exact fp 1 Ll ⟨1,rfl,by omega,⟨D2,by simpa[eJ,hc] using hJ3⟩,rfl,rfl,rfl,trivial⟩
  ·exact fp 1 Ll ⟨1,rfl,by omega,⟨D',by simpa[eJ,hc] using hnew hJ' hid⟩,rfl,rfl,rfl,trivial⟩
 ·have hp:bW s=eJ s 1++(if (jR s).lo≤(jR s).hi then [jR s] else []):=rfl
  repeat' first|apply ac|(apply gw;first|(apply gq0;first|refine aq rfl ?_|refine bl rfl ?_|refine au rv_ ?_)|(apply gq1;first|refine cf rfl ?_|refine cj rfl ?_)|refine am rfl hg_ Lm b_ pv_ ?_|(apply gq3;first|refine aT rfl rfl rfl Ll Ll ?_|((first|refine aA rfl rfl rfl ?_ ?_|refine kD rfl rfl rfl ?_ ?_)<;>(intro hc;try omega)))|refine ar rfl (Nat.zero_add _) ?_|refine bb rfl rfl ?_|refine tF rfl rfl nt_ ?_|(refine bV ?_;intro id hid;try simp only[ad.set_none]at hid)|refine cC (cs':=[AV.int _ _,AV.int _ _]) rfl rfl rfl rfl b_ rfl ?_|refine wn (v:=AV.agg _) rfl rfl Ll Ll (by first|rfl|(simp;done)|(simp;omega)) rfl ?_)|(apply gx;first|apply af|refine ae rfl ?_|apply ay|apply al|refine ak rfl ?_|refine ai rfl ?_)|apply aa|apply aI
  ·refine ci (hr (eJ s 1).length [.agg (jR s).av] (by rw[hp,List.getElem?_map,List.getElem?_append_right (Nat.le_refl _)];simp[hc]) D' _ (hnew hJ' hid)) ?_
   rintro _ h2 ⟨rfl,_,D2,hJ3,_⟩
   repeat' first|apply ac|(apply gw;first|refine aq rfl ?_|refine cj rfl ?_|refine aT rfl rfl rfl Ll Ll ?_|refine bi rfl rfl ?_|refine dh (b:=true) rfl ?_)|(apply gx;first|refine ae rfl ?_|apply ay|refine ai rfl ?_)|apply aa|apply aI
   exact fp 0 Ll ⟨2,rfl,by omega,⟨D2,by rw[show(eJ s 2).length=(eJ s 1).length+1 by simp[eJ,hp,hc]];exact hJ3⟩,rfl,rfl,rfl,trivial⟩
  ·exact fp 0 Ll ⟨2,rfl,by omega,⟨D',by rw[show(eJ s 2).length=(eJ s 1).length by simp[eJ,hp,hc]];exact hnew hJ' hid⟩,rfl,rfl,rfl,trivial⟩
 ·repeat' first|apply ac|(refine aA rfl rfl rfl ?_ ?_<;>(intro hc;try omega))|(apply gx;first|apply af|refine ae rfl ?_|apply aN|refine ai rfl ?_)|apply aa|apply aO|apply aP|apply aX|refine nh (v:=AV.tup _) rfl ?_
  exact⟨D',by simpa[eJ] using hJ'⟩
end
section
open Go
set_option maxHeartbeats 4000000
theorem wj {Φ:Lib}{Z:Option Nat→Bool}{f:bA}{ps:List Nat}{a b:gk}{Q:Ex→Env→ad→Prop}{env:Env}{h:ad}(hw:bm (bc Φ) (.rangef f ps a b) Q env h):bf (bc Φ) Z (.rangef f ps a b) Q env h:=hw
attribute [local irreducible] az bf bm de bz cw dH bJ wop cz bc
theorem yC {Φ:Lib}(L:il Φ){g:Nat}{cap:List AV}{l:List aj}(hI:Ja Φ g cap (l.map fun p=>[.agg p.av])){h:ad}{v:AV}{n:Nat}{cs:List AV}(hrow:aD h v 2 n cs)(hlen:n+l.length≤4294967296) :
  bc Φ 46 [v,.fn g cap] h (fun v' h'=>aD h' v' 2 (n+l.length) (cs++l.flatMap aj.av)):=by
 refine ba (fun _=>false) rfl L.f46 ?_
 apply af
 refine ae rfl ?_
 refine gQ rfl hrow.isVal ?_
 intro id0 hid0
 repeat' first|apply ac|(apply gq0;first|refine aG rfl ?_|refine au (v:=AV.fn _ _) rfl ?_)|(apply gx;first|apply af|refine ae rfl ?_|apply al)|apply aa
 refine wj ?_
 have hidr:v.rowId≠some id0:=fun e=>hrow.there e hid0
 refine yT (xs:=l.map fun p=>[.agg p.av]) rfl hI (fun i D h'=>∃ vi,h'.get id0=some (.cells 0 [vi])∧aD h' vi 2 (n+i) (cs++(l.take i).flatMap aj.av)∧(∀ k,D k↔(k=id0∨vi.rowId=some k))∧vi.rowId≠some id0) ?_ ?_
  (D:=fun k=>k=id0∨v.rowId=some k) ⟨v,?_,?_,fun _=>Iff.rfl,hidr⟩ Lm ?_ ?_
 ·rintro i D h1 h2 ⟨vi,k1,k2,k3,k4⟩ hs
  exact⟨vi,(hs id0 ((k3 id0).2 (.inl rfl))).trans k1,k2.keep fun k hk=>hs k ((k3 k).2 (.inr hk)),k3,k4⟩
 ·rintro i D h1 ⟨vi,k1,k2,k3,k4⟩ k hk
  rcases (k3 k).1 hk with rfl|hk
  ·rw[k1];simp
  ·exact k2.there hk
 ·show(h.set id0 (.cells 0 v.cells)).get id0=_
  rw[hrow.cells];exact ad.get_set_self _ _ _
 ·simpa using hrow.keep fun k hk=>ad.get_set_ne _ _ (fun e=>hidr (by rw[hk,e]))
 ·intro i x hx y D h1 ⟨vi,k1,k2,k3,k4⟩ hyD hy0
  simp only[List.getElem?_map,Option.map_eq_some_iff]at hx
  obtain⟨p,hp,rfl⟩:=hx
  have hip:=(List.getElem?_eq_some_iff.1 hp).1
  refine Ic (fun _=>false) ?_
  repeat' first|apply ac|(apply gw;first|(refine bV ?_;intro id hid;try simp only[ad.set_none]at hid)|refine cC (cs':=[AV.int _ _,AV.int _ _]) rfl rfl rfl rfl b_ rfl ?_)|refine ae rfl ?_
  have hD0:D id0:=(k3 id0).2 (.inl rfl)
  have hyid:y≠id0:=by rintro rfl;exact hyD hD0
  have hy1:y≠id:=by rintro rfl;exact hy0 hid
  have h01:id0≠id:=by rintro rfl;rw[k1]at hid;cases hid
  refine⟨rfl,ad.get_set_ne _ _ hy1,fun o=>?_⟩
  have kd:∀ k,D k→k≠y∧k≠id:=fun k hk=>⟨by rintro rfl;exact hyD hk,by rintro rfl;exact(by
   rcases (k3 _).1 hk with rfl|hk
   ·exact h01 rfl
   ·exact k2.there hk hid)⟩
  have hrow2:aD ((h1.set id (.cells 0 [.int .i64 p.lo,.int .i64 p.hi])).set y o) vi 2 (n+i) (cs++(l.take i).flatMap aj.av):=k2.keep fun k hk=>by
   obtain⟨e1,e2⟩:=kd k ((k3 k).2 (.inr hk))
   rw[ad.get_set_ne _ _ e1,ad.get_set_ne _ _ e2]
  refine Ic (fun _=>false) ?_
  apply al
  refine ae rfl ?_
  refine am (v:=vi) rfl (by rw[ad.get_set_ne _ _ hyid.symm,ad.get_set_ne _ _ h01];exact k1) Lm Lm rfl ?_
  refine am (v:=AV.agg p.av) rfl (by rw[ad.get_set_ne _ _ hy1.symm];exact ad.get_set_self _ _ _) Lm Lm rfl ?_
  refine bj (cs:=p.av) rfl rfl ?_
  refine aY (m:=1) rfl hrow2 rfl rfl Ll ?_
  intro v' h' hr hk hrid
  have hgid:h'.get id0=some (.cells 0 [vi]):=by
   rw[hk id0 (by rw[ad.get_set_ne _ _ hyid.symm,ad.get_set_ne _ _ h01,k1];simp) k4,ad.get_set_ne _ _ hyid.symm,ad.get_set_ne _ _ h01,k1]
  refine bh (cs':=[v']) rfl rfl hgid hr.isVal (by rw[show ev _ _=v' from rfl,hr.cells];rfl) Lm (by rw[show ev _ _=v' from rfl,hr.cells];rfl) ?_
  repeat' first|apply ac|apply aI
  have hk:∀ k,((h1.set id (.cells 0 [.int .i64 p.lo,.int .i64 p.hi])).set y o).get k≠none→vi.rowId≠some k→h'.get k=((h1.set id (.cells 0 [.int .i64 p.lo,.int .i64 p.hi])).set y o).get k:=hk
  have hrid:∀ k,v'.rowId=some k→vi.rowId=some k∨((h1.set id (.cells 0 [.int .i64 p.lo,.int .i64 p.hi])).set y o).get k=none:=hrid
  have hv0:v'.rowId≠some id0:=fun e=>by
   rcases hrid id0 e with h2|h2
   ·exact k4 h2
   ·rw[ad.get_set_ne _ _ hyid.symm,ad.get_set_ne _ _ h01,k1]at h2
    cases h2
  refine⟨rfl,fun k hkD hkn hky=>?_,?_,fun k=>k=id0∨v'.rowId=some k,⟨v',ad.get_set_self _ _ _,?_,fun _=>Iff.rfl,hv0⟩,fun k hk'=>?_⟩
  ·have e0:k≠id0:=by rintro rfl;exact hkD hD0
   have e1:k≠id:=by rintro rfl;exact hkn hid
   have e2:((h1.set id (.cells 0 [.int .i64 p.lo,.int .i64 p.hi])).set y o).get k=h1.get k:=by rw[ad.get_set_ne _ _ hky,ad.get_set_ne _ _ e1]
   rw[ad.get_set_ne _ _ e0,hk k (by rw[e2];exact hkn) (fun e=>hkD ((k3 k).2 (.inr e))),e2]
  ·rw[ad.get_set_ne _ _ hyid,hk y (by rw[ad.get_set_self];simp) (fun e=>hyD ((k3 y).2 (.inr e))),ad.get_set_self]
  ·have e:cs++(l.take (i+1)).flatMap aj.av=cs++(l.take i).flatMap aj.av++p.av:=by
    rw[List.take_add_one,hp]
    simp[List.append_assoc]
   rw[e]
   exact hr.keep fun k hk=>ad.get_set_ne _ _ (fun e=>hv0 (by rw[hk,e]))
  ·rcases hk' with rfl|hk'
   ·exact .inl hD0
   ·rcases hrid k hk' with h2|h2
    ·exact .inl ((k3 k).2 (.inr h2))
    ·rw[ad.set_none,ad.set_none]at h2
     exact .inr h2.2.2
 ·rintro D h1 ⟨vi,k1,k2,k3,k4⟩
  simp only[List.length_map,List.take_length]at k2
  apply aI
  apply aa
  apply af
  refine ae rfl ?_
  refine am (v:=vi) rfl k1 Lm Lm rfl ?_
  refine au (v:=vi) rfl ?_
  repeat' first|apply ac|apply aM|apply aa
  exact aJ (v:=vi) rfl k2
end
section
open Go
def mi (l:List aj):Prop:=l.Pairwise (fun a b=>a.hi+1<b.lo)∧∀ s∈l,s.lo≤s.hi
def inS (l:List aj)(x:Int):Prop:=∃ s∈l,s.lo≤x∧x≤s.hi
theorem qm {a:aj}{l:List aj}(h:mi (a::l)):mi l:=⟨(List.pairwise_cons.1 h.1).2,fun s hs=>h.2 s (List.mem_cons_of_mem _ hs)⟩
theorem oO {a:aj}{l:List aj}(h:mi (a::l)){x:Int}(hx:inS l x):a.hi+1<x:=by
 obtain⟨s,hs,h1,h2⟩:=hx
 have:=(List.pairwise_cons.1 h.1).1 s hs
 omega
theorem kn:∀ {l m:List aj},mi l→mi m→(∀ x,inS l x↔inS m x)→l=m
 | [],[],_,_,_=>rfl
 | [],b::m,_,hm,h=>by
  have:=(h b.lo).2 ⟨b,by simp,by omega,hm.2 b Lm⟩
  obtain⟨s,hs,_⟩:=this
  cases hs
 | a::l,[],hl,_,h=>by
  have:=(h a.lo).1 ⟨a,by simp,by omega,hl.2 a Lm⟩
  obtain⟨s,hs,_⟩:=this
  cases hs
 | a::l,b::m,hl,hm,h=>by
  have ha:=hl.2 a Lm
  have hb:=hm.2 b Lm
  have low:∀ {c:aj} {k:List aj} {x:Int},mi (c::k)→inS (c::k) x→c.lo≤x:=fun hc hx=>by
   obtain⟨s,hs,h1,h2⟩:=hx
   rcases List.mem_cons.1 hs with rfl|hs
   ·exact h1
   ·have:=(List.pairwise_cons.1 hc.1).1 s hs
    have:=hc.2 _ (List.mem_cons_self ..)
    omega
  have e1:a.lo=b.lo:=by
   have h1:=low hm ((h a.lo).1 ⟨a,by simp,by omega,ha⟩)
   have h2:=low hl ((h b.lo).2 ⟨b,by simp,by omega,hb⟩)
   omega
  have notin:∀ {c:aj} {k:List aj},mi (c::k)→¬ inS (c::k) (c.hi+1):=fun hc hx=>by
   obtain⟨s,hs,h1,h2⟩:=hx
   rcases List.mem_cons.1 hs with rfl|hs
   ·omega
   ·have:=(List.pairwise_cons.1 hc.1).1 s hs
    omega
  have e2:a.hi=b.hi:=by
   rcases Int.lt_trichotomy a.hi b.hi with hlt|he|hgt
   ·exact absurd ((h (a.hi+1)).2 ⟨b,by simp,by omega,by omega⟩) (notin hl)
   ·exact he
   ·exact absurd ((h (b.hi+1)).1 ⟨a,by simp,by omega,by omega⟩) (notin hm)
  have eab:a=b:=by cases a;cases b;simp_all
  subst eab
  have rest:∀ x,inS l x↔inS m x:=fun x=>by
   constructor
   ·intro hx
    have hab:=oO hl hx
    obtain⟨s,hs,h1,h2⟩:=(h x).1 (by obtain⟨s,hs,h1⟩:=hx;exact⟨s,List.mem_cons_of_mem _ hs,h1⟩)
    rcases List.mem_cons.1 hs with rfl|hs
    ·omega
    ·exact⟨s,hs,h1,h2⟩
   ·intro hx
    have hab:=oO hm hx
    obtain⟨s,hs,h1,h2⟩:=(h x).2 (by obtain⟨s,hs,h1⟩:=hx;exact⟨s,List.mem_cons_of_mem _ hs,h1⟩)
    rcases List.mem_cons.1 hs with rfl|hs
    ·omega
    ·exact⟨s,hs,h1,h2⟩
  rw[kn (qm hl) (qm hm) rest]
def fw (r:List aj)(s:aj):List aj:=match r with
 | []=>[s]
 | a::r=>if s.lo≤a.hi+1 then⟨a.lo,max a.hi s.hi⟩::r else s::a::r
def qu (l:List aj):Prop:=l.Pairwise (fun a b=>b.hi+1<a.lo)∧∀ s∈l,s.lo≤s.hi
theorem Fd {r:List aj}{s:aj}(hr:qu r)(hs:s.lo≤s.hi)(hlo:∀ a∈r,a.lo≤s.lo):qu (fw r s)∧(∀ x,inS (fw r s) x↔inS r x∨(s.lo≤x∧x≤s.hi))∧∀ a∈fw r s,a.lo≤s.lo:=by
 cases r with
 | nil =>
  refine⟨⟨List.pairwise_singleton _ _,fun t ht=>by simp[fw]at ht;subst ht;exact hs⟩,fun x=>?_,fun a ha=>by simp[fw]at ha;subst ha;exact Int.le_refl _⟩
  simp[inS,fw]
 | cons a r =>
  have hp:=List.pairwise_cons.1 hr.1
  have ha:=hr.2 a Lm
  have hal:=hlo a Lm
  simp only[fw]
  split
  ·rename_i h
   refine⟨⟨List.pairwise_cons.2 ⟨fun b hb=>hp.1 b hb,hp.2⟩,fun t ht=>?_⟩,fun x=>?_,fun t ht=>?_⟩
   ·rcases List.mem_cons.1 ht with rfl|ht
    ·show a.lo≤max a.hi s.hi
     omega
    ·exact hr.2 t (List.mem_cons_of_mem _ ht)
   ·simp only[inS,List.mem_cons,exists_eq_or_imp]
    constructor
    ·rintro(⟨h1,h2⟩|h1)
     ·by_cases hx:x≤a.hi
      ·exact .inl (.inl ⟨h1,hx⟩)
      ·exact .inr ⟨by omega,by omega⟩
     ·exact .inl (.inr h1)
    ·rintro((⟨h1,h2⟩|h1)|⟨h1,h2⟩)
     ·exact .inl ⟨h1,by omega⟩
     ·exact .inr h1
     ·exact .inl ⟨by show a.lo≤x;omega,by omega⟩
   ·rcases List.mem_cons.1 ht with rfl|ht
    ·exact hal
    ·exact hlo t (List.mem_cons_of_mem _ ht)
  ·rename_i h
   refine⟨⟨List.pairwise_cons.2 ⟨fun b hb=>?_,hr.1⟩,fun t ht=>?_⟩,fun x=>?_,fun t ht=>?_⟩
   ·rcases List.mem_cons.1 hb with rfl|hb
    ·omega
    ·have:=hp.1 b hb
     have:=hr.2 b (List.mem_cons_of_mem _ hb)
     omega
   ·rcases List.mem_cons.1 ht with rfl|ht
    ·exact hs
    ·exact hr.2 t ht
   ·simp only[inS,List.mem_cons,exists_eq_or_imp]
    constructor
    ·rintro(h1|h1)
     ·exact .inr h1
     ·exact .inl h1
    ·rintro(h1|h1)
     ·exact .inr h1
     ·exact .inl h1
   ·rcases List.mem_cons.1 ht with rfl|ht
    ·exact Int.le_refl _
    ·exact hlo t ht
def ov (p:List aj):List aj:=(p.foldl fw []).reverse
theorem zN:∀ (p:List aj) (r:List aj),qu r→p.Pairwise (fun a b=>a.lo≤b.lo)→(∀ s∈p,s.lo≤s.hi)→(∀ s∈p,∀ a∈r,a.lo≤s.lo)→qu (p.foldl fw r)∧∀ x,inS (p.foldl fw r) x↔inS r x∨inS p x
 | [],r,hr,_,_,_=>⟨hr,fun x=>by simp[inS]⟩
 | s::p,r,hr,hp,hs,hlo=>by
  have hp':=List.pairwise_cons.1 hp
  obtain⟨k1,k2,k3⟩:=Fd hr (hs s Lm) (hlo s Lm)
  obtain⟨g1,g2⟩:=zN p (fw r s) k1 hp'.2 (fun t ht=>hs t (List.mem_cons_of_mem _ ht)) (fun t ht a ha=>Int.le_trans (k3 a ha) (hp'.1 t ht))
  refine⟨g1,fun x=>?_⟩
  rw[List.foldl_cons,g2 x,k2 x]
  simp only[inS,List.mem_cons,exists_eq_or_imp]
  constructor
  ·rintro((h|h)|h)
   ·exact .inl h
   ·exact .inr (.inl h)
   ·exact .inr (.inr h)
  ·rintro(h|h|h)
   ·exact .inl (.inl h)
   ·exact .inl (.inr h)
   ·exact .inr h
theorem nF {p:List aj}(hp:p.Pairwise (fun a b=>a.lo≤b.lo))(hs:∀ s∈p,s.lo≤s.hi):mi (ov p)∧∀ x,inS (ov p) x↔inS p x:=by
 obtain⟨h1,h2⟩:=zN p [] ⟨.nil,fun s h=>by cases h⟩ hp hs (fun s _ a h=>by cases h)
 refine⟨⟨List.pairwise_reverse.2 h1.1,fun s hs=>h1.2 s (List.mem_reverse.1 hs)⟩,fun x=>?_⟩
 have:=h2 x
 simp only[inS,ov,List.mem_reverse]at this ⊢
 rw[this]
 simp
end
section
open Go
set_option maxHeartbeats 4000000
attribute [local irreducible] az bf bm de bz cw dH bJ wop cz bc
structure fv (Φ:Lib):Prop where
 spans:Φ 48=some (.ext (ki 49))
 ints:Φ 42=some (.ext oG)
def bd (l:List aj):List aj:=ov ((l.flatMap bW).mergeSort (fun a b=>decide (a.lo≤b.lo)))
theorem pe {l:List aj}:∀ s∈l.flatMap bW,s.lo≤s.hi:=by
 intro s hs
 obtain⟨a,_,ha⟩:=List.mem_flatMap.1 hs
 simp only[bW,List.mem_append]at ha
 rcases ha with ha|ha<;>· split at ha<;>simp at ha<;>subst ha<;>assumption
theorem EZ {l:List aj}:∀ s∈l.flatMap bW,0≤s.hi∧s.hi≤1114111:=by
 intro s hs
 have:=pe s hs
 obtain⟨a,_,ha⟩:=List.mem_flatMap.1 hs
 simp only[bW,List.mem_append]at ha
 rcases ha with ha|ha<;>· split at ha<;>simp at ha<;>subst ha<;>simp only[my,jR]at *<;>omega
theorem z4 {l m:List aj}(h:l.Perm m)(x:Int):inS l x↔inS m x:=by
 simp only[inS,h.mem_iff]
theorem GS {l p:List aj}(hp:p.Perm (l.flatMap bW))(hs:p.Pairwise (fun a b=>a.lo≤b.lo)):ov p=bd l:=by
 have hq:((l.flatMap bW).mergeSort (fun a b=>decide (a.lo≤b.lo))).Pairwise (fun a b=>a.lo≤b.lo):=by
  have:=List.pairwise_mergeSort (le:=fun a b:aj=>decide (a.lo≤b.lo)) (fun a b c h1 h2=>by simp at *;omega) (fun a b=>by simp;omega) (l.flatMap bW)
  exact this.imp (by intro a b h;simpa using h)
 obtain⟨a1,a2⟩:=nF hs (fun s h=>pe s (hp.mem_iff.1 h))
 obtain⟨b1,b2⟩:=nF hq (fun s h=>pe s ((List.mergeSort_perm _ _).mem_iff.1 h))
 refine kn a1 b1 fun x=>?_
 rw[a2 x,show inS (bd l) x↔_ from b2 x]
 exact z4 (hp.trans (List.mergeSort_perm _ _).symm) x
theorem p7 (s:aj):(bW s).length≤2:=by
 simp only[bW,List.length_append]
 split<;>split<;>simp
theorem qO (l:List aj):gb (l.map fun s=>(s.lo,s.hi))=l.flatMap aj.av:=by
 simp only[gb,List.flatMap_map];rfl
def ow (out:List aj)(s:aj):List aj:=match out.getLast? with
 | some a=>if s.lo≤a.hi+1 then out.set (out.length-1) ⟨a.lo,max a.hi s.hi⟩ else out++[s]
 | none=>[s]
theorem Fe (r:List aj)(s:aj):ow r.reverse s=(fw r s).reverse:=by
 cases r with
 | nil=>rfl
 | cons a r =>
  simp only[ow,fw,List.reverse_cons,List.getLast?_append,List.getLast?_singleton,Option.some_or]
  split
  ·simp
  ·simp
theorem tJ {Φ:Lib}(S:fv Φ){h:ad}{v:AV}{all:List aj}(hrow:aD h v 2 all.length (all.flatMap aj.av))(hp2:all.length≤2097152):bc Φ 48 [v,.fn 49 []] h (fun _ h2=>∃ p:List aj,p.Perm all∧p.Pairwise (fun a b=>a.lo≤b.lo)∧aD h2 v 2 p.length (p.flatMap aj.av)):=by
 refine bc.ext rfl S.spans ?_
 rcases hrow with⟨rfl,h1,h2⟩|⟨id,g,rfl,h2,h3,h4⟩
 ·have:all=[]:=List.eq_nil_of_length_eq_zero h1
  subst this
  exact⟨rfl,rfl,rfl,rfl,[],List.Perm.refl _,List.Pairwise.nil,aD.nil _ _⟩
 ·refine⟨rfl,rfl,all.flatMap aj.av,all.map fun s=>(s.lo,s.hi),h2,rfl,by omega,by omega,by rw[qO,Nat.zero_mul,List.drop_zero,← h4,List.take_length],fun l' hq hr=>?_⟩
  refine⟨l'.map fun x=>⟨x.1,x.2⟩,?_,?_,.inr ⟨id,g,?_,?_,h3,?_⟩⟩
  ·have h5:=hq.map (fun x:Int×Int=>aj.mk x.1 x.2)
   have e:(all.map fun s=>(s.lo,s.hi)).map (fun x:Int×Int=>aj.mk x.1 x.2)=all:=by
    rw[List.map_map];exact List.map_id _
   rwa [e]at h5
  ·rw[List.pairwise_map]
   exact hr
  ·have:=hq.length_eq
   simp at this
   simp[this]
  ·rw[ad.get_set_self]
   have e1:gb l'=(l'.map fun x=>aj.mk x.1 x.2).flatMap aj.av:=by
    rw[← qO,List.map_map]
    congr 1
    exact(List.map_id _).symm
   rw[← e1,Nat.zero_mul,List.take_zero,List.nil_append,Nat.zero_add,← h4,List.drop_length,List.append_nil]
  ·exact jv aj.av 2 aj.av_length (l'.map fun x=>⟨x.1,x.2⟩)
theorem s8 {Φ:Lib}(L:il Φ)(S:fv Φ)(l:List aj)(hl:l.length≤1048576)(fl:Bool):eQ Φ 38 [.rd l.length (l.flatMap aj.av) fl] (.rd (bd l).length ((bd l).flatMap aj.av) false):=by
 refine ba (fun _=>false) rfl L.f38 ?_
 repeat' first|apply ac|(apply gw;first|(apply gq0;first|refine aq rfl ?_|refine aG rfl ?_)|refine aw rfl ?_)|(apply gx;first|apply af|refine ae rfl ?_|apply al)|apply aa
 have hp:∀ (k:List aj),k.length≤l.length→(k.flatMap bW).length≤2097152:=fun k hk=>by
  have:∀ k:List aj,(k.flatMap bW).length≤2*k.length:=fun k=>by
   induction k with
   | nil=>simp
   | cons a k ih=>have:=p7 a;simp only[List.flatMap_cons,List.length_append,List.length_cons];omega
  have:=this k
  omega
 refine gL (fun n env h'=>∃ (i:Nat) (v:AV),n=l.length-i∧i≤l.length∧aD h' v 2 ((l.take i).flatMap bW).length (((l.take i).flatMap bW).flatMap aj.av)∧env.has [(3,v),(4,.rd 0 [] true),(10,.rd l.length (l.flatMap aj.av) fl),(11,.int .i64 l.length),(12,.int .i64 i)]) l.length ⟨0,_,rfl,by omega,aD.nil _ _,rfl,rfl,rfl,rfl,rfl,trivial⟩ ?_
 rintro n env h' ⟨i,v,rfl,hi,hrow,he⟩
 obtain⟨env,rfl⟩:=he.ex
 clear he
 have hnt:=hrow.notTup
 by_cases hi2:i<l.length
 ·obtain⟨a,ha⟩:∃ a,l[i]?=some a:=⟨_,List.getElem?_eq_getElem hi2⟩
  repeat' first|apply ac|(apply gw;first|refine au rv_ ?_|(apply gq2;first|refine jl rfl (by first|rfl|(simp[*];done)|fail) ?_|refine am rfl hg_ Lm b_ pv_ ?_)|(refine aA rfl rfl rfl ?_ ?_<;>(intro hc;try omega))|refine iT rfl fl_ rfl rfl (by assumption) rfl ?_|refine aH rfl nt_ ?_|(refine bV ?_;intro id hid;try simp only[ad.set_none]at hid)|refine cC (cs':=[AV.int _ _,AV.int _ _]) rfl rfl rfl rfl b_ rfl ?_)|(apply gx;first|apply af|refine ae rfl ?_|apply ay|apply al|refine ak rfl ?_)|apply aa
  refine aW (EY L a) rfl rfl ?_
  repeat' first|refine aH rfl nt_ ?_
  have hrow2:aD (h'.set id (.cells 0 [.int .i64 a.lo,.int .i64 a.hi])) v 2 ((l.take i).flatMap bW).length (((l.take i).flatMap bW).flatMap aj.av):=hrow.keep fun k hk=>ad.get_set_ne _ _ (fun e=>hrow.disj hid (e ▸ hk))
  refine ci (yC L (zC L a) hrow2 (by have:=hp (l.take i) (by simp;omega);have:=p7 a;omega)) ?_
  intro v' h2 hrow3
  repeat' first|apply ac|(apply gw;first|(apply gq0;first|refine aq rfl ?_|refine au rv_ ?_)|refine aT rfl rfl rfl Ll Ll ?_)|refine ae rfl ?_|apply aa|apply aI
  refine fp (l.length-(i+1)) Ll ⟨i+1,v',rfl,by omega,?_,rfl,rfl,rfl,rfl,rfl,trivial⟩
  have e:(l.take (i+1)).flatMap bW=(l.take i).flatMap bW++bW a:=by
   rw[List.take_add_one,ha]
   simp
  rw[e,List.length_append,List.flatMap_append]
  exact hrow3
 ·repeat' first|apply ac|(apply gw;first|refine au rv_ ?_|(refine aA rfl rfl rfl ?_ ?_<;>(intro hc;try omega))|refine aH rfl nt_ ?_)|(apply gx;first|apply af|refine ae rfl ?_|apply aN|refine ai rfl ?_)|apply aa|apply aO|apply aP|apply aX
  rw[List.take_of_length_le Ll]at hrow
  have hp2:=hp l (Nat.le_refl _)
  generalize he:l.flatMap bW=all at hrow hp2
  refine ci (tJ S hrow hp2) ?_
  rintro _ h2 ⟨p,hperm,hsort,hrow2⟩
  have hlen:p.length=all.length:=hperm.length_eq
  have hbd:∀ s∈p,0≤s.hi∧s.hi≤1114111:=fun s hs=>by
   have h1:s∈l.flatMap bW:=he ▸ hperm.mem_iff.1 hs
   have:=EZ s h1
   exact this
  clear hrow
  repeat' first|apply ac|(apply gw;first|(apply gq0;first|refine aq rfl ?_|refine au rv_ ?_)|refine eR rv_ (by assumption) ?_)|(apply gx;first|apply af|refine ae rfl ?_|apply ay|apply al)|apply aa
  refine bD p.length (fun i env h'=>∃ vo out,out=((p.take i).foldl fw []).reverse∧out.length≤i∧(∀ s∈out,0≤s.hi∧s.hi≤1114111)∧aD h' v 2 p.length (p.flatMap aj.av)∧aD h' vo 2 out.length (out.flatMap aj.av)∧(∀ k,v.rowId=some k→vo.rowId≠some k)∧env.has [(4,vo),(23,v),(24,.int .i64 p.length),(25,.int .i64 i)]) ⟨_,[],rfl,by simp,by simp,hrow2,aD.nil _ _,(fun _ _=>by simp[AV.rowId]),hh_⟩ ?_
  rintro i env h' hi ⟨vo,out,hout,hol,hob,hrv,hro,hdis,he'⟩
  obtain⟨env,rfl⟩:=he'.ex
  clear he' hrow2
  have hp':∀ {id:Nat} {o:iQ} {h2:ad},h'.get id=none→(∀ k,(h'.set id o).get k≠none→vo.rowId≠some k→h2.get k=(h'.set id o).get k)→aD h2 v 2 p.length (p.flatMap aj.av):=fun hid hk =>
   (hrv.new hid).keep fun k hk'=>hk k ((hrv.new hid).there hk') (hdis k hk')
  have hq:∀ {id:Nat} {o:iQ} {va:AV},h'.get id=none→(∀ k,va.rowId=some k→vo.rowId=some k∨(h'.set id o).get k=none)→∀ k,v.rowId=some k→va.rowId≠some k:=fun hid hk k hk1 hk2=>by
   rcases hk k hk2 with h|h
   ·exact hdis k hk1 h
   ·exact(hrv.new hid).there hk1 h
  by_cases hi2:i<p.length
  ·obtain⟨a,ha⟩:=aK hi2
   have hab:=hbd a (List.mem_of_getElem? ha)
   have hnext:((p.take (i+1)).foldl fw []).reverse=ow out a:=by
    rw[aV ha,List.foldl_append,hout,Fe]
    rfl
   rcases hb:out[out.length-1]? with _|b
   ·have h0:out=[]:=by
     rw[List.getElem?_eq_none_iff]at hb
     exact List.eq_nil_of_length_eq_zero Ll
    have h00:out.length=0:=by rw[h0];rfl
    repeat' first|apply ac|(apply gw;first|(apply gq0;first|refine aq rfl ?_|refine bl rfl ?_|refine au rv_ ?_)|refine cf rfl ?_|(apply gq2;first|refine j6 (g:=_) rfl hg_ (by assumption) fl_ eq_ ?_|refine am rfl hg_ Lm b_ pv_ ?_)|(apply gq3;first|refine aT rfl rfl rfl Ll Ll ?_|((first|refine aA rfl rfl rfl ?_ ?_|refine cN rfl rfl rfl ?_ ?_)<;>(intro hc;try omega)))|(refine cY rv_ (by assumption) rfl Ll Ll ?_;intro ir gr hvr hgr hgp;have hner:=ad.ne_of hgr;have hner2:=ad.ne_of2 hgr)|refine eR rv_ (by assumption) ?_|refine bb rfl rfl ?_|(refine bV ?_;intro id hid;try simp only[ad.set_none]at hid)|refine cC (cs':=[AV.int _ _,AV.int _ _]) rfl rfl rfl rfl b_ rfl ?_|(refine aY (m:=1) rv_ ir_ rfl rfl Ll ?_;intro va hpa hra hka hria)|refine bj (cs:=[AV.int _ _,AV.int _ _]) rfl rfl ?_)|(apply gx;first|apply af|refine ae rfl ?_|apply ay|apply al|refine ak rfl ?_|refine ai rfl ?_)|apply aa|apply aI
    have hnew:=hp' hid hka
    refine aR hi2 ⟨va,out++[a],?_,by simp;omega,?_,?_,by simpa[aj.av] using hra,?_,hh_⟩
    ·rw[hnext,h0];rfl
    ·intro s hs
     rcases List.mem_append.1 hs with hs|hs
     ·exact hob s hs
     ·simp only[List.mem_singleton]at hs
      subst hs;exact hab
    ·exact hnew
    ·exact hq hid hria
   ·have hbb:=hob b (List.mem_of_getElem? hb)
    have hol2:=lt_of_getElem? hb
    have hlast:out.getLast?=some b:=by rw[List.getLast?_eq_getElem?,hb]
    repeat' first|apply ac|(apply gw;first|(apply gq0;first|refine aq rfl ?_|refine bl rfl ?_|refine au rv_ ?_)|refine cj rfl ?_|(apply gq2;first|refine j6 (g:=_) rfl hg_ (by assumption) fl_ eq_ ?_|refine pH (e:=2) (j:=1) (g:=_) rfl hg_ (by assumption) fl_ eq_ (by decide) rfl ?_|refine am rfl hg_ Lm b_ pv_ ?_)|(apply gq3;first|refine aT rfl rfl rfl Ll Ll ?_|refine jj rfl rfl rfl Ll Ll ?_|((first|refine aA rfl rfl rfl ?_ ?_|refine kD rfl rfl rfl ?_ ?_|refine cN rfl rfl rfl ?_ ?_)<;>(intro hc;try omega)))|(apply gq4;first|refine ar rfl (Nat.zero_add _) ?_|refine ar rfl rfl ?_)|(refine cY rv_ (by assumption) rfl Ll Ll ?_;intro ir gr hvr hgr hgp;have hner:=ad.ne_of hgr;have hner2:=ad.ne_of2 hgr)|refine eR rv_ (by assumption) ?_|refine bi rfl rfl ?_|(refine bV ?_;intro id hid;try simp only[ad.set_none]at hid)|refine cC (cs':=[AV.int _ _,AV.int _ _]) rfl rfl rfl rfl b_ rfl ?_|(refine aY (m:=1) rv_ ir_ rfl rfl Ll ?_;intro va hpa hra hka hria)|refine bj (cs:=[AV.int _ _,AV.int _ _]) rfl rfl ?_|refine y9 rfl rfl rfl ?_)|(apply gx;first|apply af|refine ae rfl ?_|apply ay|apply al|refine ak rfl ?_|refine ai rfl ?_)|apply aa|apply aI
    ·refine n8 (e:=2) (j:=1) (a':=⟨b.lo,max b.hi a.hi⟩) rfl rfl hg_ hb aj.av_length Ll (by decide) rfl rfl rfl ?_
     repeat' first|apply ac|(apply gw;first|refine aq rfl ?_|refine aT rfl rfl rfl Ll Ll ?_)|(apply gx;first|refine ae rfl ?_|apply aN)|apply aa|apply aO|apply aP
     have hvir:v.rowId≠some ir:=fun e=>hdis _ e (by rw[hvr];rfl)
     have hvid:v.rowId≠some id:=hrv.disj hid
     refine aR hi2 ⟨vo,ow out a,hnext.symm,?_,?_,?_,?_,hdis,hh_⟩
     ·simp only[ow,hlast]
      rw[if_pos Ll]
      simp;omega
     ·intro s hs
      simp only[ow,hlast]at hs
      rw[if_pos Ll]at hs
      rcases List.mem_or_eq_of_mem_set hs with hs|rfl
      ·exact hob s hs
      ·show 0≤max b.hi a.hi∧max b.hi a.hi≤1114111
       omega
     ·exact(hrv.set_ne hvid).set_ne hvir
     ·simp only[ow,hlast]
      rw[if_pos Ll,List.length_set]
      exact aD.set_row hvr hgp (by rw[jv aj.av 2 aj.av_length,List.length_set])
    ·have hnew:=hp' hid hka
     refine aR hi2 ⟨va,out++[a],?_,by simp;omega,?_,?_,by simpa[aj.av] using hra,?_,hh_⟩
     ·rw[hnext]
      simp only[ow,hlast]
      rw[if_neg Ll]
     ·intro s hs
      rcases List.mem_append.1 hs with hs|hs
      ·exact hob s hs
      ·simp only[List.mem_singleton]at hs
       subst hs;exact hab
     ·exact hnew
     ·exact hq hid hria
  ·repeat' first|apply ac|(apply gw;first|refine au rv_ ?_|(refine aA rfl rfl rfl ?_ ?_<;>(intro hc;try omega)))|(apply gx;first|apply af|refine ae rfl ?_|apply aM|apply aN|refine ai rfl ?_)|apply aa|apply aO|apply aP|apply aX
   rw[List.take_of_length_le Ll]at hout
   refine fP (fun k=>vo.rowId=some k) rfl (hro.fz _ (fun _ h=>h) (FzL.same _)) ?_
   rw[← GS (he ▸ hperm) hsort,ov,← hout]
end
section
open Go
def cv (x:Int):Bool:=decide (0≤x)&&decide (x≤1114111)&&(decide (x<55296)||decide (57343<x))
theorem cx {x:Int}:cv x=true↔0≤x∧x≤1114111∧(x<55296∨57343<x):=by
 simp[cv,and_assoc]
def iY (l:List aj)(x:Int):Bool:=cv x&&l.any fun s=>decide (s.lo≤x)&&decide (x≤s.hi)
def ko (l:List Int)(x:Int):List Int:=match l with
 | []=>[x]
 | a::l=>if a<x then a::ko l x else if a=x then a::l else x::a::l
theorem ox {l:List Int}{x y:Int}:y∈ko l x↔y=x∨y∈l:=by
 induction l with
 | nil=>simp[ko]
 | cons a l ih =>
  simp only[ko]
  split
  ·simp only[List.mem_cons,ih]
   constructor<;>(rintro(h|h|h)<;>simp[h])
  ·split
   ·rename_i h
    subst h
    simp
   ·simp
theorem nG {l:List Int}{x:Int}(hl:l.Pairwise (·<·)):(ko l x).Pairwise (·<·):=by
 induction l with
 | nil=>simp[ko]
 | cons a l ih =>
  have h:=List.pairwise_cons.1 hl
  simp only[ko]
  split
  ·refine List.pairwise_cons.2 ⟨fun b hb=>?_,ih h.2⟩
   rcases ox.1 hb with rfl|hb
   ·assumption
   ·exact h.1 b hb
  ·split
   ·exact hl
   ·refine List.pairwise_cons.2 ⟨fun b hb=>?_,hl⟩
    rcases List.mem_cons.1 hb with rfl|hb
    ·omega
    ·have:=h.1 b hb
     omega
theorem uq {x:Int}:∀ {a b:List Int},(∀ y∈a,y<x)→ko (a++b) x=a++ko b x
 | [],_,_=>rfl
 | c::a,b,h=>by
  rw[List.cons_append,ko,if_pos (h c Lm),uq (fun y hy=>h y (List.mem_cons_of_mem _ hy))]
  rfl
theorem IQ {l:List Int}{x:Int}{i:Nat}(h:∀ y∈l.take i,y<x):ko l x=l.take i++ko (l.drop i) x:=by
 rw[← uq h,List.take_append_drop]
theorem kZ (l:List Int)(x:Int):(ko l x).length≤l.length+1:=by
 induction l with
 | nil=>simp[ko]
 | cons a l ih =>
  simp only[ko]
  split
  ·simp;omega
  ·split<;>simp
def jw (out:List Int)(s:aj):List Int :=
 let o:=if cv s.lo=true then ko out s.lo else out
 if s.hi<1114111∧cv (s.hi+1)=true then ko o (s.hi+1) else o
def fd (l:List aj):List Int:=l.foldl jw [0,57344]
theorem BK {out:List Int}{s:aj}{y:Int}:y∈jw out s↔y∈out∨(cv s.lo=true∧y=s.lo)∨(s.hi<1114111∧cv (s.hi+1)=true∧y=s.hi+1):=by
 unfold jw
 by_cases h1:cv s.lo=true<;>by_cases h2:s.hi<1114111∧cv (s.hi+1)=true
 ·simp only[h1,h2,if_true,and_self,ox,true_and]
  constructor<;>(rintro(h|h|h)<;>simp[h])
 ·have h3:¬ (s.hi<1114111∧cv (s.hi+1)=true∧y=s.hi+1):=fun h=>h2 ⟨h.1,h.2.1⟩
  simp only[h1,h2,h3,if_true,if_false,ox,true_and,or_false]
  exact Or.comm
 ·simp only[h1,h2,if_true,and_self,ox,true_and]
  constructor<;>(rintro(h|h)<;>simp_all)
 ·have h3:¬ (s.hi<1114111∧cv (s.hi+1)=true∧y=s.hi+1):=fun h=>h2 ⟨h.1,h.2.1⟩
  simp[h1,h2,h3]
theorem yq {out:List Int}{s:aj}(h:out.Pairwise (·<·)):(jw out s).Pairwise (·<·):=by
 simp only[jw]
 split<;>split<;>first|exact nG (nG h)|exact nG h|exact h
theorem wY (l:List aj):∀ out:List Int,out.Pairwise (·<·)→(l.foldl jw out).Pairwise (·<·)∧∀ y,y∈l.foldl jw out↔y∈out∨∃ s∈l,(cv s.lo=true∧y=s.lo)∨(s.hi<1114111∧cv (s.hi+1)=true∧y=s.hi+1):=by
 induction l with
 | nil=>intro out h;exact⟨h,fun y=>by simp⟩
 | cons s l ih =>
  intro out h
  obtain⟨h1,h2⟩:=ih _ (yq h (s:=s))
  refine⟨h1,fun y=>?_⟩
  rw[List.foldl_cons,h2 y,BK]
  simp only[List.mem_cons,exists_eq_or_imp,or_assoc]
theorem rb (l:List aj):(fd l).Pairwise (·<·):=(wY l _ Lm).1
theorem mb {l:List aj}{y:Int}:y∈fd l↔(y=0∨y=57344)∨∃ s∈l,(cv s.lo=true∧y=s.lo)∨(s.hi<1114111∧cv (s.hi+1)=true∧y=s.hi+1):=by
 rw[fd,(wY l _ Lm).2 y]
 simp
def sameAt (a:List aj)(x y:Int):Prop:=∀ s∈a,(s.lo≤x∧x≤s.hi)↔(s.lo≤y∧y≤s.hi)
theorem wS {a:List aj}{x y:Int}(h:sameAt a x y)(hx:cv x=true)(hy:cv y=true):iY a x=iY a y:=by
 simp only[iY,hx,hy,Bool.true_and]
 rw[Bool.eq_iff_iff]
 simp only[List.any_eq_true,Bool.and_eq_true,decide_eq_true_eq]
 exact⟨fun⟨s,hs,k⟩=>⟨s,hs,(h s hs).1 k⟩,fun⟨s,hs,k⟩=>⟨s,hs,(h s hs).2 k⟩⟩
theorem qF {a:List aj}{e x:Int}(he:cv e=true)(hx:cv x=true)(hle:e≤x)(hside:x<55296∨57343<e)(hno:∀ y∈fd a,¬ (e<y∧y≤x)):sameAt a e x:=by
 rw[cx]at he hx
 intro s hs
 have n1:¬ (e<s.lo∧s.lo≤x):=fun h=>hno s.lo (mb.2 (.inr ⟨s,hs,.inl ⟨cx.2 Ll,rfl⟩⟩)) h
 have n2:¬ (e<s.hi+1∧s.hi+1≤x):=fun h=>hno (s.hi+1) (mb.2 (.inr ⟨s,hs,.inr ⟨by omega,cx.2 Ll,rfl⟩⟩)) h
 omega
def gZ (e:List Int)(i:Nat):aj :=
 let hi:=if i+1<e.length then e.getD (i+1) 0-1 else 1114111
 ⟨e.getD i 0,if e.getD i 0<55296 then min hi 55295 else hi⟩
def r7 (r:List aj)(s:aj):List aj:=match r with
 | []=>[s]
 | a::r=>if a.hi=s.lo-1 then⟨a.lo,s.hi⟩::r else s::a::r
theorem I7 {r:List aj}{s:aj}(hr:qu r)(hs:s.lo≤s.hi)(hlo:∀ a∈r,a.hi<s.lo):qu (r7 r s)∧(∀ x,inS (r7 r s) x↔inS r x∨(s.lo≤x∧x≤s.hi))∧∀ a∈r7 r s,a.hi≤s.hi:=by
 cases r with
 | nil =>
  refine⟨⟨List.pairwise_singleton _ _,fun t ht=>by simp[r7]at ht;subst ht;exact hs⟩,fun x=>by simp[inS,r7],fun a ha=>by simp[r7]at ha;subst ha;exact Int.le_refl _⟩
 | cons a r =>
  have hp:=List.pairwise_cons.1 hr.1
  have ha:=hr.2 a Lm
  have hal:=hlo a Lm
  simp only[r7]
  split
  ·rename_i h
   refine⟨⟨List.pairwise_cons.2 ⟨fun b hb=>hp.1 b hb,hp.2⟩,fun t ht=>?_⟩,fun x=>?_,fun t ht=>?_⟩
   ·rcases List.mem_cons.1 ht with rfl|ht
    ·show a.lo≤s.hi
     omega
    ·exact hr.2 t (List.mem_cons_of_mem _ ht)
   ·simp only[inS,List.mem_cons,exists_eq_or_imp]
    constructor
    ·rintro(⟨h1,h2⟩|h1)
     ·by_cases hx:x≤a.hi
      ·exact .inl (.inl ⟨h1,hx⟩)
      ·exact .inr ⟨by omega,h2⟩
     ·exact .inl (.inr h1)
    ·rintro((⟨h1,h2⟩|h1)|⟨h1,h2⟩)
     ·exact .inl ⟨h1,by show x≤s.hi;omega⟩
     ·exact .inr h1
     ·exact .inl ⟨by show a.lo≤x;omega,h2⟩
   ·rcases List.mem_cons.1 ht with rfl|ht
    ·exact Int.le_refl _
    ·have:=hlo t (List.mem_cons_of_mem _ ht)
     omega
  ·rename_i h
   refine⟨⟨List.pairwise_cons.2 ⟨fun b hb=>?_,hr.1⟩,fun t ht=>?_⟩,fun x=>?_,fun t ht=>?_⟩
   ·rcases List.mem_cons.1 hb with rfl|hb
    ·omega
    ·have:=hp.1 b hb
     have:=hr.2 b (List.mem_cons_of_mem _ hb)
     omega
   ·rcases List.mem_cons.1 ht with rfl|ht
    ·exact hs
    ·exact hr.2 t ht
   ·simp only[inS,List.mem_cons,exists_eq_or_imp]
    constructor
    ·rintro(h1|h1)
     ·exact .inr h1
     ·exact .inl h1
    ·rintro(h1|h1)
     ·exact .inr h1
     ·exact .inl h1
   ·rcases List.mem_cons.1 ht with rfl|ht
    ·exact Int.le_refl _
    ·have:=hlo t ht
     omega
def me (inn:Int)(k:Nat):Bool:=decide (inn / 2 ^ k%2=1)
def kOf (a b:List aj)(x:Int):Nat:=(if iY a x=true then 1 else 0)+(if iY b x=true then 2 else 0)
def lw (a b:List aj)(inn:Int)(e:List Int)(r:List aj)(i:Nat):List aj:=if me inn (kOf a b (e.getD i 0))=true then r7 r (gZ e i) else r
def l6 (a b:List aj):List Int:=(fd b).foldl ko (fd a)
def mw (a b:List aj)(inn:Int):List aj:=((List.range (l6 a b).length).foldl (lw a b inn (l6 a b)) []).reverse
theorem uC (f:List Int):∀ e:List Int,e.Pairwise (·<·)→(f.foldl ko e).Pairwise (·<·)∧∀ y,y∈f.foldl ko e↔y∈e∨y∈f:=by
 induction f with
 | nil=>intro e h;exact⟨h,fun y=>by simp⟩
 | cons x f ih =>
  intro e h
  obtain⟨h1,h2⟩:=ih _ (nG h (x:=x))
  refine⟨h1,fun y=>?_⟩
  rw[List.foldl_cons,h2 y,ox]
  simp only[List.mem_cons]
  constructor
  ·rintro((h|h)|h)
   ·exact .inr (.inl h)
   ·exact .inl h
   ·exact .inr (.inr h)
  ·rintro(h|h|h)
   ·exact .inl (.inr h)
   ·exact .inl (.inl h)
   ·exact .inr h
theorem sE {l:List aj}{y:Int}(h:y∈fd l):cv y=true:=by
 rcases mb.1 h with(rfl|rfl)|⟨s,_,⟨h2,rfl⟩|⟨_,h2,rfl⟩⟩
 ·decide
 ·decide
 ·exact h2
 ·exact h2
section
variable {e:List Int} (hr:e.Pairwise (·<·)) (hs:∀ y∈e,cv y=true) (h0:(0:Int)∈e) (h1:(57344:Int)∈e)
include hr
theorem td {i j:Nat}(hij:i<j)(hj:j<e.length):e.getD i 0<e.getD j 0:=by
 rw[List.getD_eq_getElem?_getD,List.getD_eq_getElem?_getD,List.getElem?_eq_getElem Ll,List.getElem?_eq_getElem hj]
 exact List.pairwise_iff_getElem.1 hr i j Ll hj hij
include hs
theorem Ai {i:Nat}(hi:i<e.length):(gZ e i).lo≤(gZ e i).hi∧(gZ e i).lo=e.getD i 0∧(∀ j,i<j→j<e.length→(gZ e i).hi<e.getD j 0)∧(gZ e i).hi≤1114111∧(e.getD i 0<55296→(gZ e i).hi<55296):=by
 have hsi:cv (e.getD i 0)=true:=hs _ (by rw[List.getD_eq_getElem?_getD,List.getElem?_eq_getElem hi];exact List.getElem_mem hi)
 rw[cx]at hsi
 by_cases hn:i+1<e.length
 ·have hlt:=td hr (show i<i+1 by omega) hn
  have hsn:cv (e.getD (i+1) 0)=true:=hs _ (by rw[List.getD_eq_getElem?_getD,List.getElem?_eq_getElem hn];exact List.getElem_mem hn)
  rw[cx]at hsn
  refine⟨?_,rfl,fun j hij hj=>?_,?_,fun h=>?_⟩
  ·simp only[gZ,hn,if_true]
   split<;>omega
  ·have:e.getD (i+1) 0≤e.getD j 0:=by
    by_cases he:i+1=j
    ·subst he;exact Int.le_refl _
    ·exact Int.le_of_lt (td hr Ll hj)
   simp only[gZ,hn,if_true]
   split<;>omega
  ·simp only[gZ,hn,if_true]
   split<;>omega
  ·simp only[gZ,hn,if_true,h]
   omega
 ·refine⟨?_,rfl,fun j hij hj=>by omega,?_,fun h=>?_⟩
  ·simp only[gZ,hn,if_false]
   split<;>omega
  ·simp only[gZ,hn,if_false]
   split<;>omega
  ·simp only[gZ,hn,if_false,h,if_true]
   omega
theorem F5 (a b:List aj)(inn:Int):∀ m,m≤e.length→qu ((List.range m).foldl (lw a b inn e) [])∧(∀ x,inS ((List.range m).foldl (lw a b inn e) []) x↔∃ i,i<m∧me inn (kOf a b (e.getD i 0))=true∧(gZ e i).lo≤x∧x≤(gZ e i).hi)∧∀ t∈(List.range m).foldl (lw a b inn e) [],∀ j,m≤j→j<e.length→t.hi<e.getD j 0:=by
 intro m
 induction m with
 | zero=>intro _;exact⟨⟨.nil,fun s h=>by simp at h⟩,fun x=>by simp[inS],fun t h=>by simp at h⟩
 | succ m ih =>
  intro hm
  obtain⟨k1,k2,k3⟩:=ih Ll
  obtain⟨c1,c2,c3,c4,c5⟩:=Ai hr hs (show m<e.length by omega)
  rw[List.range_succ,List.foldl_append,List.foldl_cons,List.foldl_nil]
  generalize (List.range m).foldl (lw a b inn e) []=r at *
  unfold lw
  split
  ·rename_i hb
   obtain⟨g1,g2,g3⟩:=I7 k1 c1 (fun t ht=>by rw[c2];exact k3 t ht m (Nat.le_refl _) Ll)
   refine⟨g1,fun x=>?_,fun t ht j hj1 hj2=>?_⟩
   ·rw[g2 x,k2 x]
    constructor
    ·rintro(⟨i,hi,h⟩|h)
     ·exact⟨i,by omega,h⟩
     ·exact⟨m,by omega,hb,h⟩
    ·rintro⟨i,hi,h⟩
     by_cases he:i=m
     ·subst he;exact .inr h.2
     ·exact .inl ⟨i,by omega,h⟩
   ·have:=g3 t ht
    have:=c3 j Ll hj2
    omega
  ·rename_i hb
   refine⟨k1,fun x=>?_,fun t ht j hj1 hj2=>k3 t ht j Ll hj2⟩
   rw[k2 x]
   constructor
   ·rintro⟨i,hi,h⟩
    exact⟨i,by omega,h⟩
   ·rintro⟨i,hi,h⟩
    by_cases he:i=m
    ·subst he;exact absurd h.1 hb
    ·exact⟨i,by omega,h⟩
include h0 h1
theorem J2 {x:Int}(hx:cv x=true):∃ i,i<e.length∧(gZ e i).lo≤x∧x≤(gZ e i).hi:=by
 have hx':=cx.1 hx
 have:∀ m,m≤e.length→(∃ i,i<m∧e.getD i 0≤x∧∀ j,i<j→j<m→x<e.getD j 0)∨∀ j,j<m→x<e.getD j 0:=by
  intro m
  induction m with
  | zero=>intro _;exact .inr fun j h=>by omega
  | succ m ih =>
   intro hm
   by_cases hle:e.getD m 0≤x
   ·exact .inl ⟨m,by omega,hle,fun j h1 h2=>by omega⟩
   ·rcases ih Ll with⟨i,hi,k1,k2⟩|k
    ·refine .inl ⟨i,by omega,k1,fun j hj1 hj2=>?_⟩
     by_cases hjm:j=m
     ·subst hjm;omega
     ·exact k2 j hj1 Ll
    ·refine .inr fun j hj=>?_
     by_cases hjm:j=m
     ·subst hjm;omega
     ·exact k j Ll
 obtain⟨p0,q0,e0⟩:=List.getElem_of_mem h0
 obtain⟨p1,q1,e1⟩:=List.getElem_of_mem h1
 have d0:e.getD p0 0=0:=by rw[List.getD_eq_getElem?_getD,List.getElem?_eq_getElem q0];exact e0
 have d1:e.getD p1 0=57344:=by rw[List.getD_eq_getElem?_getD,List.getElem?_eq_getElem q1];exact e1
 rcases this e.length (Nat.le_refl _) with⟨i,hi,k1,k2⟩|k
 ·refine⟨i,hi,k1,?_⟩
  have h55:e.getD i 0<55296→x<55296:=fun h=>by
   by_cases hp:p1≤i
   ·by_cases he:p1=i
    ·subst he;omega
    ·have:=td hr (show p1<i by omega) hi
     omega
   ·have:=k2 p1 Ll q1
    omega
  simp only[gZ]
  by_cases hn:i+1<e.length
  ·have:=k2 (i+1) Ll hn
   simp only[hn,if_true]
   split<;>omega
  ·simp only[hn,if_false]
   split<;>omega
 ·have:=k p0 q0
  omega
end
theorem m8 (a b:List aj)(inn:Int):mi (mw a b inn)∧∀ x,inS (mw a b inn) x↔cv x=true∧me inn (kOf a b x)=true:=by
 have hE:=uC (fd b) (fd a) (rb a)
 have hr:(l6 a b).Pairwise (·<·):=hE.1
 have hmem:∀ y,y∈l6 a b↔y∈fd a∨y∈fd b:=hE.2
 have hs:∀ y∈l6 a b,cv y=true:=fun y hy=>by
  rcases (hmem y).1 hy with h|h<;>exact sE h
 have h0:(0:Int)∈l6 a b:=(hmem 0).2 (.inl (mb.2 (.inl (.inl rfl))))
 have h1:(57344:Int)∈l6 a b:=(hmem _).2 (.inl (mb.2 (.inl (.inr rfl))))
 obtain⟨k1,k2,k3⟩:=F5 hr hs a b inn _ (Nat.le_refl _)
 generalize he:l6 a b=e at *
 have key:∀ i,i<e.length→∀ x,(gZ e i).lo≤x→x≤(gZ e i).hi→cv x=true∧kOf a b (e.getD i 0)=kOf a b x:=by
  intro i hi x hx1 hx2
  obtain⟨c1,c2,c3,c4,c5⟩:=Ai hr hs hi
  have hmi:e.getD i 0∈e:=by rw[List.getD_eq_getElem?_getD,List.getElem?_eq_getElem hi];exact List.getElem_mem hi
  have hsi:=hs _ hmi
  have hsi':=cx.1 hsi
  rw[c2]at hx1
  have hside:x<55296∨57343<e.getD i 0:=by
   rcases hsi'.2.2 with h|h
   ·have:=c5 h;exact .inl Ll
   ·exact .inr h
  have hsx:cv x=true:=cx.2 Ll
  have hno:∀ y∈e,¬ (e.getD i 0<y∧y≤x):=by
   rintro y hy ⟨g1,g2⟩
   obtain⟨j,hj,rfl⟩:=List.getElem_of_mem hy
   have ej:e.getD j 0=e[j]:=by rw[List.getD_eq_getElem?_getD,List.getElem?_eq_getElem hj];rfl
   rw[← ej]at g1 g2
   rcases Nat.lt_trichotomy i j with h|h|h
   ·have:=c3 j h hj;omega
   ·subst h;omega
   ·have:=td hr h hi;omega
  have s1:=qF hsi hsx hx1 hside (a:=a) fun y hy=>hno y ((hmem y).2 (.inl hy))
  have s2:=qF hsi hsx hx1 hside (a:=b) fun y hy=>hno y ((hmem y).2 (.inr hy))
  refine⟨hsx,?_⟩
  simp only[kOf,wS s1 hsi hsx,wS s2 hsi hsx]
 refine⟨⟨?_,fun s h=>?_⟩,fun x=>?_⟩
 ·unfold mw
  rw[he]
  exact List.pairwise_reverse.2 k1.1
 ·unfold mw at h
  rw[he,List.mem_reverse]at h
  exact k1.2 s h
 ·have e1:inS (mw a b inn) x↔inS ((List.range e.length).foldl (lw a b inn e) []) x:=by
   unfold mw
   rw[he]
   simp only[inS,List.mem_reverse]
  rw[e1,k2 x]
  constructor
  ·rintro⟨i,hi,hb,hx1,hx2⟩
   obtain⟨g1,g2⟩:=key i hi x hx1 hx2
   exact⟨g1,g2 ▸ hb⟩
  ·rintro⟨hx,hb⟩
   obtain⟨i,hi,hx1,hx2⟩:=J2 hr hs h0 h1 hx
   exact⟨i,hi,(key i hi x hx1 hx2).2 ▸ hb,hx1,hx2⟩
theorem By {l:List aj}{x:Int}:inS (l.flatMap bW) x↔iY l x=true:=by
 simp only[inS,iY,Bool.and_eq_true,List.any_eq_true,decide_eq_true_eq,cx,List.mem_flatMap]
 constructor
 ·rintro⟨s,⟨a,ha,hs⟩,h1,h2⟩
  simp only[bW,List.mem_append]at hs
  rcases hs with hs|hs
  ·split at hs
   ·simp only[List.mem_singleton]at hs
    subst hs
    simp only[my]at h1 h2
    exact⟨by omega,a,ha,by omega,by omega⟩
   ·cases hs
  ·split at hs
   ·simp only[List.mem_singleton]at hs
    subst hs
    simp only[jR]at h1 h2
    exact⟨by omega,a,ha,by omega,by omega⟩
   ·cases hs
 ·rintro⟨h,a,ha,h1,h2⟩
  by_cases hx:x<55296
  ·refine⟨my a,⟨a,ha,?_⟩,by simp only[my];omega,by simp only[my];omega⟩
   simp only[bW,List.mem_append]
   left
   rw[if_pos (by simp only[my];omega)]
   simp
  ·refine⟨jR a,⟨a,ha,?_⟩,by simp only[jR];omega,by simp only[jR];omega⟩
   simp only[bW,List.mem_append]
   right
   rw[if_pos (by simp only[jR];omega)]
   simp
theorem jq (l:List aj):mi (bd l)∧∀ x,inS (bd l) x↔iY l x=true:=by
 have hq:((l.flatMap bW).mergeSort (fun a b=>decide (a.lo≤b.lo))).Pairwise (fun a b=>a.lo≤b.lo):=by
  have:=List.pairwise_mergeSort (le:=fun a b:aj=>decide (a.lo≤b.lo)) (fun a b c h1 h2=>by simp at *;omega) (fun a b=>by simp;omega) (l.flatMap bW)
  exact this.imp (by intro a b h;simpa using h)
 obtain⟨b1,b2⟩:=nF hq (fun s h=>pe s ((List.mergeSort_perm _ _).mem_iff.1 h))
 refine⟨b1,fun x=>?_⟩
 rw[show inS (bd l) x↔_ from b2 x,z4 (List.mergeSort_perm _ _),By]
theorem IR (l:List aj)(x:Int):me 2 (kOf l [] x)=iY l x:=by
 have h2:iY [] x=false:=by simp[iY]
 simp only[kOf,h2]
 cases iY l x<;>decide
theorem Bj (l:List aj):mw l [] 2=bd l:=by
 obtain⟨a1,a2⟩:=m8 l [] 2
 obtain⟨b1,b2⟩:=jq l
 refine kn a1 b1 fun x=>?_
 rw[a2 x,b2 x,IR]
 constructor
 ·exact fun h=>h.2
 ·intro h
  exact⟨(Bool.and_eq_true _ _ ▸ h:cv x=true∧_).1,h⟩
end
end Go.Proofs.YtlnobeojgifojaaGreatDoor
