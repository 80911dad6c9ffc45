/- Rounds till nothing changes tell kinds. The least machine. -/
import Derived.Test.YtlnobeojgifojaaGreatDoorE5
set_option linter.unusedVariables false
set_option linter.unusedSimpArgs false
namespace Go.Proofs.YtlnobeojgifojaaGreatDoor
section
open Go
theorem Cm {α β:Type}(f:α→β)(l:List α)(k:Nat)(a:α):(l.map f).getD k (f a)=f (l.getD k a):=by
 by_cases h:k<l.length
 ·exact cV f l k a _ h
 ·rw[gn (by simpa using h),gn h]
theorem g9 {K:List Int}{n:Nat}{s:Int}(hs:In n s):bt K s=K.getD s.toNat 0:=by
 unfold bt
 rw[if_neg hs.ne]
theorem yQ {N:List (Rw Int)}{T:List Int}{q:Nat}(hT:T.length≤2000){s:Nat}(hs:s<T.length):0≤(itK N T (q+1)).getD s 0:=by
 have h1:s<(itK N T (q+1)).length:=by rw[fv];exact hs
 have:=oQ N (K:=itK N T q) (by rw[fv];exact hT) ((itK N T (q+1)).getD s 0) (jg h1)
 exact this.1
section
variable {d:Dfa} (hf:d.Fit d.tags) (hok:d.plain.Ok)
include hf hok
theorem vD (q:Nat){s t:Int}(hs:In d.plain.n s)(ht:In d.plain.n t):bt (itK d.next.l d.tags.l (q+1)) s=bt (itK d.next.l d.tags.l (q+1)) t↔bt (itK d.next.l d.tags.l q) s=bt (itK d.next.l d.tags.l q) t∧(d.plain.row s).map (bt (itK d.next.l d.tags.l q))=(d.plain.row t).map (bt (itK d.next.l d.tags.l q)):=by
 have _:=hf
 have _:=hok
 have hn:d.plain.n=d.tags.l.length:=by simp[Dfa.plain,PD.n]
 rw[g9 hs,g9 ht,g9 hs,g9 ht]
 have h1:s.toNat<(itK d.next.l d.tags.l q).length:=by rw[fv];unfold In at hs;omega
 have h2:t.toNat<(itK d.next.l d.tags.l q).length:=by rw[fv];unfold In at ht;omega
 have h3:=ng (N:=d.next.l) h1 h2
 rw[ra]at h3
 rw[pA]
 exact h3
theorem xj {q:Nat}{s t:Int}(hs:In d.plain.n s)(ht:In d.plain.n t):∀ {p:Nat},bt (itK d.next.l d.tags.l (q+p)) s=bt (itK d.next.l d.tags.l (q+p)) t→bt (itK d.next.l d.tags.l q) s=bt (itK d.next.l d.tags.l q) t
 | 0,h=>h
 | p+1,h=>xj hs ht (p:=p) ((vD hf hok (q+p) hs ht).1 h).1
theorem DL {r:Nat}(hc:pf d.next.l (itK d.next.l d.tags.l r)=pf d.next.l (itK d.next.l d.tags.l (r+1))):iV d.plain.n d.plain.row d.plain.tag (bt (itK d.next.l d.tags.l (r+2))):=by
 have hn:d.plain.n=d.tags.l.length:=by simp[Dfa.plain,PD.n]
 have hn2:=hok.n2
 have htab:=hok.tab
 have hyes:∀ q s,In d.plain.n s→0≤bt (itK d.next.l d.tags.l (q+1)) s:=fun q s hs=>by
  rw[g9 hs]
  exact yQ HT (by unfold In at hs;omega)
 have hno:∀ q x,(x = -1∨In d.plain.n x)→(bt (itK d.next.l d.tags.l (q+1)) x = -1↔x = -1):=fun q x hx=>by
  rcases hx with rfl|hx
  ·simp[bt]
  ·have:=hyes q x hx
   have:=hx.ne
   constructor
   ·intro h;omega
   ·intro h;omega
 have hst:∀ s t,In d.plain.n s→In d.plain.n t→bt (itK d.next.l d.tags.l (r+1)) s=bt (itK d.next.l d.tags.l (r+1)) t→bt (itK d.next.l d.tags.l (r+2)) s=bt (itK d.next.l d.tags.l (r+2)) t:=fun s t hs ht h=>by
  have h1:s.toNat<(itK d.next.l d.tags.l r).length:=by rw[fv];unfold In at hs;omega
  have h2:t.toNat<(itK d.next.l d.tags.l r).length:=by rw[fv];unfold In at ht;omega
  have h1':s.toNat<(itK d.next.l d.tags.l (r+1)).length:=by rw[fv];unfold In at hs;omega
  have h2':t.toNat<(itK d.next.l d.tags.l (r+1)).length:=by rw[fv];unfold In at ht;omega
  rw[g9 hs,g9 ht]at h ⊢
  exact(ng h1' h2').2 ((uo d.next.l (itK d.next.l d.tags.l r)).2 hc _ h1 _ h2 ((ng h1 h2).1 h))
 refine⟨by simp[bt],fun s hs=>hyes (r+1) s hs,fun s t hs ht h=>?_,fun s t hs ht h k=>?_,fun B hB=>?_⟩
 ·have h0:=xj hf hok (q:=0) (p:=r+2) hs ht (by rw[Nat.zero_add];exact h)
  rw[g9 hs,g9 ht]at h0
  have e:∀ s:Int,In d.plain.n s→d.plain.tag s=(itK d.next.l d.tags.l 0).getD s.toNat 0:=fun s hs=>by
   have hl:s.toNat<d.tags.l.length:=by unfold In at hs;omega
   simp[PD.tag,Dfa.plain,itK,List.getD_eq_getElem?_getD,hl]
  rw[e s hs,e t ht]
  exact h0
 ·have h1:=((vD hf hok (r+1) hs ht).1 h).2
  have h2:=congrArg (fun l=>l.getD k (bt (itK d.next.l d.tags.l (r+1)) (-1))) h1
  simp only[Cm]at h2
  change bt _ (col d.plain.row s k)=bt _ (col d.plain.row t k) at h2
  have cs:=htab.col hs k
  have ct:=htab.col ht k
  rcases cs with cs|cs<;>rcases ct with ct|ct
  ·rw[cs,ct]
  ·rw[cs,show bt (itK d.next.l d.tags.l (r+1)) (-1) = -1 by simp[bt]]at h2
   exact absurd ((hno r _ (.inr ct)).1 h2.symm) ct.ne
  ·rw[ct,show bt (itK d.next.l d.tags.l (r+1)) (-1) = -1 by simp[bt]]at h2
   exact absurd ((hno r _ (.inr cs)).1 h2) cs.ne
  ·exact hst _ _ cs ct h2
 ·have key:∀ q s t,In d.plain.n s→In d.plain.n t→B s t→bt (itK d.next.l d.tags.l q) s=bt (itK d.next.l d.tags.l q) t:=by
   intro q
   induction q with
   | zero =>
    intro s t hs ht hst
    have h1:=(hB s t hs ht hst).1
    have e:∀ s:Int,In d.plain.n s→bt (itK d.next.l d.tags.l 0) s=d.plain.tag s:=fun s hs=>by
     have hl:s.toNat<d.tags.l.length:=by unfold In at hs;omega
     rw[g9 hs]
     simp[PD.tag,Dfa.plain,itK,List.getD_eq_getElem?_getD,hl]
    rw[e s hs,e t ht]
    exact h1
   | succ q ih =>
    intro s t hs ht hst
    refine(vD hf hok q hs ht).2 ⟨ih s t hs ht hst,?_⟩
    have hl:(d.plain.row s).length=(d.plain.row t).length:=by rw[htab.len s hs,htab.len t ht]
    refine List.ext_getElem (by simpa using hl) fun k h1 h2=>?_
    rw[List.getElem_map,List.getElem_map]
    have hk1:k<(d.plain.row s).length:=by simpa using h1
    have hk2:k<(d.plain.row t).length:=by simpa using h2
    have ho:=(hB s t hs ht hst).2 k
    have c1:col d.plain.row s k=(d.plain.row s)[k]:=by simp[col,List.getD_eq_getElem?_getD,hk1]
    have c2:col d.plain.row t k=(d.plain.row t)[k]:=by simp[col,List.getD_eq_getElem?_getD,hk2]
    have cs:=htab.col hs k
    have ct:=htab.col ht k
    rw[c1]at ho cs
    rw[c2]at ho ct
    rcases ho with⟨e1,e2⟩|⟨e1,e2,e3⟩
    ·rw[e1,e2]
    ·exact ih _ _ (cs.resolve_left e1) (ct.resolve_left e2) e3
  exact key (r+2)
end
end
section
open Go
set_option maxHeartbeats 4000000
theorem nh {env:Env}{h:aa}{t id g n t2:Nat}{cs:List AV}{v:AV}(ht:env t = .ptr id g 0)(hg:h.get id=some (.cells g cs))(hl:cs.length=n)(h2:env t2=v)(hv:v.isTup=false):ef env h [.cell t n true,.tmp t2]=some (.tup [.agg cs,v]):=by
 subst hl h2
 have e:ef env h [.cell t cs.length true,.tmp t2]=((kA env h (.cell t cs.length true)).bind fun a=>some [a,env t2]).bind fun vs=>if vs.all (fun x => !x.isTup)=true then some (.tup vs) else none:=by
  simp only[ef,List.mapM_cons,List.mapM_nil,kA]
  rfl
 rw[e]
 simp only[kA,ht,hg]
 rw[if_pos ⟨trivial,by omega⟩]
 simp only[if_true,Option.bind_some,List.drop_zero,List.take_length]
 rw[if_pos]
 rw[List.all_cons,List.all_cons,hv]
 rfl
attribute [local irreducible] aj bc bj dn bz cn dz bL wop cq aU
theorem zd {Φ:Lib}(L:cZ Φ)(r:Rw am)(hn:r.l.length≤4294967296):ia Φ 106 [r.sv] (.rd r.l.length (r.l.flatMap am.av) false):=by
 refine bb (fun o=>o == some 5) rfl L.f106 ?_
 have hlen:=iS am.av 2 am.av_length r.l
 have hs:∀ h:aa,bn h 2 r.sv=some (r.l.length,r.l.flatMap am.av):=fun h=>by simp only[bn,hlen,if_true]
 repeat' first|apply ad|refine bm rfl ?_|(apply gx;first|apply af|refine ae rfl ?_)|apply ac
 refine uO rfl (hs _) rfl ?_ ?_
 ·repeat' first|apply ad|(apply gx;first|apply af|apply ay|refine ah rfl ?_)|apply ac
  refine m9 rfl ?_
  refine bF (cs:=[]) rfl rfl ?_
  refine ai (v:=r.sv) rfl ?_
  refine gF (n:=0) (v := .rd 0 [] true) (w:=r.sv) rfl (aA.nil _ _) rfl (hs _) hlen HT ?_
  intro v' h' hr hk hi
  rw[Nat.zero_add,List.nil_append]at hr
  repeat' first|apply ad|refine ai rv_ ?_|apply aM|apply ac
  exact iF rfl hr (fun _=>rfl)
 ·intro h0
  have h1:r.l=[]:=List.eq_nil_of_length_eq_zero h0
  repeat' first|apply ad|refine bm rfl ?_|(apply gx;first|apply af|refine ae rfl ?_|apply aM|refine al rfl ?_)|apply ac|apply cz
  exact iF rfl (aA.nil _ 2) (fun _=>by simp[h1])
def jw (d:Dfa):List (Rw am):=(ej d.plain).map fun k=>d.parts.l.getD k ⟨[],false⟩
theorem ur (d:Dfa):∀ i,i≤d.parts.l.length→(dA ((fL d.plain i).map fun k=>d.parts.l.getD k ⟨[],false⟩)).length≤(dA (d.parts.l.take i)).length
 | 0,_=>by simp[fL,dA]
 | i+1,hi=>by
  have ih:=ur d i HT
  obtain⟨p,hp⟩:=aK (l:=d.parts.l) (i:=i) HT
  have hpd:d.parts.l.getD i ⟨[],false⟩=p:=by simp[List.getD_eq_getElem?_getD,hp]
  rw[sb,List.map_append,iU hp,List.length_append]
  split
  ·simp only[List.map_nil,List.append_nil];omega
  ·rw[List.map_singleton,xE,hpd];omega
theorem yx (d:Dfa):dF (jw d)=(cm d.plain).parts:=by
 show(jw d).map (·.l)=(ej d.plain).map d.plain.part
 unfold jw
 rw[List.map_map]
 apply List.map_congr_left
 intro k hk
 have hk2:k<d.parts.l.length:=by
  have:=(lN.1 hk).1
  simpa[Dfa.plain,dF,PD.p] using this
 exact(cV (fun x:Rw am=>x.l) d.parts.l k ⟨[],false⟩ [] hk2).symm
def jD (d:Dfa)(lv:Int→Bool):Dfa:=⟨⟨jw d,false⟩,⟨(cm d.plain).next.map fun r=>⟨r.map (c6 lv),false⟩,false⟩,d.tags⟩
theorem sY (d:Dfa)(lv:Int→Bool):(jD d lv).plain=dp lv (cm d.plain):=by
 rw[PD.ext'_iff]
 refine⟨yx d,?_,rfl⟩
 show cR ((cm d.plain).next.map fun r=>Rw.mk (r.map (c6 lv)) false)=(cm d.plain).next.map fun r=>r.map (c6 lv)
 unfold cR
 rw[List.map_map]
 rfl
theorem u6 {d:Dfa}(hf:d.Fits)(hok:d.plain.Ok)(lv:Int→Bool):(jD d lv).Fits:=by
 have hpl:d.plain.p=d.parts.l.length:=by simp[Dfa.plain,dF,PD.p]
 have hp1:=hok.p1
 have hbk:(ej d.plain).length≤d.parts.l.length:=by
  have:=oZ d.plain d.parts.l.length
  have e:fL d.plain d.parts.l.length=ej d.plain:=by unfold ej;rw[hpl];rfl
  rwa [e]at this
 refine⟨?_,?_,?_,fun r hr=>?_,hf.tags⟩
 ·have h1:=ur d d.parts.l.length (Nat.le_refl _)
  have e:fL d.plain d.parts.l.length=ej d.plain:=by unfold ej;rw[hpl];rfl
  rw[e,List.take_length]at h1
  exact Nat.le_trans h1 hf.cat
 ·show(jw d).length≤_
  unfold jw
  rw[List.length_map]
  have:=hf.parts
  omega
 ·show((cm d.plain).next.map _).length≤_
  rw[List.length_map]
  show(d.plain.next.map _).length≤_
  rw[List.length_map,show d.plain.next.length=d.next.l.length by simp[Dfa.plain,cR]]
  exact hf.next
 ·obtain⟨q,hq,rfl⟩:=List.mem_map.1 hr
  obtain⟨q0,_,rfl⟩:=List.mem_map.1 hq
  simp only[List.length_map]
  omega
theorem GA {d:Dfa}(hok:d.plain.Ok){K:Rw Int}(hk:K.l.length=d.next.l.length)(hr:∀ x∈K.l,-2147483648≤x∧x≤2147483647):d.Fit K:=by
 have hpl:d.plain.p=d.parts.l.length:=by simp[Dfa.plain,dF,PD.p]
 have hnl:d.plain.n=d.tags.l.length:=by simp[Dfa.plain,PD.n]
 have hxl:d.plain.next.length=d.next.l.length:=by simp[Dfa.plain,cR]
 have h1:=hok.n1
 have h2:=hok.n2
 have h3:=hok.nl
 have h4:=hok.p1
 refine⟨hk,by omega,by omega,by omega,by omega,fun r hr=>?_,fun r hr x hx=>?_,hr⟩
 ·have:=(hok.rows r.l (List.mem_map.2 ⟨r,hr,rfl⟩)).1
  omega
 ·have:=(hok.rows r.l (List.mem_map.2 ⟨r,hr,rfl⟩)).2 x hx
  rcases this with h|h
  ·exact .inl h
  ·right;unfold In at h;omega
noncomputable def dH (d:Dfa)(κ:Int→Int)(PL:List (Rw am)):Dfa:=⟨⟨PL,false⟩,⟨(List.range d.next.l.length).map fun s:Nat=>⟨d.plain.R2 κ s,false⟩,false⟩,d.tags⟩
set_option maxRecDepth 100000 in
theorem r7 {Φ:Lib}(L:cZ Φ)(L1:gC Φ)(S:eG Φ)(G:fq Φ)(J:iG Φ)(d:Dfa)(hf:d.Fits)(ht:∀ t∈d.tags.l,-2147483648≤t∧t≤2147483647) :
  aU Φ 95 [.agg d.av] aa.empty (fun v _=>(¬ d.plain.Ok∧v = .tup [.agg [.rd 0 [] true,.rd 0 [] true,.rd 0 [] true],.int .u16 1])∨(d.plain.Ok∧∃ x:Dfa,dY d.plain x.plain∧v = .tup [.agg x.av,.int .u16 0])):=by
 have hsd:=Cq L L1 S G d hf
 refine bb (fun o=>o == some 102) rfl L.f95 ?_
 by_cases hok:¬ d.plain.Ok
 ·rw[mr hok]at hsd
  repeat' first|apply ad|(apply gw;first|refine aw rfl ?_|refine ak rfl hg_ HU b_ pv_ ?_|refine aL rfl nt_ ?_|(refine cd ?_;intro id hid;try simp only[aa.set_none]at hid)|(refine gJ (v:=AV.agg _) rfl rfl ?_;intro id hid;try simp only[aa.set_none]at hid)|refine cy (cs':=[AV.rd _ _ _,AV.rd _ _ _,AV.rd _ _ _]) rfl rfl rfl rfl b_ rfl ?_|refine dE (cs:=[AV.rd _ _ _,AV.rd _ _ _,AV.rd _ _ _]) rfl ?_|refine dm (b:=false) rfl ?_)|(apply gx;first|apply af|refine ae rfl ?_|apply aM|refine al rfl ?_)|apply ac|apply cz|refine bu (by assumption) fz_ fz_ ?_
  refine aH (v := .tup [.agg [.rd 0 [] true,.rd 0 [] true,.rd 0 [] true],.int .u16 1]) ?_ ?_
  ·exact nh (t:=2) (t2:=3) rfl (aa.get_set_self _ _ _) rfl rfl rfl
  ·exact Or.inl ⟨hok,rfl⟩
 ·have hok:=Classical.not_not.1 hok
  rw[wE hok]at hsd
  have hpl:d.plain.p=d.parts.l.length:=by simp[Dfa.plain,dF,PD.p]
  have hnl:d.plain.n=d.tags.l.length:=by simp[Dfa.plain,PD.n]
  have hxl:d.plain.next.length=d.next.l.length:=by simp[Dfa.plain,cR]
  have hnle:=hok.nl
  have hn2:=hok.n2
  repeat' first|apply ad|(apply gw;first|refine aw rfl ?_|refine ak rfl hg_ HU b_ pv_ ?_|refine aL rfl nt_ ?_|(refine cd ?_;intro id hid;try simp only[aa.set_none]at hid)|(refine gJ (v:=AV.agg _) rfl rfl ?_;intro id hid;try simp only[aa.set_none]at hid)|refine dm (b:=true) rfl ?_)|(apply gx;first|apply af|refine ae rfl ?_|apply ay|refine ah rfl ?_)|apply ac|refine bu (by assumption) fz_ fz_ ?_
  rename_i ib hib
  refine bS (CA L d hf hok) ?_
  rintro _ h2 ⟨inx,ws,rfl,hS⟩
  have hbo:=ph hok
  have hbn:(cm d.plain).next.length=d.next.l.length:=by simp[cm,hxl]
  repeat' first|refine aL rfl nt_ ?_
  rw[← hbn]
  refine bS (wQ L (T:=d.tags) (p:=(cm d.plain).p) hS HT HT hbo.1.p1 (fun r hr=>by
   have:=hbo.1.rows r hr
   have e:(cm d.plain).n=(cm d.plain).next.length:=hbo.1.nl.symm
   rw[← e];exact this)) ?_
  rintro _ h3 ⟨⟨lv,hlv,rfl⟩,hS⟩
  obtain⟨ires,rfl⟩:∃ x,x=id:=⟨_,rfl⟩
  have eAv:AV.agg [.rd (ej d.plain).length ((ej d.plain).map fun k=>(d.parts.l.getD k ⟨[],false⟩).sv) false,.rd (cm d.plain).next.length (((cm d.plain).next.map fun r=>Rw.mk (r.map (c6 lv)) false).map Rw.iv) false,d.tags.iv] = .agg (jD d lv).av:=by
   simp[jD,jw,List.map_map,Function.comp]
  rw[eAv]
  have hp':=sY d lv
  have hf':=u6 hf hok lv
  have hok':(jD d lv).plain.Ok:=by rw[hp'];exact wR hbo.1 lv
  have hne':∀ q∈(jD d lv).plain.parts,q≠[]:=by rw[hp'];exact hbo.2
  have htg':(jD d lv).tags=d.tags:=rfl
  have hnn':(jD d lv).next.l.length=d.next.l.length:=by simp[jD,hbn]
  generalize jD d lv=d' at *
  have hfit:d'.Fit d'.tags:=GA hok' (by rw[htg',hnn'];omega) (by rw[htg'];exact ht)
  have hn':d'.plain.n=d'.next.l.length:=by
   have:d'.plain.n=d'.tags.l.length:=by simp[Dfa.plain,PD.n]
   have:=hfit.tl
   omega
  refine dE (cs:=d'.av++[.rd 0 [] true]) rfl ?_
  refine gJ (v := .agg (d'.av++[.rd 0 [] true])) rfl rfl ?_
  intro iw hiw
  have hS1:=hS.new (o := .cells 0 (d'.av++[.rd 0 [] true])) hiw
  have hw:WAt _ iw d' ⟨[],true⟩:=hS1.get (i:=1) rfl
  clear hS eAv
  repeat' first|apply ad|(apply gw;first|refine ai rx_ ?_|refine aL rfl nt_ ?_)|(apply gx;first|apply af|refine ae rfl ?_)|apply ac
  refine bS (BJ L hw hfit) ?_
  rintro _ h4 ⟨⟨r,hw4,hc4⟩,hold4⟩
  have hS4:=hS1.upd 1 (ck iw (.cells 0 [d'.parts.mv Rw.sv,d'.next.mv Rw.iv,d'.tags.iv,(Rw.mk (itK d'.next.l d'.tags.l (r+2)) false).iv])) rfl hw4 (fun k hk hne=>hold4 k hne hk) (fun k hk => .inl hk)
  have hK:=DL hfit hok' hc4
  have hfitK:=hfit.it (r+2)
  generalize hKl:Rw.mk (itK d'.next.l d'.tags.l (r+2)) false=K at *
  rw[show itK d'.next.l d'.tags.l (r+2)=K.l by rw[← hKl]]at hK
  clear hS1 hw hold4 hc4
  repeat' first|apply ad|(apply gw;first|refine ai rx_ ?_|refine aL rfl nt_ ?_)|(apply gx;first|apply af|refine ae rfl ?_)|apply ac
  refine bS (tq L hw4 hfitK) ?_
  rintro _ h5 ⟨rfl,hold5⟩
  have hS5:=hS4.ext hold5
  have hw5:WAt h5 iw d' K:=hS5.get (i:=1) rfl
  have eL1:ez d'.next.l.length (bt K.l) (kz d'.next.l) 0=d'.plain.L1 (bt K.l):=by
   unfold PD.L1
   rw[pA,hn']
  rw[eL1]
  repeat' first|refine aL rfl nt_ ?_
  refine bS (xi L L1 S G J hw5 hfitK hf' hok' hne' hK) ?_
  rintro _ h6 ⟨⟨PL,hPL,rfl⟩,hold6⟩
  have hS6:=hS5.ext hold6
  have hw6:h6.get iw=some (.cells 0 [d'.parts.mv Rw.sv,d'.next.mv Rw.iv,d'.tags.iv,K.iv]):=hS6.get (i:=1) rfl
  clear hS4 hS5 hw4 hw5 hold5 hold6
  have eN:AV.rd d'.next.l.length (((List.range d'.next.l.length).map fun s:Nat=>Rw.mk (d'.plain.R2 (bt K.l) s) false).map Rw.iv) false=(dH d' (bt K.l) PL).next.mv Rw.iv:=by simp[dH]
  rw[eN]
  have htab2:=EJ hok' hK
  have hPLc:PL.length=(d'.plain.cols (bt K.l)).length:=by
   have:=congrArg List.length hPL
   simpa[PD.cols] using this
  have hfitj:(dH d' (bt K.l) PL).Fit K:=by
   have h1:=(jO hok' hK).p1
   rw[DK]at h1
   have hin:∀ {s:Nat},s∈List.range d'.next.l.length→In d'.plain.n (s:Int):=fun hs=>by rw[List.mem_range]at hs;unfold In;omega
   refine⟨by simp only[dH,List.length_map,List.length_range];exact hfitK.kl,by simp only[dH,List.length_map,List.length_range];exact hfit.tl,by simp only[dH,List.length_map,List.length_range];exact hfit.n1,by simp only[dH,List.length_map,List.length_range];exact hfit.n2,by simp only[dH];omega,fun r hr=>?_,fun r hr x hx=>?_,hfitK.kr⟩
   ·obtain⟨s,hs,rfl⟩:=List.mem_map.1 hr
    have:=htab2.len _ (hin hs)
    simp only[dH]
    omega
   ·obtain⟨s,hs,rfl⟩:=List.mem_map.1 hr
    rcases htab2.to _ (hin hs) x hx with h|h
    ·exact .inl h
    ·right
     simp only[dH,List.length_map,List.length_range]
     unfold In at h;omega
  have hrj:∀ s,In d'.plain.n s→kz (dH d' (bt K.l) PL).next.l s=d'.plain.R2 (bt K.l) s:=fun s hs=>by
   have h1:s.toNat<d'.next.l.length:=by unfold In at hs;omega
   rw[oP (m:=s.toNat) (r:=⟨d'.plain.R2 (bt K.l) s,false⟩) (by unfold In at hs;omega)]
   simp only[dH,List.getElem?_map,List.getElem?_range h1,Option.map_some]
   rw[Int.toNat_of_nonneg hs.1]
  have eL2:ez (dH d' (bt K.l) PL).next.l.length (bt K.l) (kz (dH d' (bt K.l) PL).next.l) 0=d'.plain.L2 (bt K.l):=by
   have h1:(dH d' (bt K.l) PL).next.l.length=d'.plain.n:=by simp only[dH,List.length_map,List.length_range];omega
   unfold PD.L2 ez
   rw[h1]
   have htj:=hfitj.tab
   rw[h1]at htj
   exact qu htj hok'.zero hrj _
  obtain⟨hcome,hclosed⟩:=pi hok' hK
  have hx_next:(dH d' (bt K.l) PL).next.l.length=d'.next.l.length:=by simp only[dH,List.length_map,List.length_range]
  have hx_parts:(dH d' (bt K.l) PL).parts.l=PL:=rfl
  have hx_tags:(dH d' (bt K.l) PL).tags=d'.tags:=rfl
  repeat' first|apply ad|(apply gw;first|refine ai rx_ ?_|(apply iA;first|refine bg rx_ ?_|refine bf rx_ ?_|refine aY (v:=AV.agg _) rfl rfl hq_ rfl rfl b_ sv_ ?_)|(apply gq4;first|refine aG rx_ ?_|refine aq rfl (Nat.zero_add _) ?_)|refine bi rfl ?_|refine aL rfl nt_ ?_)|(apply gx;first|apply af|refine ae rfl ?_)|apply ac
  have hS7:=hS6.put 1 (.cells 0 [.rd PL.length (PL.map Rw.sv) false,(dH d' (bt K.l) PL).next.mv Rw.iv,d'.tags.iv,K.iv]) rfl
  have hw7:WAt _ iw (dH d' (bt K.l) PL) K:=hS7.get (i:=1) rfl
  generalize dH d' (bt K.l) PL=dj at *
  refine bS (tq L hw7 hfitj) ?_
  rintro _ h8 ⟨rfl,hold8⟩
  have hS8:=hS7.ext hold8
  clear hS6 hS7 hw6 hw7 hold8 eN
  rw[eL2]
  generalize hL2:d'.plain.L2 (bt K.l)=L2 at *
  have hkin:∀ {s:Int} {x:Int},In d'.plain.n s→K.l[s.toNat]?=some x→bt K.l s=x:=fun {s x} hs hx=>by
   rw[g9 hs,List.getD_eq_getElem?_getD,hx];rfl
  generalize hκ:bt K.l=κ at *
  have hfe:∀ a b:Int,AV.int .i64 a=AV.int .i64 b→a=b:=fun _ _ e=>by injection e
  repeat' first|apply ad|(apply gw;first|refine ai rx_ ?_|(refine ki ?_;intro id hid;try simp only[aa.set_none]at hid))|(apply gx;first|apply af|refine ae rfl ?_)|apply ac
  have hS9:=(hS8.new (o := .map (some .i64) []) hid).put 2 (.map (some .i64) [(.int .i64 (-1),.int .i64 (-1))]) rfl
  refine fQ (key:=AV.int .i64 (-1)) (v:=AV.int .i64 (-1)) rfl rfl rfl rfl rfl (aa.get_set_self _ _ _) ?_
  obtain⟨im,rfl⟩:∃ x,x=id:=⟨_,rfl⟩
  obtain⟨h1,hS9,hres1⟩:∃ h1,Sep ((h8.set im (.map (some .i64) [])).set im (.map (some .i64) (kH [] (.int .i64 (-1)) (.int .i64 (-1))))) [jA h1,ck iw (.cells 0 [.rd PL.length (PL.map Rw.sv) false,dj.next.mv Rw.iv,d'.tags.iv,K.iv]),ck im (.map (some .i64) [(.int .i64 (-1),.int .i64 (-1))])]∧h1.get ires=some vv:=⟨_,hS9,aa.get_set_self _ _ _⟩
  repeat' first|apply ad|(apply gw;first|refine ai rx_ ?_|(apply gq6;first|refine bM rx_ ?_|refine aD rfl ?_))|(apply gx;first|apply af|refine ae rfl ?_|apply au)|apply ac
  have hLm:=hcome.most
  refine cl L2.length (fun i env h'=>Sep h' [jA h1,ck iw (.cells 0 [.rd PL.length (PL.map Rw.sv) false,dj.next.mv Rw.iv,d'.tags.iv,K.iv]),ck im (.map (some .i64) ((.int .i64 (-1),.int .i64 (-1))::bJ (.int .i64) 0 ((L2.take i).map κ)))]∧env.has [(2,.ptr ires 0 0),(4,.ptr iw 0 0),(5,kK L2),(6,.map im),(39,kK L2),(40,.int .i64 L2.length),(41,.int .i64 i)]) ⟨hS9,hh_⟩ ?_
  clear hS9 hS8 hid
  rintro i env h' hi ⟨hS,he⟩
  obtain⟨env,rfl⟩:=he.ex
  clear he
  have hwx:h'.get iw=some (.cells 0 [.rd PL.length (PL.map Rw.sv) false,dj.next.mv Rw.iv,d'.tags.iv,K.iv]):=hS.get (i:=1) rfl
  have hmx:=hS.get (i:=2) rfl
  by_cases hi2:i<L2.length
  ·obtain⟨s,hs⟩:=aK hi2
   have hsin:=hcome.inn s (List.mem_of_getElem? hs)
   obtain⟨kx,hkx⟩:=aK (l:=K.l) (i:=s.toNat) (by have:=hfitK.kl;unfold In at hsin;omega)
   have hks:=hkin hsin hkx
   have hk0:=hK.yes s hsin
   have hs0:(s.toNat:Int)=s:=by unfold In at hsin;omega
   repeat' first|apply ad|(apply gw;first|refine ai rx_ ?_|(apply gq2;first|refine aC rx_ ?_|refine aI rfl b_ pv_ ?_|refine ak rfl hq_ HU b_ pv_ ?_)|(apply gq3;first|refine az rx_ ?_|refine aN rx_ ?_|(refine aB rfl rfl rfl ?_ ?_<;>(intro hc;try omega)))|(apply gq5;first|refine aO rx_ ?_|refine aS rx_ ?_|refine ar rfl rfl hs HT rfl ?_|refine ar rfl rfl hkx HT rfl ?_)|(apply gq4;first|refine aG rx_ ?_|refine aq rfl (Nat.zero_add _) ?_)|refine bi rfl ?_)|(apply gx;first|apply af|refine ae rfl ?_|apply ay|apply au|refine al rfl ?_)|apply ac
   refine fQ (key:=AV.int .i64 kx) (v:=AV.int .i64 i) rfl rfl rfl rfl rfl hmx ?_
   have hne1:¬ (AV.int .i64 (-1)=AV.int .i64 kx):=fun e=>by have:=hfe _ _ e;omega
   have hnot:kx∉(L2.take i).map κ:=fun hm=>by
    have hd:=hcome.nodup
    obtain⟨t,htm,e⟩:=List.mem_map.1 hm
    obtain⟨q,hq,rfl⟩:=List.mem_take_iff_getElem.1 htm
    have hq2:q<L2.length:=by omega
    have:=yD hd (i:=q) (j:=i) hq2 hi2 (by simp[List.getD_eq_getElem?_getD,hq2,hs];rw[e,hks])
    omega
   have he2:=jC hfe kx ((L2.take i).map κ) 0 hnot
   rw[Nat.zero_add,List.length_map,List.length_take,show min i L2.length=i by omega]at he2
   have he3:kH ((.int .i64 (-1),.int .i64 (-1))::bJ (.int .i64) 0 ((L2.take i).map κ)) (.int .i64 kx) (.int .i64 i)=(.int .i64 (-1),.int .i64 (-1))::bJ (.int .i64) 0 ((L2.take (i+1)).map κ):=by
    simp only[kH,hne1,if_false]
    rw[he2,aX hs,List.map_append,List.map_singleton,hks]
   rw[he3]
   have hS2:=hS.put 2 (.map (some .i64) ((.int .i64 (-1),.int .i64 (-1))::bJ (.int .i64) 0 ((L2.take (i+1)).map κ))) rfl
   repeat' first|apply ad|(apply gw;first|refine ai rx_ ?_|(apply gq3;first|refine az rx_ ?_|refine a8 rfl rfl rfl HT HT ?_))|refine ae rfl ?_|apply ac|apply aJ
   exact aW hi2 ⟨hS2,hh_⟩
  ·rw[List.take_of_length_le HT]at hS hmx
   repeat' first|apply ad|(apply gw;first|refine ai rx_ ?_|refine aC rx_ ?_|(apply gq3;first|refine az rx_ ?_|refine aN rx_ ?_|(refine aB rfl rfl rfl ?_ ?_<;>(intro hc;try omega)))|(apply gq4;first|refine aG rx_ ?_|refine aq rfl (Nat.zero_add _) ?_)|refine bi rfl ?_|(refine cd ?_;intro id hid;try simp only[aa.set_none]at hid))|(apply gx;first|apply af|refine ae rfl ?_|apply aP|refine ah rfl ?_)|apply ac|apply aQ|apply aR|apply ba
   obtain⟨io,rfl⟩:∃ x,x=id:=⟨_,rfl⟩
   have hS2:=hS.new (o:=vv) hid
   have hwx2:(h'.set io vv).get iw=some (.cells 0 [.rd PL.length (PL.map Rw.sv) false,dj.next.mv Rw.iv,d'.tags.iv,K.iv]):=hS2.get (i:=1) rfl
   clear hS hwx hmx
   repeat' first|apply ad|(apply gw;first|refine ai rx_ ?_|(apply gq6;first|refine bM rx_ ?_|refine aD rfl ?_)|refine ak rfl hq_ HU b_ pv_ ?_)|apply au|apply ac
   refine cl PL.length (fun i env h'=>∃ vq,Sep h' [jA h1,ck iw (.cells 0 [.rd PL.length (PL.map Rw.sv) false,dj.next.mv Rw.iv,d'.tags.iv,K.iv]),ck im (.map (some .i64) ((.int .i64 (-1),.int .i64 (-1))::bJ (.int .i64) 0 (L2.map κ))),ck io (.cells 0 [vq,.rd 0 [] true,.rd 0 [] true]),cP vq 1 i ((PL.take i).map fun r:Rw am=>AV.rd r.l.length (r.l.flatMap am.av) false)]∧env.has [(2,.ptr ires 0 0),(4,.ptr iw 0 0),(5,kK L2),(6,.map im),(9,.ptr io 0 0),(60,.rd PL.length (PL.map Rw.sv) false),(61,.int .i64 PL.length),(62,.int .i64 i)]) ⟨_,hS2.nil 1,hh_⟩ ?_
   clear hS2 hwx2 hid
   rintro i env h' hi ⟨vq,hS,he⟩
   obtain⟨env,rfl⟩:=he.ex
   clear he
   have hio:h'.get io=_:=hS.get (i:=3) rfl
   have hvq:aA h' vq 1 i _:=hS.get (i:=4) rfl
   have hnq:=hvq.notTup
   have hPL1:=(jO hok' hK).p1
   rw[DK,← hPLc]at hPL1
   by_cases hi2:i<PL.length
   ·obtain⟨pg,hpg⟩:=aK hi2
    have hpn:aZ pg.l=pg.l:=by
     have h2:=(jO hok' hK).norm pg.l
     refine h2 ?_
     show pg.l∈(d'.plain.O κ).map fun g=>(ga d'.plain (d'.plain.G κ)).getD g []
     rw[← hPL]
     exact List.mem_map.2 ⟨pg,List.mem_of_getElem? hpg,rfl⟩
    have hcl:=zd L pg (by have:=qd hpn;omega)
    repeat' first|apply ad|(apply gw;first|refine ai rx_ ?_|(apply gq2;first|refine aC rx_ ?_|refine aI rfl b_ pv_ ?_|refine ak rfl hq_ HU b_ pv_ ?_)|(apply gq3;first|refine az rx_ ?_|refine aN rx_ ?_|(refine aB rfl rfl rfl ?_ ?_<;>(intro hc;try omega)))|(apply gq5;first|refine aO rx_ ?_|refine aS rx_ ?_|refine ar rfl rfl hpg HT rfl ?_)|(apply iA;first|refine bg rx_ ?_|refine bf rx_ ?_)|(apply lE;first|refine bX rx_ ?_|refine bW rx_ ?_|(refine br (m:=1) rx_ iq_ rfl rfl HT ?_;intro va hpa hra hka hria))|(apply gq4;first|refine aG rx_ ?_|refine aq rfl (Nat.zero_add _) ?_)|refine aL rfl nt_ ?_|refine bF (cs:=[AV.rd _ _ _]) rfl rfl ?_)|(apply gx;first|apply af|refine ae rfl ?_|apply ay|apply au|refine al rfl ?_)|apply ac|refine bu (by assumption) fz_ fz_ ?_
    have hS2:=hS.upd 4 (cP va 1 (i+1) (((PL.take i).map fun r:Rw am=>AV.rd r.l.length (r.l.flatMap am.av) false)++[.rd pg.l.length (pg.l.flatMap am.av) false])) rfl hra hka hria
    have hio2:hpa.get io=some (.cells 0 [vq,.rd 0 [] true,.rd 0 [] true]):=hS2.get (i:=3) rfl
    refine cr (v:=va) (cs':=[va,.rd 0 [] true,.rd 0 [] true]) rfl rfl hra hio2 HU rfl ?_
    have hS3:=hS2.put 3 (.cells 0 [va,.rd 0 [] true,.rd 0 [] true]) rfl
    repeat' first|apply ad|(apply gw;first|refine ai rx_ ?_|(apply gq3;first|refine az rx_ ?_|refine a8 rfl rfl rfl HT HT ?_))|refine ae rfl ?_|apply ac|apply aJ
    refine aW hi2 ⟨va,?_,hh_⟩
    rw[aX hpg,List.map_append,List.map_singleton]
    exact hS3
   ·have hi3:i=PL.length:=by omega
    subst hi3
    rw[List.take_of_length_le (Nat.le_refl _)]at hS
    clear hio hvq
    repeat' first|apply ad|(apply gw;first|refine ai rx_ ?_|(apply gq3;first|refine az rx_ ?_|refine aN rx_ ?_|(refine aB rfl rfl rfl ?_ ?_<;>(intro hc;try omega)))|(apply gq6;first|refine bM rx_ ?_|refine aD rfl ?_))|(apply gx;first|apply af|refine ae rfl ?_|apply au|apply aP|refine ah rfl ?_)|apply ac|apply aQ|apply aR|apply ba
    refine cl L2.length (fun i env h'=>∃ vn vt,Sep h' [jA h1,ck iw (.cells 0 [.rd PL.length (PL.map Rw.sv) false,dj.next.mv Rw.iv,d'.tags.iv,K.iv]),ck im (.map (some .i64) ((.int .i64 (-1),.int .i64 (-1))::bJ (.int .i64) 0 (L2.map κ))),ck io (.cells 0 [vq,vn,vt]),cP vq 1 PL.length (PL.map fun r:Rw am=>AV.rd r.l.length (r.l.flatMap am.av) false),cP vn 1 i ((L2.take i).map fun s:Int=>kK ((d'.plain.R2 κ s).map (cf κ L2))),cP vt 1 i ((L2.take i).map fun s:Int=>AV.int .i64 (d'.plain.tag s))]∧env.has [(2,.ptr ires 0 0),(4,.ptr iw 0 0),(6,.map im),(9,.ptr io 0 0),(74,kK L2),(75,.int .i64 L2.length),(76,.int .i64 i)]) ⟨_,_,(hS.nil 1).nil 1,hh_⟩ ?_
    clear hS
    rintro i env h' hi ⟨vn,vt,hS,he⟩
    obtain⟨env,rfl⟩:=he.ex
    clear he
    have hwx:h'.get iw=some (.cells 0 [.rd PL.length (PL.map Rw.sv) false,dj.next.mv Rw.iv,d'.tags.iv,K.iv]):=hS.get (i:=1) rfl
    by_cases hi2:i<L2.length
    ·obtain⟨s,hs⟩:=aK hi2
     have hsin:=hcome.inn s (List.mem_of_getElem? hs)
     have hs0:(s.toNat:Int)=s:=by unfold In at hsin;omega
     obtain⟨row,hrow⟩:=aK (l:=dj.next.l) (i:=s.toNat) (by unfold In at hsin;omega)
     have hrr:row.l=d'.plain.R2 κ s:=by rw[← hrj s hsin,oP hs0.symm hrow]
     have hrl:row.l.length=PL.length:=by rw[hrr,htab2.len s hsin,hPLc]
     obtain⟨t,htt⟩:=aK (l:=d'.tags.l) (i:=s.toNat) (by have:=hfit.tl;unfold In at hsin;omega)
     have htag:d'.plain.tag s=t:=by simp[PD.tag,Dfa.plain,List.getD_eq_getElem?_getD,htt]
     repeat' first|apply ad|(apply gw;first|refine ai rx_ ?_|(apply gq2;first|refine aC rx_ ?_|refine aI rfl b_ pv_ ?_|refine ak rfl hq_ HU b_ pv_ ?_)|(apply gq3;first|refine az rx_ ?_|refine aN rx_ ?_|(refine aB rfl rfl rfl ?_ ?_<;>(intro hc;try omega)))|(apply gq5;first|refine aO rx_ ?_|refine aS rx_ ?_|refine ar rfl rfl hs HT rfl ?_|refine ar rfl rfl hrow HT rfl ?_)|(apply gq6;first|refine bM rx_ ?_|refine aD rfl ?_)|(apply gq4;first|refine aG rx_ ?_|refine aq rfl (Nat.zero_add _) ?_)|refine bi rfl ?_)|(apply gx;first|apply af|refine ae rfl ?_|apply ay|apply au|refine al rfl ?_)|apply ac
     refine cl row.l.length (fun q env h'=>∃ vr,Sep h' [jA h1,ck iw (.cells 0 [.rd PL.length (PL.map Rw.sv) false,dj.next.mv Rw.iv,d'.tags.iv,K.iv]),ck im (.map (some .i64) ((.int .i64 (-1),.int .i64 (-1))::bJ (.int .i64) 0 (L2.map κ))),ck io (.cells 0 [vq,vn,vt]),cP vq 1 PL.length (PL.map fun r:Rw am=>AV.rd r.l.length (r.l.flatMap am.av) false),cP vn 1 i ((L2.take i).map fun s:Int=>kK ((d'.plain.R2 κ s).map (cf κ L2))),cP vt 1 i ((L2.take i).map fun s:Int=>AV.int .i64 (d'.plain.tag s)),cP vr 1 q (iC ((row.l.take q).map (cf κ L2)))]∧env.has [(2,.ptr ires 0 0),(4,.ptr iw 0 0),(6,.map im),(9,.ptr io 0 0),(13,.int .i64 s),(14,vr),(74,kK L2),(75,.int .i64 L2.length),(76,.int .i64 i),(87,row.iv),(88,.int .i64 row.l.length),(89,.int .i64 q)]) ⟨_,hS.nil 1,hh_⟩ ?_
     clear hS hwx
     rintro q env h' hq ⟨vr,hS,he⟩
     obtain⟨env,rfl⟩:=he.ex
     clear he
     have hwx:h'.get iw=some (.cells 0 [.rd PL.length (PL.map Rw.sv) false,dj.next.mv Rw.iv,d'.tags.iv,K.iv]):=hS.get (i:=1) rfl
     have hmx:=hS.get (i:=2) rfl
     have hvr:aA h' vr 1 q _:=hS.get (i:=7) rfl
     have hnr:=hvr.notTup
     by_cases hq2:q<row.l.length
     ·obtain⟨x,hx⟩:=aK hq2
      have hxm:x∈d'.plain.R2 κ s:=by rw[← hrr];exact List.mem_of_getElem? hx
      have hxo:=htab2.to s hsin x hxm
      have hxk:=hclosed s (List.mem_of_getElem? hs) x hxm
      have hkd:aU Φ 107 [.ptr iw 0 0,.int .i64 x] h' (fun v h2=>v = .int .i64 (κ x)∧h'.Ext h2):=by
       rw[← hκ]
       refine qH L (K:=K) (d:=⟨⟨PL,false⟩,dj.next,d'.tags⟩) hwx x ?_
       have:=hfitK.kl
       rcases hxo with h1|h1
       ·exact .inl h1
       ·right;unfold In at h1;omega
      repeat' first|apply ad|(apply gw;first|refine ai rx_ ?_|(apply gq2;first|refine aC rx_ ?_|refine aI rfl b_ pv_ ?_)|(apply gq3;first|refine az rx_ ?_|refine aN rx_ ?_|(refine aB rfl rfl rfl ?_ ?_<;>(intro hc;try omega)))|(apply gq5;first|refine aO rx_ ?_|refine aS rx_ ?_|refine ar rfl rfl hx HT rfl ?_)|refine aL rfl nt_ ?_)|(apply gx;first|apply af|refine ae rfl ?_|apply ay|apply au|refine al rfl ?_)|apply ac
      refine jz HT hkd ?_
      skip
      refine tJ (key:=AV.int .i64 (κ x)) rfl rfl rfl hmx ?_
      have hlk:(gu ((.int .i64 (-1),.int .i64 (-1))::bJ (.int .i64) 0 (L2.map κ)) (.int .i64 (κ x))).getD (.int .i64 0)=AV.int .i64 (cf κ L2 x):=by
       by_cases e:x = -1
       ·subst e
        rw[hK.no,js]
        simp[gu]
       ·have hxi:=hxo.resolve_left e
        have h0:=hK.yes x hxi
        have hne1:¬ (AV.int .i64 (-1)=AV.int .i64 (κ x)):=fun e=>by have:=hfe _ _ e;omega
        simp only[gu,hne1,if_false]
        rw[iK hfe,if_pos (hxk.resolve_left e),cf,if_neg e]
        simp[cH]
      rw[hlk]
      repeat' first|apply ad|(apply gw;first|refine ai rx_ ?_|(apply gq3;first|refine az rx_ ?_|refine a8 rfl rfl rfl HT HT ?_)|(apply lE;first|refine bX rx_ ?_|refine bW rx_ ?_|(refine br (m:=1) rx_ iq_ rfl rfl HT ?_;intro va hpa hra hka hria))|refine bF (cs:=[AV.int _ _]) rfl rfl ?_)|refine ae rfl ?_|apply ac|apply aJ
      have hS2:=hS.upd 7 (cP va 1 (q+1) (iC ((row.l.take q).map (cf κ L2))++[.int .i64 (cf κ L2 x)])) rfl hra hka hria
      refine aW hq2 ⟨va,?_,hh_⟩
      have e1:iC ((row.l.take (q+1)).map (cf κ L2))=iC ((row.l.take q).map (cf κ L2))++[.int .i64 (cf κ L2 x)]:=by
       rw[aX hx];simp[iC]
      rw[e1]
      exact hS2
     ·have hq3:q=row.l.length:=by omega
      subst hq3
      rw[List.take_of_length_le (Nat.le_refl _)]at hS hvr
      repeat' first|apply ad|(apply gq3;first|refine az rx_ ?_|refine aN rx_ ?_|(refine aB rfl rfl rfl ?_ ?_<;>(intro hc;try omega)))|(apply gx;first|apply af|refine ae rfl ?_|apply aP|refine ah rfl ?_)|apply ac|apply aQ|apply aR|apply ba
      refine jn 14 (v:=vr) rfl rfl hvr ?_
      intro h3 hk3
      have hS2:=hS.drop 7 (h':=h3) rfl hk3
      have hio:h3.get io=some (.cells 0 [vq,vn,vt]):=hS2.get (i:=3) rfl
      have hvn:aA h3 vn 1 i _:=hS2.get (i:=5) rfl
      have hnn:=hvn.notTup
      clear hS hvr hwx hmx hnr
      repeat' first|(apply gw;first|refine ai rx_ ?_|(apply gq2;first|refine aC rx_ ?_|refine ak rfl hq_ HU b_ pv_ ?_)|(apply iA;first|refine bg rx_ ?_|refine bf rx_ ?_)|(apply lE;first|refine bX rx_ ?_|refine bW rx_ ?_|(refine br (m:=1) rx_ iq_ rfl rfl HT ?_;intro va hpa hra hka hria))|(apply gq4;first|refine aG rx_ ?_|refine aq rfl (Nat.zero_add _) ?_)|refine bF (cs:=[AV.rd _ _ _]) rfl rfl ?_)
      have hS3:=hS2.upd 5 (cP va 1 (i+1) (((L2.take i).map fun s:Int=>kK ((d'.plain.R2 κ s).map (cf κ L2)))++[.rd row.l.length (iC (row.l.map (cf κ L2))) false])) rfl hra hka hria
      have hio3:hpa.get io=some (.cells 0 [vq,vn,vt]):=hS3.get (i:=3) rfl
      refine cr (v:=va) (cs':=[vq,va,vt]) rfl rfl hra hio3 HU rfl ?_
      have hS4:=hS3.put 3 (.cells 0 [vq,va,vt]) rfl
      have hio4:(hpa.set io (.cells 0 [vq,va,vt])).get io=some (.cells 0 [vq,va,vt]):=hS4.get (i:=3) rfl
      have hwx4:(hpa.set io (.cells 0 [vq,va,vt])).get iw=some (.cells 0 [.rd PL.length (PL.map Rw.sv) false,dj.next.mv Rw.iv,d'.tags.iv,K.iv]):=hS4.get (i:=1) rfl
      have hvt4:aA (hpa.set io (.cells 0 [vq,va,vt])) vt 1 i _:=hS4.get (i:=6) rfl
      have hnt4:=hvt4.notTup
      clear hS2 hS3 hio hio3 hvn hnn hra hka hria
      obtain⟨vn2,rfl⟩:∃ x,x=va:=⟨_,rfl⟩
      repeat' first|apply ad|(apply gw;first|refine ai rx_ ?_|(apply gq2;first|refine aC rx_ ?_|refine aI rfl b_ pv_ ?_|refine ak rfl hq_ HU b_ pv_ ?_)|(apply gq5;first|refine aO rx_ ?_|refine aS rx_ ?_|refine ar rfl rfl htt HT rfl ?_)|(apply iA;first|refine bg rx_ ?_|refine bf rx_ ?_)|(apply lE;first|refine bX rx_ ?_|refine bW rx_ ?_|(refine br (m:=1) rx_ iq_ rfl rfl HT ?_;intro va hpa hra hka hria))|(apply gq4;first|refine aG rx_ ?_|refine aq rfl (Nat.zero_add _) ?_)|refine bi rfl ?_|refine bF (cs:=[AV.int _ _]) rfl rfl ?_)|refine ae rfl ?_|apply ac
      have hS5:=hS4.upd 6 (cP va 1 (i+1) (((L2.take i).map fun s:Int=>AV.int .i64 (d'.plain.tag s))++[.int .i64 t])) rfl hra hka hria
      have hio5:hpa.get io=some (.cells 0 [vq,vn2,vt]):=hS5.get (i:=3) rfl
      refine cr (v:=va) (cs':=[vq,vn2,va]) rfl rfl hra hio5 HU rfl ?_
      have hS6:=hS5.put 3 (.cells 0 [vq,vn2,va]) rfl
      repeat' first|apply ad|(apply gw;first|refine ai rx_ ?_|(apply gq3;first|refine az rx_ ?_|refine a8 rfl rfl rfl HT HT ?_))|refine ae rfl ?_|apply ac|apply aJ
      refine aW hi2 ⟨vn2,va,?_,hh_⟩
      have e1:kK ((d'.plain.R2 κ s).map (cf κ L2)) = .rd row.l.length (iC (row.l.map (cf κ L2))) false:=by rw[hrr];simp[kK,iC]
      rw[aX hs,List.map_append,List.map_append,List.map_singleton,List.map_singleton,htag,e1]
      exact hS6
    ·have hi3:i=L2.length:=by omega
     subst hi3
     rw[List.take_of_length_le (Nat.le_refl _)]at hS
     have hio:h'.get io=some (.cells 0 [vq,vn,vt]):=hS.get (i:=3) rfl
     have hres:h'.get ires=some vv:=((hS.get (i:=0) rfl:∀ k,h1.get k≠none→h'.get k=h1.get k) ires (by rw[hres1];simp)).trans hres1
     have hvq:aA h' vq 1 PL.length _:=hS.get (i:=4) rfl
     have hvn:aA h' vn 1 L2.length _:=hS.get (i:=5) rfl
     have hvt:aA h' vt 1 L2.length _:=hS.get (i:=6) rfl
     have hr1:h1.get ires≠none:=by rw[hres1];simp
     repeat' first|apply ad|(apply gw;first|refine ai rx_ ?_|(apply gq2;first|refine aC rx_ ?_|refine ak rfl hq_ HU b_ pv_ ?_)|(apply gq3;first|refine az rx_ ?_|refine aN rx_ ?_|(refine aB rfl rfl rfl ?_ ?_<;>(intro hc;try omega)))|(apply iA;first|refine bg rx_ ?_|refine bf rx_ ?_|refine aY (v:=AV.agg _) rfl rfl hq_ rfl rfl b_ sv_ ?_))|(apply gx;first|apply af|refine ae rfl ?_|apply aM|apply aP|refine ah rfl ?_)|apply ac|apply aQ|apply aR|apply ba
     have f1:=(hvq.set_ne (id:=ires) (o := .cells 0 [vq,vn,vt]) fun e=>hS.disj (i:=0) (j:=4) rfl rfl (by decide) ires hr1 e).fz (fun k=>vq.rowId=some k∨vn.rowId=some k∨vt.rowId=some k) (fun _ h => .inl h) (FzL.same _)
     have f2:=(hvn.set_ne (id:=ires) (o := .cells 0 [vq,vn,vt]) fun e=>hS.disj (i:=0) (j:=5) rfl rfl (by decide) ires hr1 e).fz (fun k=>vq.rowId=some k∨vn.rowId=some k∨vt.rowId=some k) (fun _ h => .inr (.inl h)) (FzL.same _)
     have f3:=(hvt.set_ne (id:=ires) (o := .cells 0 [vq,vn,vt]) fun e=>hS.disj (i:=0) (j:=6) rfl rfl (by decide) ires hr1 e).fz (fun k=>vq.rowId=some k∨vn.rowId=some k∨vt.rowId=some k) (fun _ h => .inr (.inr h)) (FzL.same _)
     have hfin:ef ((((env.puts [(2,.ptr ires 0 0),(4,.ptr iw 0 0),(6,.map im),(9,.ptr io 0 0),(74,kK L2),(75,AV.int .i64 L2.length),(76,AV.int .i64 L2.length)]).put 77 (.bool false)).put 122 (.agg [vq,vn,vt])).put 3 (.int .u16 0)) (h'.set ires (.cells 0 [vq,vn,vt])) [.cell 2 3 true,.tmp 3]=some (.tup [.agg [vq,vn,vt],.int .u16 0]):=nh (t:=2) (t2:=3) rfl (aa.get_set_self _ _ _) rfl rfl rfl
     refine fA (fun k=>vq.rowId=some k∨vn.rowId=some k∨vt.rowId=some k) hfin (.tup (.cons (.agg (.cons f1 (.cons f2 (.cons f3 .nil)))) (.cons (.same _) .nil))) ?_
     refine Or.inr ⟨hok,⟨⟨PL.map fun r:Rw am=>⟨r.l,false⟩,false⟩,⟨L2.map fun s:Int=>⟨(d'.plain.R2 κ s).map (cf κ L2),false⟩,false⟩,⟨L2.map d'.plain.tag,false⟩⟩,⟨lv,κ,fun s hs=>?_,?_,?_⟩,?_⟩
     ·have hnx:(cm d.plain).next.length=d.plain.n:=by omega
      rw[hnx]at hlv
      exact hlv s hs
     ·rw[← hp']
      have e1:d'.plain.n=d.plain.n:=by rw[hp'];rfl
      have e2:d'.plain.tag=d.plain.tag:=by rw[hp'];rfl
      rw[← e1,← e2]
      exact hK
     ·rw[← hp',PD.ext'_iff]
      refine⟨?_,?_,?_⟩
      ·show(PL.map fun r:Rw am=>(⟨r.l,false⟩:Rw am)).map (·.l)=_
       rw[List.map_map]
       exact hPL
      ·show(L2.map fun s:Int=>(⟨(d'.plain.R2 κ s).map (cf κ L2),false⟩:Rw Int)).map (·.l)=(d'.plain.L2 κ).map _
       rw[List.map_map,hL2]
       rfl
      ·show L2.map d'.plain.tag=(d'.plain.L2 κ).map _
       rw[hL2]
     ·simp[List.map_map,Function.comp]
end
end Go.Proofs.YtlnobeojgifojaaGreatDoor
