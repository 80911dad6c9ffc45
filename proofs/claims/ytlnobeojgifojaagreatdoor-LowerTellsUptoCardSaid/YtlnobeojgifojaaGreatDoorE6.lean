/- Rounds till nothing changes tell kinds. -/
import Derived.Test.YtlnobeojgifojaaGreatDoorE5
set_option linter.unusedVariables false
set_option linter.unusedSimpArgs false
namespace Go.Proofs.YtlnobeojgifojaaGreatDoor
section
open Go
theorem Fr {α β:Type}(f:α→β)(l:List α)(k:Nat)(a:α):(l.map f).getD k (f a)=f (l.getD k a):=by
 by_cases h:k<l.length
 ·exact cS f l k a _ h
 ·rw[gh (by simpa using h),gh h]
theorem js {K:List Int}{n:Nat}{s:Int}(hs:In n s):bG K s=K.getD s.toNat 0:=by
 unfold bG
 rw[if_neg hs.ne]
theorem Bw {N:List (Rw Int)}{T:List Int}{q:Nat}(hT:T.length≤2000){s:Nat}(hs:s<T.length):0≤(itK N T (q+1)).getD s 0:=by
 have h1:s<(itK N T (q+1)).length:=by rw[gn];exact hs
 have:=qL N (K:=itK N T q) (by rw[gn];exact hT) ((itK N T (q+1)).getD s 0) (jB h1)
 exact this.1
section
variable {d:Dfa} (hf:d.Fit d.tags) (hok:d.plain.Ok)
include hf hok
theorem yh (q:Nat){s t:Int}(hs:In d.plain.n s)(ht:In d.plain.n t):bG (itK d.next.l d.tags.l (q+1)) s=bG (itK d.next.l d.tags.l (q+1)) t↔bG (itK d.next.l d.tags.l q) s=bG (itK d.next.l d.tags.l q) t∧(d.plain.row s).map (bG (itK d.next.l d.tags.l q))=(d.plain.row t).map (bG (itK d.next.l d.tags.l q)):=by
 have _:=hf
 have _:=hok
 have hn:d.plain.n=d.tags.l.length:=by simp[Dfa.plain,PD.n]
 rw[js hs,js ht,js hs,js ht]
 have h1:s.toNat<(itK d.next.l d.tags.l q).length:=by rw[gn];unfold In at hs;omega
 have h2:t.toNat<(itK d.next.l d.tags.l q).length:=by rw[gn];unfold In at ht;omega
 have h3:=oZ (N:=d.next.l) h1 h2
 rw[tB]at h3
 rw[rH]
 exact h3
theorem zY {q:Nat}{s t:Int}(hs:In d.plain.n s)(ht:In d.plain.n t):∀ {p:Nat},bG (itK d.next.l d.tags.l (q+p)) s=bG (itK d.next.l d.tags.l (q+p)) t→bG (itK d.next.l d.tags.l q) s=bG (itK d.next.l d.tags.l q) t
 | 0,h=>h
 | p+1,h=>zY hs ht (p:=p) ((yh hf hok (q+p) hs ht).1 h).1
theorem G6 {r:Nat}(hc:rg d.next.l (itK d.next.l d.tags.l r)=rg d.next.l (itK d.next.l d.tags.l (r+1))):jK d.plain.n d.plain.row d.plain.tag (bG (itK d.next.l d.tags.l (r+2))):=by
 have hn:d.plain.n=d.tags.l.length:=by simp[Dfa.plain,PD.n]
 have hn2:=hok.n2
 have htab:=hok.tab
 have hyes:∀ q s,In d.plain.n s→0≤bG (itK d.next.l d.tags.l (q+1)) s:=fun q s hs=>by
  rw[js hs]
  exact Bw Ll (by unfold In at hs;omega)
 have hno:∀ q x,(x = -1∨In d.plain.n x)→(bG (itK d.next.l d.tags.l (q+1)) x = -1↔x = -1):=fun q x hx=>by
  rcases hx with rfl|hx
  ·simp[bG]
  ·have:=hyes q x hx
   have:=hx.ne
   constructor
   ·intro h;omega
   ·intro h;omega
 have hst:∀ s t,In d.plain.n s→In d.plain.n t→bG (itK d.next.l d.tags.l (r+1)) s=bG (itK d.next.l d.tags.l (r+1)) t→bG (itK d.next.l d.tags.l (r+2)) s=bG (itK d.next.l d.tags.l (r+2)) t:=fun s t hs ht h=>by
  have h1:s.toNat<(itK d.next.l d.tags.l r).length:=by rw[gn];unfold In at hs;omega
  have h2:t.toNat<(itK d.next.l d.tags.l r).length:=by rw[gn];unfold In at ht;omega
  have h1':s.toNat<(itK d.next.l d.tags.l (r+1)).length:=by rw[gn];unfold In at hs;omega
  have h2':t.toNat<(itK d.next.l d.tags.l (r+1)).length:=by rw[gn];unfold In at ht;omega
  rw[js hs,js ht]at h ⊢
  exact(oZ h1' h2').2 ((w6 d.next.l (itK d.next.l d.tags.l r)).2 hc _ h1 _ h2 ((oZ h1 h2).1 h))
 refine⟨by simp[bG],fun s hs=>hyes (r+1) s hs,fun s t hs ht h=>?_,fun s t hs ht h k=>?_,fun B hB=>?_⟩
 ·have h0:=zY hf hok (q:=0) (p:=r+2) hs ht (by rw[Nat.zero_add];exact h)
  rw[js hs,js ht]at h0
  have e:∀ s:Int,In d.plain.n s→d.plain.tag s=(itK d.next.l d.tags.l 0).getD s.toNat 0:=fun s hs=>by
   have hl:s.toNat<d.tags.l.length:=by unfold In at hs;omega
   simp[PD.tag,Dfa.plain,itK,List.getD_eq_getElem?_getD,hl]
  rw[e s hs,e t ht]
  exact h0
 ·have h1:=((yh hf hok (r+1) hs ht).1 h).2
  have h2:=congrArg (fun l=>l.getD k (bG (itK d.next.l d.tags.l (r+1)) (-1))) h1
  simp only[Fr]at h2
  change bG _ (col d.plain.row s k)=bG _ (col d.plain.row t k) at h2
  have cs:=htab.col hs k
  have ct:=htab.col ht k
  rcases cs with cs|cs<;>rcases ct with ct|ct
  ·rw[cs,ct]
  ·rw[cs,show bG (itK d.next.l d.tags.l (r+1)) (-1) = -1 by simp[bG]]at h2
   exact absurd ((hno r _ (.inr ct)).1 h2.symm) ct.ne
  ·rw[ct,show bG (itK d.next.l d.tags.l (r+1)) (-1) = -1 by simp[bG]]at h2
   exact absurd ((hno r _ (.inr cs)).1 h2) cs.ne
  ·exact hst _ _ cs ct h2
 ·have key:∀ q s t,In d.plain.n s→In d.plain.n t→B s t→bG (itK d.next.l d.tags.l q) s=bG (itK d.next.l d.tags.l q) t:=by
   intro q
   induction q with
   | zero =>
    intro s t hs ht hst
    have h1:=(hB s t hs ht hst).1
    have e:∀ s:Int,In d.plain.n s→bG (itK d.next.l d.tags.l 0) s=d.plain.tag s:=fun s hs=>by
     have hl:s.toNat<d.tags.l.length:=by unfold In at hs;omega
     rw[js hs]
     simp[PD.tag,Dfa.plain,itK,List.getD_eq_getElem?_getD,hl]
    rw[e s hs,e t ht]
    exact h1
   | succ q ih =>
    intro s t hs ht hst
    refine(yh hf hok q hs ht).2 ⟨ih s t hs ht hst,?_⟩
    have hl:(d.plain.row s).length=(d.plain.row t).length:=by rw[htab.len s hs,htab.len t ht]
    refine List.ext_getElem (by simpa using hl) fun k h1 h2=>?_
    rw[List.getElem_map,List.getElem_map]
    have hk1:k<(d.plain.row s).length:=by simpa using h1
    have hk2:k<(d.plain.row t).length:=by simpa using h2
    have ho:=(hB s t hs ht hst).2 k
    have c1:col d.plain.row s k=(d.plain.row s)[k]:=by simp[col,List.getD_eq_getElem?_getD,hk1]
    have c2:col d.plain.row t k=(d.plain.row t)[k]:=by simp[col,List.getD_eq_getElem?_getD,hk2]
    have cs:=htab.col hs k
    have ct:=htab.col ht k
    rw[c1]at ho cs
    rw[c2]at ho ct
    rcases ho with⟨e1,e2⟩|⟨e1,e2,e3⟩
    ·rw[e1,e2]
    ·exact ih _ _ (cs.resolve_left e1) (ct.resolve_left e2) e3
  exact key (r+2)
end
end
section
open Go
set_option maxHeartbeats 4000000
theorem o4 {env:Env}{h:ad}{t id g n t2:Nat}{cs:List AV}{v:AV}(ht:env t = .ptr id g 0)(hg:h.get id=some (.cells g cs))(hl:cs.length=n)(h2:env t2=v)(hv:v.isTup=false):fm env h [.cell t n true,.tmp t2]=some (.tup [.agg cs,v]):=by
 subst hl h2
 have e:fm env h [.cell t cs.length true,.tmp t2]=((lY env h (.cell t cs.length true)).bind fun a=>some [a,env t2]).bind fun vs=>if vs.all (fun x => !x.isTup)=true then some (.tup vs) else none:=by
  simp only[fm,List.mapM_cons,List.mapM_nil,lY]
  rfl
 rw[e]
 simp only[lY,ht,hg]
 rw[if_pos ⟨trivial,by omega⟩]
 simp only[if_true,Option.bind_some,List.drop_zero,List.take_length]
 rw[if_pos]
 rw[List.all_cons,List.all_cons,hv]
 rfl
attribute [local irreducible] az bf bm de bz cw dH bJ wop cz bc
theorem BO {Φ:Lib}(L:cJ Φ)(r:Rw aj)(hn:r.l.length≤4294967296):eQ Φ 106 [r.sv] (.rd r.l.length (r.l.flatMap aj.av) false):=by
 refine ba (fun o=>o == some 5) rfl L.f106 ?_
 have hlen:=jv aj.av 2 aj.av_length r.l
 have hs:∀ h:ad,bB h 2 r.sv=some (r.l.length,r.l.flatMap aj.av):=fun h=>by simp only[bB,hlen,if_true]
 repeat' first|apply ac|refine aG rfl ?_|(apply gx;first|apply af|refine ae rfl ?_)|apply aa
 refine xB rfl (hs _) rfl ?_ ?_
 ·repeat' first|apply ac|(apply gx;first|apply af|apply ay|refine ai rfl ?_)|apply aa
  refine jN rfl ?_
  refine bj (cs:=[]) rfl rfl ?_
  refine au (v:=r.sv) rfl ?_
  refine iU (n:=0) (v := .rd 0 [] true) (w:=r.sv) rfl (aD.nil _ _) rfl (hs _) hlen Ll ?_
  intro v' h' hr hk hi
  rw[Nat.zero_add,List.nil_append]at hr
  repeat' first|apply ac|refine au rv_ ?_|apply aM|apply aa
  exact fq rfl hr (fun _=>rfl)
 ·intro h0
  have h1:r.l=[]:=List.eq_nil_of_length_eq_zero h0
  repeat' first|apply ac|refine aG rfl ?_|(apply gx;first|apply af|refine ae rfl ?_|apply aM|refine ak rfl ?_)|apply aa|apply cp
  exact fq rfl (aD.nil _ 2) (fun _=>by simp[h1])
def kI (d:Dfa):List (Rw aj):=(fu d.plain).map fun k=>d.parts.l.getD k ⟨[],false⟩
theorem xa (d:Dfa):∀ i,i≤d.parts.l.length→(cV ((gJ d.plain i).map fun k=>d.parts.l.getD k ⟨[],false⟩)).length≤(cV (d.parts.l.take i)).length
 | 0,_=>by simp[gJ,cV]
 | i+1,hi=>by
  have ih:=xa d i Ll
  obtain⟨p,hp⟩:=aK (l:=d.parts.l) (i:=i) Ll
  have hpd:d.parts.l.getD i ⟨[],false⟩=p:=by simp[List.getD_eq_getElem?_getD,hp]
  rw[uv,List.map_append,j0 hp,List.length_append]
  split
  ·simp only[List.map_nil,List.append_nil];omega
  ·rw[List.map_singleton,Am,hpd];omega
theorem A9 (d:Dfa):cu (kI d)=(cy d.plain).parts:=by
 show(kI d).map (·.l)=(fu d.plain).map d.plain.part
 unfold kI
 rw[List.map_map]
 apply List.map_congr_left
 intro k hk
 have hk2:k<d.parts.l.length:=by
  have:=(np.1 hk).1
  simpa[Dfa.plain,cu,PD.p] using this
 exact(cS (fun x:Rw aj=>x.l) d.parts.l k ⟨[],false⟩ [] hk2).symm
def kO (d:Dfa)(lv:Int→Bool):Dfa:=⟨⟨kI d,false⟩,⟨(cy d.plain).next.map fun r=>⟨r.map (dT lv),false⟩,false⟩,d.tags⟩
theorem vz (d:Dfa)(lv:Int→Bool):(kO d lv).plain=d7 lv (cy d.plain):=by
 rw[PD.ext'_iff]
 refine⟨A9 d,?_,rfl⟩
 show cG ((cy d.plain).next.map fun r=>Rw.mk (r.map (dT lv)) false)=(cy d.plain).next.map fun r=>r.map (dT lv)
 unfold cG
 rw[List.map_map]
 rfl
theorem xP {d:Dfa}(hf:d.Fits)(hok:d.plain.Ok)(lv:Int→Bool):(kO d lv).Fits:=by
 have hpl:d.plain.p=d.parts.l.length:=by simp[Dfa.plain,cu,PD.p]
 have hp1:=hok.p1
 have hbk:(fu d.plain).length≤d.parts.l.length:=by
  have:=qU d.plain d.parts.l.length
  have e:gJ d.plain d.parts.l.length=fu d.plain:=by unfold fu;rw[hpl];rfl
  rwa [e]at this
 refine⟨?_,?_,?_,fun r hr=>?_,hf.tags⟩
 ·have h1:=xa d d.parts.l.length (Nat.le_refl _)
  have e:gJ d.plain d.parts.l.length=fu d.plain:=by unfold fu;rw[hpl];rfl
  rw[e,List.take_length]at h1
  exact Nat.le_trans h1 hf.cat
 ·show(kI d).length≤_
  unfold kI
  rw[List.length_map]
  have:=hf.parts
  omega
 ·show((cy d.plain).next.map _).length≤_
  rw[List.length_map]
  show(d.plain.next.map _).length≤_
  rw[List.length_map,show d.plain.next.length=d.next.l.length by simp[Dfa.plain,cG]]
  exact hf.next
 ·obtain⟨q,hq,rfl⟩:=List.mem_map.1 hr
  obtain⟨q0,_,rfl⟩:=List.mem_map.1 hq
  simp only[List.length_map]
  omega
theorem JZ {d:Dfa}(hok:d.plain.Ok){K:Rw Int}(hk:K.l.length=d.next.l.length)(hr:∀ x∈K.l,-2147483648≤x∧x≤2147483647):d.Fit K:=by
 have hpl:d.plain.p=d.parts.l.length:=by simp[Dfa.plain,cu,PD.p]
 have hnl:d.plain.n=d.tags.l.length:=by simp[Dfa.plain,PD.n]
 have hxl:d.plain.next.length=d.next.l.length:=by simp[Dfa.plain,cG]
 have h1:=hok.n1
 have h2:=hok.n2
 have h3:=hok.nl
 have h4:=hok.p1
 refine⟨hk,by omega,by omega,by omega,by omega,fun r hr=>?_,fun r hr x hx=>?_,hr⟩
 ·have:=(hok.rows r.l (List.mem_map.2 ⟨r,hr,rfl⟩)).1
  omega
 ·have:=(hok.rows r.l (List.mem_map.2 ⟨r,hr,rfl⟩)).2 x hx
  rcases this with h|h
  ·exact .inl h
  ·right;unfold In at h;omega
noncomputable def ez (d:Dfa)(κ:Int→Int)(PL:List (Rw aj)):Dfa:=⟨⟨PL,false⟩,⟨(List.range d.next.l.length).map fun s:Nat=>⟨d.plain.R2 κ s,false⟩,false⟩,d.tags⟩
set_option maxRecDepth 100000 in
theorem up {Φ:Lib}(L:cJ Φ)(L1:il Φ)(S:fv Φ)(G:fV Φ)(J:jD Φ)(d:Dfa)(hf:d.Fits)(ht:∀ t∈d.tags.l,-2147483648≤t∧t≤2147483647) :
  bc Φ 95 [.agg d.av] ad.empty (fun v _=>(¬ d.plain.Ok∧v = .tup [.agg [.rd 0 [] true,.rd 0 [] true,.rd 0 [] true],.int .u16 1])∨(d.plain.Ok∧∃ x:Dfa,eF d.plain x.plain∧v = .tup [.agg x.av,.int .u16 0])):=by
 have hsd:=Fw L L1 S G d hf
 refine ba (fun o=>o == some 102) rfl L.f95 ?_
 by_cases hok:¬ d.plain.Ok
 ·rw[iH hok]at hsd
  repeat' first|apply ac|(apply gw;first|refine aq rfl ?_|refine am rfl hg_ Lm b_ pv_ ?_|refine aH rfl nt_ ?_|(refine bV ?_;intro id hid;try simp only[ad.set_none]at hid)|(refine gQ (v:=AV.agg _) rfl rfl ?_;intro id hid;try simp only[ad.set_none]at hid)|refine cC (cs':=[AV.rd _ _ _,AV.rd _ _ _,AV.rd _ _ _]) rfl rfl rfl rfl b_ rfl ?_|refine cO (cs:=[AV.rd _ _ _,AV.rd _ _ _,AV.rd _ _ _]) rfl ?_|refine dh (b:=false) rfl ?_)|(apply gx;first|apply af|refine ae rfl ?_|apply aM|refine ak rfl ?_)|apply aa|apply cp|refine aW (by assumption) fz_ fz_ ?_
  refine aJ (v := .tup [.agg [.rd 0 [] true,.rd 0 [] true,.rd 0 [] true],.int .u16 1]) ?_ ?_
  ·exact o4 (t:=2) (t2:=3) rfl (ad.get_set_self _ _ _) rfl rfl rfl
  ·exact Or.inl ⟨hok,rfl⟩
 ·have hok:=Classical.not_not.1 hok
  rw[mU hok]at hsd
  have hpl:d.plain.p=d.parts.l.length:=by simp[Dfa.plain,cu,PD.p]
  have hnl:d.plain.n=d.tags.l.length:=by simp[Dfa.plain,PD.n]
  have hxl:d.plain.next.length=d.next.l.length:=by simp[Dfa.plain,cG]
  have hnle:=hok.nl
  have hn2:=hok.n2
  repeat' first|apply ac|(apply gw;first|refine aq rfl ?_|refine am rfl hg_ Lm b_ pv_ ?_|refine aH rfl nt_ ?_|(refine bV ?_;intro id hid;try simp only[ad.set_none]at hid)|(refine gQ (v:=AV.agg _) rfl rfl ?_;intro id hid;try simp only[ad.set_none]at hid)|refine dh (b:=true) rfl ?_)|(apply gx;first|apply af|refine ae rfl ?_|apply ay|refine ai rfl ?_)|apply aa|refine aW (by assumption) fz_ fz_ ?_
  rename_i ib hib
  refine ci (FF L d hf hok) ?_
  rintro _ h2 ⟨inx,ws,rfl,hS⟩
  have hbo:=rh hok
  have hbn:(cy d.plain).next.length=d.next.l.length:=by simp[cy,hxl]
  repeat' first|refine aH rfl nt_ ?_
  rw[← hbn]
  refine ci (zu L (T:=d.tags) (p:=(cy d.plain).p) hS Ll Ll hbo.1.p1 (fun r hr=>by
   have:=hbo.1.rows r hr
   have e:(cy d.plain).n=(cy d.plain).next.length:=hbo.1.nl.symm
   rw[← e];exact this)) ?_
  rintro _ h3 ⟨⟨lv,hlv,rfl⟩,hS⟩
  obtain⟨ires,rfl⟩:∃ x,x=id:=⟨_,rfl⟩
  have eAv:AV.agg [.rd (fu d.plain).length ((fu d.plain).map fun k=>(d.parts.l.getD k ⟨[],false⟩).sv) false,.rd (cy d.plain).next.length (((cy d.plain).next.map fun r=>Rw.mk (r.map (dT lv)) false).map Rw.iv) false,d.tags.iv] = .agg (kO d lv).av:=by
   simp[kO,kI,List.map_map,Function.comp]
  rw[eAv]
  have hp':=vz d lv
  have hf':=xP hf hok lv
  have hok':(kO d lv).plain.Ok:=by rw[hp'];exact zv hbo.1 lv
  have hne':∀ q∈(kO d lv).plain.parts,q≠[]:=by rw[hp'];exact hbo.2
  have htg':(kO d lv).tags=d.tags:=rfl
  have hnn':(kO d lv).next.l.length=d.next.l.length:=by simp[kO,hbn]
  generalize kO d lv=d' at *
  have hfit:d'.Fit d'.tags:=JZ hok' (by rw[htg',hnn'];omega) (by rw[htg'];exact ht)
  have hn':d'.plain.n=d'.next.l.length:=by
   have:d'.plain.n=d'.tags.l.length:=by simp[Dfa.plain,PD.n]
   have:=hfit.tl
   omega
  refine cO (cs:=d'.av++[.rd 0 [] true]) rfl ?_
  refine gQ (v := .agg (d'.av++[.rd 0 [] true])) rfl rfl ?_
  intro iw hiw
  have hS1:=hS.new (o := .cells 0 (d'.av++[.rd 0 [] true])) hiw
  have hw:WAt _ iw d' ⟨[],true⟩:=hS1.get (i:=1) rfl
  clear hS eAv
  repeat' first|apply ac|(apply gw;first|refine au rx_ ?_|refine aH rfl nt_ ?_)|(apply gx;first|apply af|refine ae rfl ?_)|apply aa
  refine ci (EN L hw hfit) ?_
  rintro _ h4 ⟨⟨r,hw4,hc4⟩,hold4⟩
  have hS4:=hS1.upd 1 (bU iw (.cells 0 [d'.parts.mv Rw.sv,d'.next.mv Rw.iv,d'.tags.iv,(Rw.mk (itK d'.next.l d'.tags.l (r+2)) false).iv])) rfl hw4 (fun k hk hne=>hold4 k hne hk) (fun k hk => .inl hk)
  have hK:=G6 hfit hok' hc4
  have hfitK:=hfit.it (r+2)
  generalize hKl:Rw.mk (itK d'.next.l d'.tags.l (r+2)) false=K at *
  rw[show itK d'.next.l d'.tags.l (r+2)=K.l by rw[← hKl]]at hK
  clear hS1 hw hold4 hc4
  repeat' first|apply ac|(apply gw;first|refine au rx_ ?_|refine aH rfl nt_ ?_)|(apply gx;first|apply af|refine ae rfl ?_)|apply aa
  refine ci (vS L hw4 hfitK) ?_
  rintro _ h5 ⟨rfl,hold5⟩
  have hS5:=hS4.ext hold5
  have hw5:WAt h5 iw d' K:=hS5.get (i:=1) rfl
  have eL1:cU d'.next.l.length (bG K.l) (lX d'.next.l) 0=d'.plain.L1 (bG K.l):=by
   unfold PD.L1
   rw[rH,hn']
  rw[eL1]
  repeat' first|refine aH rfl nt_ ?_
  refine ci (zX L L1 S G J hw5 hfitK hf' hok' hne' hK) ?_
  rintro _ h6 ⟨⟨PL,hPL,rfl⟩,hold6⟩
  have hS6:=hS5.ext hold6
  have hw6:h6.get iw=some (.cells 0 [d'.parts.mv Rw.sv,d'.next.mv Rw.iv,d'.tags.iv,K.iv]):=hS6.get (i:=1) rfl
  clear hS4 hS5 hw4 hw5 hold5 hold6
  have eN:AV.rd d'.next.l.length (((List.range d'.next.l.length).map fun s:Nat=>Rw.mk (d'.plain.R2 (bG K.l) s) false).map Rw.iv) false=(ez d' (bG K.l) PL).next.mv Rw.iv:=by simp[ez]
  rw[eN]
  have htab2:=H0 hok' hK
  have hPLc:PL.length=(d'.plain.cols (bG K.l)).length:=by
   have:=congrArg List.length hPL
   simpa[PD.cols] using this
  have hfitj:(ez d' (bG K.l) PL).Fit K:=by
   have h1:=(lf hok' hK).p1
   rw[G5]at h1
   have hin:∀ {s:Nat},s∈List.range d'.next.l.length→In d'.plain.n (s:Int):=fun hs=>by rw[List.mem_range]at hs;unfold In;omega
   refine⟨by simp only[ez,List.length_map,List.length_range];exact hfitK.kl,by simp only[ez,List.length_map,List.length_range];exact hfit.tl,by simp only[ez,List.length_map,List.length_range];exact hfit.n1,by simp only[ez,List.length_map,List.length_range];exact hfit.n2,by simp only[ez];omega,fun r hr=>?_,fun r hr x hx=>?_,hfitK.kr⟩
   ·obtain⟨s,hs,rfl⟩:=List.mem_map.1 hr
    have:=htab2.len _ (hin hs)
    simp only[ez]
    omega
   ·obtain⟨s,hs,rfl⟩:=List.mem_map.1 hr
    rcases htab2.to _ (hin hs) x hx with h|h
    ·exact .inl h
    ·right
     simp only[ez,List.length_map,List.length_range]
     unfold In at h;omega
  have hrj:∀ s,In d'.plain.n s→lX (ez d' (bG K.l) PL).next.l s=d'.plain.R2 (bG K.l) s:=fun s hs=>by
   have h1:s.toNat<d'.next.l.length:=by unfold In at hs;omega
   rw[qK (m:=s.toNat) (r:=⟨d'.plain.R2 (bG K.l) s,false⟩) (by unfold In at hs;omega)]
   simp only[ez,List.getElem?_map,List.getElem?_range h1,Option.map_some]
   rw[Int.toNat_of_nonneg hs.1]
  have eL2:cU (ez d' (bG K.l) PL).next.l.length (bG K.l) (lX (ez d' (bG K.l) PL).next.l) 0=d'.plain.L2 (bG K.l):=by
   have h1:(ez d' (bG K.l) PL).next.l.length=d'.plain.n:=by simp only[ez,List.length_map,List.length_range];omega
   unfold PD.L2 cU
   rw[h1]
   have htj:=hfitj.tab
   rw[h1]at htj
   exact sJ htj hok'.zero hrj _
  obtain⟨hcome,hclosed⟩:=rr hok' hK
  have hx_next:(ez d' (bG K.l) PL).next.l.length=d'.next.l.length:=by simp only[ez,List.length_map,List.length_range]
  have hx_parts:(ez d' (bG K.l) PL).parts.l=PL:=rfl
  have hx_tags:(ez d' (bG K.l) PL).tags=d'.tags:=rfl
  repeat' first|apply ac|(apply gw;first|refine au rx_ ?_|(apply jI;first|refine bq rx_ ?_|refine bp rx_ ?_|refine bh (v:=AV.agg _) rfl rfl hq_ rfl rfl b_ sv_ ?_)|(apply gq4;first|refine aL rx_ ?_|refine ar rfl (Nat.zero_add _) ?_)|refine br rfl ?_|refine aH rfl nt_ ?_)|(apply gx;first|apply af|refine ae rfl ?_)|apply aa
  have hS7:=hS6.put 1 (.cells 0 [.rd PL.length (PL.map Rw.sv) false,(ez d' (bG K.l) PL).next.mv Rw.iv,d'.tags.iv,K.iv]) rfl
  have hw7:WAt _ iw (ez d' (bG K.l) PL) K:=hS7.get (i:=1) rfl
  generalize ez d' (bG K.l) PL=dj at *
  refine ci (vS L hw7 hfitj) ?_
  rintro _ h8 ⟨rfl,hold8⟩
  have hS8:=hS7.ext hold8
  clear hS6 hS7 hw6 hw7 hold8 eN
  rw[eL2]
  generalize hL2:d'.plain.L2 (bG K.l)=L2 at *
  have hkin:∀ {s:Int} {x:Int},In d'.plain.n s→K.l[s.toNat]?=some x→bG K.l s=x:=fun {s x} hs hx=>by
   rw[js hs,List.getD_eq_getElem?_getD,hx];rfl
  generalize hκ:bG K.l=κ at *
  have hfe:∀ a b:Int,AV.int .i64 a=AV.int .i64 b→a=b:=fun _ _ e=>by injection e
  repeat' first|apply ac|(apply gw;first|refine au rx_ ?_|(refine lQ ?_;intro id hid;try simp only[ad.set_none]at hid))|(apply gx;first|apply af|refine ae rfl ?_)|apply aa
  have hS9:=(hS8.new (o := .map (some .i64) []) hid).put 2 (.map (some .i64) [(.int .i64 (-1),.int .i64 (-1))]) rfl
  refine gP (key:=AV.int .i64 (-1)) (v:=AV.int .i64 (-1)) rfl rfl rfl rfl rfl (ad.get_set_self _ _ _) ?_
  obtain⟨im,rfl⟩:∃ x,x=id:=⟨_,rfl⟩
  obtain⟨h1,hS9,hres1⟩:∃ h1,Sep ((h8.set im (.map (some .i64) [])).set im (.map (some .i64) (mf [] (.int .i64 (-1)) (.int .i64 (-1))))) [j4 h1,bU iw (.cells 0 [.rd PL.length (PL.map Rw.sv) false,dj.next.mv Rw.iv,d'.tags.iv,K.iv]),bU im (.map (some .i64) [(.int .i64 (-1),.int .i64 (-1))])]∧h1.get ires=some mN:=⟨_,hS9,ad.get_set_self _ _ _⟩
  repeat' first|apply ac|(apply gw;first|refine au rx_ ?_|(apply gq6;first|refine bk rx_ ?_|refine aw rfl ?_))|(apply gx;first|apply af|refine ae rfl ?_|apply al)|apply aa
  have hLm:=hcome.most
  refine bD L2.length (fun i env h'=>Sep h' [j4 h1,bU iw (.cells 0 [.rd PL.length (PL.map Rw.sv) false,dj.next.mv Rw.iv,d'.tags.iv,K.iv]),bU im (.map (some .i64) ((.int .i64 (-1),.int .i64 (-1))::bS (.int .i64) 0 ((L2.take i).map κ)))]∧env.has [(2,.ptr ires 0 0),(4,.ptr iw 0 0),(5,gK L2),(6,.map im),(39,gK L2),(40,.int .i64 L2.length),(41,.int .i64 i)]) ⟨hS9,hh_⟩ ?_
  clear hS9 hS8 hid
  rintro i env h' hi ⟨hS,he⟩
  obtain⟨env,rfl⟩:=he.ex
  clear he
  have hwx:h'.get iw=some (.cells 0 [.rd PL.length (PL.map Rw.sv) false,dj.next.mv Rw.iv,d'.tags.iv,K.iv]):=hS.get (i:=1) rfl
  have hmx:=hS.get (i:=2) rfl
  by_cases hi2:i<L2.length
  ·obtain⟨s,hs⟩:=aK hi2
   have hsin:=hcome.inn s (List.mem_of_getElem? hs)
   obtain⟨kx,hkx⟩:=aK (l:=K.l) (i:=s.toNat) (by have:=hfitK.kl;unfold In at hsin;omega)
   have hks:=hkin hsin hkx
   have hk0:=hK.yes s hsin
   have hs0:(s.toNat:Int)=s:=by unfold In at hsin;omega
   repeat' first|apply ac|(apply gw;first|refine au rx_ ?_|(apply gq2;first|refine aF rx_ ?_|refine aB rfl b_ pv_ ?_|refine am rfl hq_ Lm b_ pv_ ?_)|(apply gq3;first|refine aC rx_ ?_|refine aQ rx_ ?_|(refine aA rfl rfl rfl ?_ ?_<;>(intro hc;try omega)))|(apply gq5;first|refine aS rx_ ?_|refine aU rx_ ?_|refine ah rfl rfl hs Ll rfl ?_|refine ah rfl rfl hkx Ll rfl ?_)|(apply gq4;first|refine aL rx_ ?_|refine ar rfl (Nat.zero_add _) ?_)|refine br rfl ?_)|(apply gx;first|apply af|refine ae rfl ?_|apply ay|apply al|refine ak rfl ?_)|apply aa
   refine gP (key:=AV.int .i64 kx) (v:=AV.int .i64 i) rfl rfl rfl rfl rfl hmx ?_
   have hne1:¬ (AV.int .i64 (-1)=AV.int .i64 kx):=fun e=>by have:=hfe _ _ e;omega
   have hnot:kx∉(L2.take i).map κ:=fun hm=>by
    have hd:=hcome.nodup
    obtain⟨t,htm,e⟩:=List.mem_map.1 hm
    obtain⟨q,hq,rfl⟩:=List.mem_take_iff_getElem.1 htm
    have hq2:q<L2.length:=by omega
    have:=Be hd (i:=q) (j:=i) hq2 hi2 (by simp[List.getD_eq_getElem?_getD,hq2,hs];rw[e,hks])
    omega
   have he2:=kN hfe kx ((L2.take i).map κ) 0 hnot
   rw[Nat.zero_add,List.length_map,List.length_take,show min i L2.length=i by omega]at he2
   have he3:mf ((.int .i64 (-1),.int .i64 (-1))::bS (.int .i64) 0 ((L2.take i).map κ)) (.int .i64 kx) (.int .i64 i)=(.int .i64 (-1),.int .i64 (-1))::bS (.int .i64) 0 ((L2.take (i+1)).map κ):=by
    simp only[mf,hne1,if_false]
    rw[he2,aV hs,List.map_append,List.map_singleton,hks]
   rw[he3]
   have hS2:=hS.put 2 (.map (some .i64) ((.int .i64 (-1),.int .i64 (-1))::bS (.int .i64) 0 ((L2.take (i+1)).map κ))) rfl
   repeat' first|apply ac|(apply gw;first|refine au rx_ ?_|(apply gq3;first|refine aC rx_ ?_|refine aT rfl rfl rfl Ll Ll ?_))|refine ae rfl ?_|apply aa|apply aI
   exact aR hi2 ⟨hS2,hh_⟩
  ·rw[List.take_of_length_le Ll]at hS hmx
   repeat' first|apply ac|(apply gw;first|refine au rx_ ?_|refine aF rx_ ?_|(apply gq3;first|refine aC rx_ ?_|refine aQ rx_ ?_|(refine aA rfl rfl rfl ?_ ?_<;>(intro hc;try omega)))|(apply gq4;first|refine aL rx_ ?_|refine ar rfl (Nat.zero_add _) ?_)|refine br rfl ?_|(refine bV ?_;intro id hid;try simp only[ad.set_none]at hid))|(apply gx;first|apply af|refine ae rfl ?_|apply aN|refine ai rfl ?_)|apply aa|apply aO|apply aP|apply aX
   obtain⟨io,rfl⟩:∃ x,x=id:=⟨_,rfl⟩
   have hS2:=hS.new (o:=mN) hid
   have hwx2:(h'.set io mN).get iw=some (.cells 0 [.rd PL.length (PL.map Rw.sv) false,dj.next.mv Rw.iv,d'.tags.iv,K.iv]):=hS2.get (i:=1) rfl
   clear hS hwx hmx
   repeat' first|apply ac|(apply gw;first|refine au rx_ ?_|(apply gq6;first|refine bk rx_ ?_|refine aw rfl ?_)|refine am rfl hq_ Lm b_ pv_ ?_)|apply al|apply aa
   refine bD PL.length (fun i env h'=>∃ vq,Sep h' [j4 h1,bU iw (.cells 0 [.rd PL.length (PL.map Rw.sv) false,dj.next.mv Rw.iv,d'.tags.iv,K.iv]),bU im (.map (some .i64) ((.int .i64 (-1),.int .i64 (-1))::bS (.int .i64) 0 (L2.map κ))),bU io (.cells 0 [vq,.rd 0 [] true,.rd 0 [] true]),cA vq 1 i ((PL.take i).map fun r:Rw aj=>AV.rd r.l.length (r.l.flatMap aj.av) false)]∧env.has [(2,.ptr ires 0 0),(4,.ptr iw 0 0),(5,gK L2),(6,.map im),(9,.ptr io 0 0),(60,.rd PL.length (PL.map Rw.sv) false),(61,.int .i64 PL.length),(62,.int .i64 i)]) ⟨_,hS2.nil 1,hh_⟩ ?_
   clear hS2 hwx2 hid
   rintro i env h' hi ⟨vq,hS,he⟩
   obtain⟨env,rfl⟩:=he.ex
   clear he
   have hio:h'.get io=_:=hS.get (i:=3) rfl
   have hvq:aD h' vq 1 i _:=hS.get (i:=4) rfl
   have hnq:=hvq.notTup
   have hPL1:=(lf hok' hK).p1
   rw[G5,← hPLc]at hPL1
   by_cases hi2:i<PL.length
   ·obtain⟨pg,hpg⟩:=aK hi2
    have hpn:bd pg.l=pg.l:=by
     have h2:=(lf hok' hK).norm pg.l
     refine h2 ?_
     show pg.l∈(d'.plain.O κ).map fun g=>(iu d'.plain (d'.plain.G κ)).getD g []
     rw[← hPL]
     exact List.mem_map.2 ⟨pg,List.mem_of_getElem? hpg,rfl⟩
    have hcl:=BO L pg (by have:=oo hpn;omega)
    repeat' first|apply ac|(apply gw;first|refine au rx_ ?_|(apply gq2;first|refine aF rx_ ?_|refine aB rfl b_ pv_ ?_|refine am rfl hq_ Lm b_ pv_ ?_)|(apply gq3;first|refine aC rx_ ?_|refine aQ rx_ ?_|(refine aA rfl rfl rfl ?_ ?_<;>(intro hc;try omega)))|(apply gq5;first|refine aS rx_ ?_|refine aU rx_ ?_|refine ah rfl rfl hpg Ll rfl ?_)|(apply jI;first|refine bq rx_ ?_|refine bp rx_ ?_)|(apply lp;first|refine cn rx_ ?_|refine cm rx_ ?_|(refine aY (m:=1) rx_ iq_ rfl rfl Ll ?_;intro va hpa hra hka hria))|(apply gq4;first|refine aL rx_ ?_|refine ar rfl (Nat.zero_add _) ?_)|refine aH rfl nt_ ?_|refine bj (cs:=[AV.rd _ _ _]) rfl rfl ?_)|(apply gx;first|apply af|refine ae rfl ?_|apply ay|apply al|refine ak rfl ?_)|apply aa|refine aW (by assumption) fz_ fz_ ?_
    have hS2:=hS.upd 4 (cA va 1 (i+1) (((PL.take i).map fun r:Rw aj=>AV.rd r.l.length (r.l.flatMap aj.av) false)++[.rd pg.l.length (pg.l.flatMap aj.av) false])) rfl hra hka hria
    have hio2:hpa.get io=some (.cells 0 [vq,.rd 0 [] true,.rd 0 [] true]):=hS2.get (i:=3) rfl
    refine ck (v:=va) (cs':=[va,.rd 0 [] true,.rd 0 [] true]) rfl rfl hra hio2 Lm rfl ?_
    have hS3:=hS2.put 3 (.cells 0 [va,.rd 0 [] true,.rd 0 [] true]) rfl
    repeat' first|apply ac|(apply gw;first|refine au rx_ ?_|(apply gq3;first|refine aC rx_ ?_|refine aT rfl rfl rfl Ll Ll ?_))|refine ae rfl ?_|apply aa|apply aI
    refine aR hi2 ⟨va,?_,hh_⟩
    rw[aV hpg,List.map_append,List.map_singleton]
    exact hS3
   ·have hi3:i=PL.length:=by omega
    subst hi3
    rw[List.take_of_length_le (Nat.le_refl _)]at hS
    clear hio hvq
    repeat' first|apply ac|(apply gw;first|refine au rx_ ?_|(apply gq3;first|refine aC rx_ ?_|refine aQ rx_ ?_|(refine aA rfl rfl rfl ?_ ?_<;>(intro hc;try omega)))|(apply gq6;first|refine bk rx_ ?_|refine aw rfl ?_))|(apply gx;first|apply af|refine ae rfl ?_|apply al|apply aN|refine ai rfl ?_)|apply aa|apply aO|apply aP|apply aX
    refine bD L2.length (fun i env h'=>∃ vn vt,Sep h' [j4 h1,bU iw (.cells 0 [.rd PL.length (PL.map Rw.sv) false,dj.next.mv Rw.iv,d'.tags.iv,K.iv]),bU im (.map (some .i64) ((.int .i64 (-1),.int .i64 (-1))::bS (.int .i64) 0 (L2.map κ))),bU io (.cells 0 [vq,vn,vt]),cA vq 1 PL.length (PL.map fun r:Rw aj=>AV.rd r.l.length (r.l.flatMap aj.av) false),cA vn 1 i ((L2.take i).map fun s:Int=>gK ((d'.plain.R2 κ s).map (cr κ L2))),cA vt 1 i ((L2.take i).map fun s:Int=>AV.int .i64 (d'.plain.tag s))]∧env.has [(2,.ptr ires 0 0),(4,.ptr iw 0 0),(6,.map im),(9,.ptr io 0 0),(74,gK L2),(75,.int .i64 L2.length),(76,.int .i64 i)]) ⟨_,_,(hS.nil 1).nil 1,hh_⟩ ?_
    clear hS
    rintro i env h' hi ⟨vn,vt,hS,he⟩
    obtain⟨env,rfl⟩:=he.ex
    clear he
    have hwx:h'.get iw=some (.cells 0 [.rd PL.length (PL.map Rw.sv) false,dj.next.mv Rw.iv,d'.tags.iv,K.iv]):=hS.get (i:=1) rfl
    by_cases hi2:i<L2.length
    ·obtain⟨s,hs⟩:=aK hi2
     have hsin:=hcome.inn s (List.mem_of_getElem? hs)
     have hs0:(s.toNat:Int)=s:=by unfold In at hsin;omega
     obtain⟨row,hrow⟩:=aK (l:=dj.next.l) (i:=s.toNat) (by unfold In at hsin;omega)
     have hrr:row.l=d'.plain.R2 κ s:=by rw[← hrj s hsin,qK hs0.symm hrow]
     have hrl:row.l.length=PL.length:=by rw[hrr,htab2.len s hsin,hPLc]
     obtain⟨t,htt⟩:=aK (l:=d'.tags.l) (i:=s.toNat) (by have:=hfit.tl;unfold In at hsin;omega)
     have htag:d'.plain.tag s=t:=by simp[PD.tag,Dfa.plain,List.getD_eq_getElem?_getD,htt]
     repeat' first|apply ac|(apply gw;first|refine au rx_ ?_|(apply gq2;first|refine aF rx_ ?_|refine aB rfl b_ pv_ ?_|refine am rfl hq_ Lm b_ pv_ ?_)|(apply gq3;first|refine aC rx_ ?_|refine aQ rx_ ?_|(refine aA rfl rfl rfl ?_ ?_<;>(intro hc;try omega)))|(apply gq5;first|refine aS rx_ ?_|refine aU rx_ ?_|refine ah rfl rfl hs Ll rfl ?_|refine ah rfl rfl hrow Ll rfl ?_)|(apply gq6;first|refine bk rx_ ?_|refine aw rfl ?_)|(apply gq4;first|refine aL rx_ ?_|refine ar rfl (Nat.zero_add _) ?_)|refine br rfl ?_)|(apply gx;first|apply af|refine ae rfl ?_|apply ay|apply al|refine ak rfl ?_)|apply aa
     refine bD row.l.length (fun q env h'=>∃ vr,Sep h' [j4 h1,bU iw (.cells 0 [.rd PL.length (PL.map Rw.sv) false,dj.next.mv Rw.iv,d'.tags.iv,K.iv]),bU im (.map (some .i64) ((.int .i64 (-1),.int .i64 (-1))::bS (.int .i64) 0 (L2.map κ))),bU io (.cells 0 [vq,vn,vt]),cA vq 1 PL.length (PL.map fun r:Rw aj=>AV.rd r.l.length (r.l.flatMap aj.av) false),cA vn 1 i ((L2.take i).map fun s:Int=>gK ((d'.plain.R2 κ s).map (cr κ L2))),cA vt 1 i ((L2.take i).map fun s:Int=>AV.int .i64 (d'.plain.tag s)),cA vr 1 q (iC ((row.l.take q).map (cr κ L2)))]∧env.has [(2,.ptr ires 0 0),(4,.ptr iw 0 0),(6,.map im),(9,.ptr io 0 0),(13,.int .i64 s),(14,vr),(74,gK L2),(75,.int .i64 L2.length),(76,.int .i64 i),(87,row.iv),(88,.int .i64 row.l.length),(89,.int .i64 q)]) ⟨_,hS.nil 1,hh_⟩ ?_
     clear hS hwx
     rintro q env h' hq ⟨vr,hS,he⟩
     obtain⟨env,rfl⟩:=he.ex
     clear he
     have hwx:h'.get iw=some (.cells 0 [.rd PL.length (PL.map Rw.sv) false,dj.next.mv Rw.iv,d'.tags.iv,K.iv]):=hS.get (i:=1) rfl
     have hmx:=hS.get (i:=2) rfl
     have hvr:aD h' vr 1 q _:=hS.get (i:=7) rfl
     have hnr:=hvr.notTup
     by_cases hq2:q<row.l.length
     ·obtain⟨x,hx⟩:=aK hq2
      have hxm:x∈d'.plain.R2 κ s:=by rw[← hrr];exact List.mem_of_getElem? hx
      have hxo:=htab2.to s hsin x hxm
      have hxk:=hclosed s (List.mem_of_getElem? hs) x hxm
      have hkd:bc Φ 107 [.ptr iw 0 0,.int .i64 x] h' (fun v h2=>v = .int .i64 (κ x)∧h'.Ext h2):=by
       rw[← hκ]
       refine ta L (K:=K) (d:=⟨⟨PL,false⟩,dj.next,d'.tags⟩) hwx x ?_
       have:=hfitK.kl
       rcases hxo with h1|h1
       ·exact .inl h1
       ·right;unfold In at h1;omega
      repeat' first|apply ac|(apply gw;first|refine au rx_ ?_|(apply gq2;first|refine aF rx_ ?_|refine aB rfl b_ pv_ ?_)|(apply gq3;first|refine aC rx_ ?_|refine aQ rx_ ?_|(refine aA rfl rfl rfl ?_ ?_<;>(intro hc;try omega)))|(apply gq5;first|refine aS rx_ ?_|refine aU rx_ ?_|refine ah rfl rfl hx Ll rfl ?_)|refine aH rfl nt_ ?_)|(apply gx;first|apply af|refine ae rfl ?_|apply ay|apply al|refine ak rfl ?_)|apply aa
      refine kL Ll hkd ?_
      skip
      refine wm (key:=AV.int .i64 (κ x)) rfl rfl rfl hmx ?_
      have hlk:(iN ((.int .i64 (-1),.int .i64 (-1))::bS (.int .i64) 0 (L2.map κ)) (.int .i64 (κ x))).getD (.int .i64 0)=AV.int .i64 (cr κ L2 x):=by
       by_cases e:x = -1
       ·subst e
        rw[hK.no,jy]
        simp[iN]
       ·have hxi:=hxo.resolve_left e
        have h0:=hK.yes x hxi
        have hne1:¬ (AV.int .i64 (-1)=AV.int .i64 (κ x)):=fun e=>by have:=hfe _ _ e;omega
        simp only[iN,hne1,if_false]
        rw[jT hfe,if_pos (hxk.resolve_left e),cr,if_neg e]
        simp[dg]
      rw[hlk]
      repeat' first|apply ac|(apply gw;first|refine au rx_ ?_|(apply gq3;first|refine aC rx_ ?_|refine aT rfl rfl rfl Ll Ll ?_)|(apply lp;first|refine cn rx_ ?_|refine cm rx_ ?_|(refine aY (m:=1) rx_ iq_ rfl rfl Ll ?_;intro va hpa hra hka hria))|refine bj (cs:=[AV.int _ _]) rfl rfl ?_)|refine ae rfl ?_|apply aa|apply aI
      have hS2:=hS.upd 7 (cA va 1 (q+1) (iC ((row.l.take q).map (cr κ L2))++[.int .i64 (cr κ L2 x)])) rfl hra hka hria
      refine aR hq2 ⟨va,?_,hh_⟩
      have e1:iC ((row.l.take (q+1)).map (cr κ L2))=iC ((row.l.take q).map (cr κ L2))++[.int .i64 (cr κ L2 x)]:=by
       rw[aV hx];simp[iC]
      rw[e1]
      exact hS2
     ·have hq3:q=row.l.length:=by omega
      subst hq3
      rw[List.take_of_length_le (Nat.le_refl _)]at hS hvr
      repeat' first|apply ac|(apply gq3;first|refine aC rx_ ?_|refine aQ rx_ ?_|(refine aA rfl rfl rfl ?_ ?_<;>(intro hc;try omega)))|(apply gx;first|apply af|refine ae rfl ?_|apply aN|refine ai rfl ?_)|apply aa|apply aO|apply aP|apply aX
      refine fk 14 (v:=vr) rfl rfl hvr ?_
      intro h3 hk3
      have hS2:=hS.drop 7 (h':=h3) rfl hk3
      have hio:h3.get io=some (.cells 0 [vq,vn,vt]):=hS2.get (i:=3) rfl
      have hvn:aD h3 vn 1 i _:=hS2.get (i:=5) rfl
      have hnn:=hvn.notTup
      clear hS hvr hwx hmx hnr
      repeat' first|(apply gw;first|refine au rx_ ?_|(apply gq2;first|refine aF rx_ ?_|refine am rfl hq_ Lm b_ pv_ ?_)|(apply jI;first|refine bq rx_ ?_|refine bp rx_ ?_)|(apply lp;first|refine cn rx_ ?_|refine cm rx_ ?_|(refine aY (m:=1) rx_ iq_ rfl rfl Ll ?_;intro va hpa hra hka hria))|(apply gq4;first|refine aL rx_ ?_|refine ar rfl (Nat.zero_add _) ?_)|refine bj (cs:=[AV.rd _ _ _]) rfl rfl ?_)
      have hS3:=hS2.upd 5 (cA va 1 (i+1) (((L2.take i).map fun s:Int=>gK ((d'.plain.R2 κ s).map (cr κ L2)))++[.rd row.l.length (iC (row.l.map (cr κ L2))) false])) rfl hra hka hria
      have hio3:hpa.get io=some (.cells 0 [vq,vn,vt]):=hS3.get (i:=3) rfl
      refine ck (v:=va) (cs':=[vq,va,vt]) rfl rfl hra hio3 Lm rfl ?_
      have hS4:=hS3.put 3 (.cells 0 [vq,va,vt]) rfl
      have hio4:(hpa.set io (.cells 0 [vq,va,vt])).get io=some (.cells 0 [vq,va,vt]):=hS4.get (i:=3) rfl
      have hwx4:(hpa.set io (.cells 0 [vq,va,vt])).get iw=some (.cells 0 [.rd PL.length (PL.map Rw.sv) false,dj.next.mv Rw.iv,d'.tags.iv,K.iv]):=hS4.get (i:=1) rfl
      have hvt4:aD (hpa.set io (.cells 0 [vq,va,vt])) vt 1 i _:=hS4.get (i:=6) rfl
      have hnt4:=hvt4.notTup
      clear hS2 hS3 hio hio3 hvn hnn hra hka hria
      obtain⟨vn2,rfl⟩:∃ x,x=va:=⟨_,rfl⟩
      repeat' first|apply ac|(apply gw;first|refine au rx_ ?_|(apply gq2;first|refine aF rx_ ?_|refine aB rfl b_ pv_ ?_|refine am rfl hq_ Lm b_ pv_ ?_)|(apply gq5;first|refine aS rx_ ?_|refine aU rx_ ?_|refine ah rfl rfl htt Ll rfl ?_)|(apply jI;first|refine bq rx_ ?_|refine bp rx_ ?_)|(apply lp;first|refine cn rx_ ?_|refine cm rx_ ?_|(refine aY (m:=1) rx_ iq_ rfl rfl Ll ?_;intro va hpa hra hka hria))|(apply gq4;first|refine aL rx_ ?_|refine ar rfl (Nat.zero_add _) ?_)|refine br rfl ?_|refine bj (cs:=[AV.int _ _]) rfl rfl ?_)|refine ae rfl ?_|apply aa
      have hS5:=hS4.upd 6 (cA va 1 (i+1) (((L2.take i).map fun s:Int=>AV.int .i64 (d'.plain.tag s))++[.int .i64 t])) rfl hra hka hria
      have hio5:hpa.get io=some (.cells 0 [vq,vn2,vt]):=hS5.get (i:=3) rfl
      refine ck (v:=va) (cs':=[vq,vn2,va]) rfl rfl hra hio5 Lm rfl ?_
      have hS6:=hS5.put 3 (.cells 0 [vq,vn2,va]) rfl
      repeat' first|apply ac|(apply gw;first|refine au rx_ ?_|(apply gq3;first|refine aC rx_ ?_|refine aT rfl rfl rfl Ll Ll ?_))|refine ae rfl ?_|apply aa|apply aI
      refine aR hi2 ⟨vn2,va,?_,hh_⟩
      have e1:gK ((d'.plain.R2 κ s).map (cr κ L2)) = .rd row.l.length (iC (row.l.map (cr κ L2))) false:=by rw[hrr];simp[gK,iC]
      rw[aV hs,List.map_append,List.map_append,List.map_singleton,List.map_singleton,htag,e1]
      exact hS6
    ·have hi3:i=L2.length:=by omega
     subst hi3
     rw[List.take_of_length_le (Nat.le_refl _)]at hS
     have hio:h'.get io=some (.cells 0 [vq,vn,vt]):=hS.get (i:=3) rfl
     have hres:h'.get ires=some mN:=((hS.get (i:=0) rfl:∀ k,h1.get k≠none→h'.get k=h1.get k) ires (by rw[hres1];simp)).trans hres1
     have hvq:aD h' vq 1 PL.length _:=hS.get (i:=4) rfl
     have hvn:aD h' vn 1 L2.length _:=hS.get (i:=5) rfl
     have hvt:aD h' vt 1 L2.length _:=hS.get (i:=6) rfl
     have hr1:h1.get ires≠none:=by rw[hres1];simp
     repeat' first|apply ac|(apply gw;first|refine au rx_ ?_|(apply gq2;first|refine aF rx_ ?_|refine am rfl hq_ Lm b_ pv_ ?_)|(apply gq3;first|refine aC rx_ ?_|refine aQ rx_ ?_|(refine aA rfl rfl rfl ?_ ?_<;>(intro hc;try omega)))|(apply jI;first|refine bq rx_ ?_|refine bp rx_ ?_|refine bh (v:=AV.agg _) rfl rfl hq_ rfl rfl b_ sv_ ?_))|(apply gx;first|apply af|refine ae rfl ?_|apply aM|apply aN|refine ai rfl ?_)|apply aa|apply aO|apply aP|apply aX
     have f1:=(hvq.set_ne (id:=ires) (o := .cells 0 [vq,vn,vt]) fun e=>hS.disj (i:=0) (j:=4) rfl rfl (by decide) ires hr1 e).fz (fun k=>vq.rowId=some k∨vn.rowId=some k∨vt.rowId=some k) (fun _ h => .inl h) (FzL.same _)
     have f2:=(hvn.set_ne (id:=ires) (o := .cells 0 [vq,vn,vt]) fun e=>hS.disj (i:=0) (j:=5) rfl rfl (by decide) ires hr1 e).fz (fun k=>vq.rowId=some k∨vn.rowId=some k∨vt.rowId=some k) (fun _ h => .inr (.inl h)) (FzL.same _)
     have f3:=(hvt.set_ne (id:=ires) (o := .cells 0 [vq,vn,vt]) fun e=>hS.disj (i:=0) (j:=6) rfl rfl (by decide) ires hr1 e).fz (fun k=>vq.rowId=some k∨vn.rowId=some k∨vt.rowId=some k) (fun _ h => .inr (.inr h)) (FzL.same _)
     have hfin:fm ((((env.puts [(2,.ptr ires 0 0),(4,.ptr iw 0 0),(6,.map im),(9,.ptr io 0 0),(74,gK L2),(75,AV.int .i64 L2.length),(76,AV.int .i64 L2.length)]).put 77 (.bool false)).put 122 (.agg [vq,vn,vt])).put 3 (.int .u16 0)) (h'.set ires (.cells 0 [vq,vn,vt])) [.cell 2 3 true,.tmp 3]=some (.tup [.agg [vq,vn,vt],.int .u16 0]):=o4 (t:=2) (t2:=3) rfl (ad.get_set_self _ _ _) rfl rfl rfl
     refine fP (fun k=>vq.rowId=some k∨vn.rowId=some k∨vt.rowId=some k) hfin (.tup (.cons (.agg (.cons f1 (.cons f2 (.cons f3 .nil)))) (.cons (.same _) .nil))) ?_
     refine Or.inr ⟨hok,⟨⟨PL.map fun r:Rw aj=>⟨r.l,false⟩,false⟩,⟨L2.map fun s:Int=>⟨(d'.plain.R2 κ s).map (cr κ L2),false⟩,false⟩,⟨L2.map d'.plain.tag,false⟩⟩,⟨lv,κ,fun s hs=>?_,?_,?_⟩,?_⟩
     ·have hnx:(cy d.plain).next.length=d.plain.n:=by omega
      rw[hnx]at hlv
      exact hlv s hs
     ·rw[← hp']
      have e1:d'.plain.n=d.plain.n:=by rw[hp'];rfl
      have e2:d'.plain.tag=d.plain.tag:=by rw[hp'];rfl
      rw[← e1,← e2]
      exact hK
     ·rw[← hp',PD.ext'_iff]
      refine⟨?_,?_,?_⟩
      ·show(PL.map fun r:Rw aj=>(⟨r.l,false⟩:Rw aj)).map (·.l)=_
       rw[List.map_map]
       exact hPL
      ·show(L2.map fun s:Int=>(⟨(d'.plain.R2 κ s).map (cr κ L2),false⟩:Rw Int)).map (·.l)=(d'.plain.L2 κ).map _
       rw[List.map_map,hL2]
       rfl
      ·show L2.map d'.plain.tag=(d'.plain.L2 κ).map _
       rw[hL2]
     ·simp[List.map_map,Function.comp]
end
end Go.Proofs.YtlnobeojgifojaaGreatDoor
