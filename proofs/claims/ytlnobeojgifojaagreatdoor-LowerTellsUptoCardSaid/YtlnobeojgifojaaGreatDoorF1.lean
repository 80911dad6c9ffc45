/- The document's sets and machines at one place. -/
import Derived.Test.YtlnobeojgifojaaGreatDoorE6
set_option linter.unusedVariables false
set_option linter.unusedSimpArgs false
namespace Go.Proofs.YtlnobeojgifojaaGreatDoor
section
open Go
set_option maxHeartbeats 4000000
attribute [local irreducible] az bf bm de bz cw dH bJ wop cz bc
@[reducible] def mO (a b:List aj):List aj:=mw a b 8
@[reducible] def qc (a b:List aj):List aj:=mw a b 2
theorem Lf {a b:List aj}{x:Int}:me 8 (kOf a b x)=true↔iY a x=true∧iY b x=true:=by
 unfold kOf me
 cases iY a x<;>cases iY b x<;>decide
theorem Lg {a b:List aj}{x:Int}:me 2 (kOf a b x)=true↔iY a x=true∧¬ iY b x=true:=by
 unfold kOf me
 cases iY a x<;>cases iY b x<;>decide
theorem oB {a:List aj}{x:Int}:iY a x=true↔cv x=true∧inS a x:=by
 rw[← (jq a).2 x,gV]
theorem jA {a b:List aj}{x:Int}:inS (mO a b) x↔cv x=true∧inS a x∧inS b x:=by
 rw[(m8 a b 8).2 x,Lf,oB,oB]
 constructor
 ·rintro⟨h1,⟨_,h2⟩,_,h3⟩;exact⟨h1,h2,h3⟩
 ·rintro⟨h1,h2,h3⟩;exact⟨h1,⟨h1,h2⟩,h1,h3⟩
theorem m9 {a b:List aj}{x:Int}:inS (qc a b) x↔cv x=true∧inS a x∧¬ inS b x:=by
 rw[(m8 a b 2).2 x,Lg,oB,oB]
 constructor
 ·rintro⟨h1,⟨_,h2⟩,h3⟩;exact⟨h1,h2,fun h=>h3 ⟨h1,h⟩⟩
 ·rintro⟨h1,h2,h3⟩;exact⟨h1,⟨h1,h2⟩,fun h=>h3 h.2⟩
theorem pi (a b:List aj)(k:Int):bd (mw a b k)=mw a b k:=kP (m8 a b k).1 fun x hx=>(((m8 a b k).2 x).1 hx).1
theorem Fn {a b:List aj}(ha:bd a=a):mO a b=[]↔∀ x,¬ (inS a x∧inS b x):=by
 have h:=uP (m8 a b 8).1
 constructor
 ·intro e x hx
  have:inS (mO a b) x:=jA.2 ⟨gS ha hx.1,hx⟩
  rw[e]at this
  obtain⟨s,hs,_⟩:=this
  cases hs
 ·intro hn
  apply Classical.byContradiction
  intro hne
  obtain⟨x,hx⟩:=h.1 hne
  exact hn x (jA.1 hx).2
structure sK (l:List aj):Prop where
 len:l.length≤67108864
 hi:∀ s∈l,-9223372036854775808≤s.hi
theorem ux {Φ:Lib}(L:cJ Φ)(L2:jM Φ)(a b:Rw aj)(ha:sK a.l)(hb:sK b.l):eQ Φ 109 [a.sv,b.sv] (.rd (mO a.l b.l).length ((mO a.l b.l).flatMap aj.av) false):=by
 have h1:=yc L2 a.l b.l a.fl b.fl 8 (by decide) (by decide) ha.len ha.hi hb.len hb.hi
 refine ba (fun _=>false) rfl L.f109 ?_
 repeat' first|apply ac|(apply gw;first|refine aG rfl ?_|refine aH rfl nt_ ?_)|(apply gx;first|apply af|refine ae rfl ?_|apply aM)|apply aa|refine aW (by assumption) fz_ fz_ ?_|refine aJ (v:=AV.rd _ _ _) rfl ?_
 rfl
theorem zM {Φ:Lib}(L:cJ Φ)(L2:jM Φ)(a b:Rw aj)(ha:sK a.l)(hb:sK b.l):eQ Φ 110 [a.sv,b.sv] (.rd (qc a.l b.l).length ((qc a.l b.l).flatMap aj.av) false):=by
 have h1:=yc L2 a.l b.l a.fl b.fl 2 (by decide) (by decide) ha.len ha.hi hb.len hb.hi
 refine ba (fun _=>false) rfl L.f110 ?_
 repeat' first|apply ac|(apply gw;first|refine aG rfl ?_|refine aH rfl nt_ ?_)|(apply gx;first|apply af|refine ae rfl ?_|apply aM)|apply aa|refine aW (by assumption) fz_ fz_ ?_|refine aJ (v:=AV.rd _ _ _) rfl ?_
 rfl
theorem FR {Φ:Lib}(L:cJ Φ)(L2:jM Φ)(P:Rw (Rw aj))(hp:P.l.length≤1073741824)(hpl:∀ r∈P.l,r.l.length≤1073741824)(x:Int):eQ Φ 161 [P.mv Rw.sv,.int .i64 x] (.int .i64 (yl (d6 (cu P.l) x))):=by
 have hlen:(cu P.l).length=P.l.length:=by simp[cu]
 refine ba (fun _=>false) rfl L.f161 ?_
 repeat' first|apply ac|refine aq rfl ?_|(apply gx;first|apply af|refine ae rfl ?_|apply al)|apply aa
 refine bD P.l.length (fun i env h'=>(∀ q∈(cu P.l).take i,iY q x=false)∧env.has [(0,P.mv Rw.sv),(1,.int .i64 x),(5,.int .i64 i)]) ⟨by simp,hh_⟩ ?_
 rintro i env h' hi ⟨hpre,he⟩
 obtain⟨env,rfl⟩:=he.ex
 clear he
 by_cases hi2:i<P.l.length
 ·obtain⟨p,hpp⟩:=aK hi2
  have k1:=xM L2 p.l p.fl x (hpl p (List.mem_of_getElem? hpp))
  have hpm:(cu P.l)[i]?=some p.l:=by unfold cu;rw[List.getElem?_map,hpp];rfl
  cases hb:iY p.l x
  ·rw[hb]at k1
   repeat' first|apply ac|(apply gw;first|(apply gq0;first|refine aq rfl ?_|refine aG rfl ?_)|refine aB rfl b_ pv_ ?_|(apply gq3;first|refine aT rfl rfl rfl Ll Ll ?_|(refine aA rfl rfl rfl ?_ ?_<;>(intro hc;try omega)))|refine ah rfl rfl hpp Ll rfl ?_|refine aw rfl ?_|refine aH rfl nt_ ?_)|(apply gx;first|apply af|refine ae rfl ?_|apply ay|apply al|refine ak rfl ?_|refine ai rfl ?_)|apply aa|apply aI|refine aW (by assumption) fz_ fz_ ?_
   refine aR hi2 ⟨fun q hq=>?_,hh_⟩
   rw[aV hpm]at hq
   rcases List.mem_append.1 hq with hq|hq
   ·exact hpre q hq
   ·simp at hq;subst hq;exact hb
  ·rw[hb]at k1
   repeat' first|apply ac|(apply gw;first|(apply gq0;first|refine aq rfl ?_|refine aG rfl ?_)|refine aB rfl b_ pv_ ?_|(refine aA rfl rfl rfl ?_ ?_<;>(intro hc;try omega))|refine ah rfl rfl hpp Ll rfl ?_|refine aw rfl ?_|refine aH rfl nt_ ?_)|(apply gx;first|apply af|refine ae rfl ?_|apply ay|apply al|apply aM|refine ak rfl ?_)|apply aa|apply cp|apply gH|apply iX|refine aW (by assumption) fz_ fz_ ?_|refine aJ (v:=AV.int _ _) rfl ?_
   have:d6 (cu P.l) x=some i:=by
    unfold d6
    rw[List.findIdx?_eq_some_iff_getElem]
    obtain⟨h1,h2⟩:=List.getElem?_eq_some_iff.1 hpm
    refine⟨h1,by rw[h2];exact hb,fun j hj=>?_⟩
    rw[hpre _ (List.mem_take_iff_getElem.2 ⟨j,by omega,rfl⟩)]
    simp
   rw[this]
   rfl
 ·repeat' first|apply ac|(apply gw;first|(apply gq0;first|refine aq rfl ?_|refine aG rfl ?_)|(refine aA rfl rfl rfl ?_ ?_<;>(intro hc;try omega))|refine aw rfl ?_)|(apply gx;first|apply af|refine ae rfl ?_|apply aM|apply aN|refine ai rfl ?_)|apply aa|apply aO|apply aP|apply aX|refine aJ (v:=AV.int _ _) rfl ?_
  have:d6 (cu P.l) x=none:=by
   unfold d6
   rw[List.findIdx?_eq_none_iff]
   rw[List.take_of_length_le Ll]at hpre
   exact hpre
  rw[this]
  rfl
structure Dfa.Wide (d:Dfa):Prop where
 fits:d.Fits
 wide:∀ p∈d.parts.l,sK p.l
theorem zk {Φ:Lib}(L:cJ Φ)(L2:jM Φ)(d:Dfa)(hw:d.Wide):eQ Φ 157 [.agg d.av] (.bool (rD d)):=by
 have hfp:=hw.fits.parts
 have hfn:=hw.fits.next
 have hft:=hw.fits.tags
 have hpl:d.plain.p=d.parts.l.length:=by simp[Dfa.plain,cu,PD.p]
 have hnl:d.plain.n=d.tags.l.length:=by simp[Dfa.plain,PD.n]
 have hxl:d.plain.next.length=d.next.l.length:=by simp[Dfa.plain,cG]
 have hpart:∀ {i:Nat} {p:Rw aj},d.parts.l[i]?=some p→d.plain.part i=p.l:=fun {i p} hp=>by
  simp[PD.part,Dfa.plain,cu,List.getD_eq_getElem?_getD,hp]
 refine ba (fun _=>false) rfl L.f157 ?_
 apply af
 refine ae rfl ?_
 refine gQ (v := .agg d.av) rfl rfl ?_
 intro ib hib
 have hbox:(ad.empty.set ib (.cells 0 (AV.agg d.av).cells)).get ib=some (.cells 0 d.av):=ad.get_set_self _ _ _
 generalize ad.empty.set ib (.cells 0 (AV.agg d.av).cells)=h0 at hbox
 repeat' first|apply ac|(apply gw;first|refine au rx_ ?_|(apply gq2;first|refine aF rx_ ?_|refine am rfl hq_ Lm b_ pv_ ?_)|(apply gq3;first|refine aC rx_ ?_|refine aQ rx_ ?_|((first|refine aA rfl rfl rfl ?_ ?_|refine cN rfl rfl rfl ?_ ?_|refine eK rfl rfl rfl ?_ ?_)<;>(intro hc;try omega)))|(apply gq6;first|refine bk rx_ ?_|refine aw rfl ?_)|(apply gq4;first|refine aL rx_ ?_|refine ar rfl (Nat.zero_add _) ?_)|(apply gq1;first|refine cf rfl ?_|refine cj rfl ?_)|(apply gq7;first|refine bi rfl rfl ?_|refine bb rfl rfl ?_))|(apply gx;first|apply af|refine ae rfl ?_|apply ay|apply al|apply aM|refine ak rfl ?_|refine ai rfl ?_)|apply aa|apply cp|refine aJ (v:=AV.bool _) rfl ?_
 all_goals first
  | (rw[iH (fun h=>by have:=h.p1;have:=h.n1;have:=h.n2;have:=h.nl;omega)];done)
  | skip
 refine bD d.parts.l.length (fun i env h'=>(∀ j,j<i→bd (d.plain.part j)=d.plain.part j)∧(∀ a b,a<b→b<i→∀ x,¬ (inS (d.plain.part a) x∧inS (d.plain.part b) x))∧h'.get ib=some (.cells 0 d.av)∧env.has [(1,.ptr ib 0 0),(3,.int .i64 d.tags.l.length),(4,.int .i64 i)]) ⟨by omega,by omega,hbox,hh_⟩ ?_
 rintro i env h' hi ⟨hn,hap,hb1,he⟩
 obtain⟨env,rfl⟩:=he.ex
 clear he
 by_cases hi2:i<d.parts.l.length
 ·obtain⟨p,hp⟩:=aK hi2
  have hpw:=hw.wide p (List.mem_of_getElem? hp)
  have hpp:=hpart hp
  have k1:=GF L2 p.l p.fl hpw.len hpw.hi
  have k2:=HY L2 (bd p.l) p.l false p.fl (by have:=lF p.l;have:=hpw.len;omega)
  by_cases hpn:bd p.l=p.l
  ·rw[decide_eq_true hpn]at k2
   repeat' first|apply ac|(apply gw;first|refine au rx_ ?_|(apply gq2;first|refine aF rx_ ?_|refine aB rfl b_ pv_ ?_|refine am rfl hq_ Lm b_ pv_ ?_)|(apply gq3;first|refine aC rx_ ?_|refine aQ rx_ ?_|(refine aA rfl rfl rfl ?_ ?_<;>(intro hc;try omega)))|(apply gq5;first|refine aS rx_ ?_|refine aU rx_ ?_|refine ah rfl rfl hp Ll rfl ?_)|(apply gq6;first|refine bk rx_ ?_|refine aw rfl ?_)|(apply gq4;first|refine aL rx_ ?_|refine ar rfl (Nat.zero_add _) ?_)|refine aH rfl nt_ ?_|refine dh (b:=true) rfl ?_)|(apply gx;first|apply af|refine ae rfl ?_|apply ay|apply al|refine ak rfl ?_|refine ai rfl ?_)|apply aa|refine aW (by assumption) fz_ fz_ ?_
   refine bD i (fun j env h'=>(∀ q,q<j→∀ x,¬ (inS (d.plain.part q) x∧inS p.l x))∧h'.get ib=some (.cells 0 d.av)∧env.has [(1,.ptr ib 0 0),(3,.int .i64 d.tags.l.length),(4,.int .i64 i),(5,.int .i64 j)]) ⟨by omega,hb1,hh_⟩ ?_
   clear hb1
   rintro j env h' hj ⟨hc1,hb1,he⟩
   obtain⟨env,rfl⟩:=he.ex
   clear he
   by_cases hj2:j<i
   ·obtain⟨q,hq⟩:=aK (l:=d.parts.l) (i:=j) Ll
    have hqp:=hpart hq
    have k3:=ux L L2 p q hpw (hw.wide q (List.mem_of_getElem? hq))
    have hin:=Fn (a:=p.l) (b:=q.l) hpn
    cases hI:mO p.l q.l with
    | nil =>
     rw[hI]at k3
     have hno:=hin.1 hI
     have hl0:([]:List aj).length=0:=rfl
     repeat' first|apply ac|(apply gw;first|refine au rx_ ?_|(apply gq2;first|refine aF rx_ ?_|refine aB rfl b_ pv_ ?_|refine am rfl hq_ Lm b_ pv_ ?_)|(apply gq3;first|refine aC rx_ ?_|refine aQ rx_ ?_|refine aT rfl rfl rfl Ll Ll ?_|((first|refine aA rfl rfl rfl ?_ ?_|refine cN rfl rfl rfl ?_ ?_)<;>(intro hc;try omega)))|(apply gq5;first|refine aS rx_ ?_|refine aU rx_ ?_|refine ah rfl rfl hp Ll rfl ?_|refine ah rfl rfl hq Ll rfl ?_)|(apply gq6;first|refine bk rx_ ?_|refine aw rfl ?_)|(apply gq4;first|refine aL rx_ ?_|refine ar rfl (Nat.zero_add _) ?_)|refine aH rfl nt_ ?_)|(apply gx;first|apply af|refine ae rfl ?_|apply ay|apply al|refine ak rfl ?_|refine ai rfl ?_)|apply aa|apply aI|refine aW (by assumption) fz_ fz_ ?_
     refine aR hj2 ⟨fun a ha x hx=>?_,hb1,hh_⟩
     by_cases e:a=j
     ·subst e
      rw[hqp]at hx
      exact hno x ⟨hx.2,hx.1⟩
     ·exact hc1 a Ll x hx
    | cons s l =>
     rw[hI]at k3
     have hl0:(s::l).length=l.length+1:=rfl
     repeat' first|apply ac|(apply gw;first|refine au rx_ ?_|(apply gq2;first|refine aF rx_ ?_|refine aB rfl b_ pv_ ?_|refine am rfl hq_ Lm b_ pv_ ?_)|(apply gq3;first|refine aC rx_ ?_|refine aQ rx_ ?_|((first|refine aA rfl rfl rfl ?_ ?_|refine cN rfl rfl rfl ?_ ?_)<;>(intro hc;try omega)))|(apply gq5;first|refine aS rx_ ?_|refine aU rx_ ?_|refine ah rfl rfl hp Ll rfl ?_|refine ah rfl rfl hq Ll rfl ?_)|(apply gq6;first|refine bk rx_ ?_|refine aw rfl ?_)|(apply gq4;first|refine aL rx_ ?_|refine ar rfl (Nat.zero_add _) ?_)|refine aH rfl nt_ ?_)|(apply gx;first|apply af|refine ae rfl ?_|apply ay|apply al|apply aM|refine ak rfl ?_)|apply aa|apply cp|apply gH|apply iX|refine aW (by assumption) fz_ fz_ ?_
     refine aJ (v := .bool false) rfl ?_
     rw[iH]
     intro h
     have:mO p.l q.l=[]:=hin.2 fun x hx=>h.apart j i hj2 Ll x ⟨by rw[hqp];exact hx.2,by rw[hpp];exact hx.1⟩
     rw[hI]at this
     cases this
   ·repeat' first|apply ac|(apply gw;first|refine au rx_ ?_|(apply gq3;first|refine aC rx_ ?_|refine aQ rx_ ?_|refine aT rfl rfl rfl Ll Ll ?_|(refine aA rfl rfl rfl ?_ ?_<;>(intro hc;try omega))))|(apply gx;first|apply af|refine ae rfl ?_|apply aN|refine ai rfl ?_)|apply aa|apply aO|apply aI|apply aP|apply aX
    refine aR hi2 ⟨fun a ha=>?_,fun a b hab hb=>?_,hb1,hh_⟩
    ·by_cases e:a=i
     ·subst e;rw[hpp];exact hpn
     ·exact hn a Ll
    ·by_cases e:b=i
     ·subst e;rw[hpp];exact hc1 a Ll
     ·exact hap a b hab Ll
  ·rw[decide_eq_false hpn]at k2
   repeat' first|apply ac|(apply gw;first|refine au rx_ ?_|(apply gq2;first|refine aF rx_ ?_|refine aB rfl b_ pv_ ?_|refine am rfl hq_ Lm b_ pv_ ?_)|(apply gq3;first|refine aC rx_ ?_|refine aQ rx_ ?_|(refine aA rfl rfl rfl ?_ ?_<;>(intro hc;try omega)))|(apply gq5;first|refine aS rx_ ?_|refine aU rx_ ?_|refine ah rfl rfl hp Ll rfl ?_)|(apply gq6;first|refine bk rx_ ?_|refine aw rfl ?_)|(apply gq4;first|refine aL rx_ ?_|refine ar rfl (Nat.zero_add _) ?_)|refine aH rfl nt_ ?_|refine dh (b:=false) rfl ?_)|(apply gx;first|apply af|refine ae rfl ?_|apply ay|apply al|apply aM|refine ak rfl ?_)|apply aa|apply cp|apply gH|apply iX|refine aW (by assumption) fz_ fz_ ?_
   refine aJ (v := .bool false) rfl ?_
   rw[iH]
   intro h
   exact hpn (h.norm p.l (List.mem_map.2 ⟨p,List.mem_of_getElem? hp,rfl⟩))
 ·have hi3:i=d.parts.l.length:=by omega
  subst hi3
  repeat' first|apply ac|(apply gw;first|refine au rx_ ?_|(apply gq2;first|refine aF rx_ ?_|refine am rfl hq_ Lm b_ pv_ ?_)|(apply gq3;first|refine aC rx_ ?_|refine aQ rx_ ?_|(refine aA rfl rfl rfl ?_ ?_<;>(intro hc;try omega)))|(apply gq6;first|refine bk rx_ ?_|refine aw rfl ?_)|(apply gq4;first|refine aL rx_ ?_|refine ar rfl (Nat.zero_add _) ?_))|(apply gx;first|apply af|refine ae rfl ?_|apply al|apply aN|refine ai rfl ?_)|apply aa|apply aO|apply aP|apply aX
  refine bD d.tags.l.length (fun i env h'=>(∀ r∈d.next.l.take i,r.l.length=d.parts.l.length∧∀ x∈r.l,x = -1∨In d.tags.l.length x)∧(∀ t∈d.tags.l.take i,-1≤t)∧h'.get ib=some (.cells 0 d.av)∧env.has [(1,.ptr ib 0 0),(3,.int .i64 d.tags.l.length),(6,.int .i64 i)]) ⟨by simp,by simp,hb1,hh_⟩ ?_
  clear hb1
  rintro i env h' hi ⟨hrs,hts,hb1,he⟩
  obtain⟨env,rfl⟩:=he.ex
  clear he
  by_cases hi2:i<d.tags.l.length
  ·obtain⟨r,hr⟩:=aK (l:=d.next.l) (i:=i) Ll
   obtain⟨t,ht⟩:=aK hi2
   have hrm:r.l∈d.plain.next:=List.mem_map.2 ⟨r,List.mem_of_getElem? hr,rfl⟩
   have hrl:=hw.fits.rows r (List.mem_of_getElem? hr)
   have htm:t∈d.plain.tags:=List.mem_of_getElem? ht
   by_cases hok1:r.l.length=d.parts.l.length ∧ -1≤t
   ·obtain⟨o1,o2⟩:=hok1
    repeat' first|apply ac|(apply gw;first|refine au rx_ ?_|(apply gq2;first|refine aF rx_ ?_|refine aB rfl b_ pv_ ?_|refine am rfl hq_ Lm b_ pv_ ?_)|(apply gq3;first|refine aC rx_ ?_|refine aQ rx_ ?_|((first|refine aA rfl rfl rfl ?_ ?_|refine eK rfl rfl rfl ?_ ?_)<;>(intro hc;try omega)))|(apply gq5;first|refine aS rx_ ?_|refine aU rx_ ?_|refine ah rfl rfl hr Ll rfl ?_|refine ah rfl rfl ht Ll rfl ?_)|(apply gq6;first|refine bk rx_ ?_|refine aw rfl ?_)|(apply gq4;first|refine aL rx_ ?_|refine ar rfl (Nat.zero_add _) ?_)|refine cj rfl ?_|refine bb rfl rfl ?_)|(apply gx;first|apply af|refine ae rfl ?_|apply ay|apply al|refine ak rfl ?_|refine ai rfl ?_)|apply aa
    refine bD r.l.length (fun j env h'=>(∀ x∈r.l.take j,x = -1∨In d.tags.l.length x)∧h'.get ib=some (.cells 0 d.av)∧env.has [(1,.ptr ib 0 0),(3,.int .i64 d.tags.l.length),(6,.int .i64 i),(7,.int .i64 j)]) ⟨by simp,hb1,hh_⟩ ?_
    clear hb1
    rintro j env h' hj ⟨hxs,hb1,he⟩
    obtain⟨env,rfl⟩:=he.ex
    clear he
    by_cases hj2:j<r.l.length
    ·obtain⟨x,hx⟩:=aK hj2
     by_cases hxo:x = -1∨In d.tags.l.length x
     ·have hx2 : -1≤x∧x<d.tags.l.length:=by unfold In at hxo;omega
      repeat' first|apply ac|(apply gw;first|refine au rx_ ?_|(apply gq2;first|refine aF rx_ ?_|refine aB rfl b_ pv_ ?_|refine am rfl hq_ Lm b_ pv_ ?_)|(apply gq3;first|refine aC rx_ ?_|refine aQ rx_ ?_|refine aT rfl rfl rfl Ll Ll ?_|((first|refine aA rfl rfl rfl ?_ ?_|refine iy rfl rfl rfl ?_ ?_)<;>(intro hc;try omega)))|(apply gq5;first|refine aS rx_ ?_|refine aU rx_ ?_|refine ah rfl rfl hr Ll rfl ?_|refine ah rfl rfl hx Ll rfl ?_)|(apply gq6;first|refine bk rx_ ?_|refine aw rfl ?_)|(apply gq4;first|refine aL rx_ ?_|refine ar rfl (Nat.zero_add _) ?_)|refine cj rfl ?_|refine bb rfl rfl ?_)|(apply gx;first|apply af|refine ae rfl ?_|apply ay|apply al|refine ak rfl ?_|refine ai rfl ?_)|apply aa|apply aI
      refine aR hj2 ⟨fun y hy=>?_,hb1,hh_⟩
      rw[aV hx]at hy
      rcases List.mem_append.1 hy with hy|hy
      ·exact hxs y hy
      ·simp at hy;subst hy;exact hxo
     ·have hx2:x < -1∨(d.tags.l.length:Int)≤x:=by unfold In at hxo;omega
      repeat' first|apply ac|(apply gw;first|refine au rx_ ?_|(apply gq2;first|refine aF rx_ ?_|refine aB rfl b_ pv_ ?_|refine am rfl hq_ Lm b_ pv_ ?_)|(apply gq3;first|refine aC rx_ ?_|refine aQ rx_ ?_|((first|refine aA rfl rfl rfl ?_ ?_|refine iy rfl rfl rfl ?_ ?_)<;>(intro hc;try omega)))|(apply gq5;first|refine aS rx_ ?_|refine aU rx_ ?_|refine ah rfl rfl hr Ll rfl ?_|refine ah rfl rfl hx Ll rfl ?_)|(apply gq6;first|refine bk rx_ ?_|refine aw rfl ?_)|(apply gq4;first|refine aL rx_ ?_|refine ar rfl (Nat.zero_add _) ?_)|(apply gq1;first|refine cf rfl ?_|refine cj rfl ?_)|(apply gq7;first|refine bi rfl rfl ?_|refine bb rfl rfl ?_))|(apply gx;first|apply af|refine ae rfl ?_|apply ay|apply al|apply aM|refine ak rfl ?_)|apply aa|apply cp|apply gH|apply iX
      all_goals
       refine aJ (v := .bool false) rfl ?_
       rw[iH]
       intro h
       have:=(h.rows _ hrm).2 x (List.mem_of_getElem? hx)
       rw[hnl]at this
       exact hxo this
    ·rw[List.take_of_length_le Ll]at hxs
     repeat' first|apply ac|(apply gw;first|refine au rx_ ?_|(apply gq2;first|refine aF rx_ ?_|refine aB rfl b_ pv_ ?_|refine am rfl hq_ Lm b_ pv_ ?_)|(apply gq3;first|refine aC rx_ ?_|refine aQ rx_ ?_|refine aT rfl rfl rfl Ll Ll ?_|(refine aA rfl rfl rfl ?_ ?_<;>(intro hc;try omega)))|(apply gq5;first|refine aS rx_ ?_|refine aU rx_ ?_|refine ah rfl rfl hr Ll rfl ?_)|(apply gq6;first|refine bk rx_ ?_|refine aw rfl ?_)|(apply gq4;first|refine aL rx_ ?_|refine ar rfl (Nat.zero_add _) ?_))|(apply gx;first|apply af|refine ae rfl ?_|apply aN|refine ai rfl ?_)|apply aa|apply aO|apply aI|apply aP|apply aX
     refine aR hi2 ⟨fun q hq=>?_,fun q hq=>?_,hb1,hh_⟩
     ·rw[aV hr]at hq
      rcases List.mem_append.1 hq with hq|hq
      ·exact hrs q hq
      ·simp at hq;subst hq;exact⟨o1,hxs⟩
     ·rw[aV ht]at hq
      rcases List.mem_append.1 hq with hq|hq
      ·exact hts q hq
      ·simp at hq;subst hq;exact o2
   ·repeat' first|apply ac|(apply gw;first|refine au rx_ ?_|(apply gq2;first|refine aF rx_ ?_|refine aB rfl b_ pv_ ?_|refine am rfl hq_ Lm b_ pv_ ?_)|(apply gq3;first|refine aC rx_ ?_|refine aQ rx_ ?_|((first|refine aA rfl rfl rfl ?_ ?_|refine eK rfl rfl rfl ?_ ?_)<;>(intro hc;try omega)))|(apply gq5;first|refine aS rx_ ?_|refine aU rx_ ?_|refine ah rfl rfl hr Ll rfl ?_|refine ah rfl rfl ht Ll rfl ?_)|(apply gq6;first|refine bk rx_ ?_|refine aw rfl ?_)|(apply gq4;first|refine aL rx_ ?_|refine ar rfl (Nat.zero_add _) ?_)|(apply gq1;first|refine cf rfl ?_|refine cj rfl ?_)|(apply gq7;first|refine bi rfl rfl ?_|refine bb rfl rfl ?_))|(apply gx;first|apply af|refine ae rfl ?_|apply ay|apply al|apply aM|refine ak rfl ?_)|apply aa|apply cp|apply gH|apply iX
    all_goals
     refine aJ (v := .bool false) rfl ?_
     rw[iH]
     intro h
     have h1:=(h.rows _ hrm).1
     have h2:=h.tags _ htm
     rw[hpl]at h1
     exact hok1 ⟨h1,h2⟩
  ·rw[List.take_of_length_le Ll]at hrs
   rw[List.take_of_length_le Ll]at hts
   repeat' first|apply ac|(apply gw;first|refine au rx_ ?_|(apply gq3;first|refine aC rx_ ?_|refine aQ rx_ ?_|(refine aA rfl rfl rfl ?_ ?_<;>(intro hc;try omega))))|(apply gx;first|apply af|refine ae rfl ?_|apply aM|apply aN|refine ai rfl ?_)|apply aa|apply aO|apply aP|apply aX
   refine aJ (v := .bool true) rfl ?_
   rw[mU]
   refine⟨by omega,by omega,by omega,by omega,fun q hq=>?_,fun a b hab hb=>hap a b hab Ll,fun r hr=>?_,hts⟩
   ·obtain⟨k,hk,rfl⟩:=List.getElem_of_mem hq
    have hk2:k<d.parts.l.length:=by simpa[Dfa.plain,cu] using hk
    have:=hn k hk2
    rw[show d.plain.part k=d.plain.parts[k] by simp[PD.part,List.getD_eq_getElem?_getD,hk]]at this
    exact this
   ·obtain⟨q,hq,rfl⟩:=List.mem_map.1 hr
    rw[hpl,hnl]
    exact hrs q hq
end
section
open Go
set_option maxHeartbeats 4000000
attribute [local irreducible] az bf bm de bz cw dH bJ wop cz bc
noncomputable def wM (d:Dfa)(l:List Int):Int×Int:=if rD d=true then ig d.plain l else(0,-1)
theorem A5 {Φ:Lib}(L:cJ Φ)(L2:jM Φ)(d:Dfa)(hw:d.Wide)(t:Rw Int)(ht:t.l.length≤1048576):eQ Φ 158 [.agg d.av,t.iv] (.tup [.int .i64 (wM d t.l).1,.int .i64 (wM d t.l).2]):=by
 have hsd:=zk L L2 d hw
 have hfp:=hw.fits.parts
 have hfn:=hw.fits.next
 have hft:=hw.fits.tags
 have hpl:d.plain.p=d.parts.l.length:=by simp[Dfa.plain,cu,PD.p]
 have hnl:d.plain.n=d.tags.l.length:=by simp[Dfa.plain,PD.n]
 have hxl:d.plain.next.length=d.next.l.length:=by simp[Dfa.plain,cG]
 refine ba (fun _=>false) rfl L.f158 ?_
 apply af
 refine ae rfl ?_
 refine gQ (v := .agg d.av) rfl rfl ?_
 intro ib hib
 have hbox:(ad.empty.set ib (.cells 0 (AV.agg d.av).cells)).get ib=some (.cells 0 d.av):=ad.get_set_self _ _ _
 generalize ad.empty.set ib (.cells 0 (AV.agg d.av).cells)=h0 at hbox
 by_cases hok:d.plain.Ok
 ·rw[mU hok]at hsd
  rw[wM,if_pos (mU hok)]
  have hnl2:=hok.nl
  repeat' first|apply ac|(apply gw;first|refine au rx_ ?_|(apply gq2;first|refine aF rx_ ?_|refine am rfl hq_ Lm b_ pv_ ?_)|refine aH rfl nt_ ?_|refine dh (b:=true) rfl ?_)|(apply gx;first|apply af|refine ae rfl ?_|apply ay|apply al|refine ai rfl ?_)|apply aa|refine aW (by assumption) fz_ fz_ ?_
  refine bD t.l.length (fun i env h'=>∃ (a:Nat) (lo tg:Int),a<d.tags.l.length∧bu d.plain a (t.l.drop i) i (lo,tg)=ig d.plain t.l∧h'.get ib=some (.cells 0 d.av)∧env.has [(1,t.iv),(2,.ptr ib 0 0),(6,.int .i64 lo),(7,.int .i64 tg),(8,.int .i64 a),(9,.int .i64 i)]) ⟨0,0,-1,by have:=hok.n1;omega,rfl,hbox,hh_⟩ ?_
  clear hbox
  rintro i env h' hi ⟨a,lo,tg,han,hlong,hb1,he⟩
  obtain⟨env,rfl⟩:=he.ex
  clear he
  by_cases hi2:i<t.l.length
  ·obtain⟨c,hc⟩:=aK hi2
   obtain⟨r,hr⟩:=aK (l:=d.next.l) (i:=a) Ll
   have hrow:d.plain.row a=r.l:=by simp[PD.row,Dfa.plain,cG,List.getD_eq_getElem?_getD,hr]
   have hrm:r.l∈d.plain.next:=List.mem_map.2 ⟨r,List.mem_of_getElem? hr,rfl⟩
   obtain⟨hrl,hrt⟩:=hok.rows _ hrm
   have k1:=FR L L2 d.parts Ll (fun q hq=>by have:=(hw.wide q hq).len;omega) c
   rw[List.drop_eq_getElem_cons hi2,(List.getElem?_eq_some_iff.1 hc).2]at hlong
   unfold bu at hlong
   rw[show d.plain.parts=cu d.parts.l from rfl]at hlong
   cases hwh:d6 (cu d.parts.l) c with
   | none =>
    rw[hwh]at k1 hlong
    have hm1:yl none<0:=by decide
    repeat' first|apply ac|(apply gw;first|refine au rx_ ?_|(apply gq2;first|refine aF rx_ ?_|refine aB rfl b_ pv_ ?_|refine am rfl hq_ Lm b_ pv_ ?_)|(apply gq3;first|refine aC rx_ ?_|refine aQ rx_ ?_|(refine aA rfl rfl rfl ?_ ?_<;>(intro hc;try omega)))|(apply gq5;first|refine aS rx_ ?_|refine aU rx_ ?_|refine dN rfl rfl rfl (by assumption) rfl ?_)|(apply gq6;first|refine bk rx_ ?_|refine aw rfl ?_)|(apply gq4;first|refine aL rx_ ?_|refine ar rfl (Nat.zero_add _) ?_)|refine aH rfl nt_ ?_)|(apply gx;first|apply af|refine ae rfl ?_|apply ay|apply al|apply aM|apply aN|refine ak rfl ?_)|apply aa|apply aO|apply aP|refine oP rfl ?_|apply aX|refine aW (by assumption) fz_ fz_ ?_
    refine aJ (v := .tup [.int .i64 lo,.int .i64 tg]) rfl ?_
    rw[← hlong]
   | some k =>
    rw[hwh]at k1 hlong
    have hk:k<d.parts.l.length:=by
     have:=(dR hok (r:=c) (k:=k)).1 hwh
     omega
    obtain⟨x,hx⟩:=aK (l:=r.l) (i:=k) Ll
    have hcol:col d.plain.row a k=x:=by rw[col,hrow,List.getD_eq_getElem?_getD,hx];rfl
    have hm1:¬ yl (some k)<0:=by simp[yl]
    have hm2:yl (some k)=(k:Int):=rfl
    rw[hm2]at k1
    simp only[hcol]at hlong
    rcases hrt x (List.mem_of_getElem? hx) with hx1|hx1
    ·subst hx1
     rw[if_pos (by decide)]at hlong
     repeat' first|apply ac|(apply gw;first|refine au rx_ ?_|(apply gq2;first|refine aF rx_ ?_|refine aB rfl b_ pv_ ?_|refine am rfl hq_ Lm b_ pv_ ?_)|(apply gq3;first|refine aC rx_ ?_|refine aQ rx_ ?_|(refine aA rfl rfl rfl ?_ ?_<;>(intro hc;try omega)))|(apply gq5;first|refine aS rx_ ?_|refine aU rx_ ?_|refine ah rfl rfl hr Ll rfl ?_|refine ah rfl rfl hx Ll rfl ?_|refine dN rfl rfl rfl (by assumption) rfl ?_)|(apply gq6;first|refine bk rx_ ?_|refine aw rfl ?_)|(apply gq4;first|refine aL rx_ ?_|refine ar rfl (Nat.zero_add _) ?_)|refine aH rfl nt_ ?_)|(apply gx;first|apply af|refine ae rfl ?_|apply ay|apply al|apply aM|apply aN|refine ak rfl ?_|refine ai rfl ?_)|apply aa|apply aO|apply aP|refine oP rfl ?_|apply aX|refine aW (by assumption) fz_ fz_ ?_
     refine aJ (v := .tup [.int .i64 lo,.int .i64 tg]) rfl ?_
     rw[← hlong]
    ·obtain⟨b,rfl⟩:∃ b:Nat,x=b:=⟨x.toNat,by unfold In at hx1;omega⟩
     have hb:b<d.tags.l.length:=by unfold In at hx1;omega
     obtain⟨g,hg⟩:=aK hb
     have htag:d.plain.tag b=g:=by simp[PD.tag,Dfa.plain,List.getD_eq_getElem?_getD,hg]
     rw[if_neg Ll,htag]at hlong
     by_cases hg0:0≤g
     ·rw[if_pos hg0]at hlong
      repeat' first|apply ac|(apply gw;first|refine au rx_ ?_|(apply gq2;first|refine aF rx_ ?_|refine aB rfl b_ pv_ ?_|refine am rfl hq_ Lm b_ pv_ ?_)|(apply gq3;first|refine aC rx_ ?_|refine aQ rx_ ?_|refine aT rfl rfl rfl Ll Ll ?_|((first|refine aA rfl rfl rfl ?_ ?_|refine iy rfl rfl rfl ?_ ?_)<;>(intro hc;try omega)))|(apply gq5;first|refine aS rx_ ?_|refine aU rx_ ?_|refine ah rfl rfl hr Ll rfl ?_|refine ah rfl rfl hx Ll rfl ?_|refine ah rfl rfl hg Ll rfl ?_|refine dN rfl rfl rfl (by assumption) rfl ?_)|(apply gq6;first|refine bk rx_ ?_|refine aw rfl ?_)|(apply gq4;first|refine aL rx_ ?_|refine ar rfl (Nat.zero_add _) ?_)|refine aH rfl nt_ ?_)|(apply gx;first|apply af|refine ae rfl ?_|apply ay|apply al|refine ak rfl ?_|refine ai rfl ?_)|apply aa|apply aI|refine aW (by assumption) fz_ fz_ ?_
      exact aR hi2 ⟨b,_,_,hb,hlong,hb1,hh_⟩
     ·rw[if_neg hg0]at hlong
      repeat' first|apply ac|(apply gw;first|refine au rx_ ?_|(apply gq2;first|refine aF rx_ ?_|refine aB rfl b_ pv_ ?_|refine am rfl hq_ Lm b_ pv_ ?_)|(apply gq3;first|refine aC rx_ ?_|refine aQ rx_ ?_|refine aT rfl rfl rfl Ll Ll ?_|((first|refine aA rfl rfl rfl ?_ ?_|refine iy rfl rfl rfl ?_ ?_)<;>(intro hc;try omega)))|(apply gq5;first|refine aS rx_ ?_|refine aU rx_ ?_|refine ah rfl rfl hr Ll rfl ?_|refine ah rfl rfl hx Ll rfl ?_|refine ah rfl rfl hg Ll rfl ?_|refine dN rfl rfl rfl (by assumption) rfl ?_)|(apply gq6;first|refine bk rx_ ?_|refine aw rfl ?_)|(apply gq4;first|refine aL rx_ ?_|refine ar rfl (Nat.zero_add _) ?_)|refine aH rfl nt_ ?_)|(apply gx;first|apply af|refine ae rfl ?_|apply ay|apply al|refine ak rfl ?_|refine ai rfl ?_)|apply aa|apply aI|refine aW (by assumption) fz_ fz_ ?_
      exact aR hi2 ⟨b,_,_,hb,hlong,hb1,hh_⟩
  ·rw[List.drop_of_length_le Ll]at hlong
   unfold bu at hlong
   repeat' first|apply ac|(apply gw;first|refine au rx_ ?_|(apply gq3;first|refine aC rx_ ?_|refine aQ rx_ ?_|(refine aA rfl rfl rfl ?_ ?_<;>(intro hc;try omega)))|(apply gq6;first|refine bk rx_ ?_|refine aw rfl ?_))|(apply gx;first|apply af|refine ae rfl ?_|apply aM|apply aN|refine ai rfl ?_)|apply aa|apply aO|apply aP|apply aX
   refine aJ (v := .tup [.int .i64 lo,.int .i64 tg]) rfl ?_
   rw[← hlong]
 ·rw[iH hok]at hsd
  have:¬ rD d=true:=by rw[iH hok];decide
  rw[wM,if_neg this]
  repeat' first|apply ac|(apply gw;first|refine au rx_ ?_|(apply gq2;first|refine aF rx_ ?_|refine am rfl hq_ Lm b_ pv_ ?_)|refine aH rfl nt_ ?_|refine dh (b:=false) rfl ?_)|(apply gx;first|apply af|refine ae rfl ?_|apply aM|refine ak rfl ?_)|apply aa|apply cp|refine aW (by assumption) fz_ fz_ ?_
  exact aJ (v := .tup [.int .i64 0,.int .i64 (-1)]) rfl rfl
end
section
open Go
attribute [local irreducible] az bf bm de bz cw dH bJ wop cz bc
theorem HH {P:List (List aj)}{g:Nat}{a:List aj}(h:P[g]?=some a)(u:List aj):(fW (P.set g u)).length+a.length=(fW P).length+u.length:=by
 induction P generalizing g with
 | nil=>simp at h
 | cons p P ih =>
  cases g with
  | zero =>
   simp at h
   subst h
   simp[fW]
   omega
  | succ g =>
   simp at h
   have:=ih h
   simp[fW]at this ⊢
   omega
theorem An (P:List (List aj))(p:List aj):(fW (P++[p])).length=(fW P).length+p.length:=by simp[fW]
theorem FB {P P':List (List aj)}(h:P.Perm P'):(fW P).length=(fW P').length:=by
 induction h with
 | nil=>rfl
 | cons x _ ih=>simp[fW]at ih ⊢;omega
 | swap x y l=>simp[fW];omega
 | trans _ _ h1 h2=>exact h1.trans h2
theorem HG {P P':List (List aj)}(h:P.Sublist P'):(fW P).length≤(fW P').length:=by
 induction h with
 | slnil=>exact Nat.le_refl _
 | cons a _ ih=>simp[fW]at ih ⊢;omega
 | cons_cons a _ ih=>simp[fW]at ih ⊢;omega
theorem uB {d:PD}(hn:∀ q∈d.parts,bd q=q)(lv:Nat→Bool)(κ:Int→Int)(L:List Int):∀ m,m≤d.p→(fW (iu d (dF lv (en κ d.row L) m))).length≤(fW (d.parts.take m)).length
 | 0,_=>by simp[dF,iu,fW]
 | m+1,hm=>by
  have ih:=uB hn lv κ L m Ll
  have hg:Grp lv (en κ d.row L) m (dF lv (en κ d.row L) m):=pm mh mG lL m
  rw[oD]
  obtain⟨q,hq⟩:=aK (l:=d.parts) (i:=m) hm
  have hqm:d.part m=q:=by simp[PD.part,List.getD_eq_getElem?_getD,hq]
  rw[aV hq,An]
  generalize dF lv (en κ d.row L) m=G at ih hg
  unfold qX
  split
  ·split
   ·rename_i g hf
    have hgl:g<G.length:=(List.findIdx?_eq_some_iff_getElem.1 hf).1
    obtain⟨ks,hks⟩:=aK hgl
    have hk1:=hg.ne ks (List.mem_of_getElem? hks)
    have e:G.getD g []=ks:=by simp[List.getD_eq_getElem?_getD,hks]
    rw[e,yU d hks hk1]
    have h1:=HH (v8 (d:=d) hks) (bd (mT (ks.map d.part)++d.part m))
    have hu:bd (mT (ks.map d.part))=mT (ks.map d.part):=(qy fun r hr=>by
     obtain⟨k,hk,rfl⟩:=List.mem_map.1 hr
     have:=(hg.mem ks (List.mem_of_getElem? hks) k hk).1
     exact hn _ (PD.part_mem Ll)).1
    have h2:=v9 hu (hn _ (PD.part_mem (d:=d) (k:=m) Ll))
    rw[hqm]at h1 h2 ⊢
    omega
   ·rw[v7,An,hqm]
    omega
  ·omega
theorem Ft {d:PD}(hn:∀ q∈d.parts,bd q=q)(κ:Int→Int):(fW (cP κ d).parts).length≤(fW d.parts).length:=by
 have h1:=uB hn (mg d.row (d.L1 κ)) κ (d.L1 κ) d.p (Nat.le_refl _)
 rw[List.take_length]at h1
 refine Nat.le_trans (Nat.le_of_eq ?_) h1
 show(fW ((d.O κ).map fun g=>(iu d (d.G κ)).getD g [])).length=_
 have h2:((d.O κ).map fun g=>(iu d (d.G κ)).getD g []).Perm (iu d (d.G κ)):=by
  have h3:=(mZ (d.G κ).length fun g=>iJ ((iu d (d.G κ)).getD g [])).map fun g=>(iu d (d.G κ)).getD g []
  refine h3.trans ?_
  have h4:(List.range (d.G κ).length).map (fun g=>(iu d (d.G κ)).getD g [])=iu d (d.G κ):=by
   refine List.ext_getElem (by simp[iu]) fun i a b=>?_
   rw[List.getElem_map,List.getElem_range,List.getD_eq_getElem?_getD,List.getElem?_eq_getElem b]
   rfl
  rw[h4]
 exact FB h2
theorem HR (d:PD):(fW (cy d).parts).length≤(fW d.parts).length:=by
 have h1:((fu d).map d.part).Sublist ((List.range d.p).map d.part):=List.filter_sublist.map _
 have h2:(List.range d.p).map d.part=d.parts:=by
  refine List.ext_getElem Lm fun i a b=>?_
  rw[List.getElem_map,List.getElem_range,PD.part,List.getD_eq_getElem?_getD,List.getElem?_eq_getElem b]
  rfl
 rw[h2]at h1
 exact HG h1
theorem eF.cat {d x:PD}(h:eF d x)(hd:d.Ok):(fW x.parts).length≤(fW d.parts).length:=by
 obtain⟨lv,κ,h1,h2,h3,h4,rfl⟩:=h.final hd
 exact Nat.le_trans (Ft (d:=d7 lv (cy d)) h2.norm κ) (HR d)
theorem eF.tagsIn {d x:PD}(h:eF d x)(hd:d.Ok):∀ t∈x.tags,t∈d.tags:=by
 obtain⟨lv,κ,h1,h2,h3,h4,rfl⟩:=h.final hd
 intro t ht
 obtain⟨s,hs,rfl⟩:=List.mem_map.1 ht
 have hin:=(rr h2 h4).1.inn s hs
 have h5:s.toNat<d.tags.length:=by
  have:In d.tags.length s:=hin
  unfold In at this;omega
 show d.tags.getD s.toNat (-1)∈d.tags
 rw[List.getD_eq_getElem?_getD,List.getElem?_eq_getElem h5]
 exact List.getElem_mem _
theorem Cb {x:Dfa}(hx:x.plain.Ok)(hc:(fW x.plain.parts).length≤524288):x.Wide:=by
 have hpl:x.plain.p=x.parts.l.length:=by simp[Dfa.plain,cu,PD.p]
 have hnl:x.plain.n=x.tags.l.length:=by simp[Dfa.plain,PD.n]
 have hxl:x.plain.next.length=x.next.l.length:=by simp[Dfa.plain,cG]
 have h1:=hx.p1
 have h2:=hx.n2
 have h3:=hx.nl
 refine⟨⟨by rw[mc];exact hc,by omega,by omega,fun r hr=>?_,by omega⟩,fun p hp=>?_⟩
 ·have:=(hx.rows r.l (List.mem_map.2 ⟨r,hr,rfl⟩)).1
  omega
 ·have hn:=hx.norm p.l (List.mem_map.2 ⟨p,hp,rfl⟩)
  have h4:=oo hn
  have h5:=qb hn
  refine⟨by omega,fun s hs=>?_⟩
  have h6:=(eT hn).2 s hs
  have:=h5 s hs
  omega
theorem eF.wide {d x:Dfa}(h:eF d.plain x.plain)(hd:d.plain.Ok)(hf:d.Fits):x.Wide:=by
 refine Cb (h.ok hd) ?_
 have h1:=h.cat hd
 have h2:=hf.cat
 rw[mc]at h2
 exact Nat.le_trans h1 h2
end
end Go.Proofs.YtlnobeojgifojaaGreatDoor
