/- lower.Sound, lower.Longest. lower.kinds: states told apart, round by round. -/
import Derived.Test.YtlnobeojgifojaaGreatDoorVB
set_option linter.unusedVariables false
set_option linter.unusedSimpArgs false
namespace Go.Proofs.YtlnobeojgifojaaGreatDoor
section
open Go
set_option maxHeartbeats 4000000
attribute [local irreducible] aj bc bj dn bz cn dz bL wop cq aU
structure Bm where
 next:Rw (Rw Int)
 tags:Rw Int
@[reducible] def Bm.av (b:Bm):List AV:=[b.next.mv Rw.iv,b.tags.iv]
def Bm.plain (b:Bm):PD:=⟨[],cR b.next.l,b.tags.l⟩
@[simp] theorem HN (b:Bm):AV.frozenL b.av=true:=by simp[Bm.av,AV.frozenL,AV.frozen]
structure Bm.Fits (b:Bm):Prop where
 next:b.next.l.length≤4294967296
 tags:b.tags.l.length≤4294967296
 rows:∀ r∈b.next.l,r.l.length≤1048576
structure OkS (x:PD):Prop extends OkB x where
 most:x.n≤40000
def Ds (k:Int)(to:Int):Bool:=decide (to < -1)||decide (k≤to)
theorem Ff {Φ:Lib}(L:em Φ){h:aa}{i:Nat}{k:Int}(hg:h.get i=some (.cells 0 [.int .i64 k]))(to:Int):aU Φ 274 [.int .i64 to,.ptr i 0 0] h (fun v h'=>v = .bool (Ds k to)∧h.Ext h'):=by
 refine bb (fun _=>false) rfl L.f274 ?_
 repeat' first|apply ad|(apply gw;first|(apply gq0;first|refine aw rfl ?_|refine bV rfl ?_)|(apply gq1;first|refine cI rfl ?_|refine cD rfl ?_)|refine ak rfl hg_ HU b_ pv_ ?_|(apply gq3;first|((first|refine aB rfl rfl rfl ?_ ?_|refine jq rfl rfl rfl ?_ ?_)<;>(intro hc;try omega)))|(apply gq7;first|refine bU rfl rfl ?_|refine bh rfl rfl ?_))|(apply gx;first|apply af|refine ae rfl ?_|apply aM)|apply ac
 ·exact aH (v := .bool true) rfl ⟨by simp[Ds, *],aa.Ext.refl h⟩
 ·exact aH (v := .bool true) rfl ⟨by simp[Ds, *],aa.Ext.refl h⟩
 ·exact aH (v := .bool false) rfl ⟨by simp[Ds, *],aa.Ext.refl h⟩
noncomputable def uV (b:Bm):Bool:=zc (OkS b.plain)
theorem lu {b:Bm}(h:¬ OkS b.plain):uV b=false:=zb h
theorem ko {b:Bm}(h:OkS b.plain):uV b=true:=za h
set_option maxRecDepth 100000 in
theorem pR {Φ:Lib}(L:em Φ)(L1:gC Φ)(b:Bm)(hf:b.Fits):ia Φ 263 [.agg b.av] (.bool (uV b)):=by
 have hfn:=hf.next
 have hft:=hf.tags
 have hnl:b.plain.n=b.tags.l.length:=by simp[Bm.plain,PD.n]
 have hxl:b.plain.next.length=b.next.l.length:=by simp[Bm.plain,cR]
 have hrow:∀ {i:Nat} {r:Rw Int},b.next.l[i]?=some r→r.l∈b.plain.next:=fun hr=>List.mem_map.2 ⟨_,List.mem_of_getElem? hr,rfl⟩
 refine bb (fun _=>false) rfl L.f263 ?_
 repeat' first|apply ad|(apply gw;first|refine ai rx_ ?_|(apply gq2;first|refine aC rx_ ?_|refine ak rfl hg_ HU b_ pv_ ?_)|(apply gq3;first|refine az rx_ ?_|refine aN rx_ ?_|((first|refine dS rfl rfl rfl ?_ ?_|refine dD rfl rfl rfl ?_ ?_|refine eM rfl rfl rfl ?_ ?_)<;>(intro hc;try omega)))|(apply iA;first|refine bg rx_ ?_|refine bf rx_ ?_|refine cy (cs':=[AV.int _ _]) rfl rfl rfl rfl b_ rfl ?_)|(apply gq6;first|refine bM rx_ ?_|refine aD rfl ?_)|(apply gq4;first|refine aG rx_ ?_|refine aq rfl (Nat.zero_add _) ?_)|(apply gq1;first|refine cI rfl ?_|refine cD rfl ?_)|(apply gq7;first|refine bU rfl rfl ?_|refine bh rfl rfl ?_)|(refine cd ?_;intro id hid;try simp only[aa.set_none]at hid)|(refine gJ (v:=AV.agg _) rfl rfl ?_;intro id hid;try simp only[aa.set_none]at hid)|refine oI (vs:=[AV.ptr _ _ _]) rfl rfl ?_)|(apply gx;first|apply af|refine ae rfl ?_|apply ay|apply au|apply aM|refine al rfl ?_|refine ah rfl ?_)|apply ac|apply cz
 all_goals first
  | (
   refine aH (v := .bool false) rfl ?_
   rw[lu (fun h=>by have:=h.n1;have:=h.most;have:=h.nl;omega)]
   done)
  | skip
 rename_i ib hib hc1 hc2
 obtain⟨ik,rfl⟩:∃ x,x=id:=⟨_,rfl⟩
 refine cl b.next.l.length (fun i env h'=>(∀ r∈b.next.l.take i,r.l.length=256∧∀ x∈r.l,x = -1∨In b.tags.l.length x)∧(∀ t∈b.tags.l.take i,-1≤t)∧h'.get ib=some (.cells 0 b.av)∧h'.get ik=some (.cells 0 [.int .i64 b.tags.l.length])∧env.has [(1,.ptr ib 0 0),(4,.fn 274 [.ptr ik 0 0]),(25,b.next.mv Rw.iv),(26,.int .i64 b.next.l.length),(27,.int .i64 i)]) ⟨by simp,by simp,by rw[aa.get_set_ne _ _ (Ne.symm hid.1)];exact aa.get_set_self _ _ _,aa.get_set_self _ _ _,hh_⟩ ?_
 clear hid hib
 rintro i env h' hi ⟨hrs,hts,hb1,hb2,he⟩
 obtain⟨env,rfl⟩:=he.ex
 clear he
 by_cases hi2:i<b.next.l.length
 ·obtain⟨r,hr⟩:=aK hi2
  obtain⟨t,ht⟩:=aK (l:=b.tags.l) (show i<b.tags.l.length by omega)
  have hrl:=hf.rows r (List.mem_of_getElem? hr)
  have hrm:=hrow hr
  have htm:t∈b.plain.tags:=List.mem_of_getElem? ht
  repeat' first|apply ad|(apply gw;first|refine ai rx_ ?_|(apply gq2;first|refine aC rx_ ?_|refine aI rfl b_ pv_ ?_|refine ak rfl hg_ HU b_ pv_ ?_)|(apply gq3;first|refine az rx_ ?_|refine aN rx_ ?_|((first|refine aB rfl rfl rfl ?_ ?_|refine eM rfl rfl rfl ?_ ?_)<;>(intro hc;try omega)))|(apply gq5;first|refine aO rx_ ?_|refine aS rx_ ?_|refine ar rfl rfl hr HT rfl ?_|refine ar rfl rfl ht HT rfl ?_)|(apply gq6;first|refine bM rx_ ?_|refine aD rfl ?_)|(apply gq4;first|refine aG rx_ ?_|refine aq rfl (Nat.zero_add _) ?_)|(apply gq1;first|refine cI rfl ?_|refine cD rfl ?_)|(apply gq7;first|refine bU rfl rfl ?_|refine bh rfl rfl ?_)|refine aL rfl nt_ ?_)|(apply gx;first|apply af|refine ae rfl ?_|apply ay|apply au|apply aM|refine al rfl ?_)|apply ac|apply cz|apply jB|apply kD
  all_goals first
   | (
    refine aH (v := .bool false) rfl ?_
    rw[lu (fun h=>by have h1:=(h.rows _ hrm).1;have h2:=h.tags _ htm;omega)]
    done)
   | skip
  refine bS (lJ L1 r.l r.fl 274 [.ptr ik 0 0] _ h' HT fun x _=>Ff L hb2 x) ?_
  rintro _ h2 ⟨rfl,rfl⟩
  cases ho:(r.l.any (Ds (b.tags.l.length:Int)))
  ·repeat' first|apply ad|(apply gw;first|refine ai rx_ ?_|(apply gq3;first|refine az rx_ ?_|refine a8 rfl rfl rfl HT HT ?_)|refine bh rfl rfl ?_)|(apply gx;first|refine ae rfl ?_|apply ay|refine ah rfl ?_)|apply ac|apply aJ
   refine aW hi2 ⟨fun q hq=>?_,fun q hq=>?_,hb1,hb2,hh_⟩
   ·rw[aX hr]at hq
    rcases List.mem_append.1 hq with hq|hq
    ·exact hrs q hq
    ·simp at hq;subst hq
     exact⟨by omega,qM.1 ho⟩
   ·rw[aX ht]at hq
    rcases List.mem_append.1 hq with hq|hq
    ·exact hts q hq
    ·simp at hq;subst hq
     omega
  ·repeat' first|apply ad|(apply gw;first|refine ai rx_ ?_|refine bh rfl rfl ?_)|(apply gx;first|apply af|refine ae rfl ?_|apply aM|refine al rfl ?_)|apply ac|apply cz|apply jB|apply kD
   refine aH (v := .bool false) rfl ?_
   rw[lu]
   intro h
   have h1:=qM.2 (h.rows _ hrm).2
   have ho2:(r.l.any fun to=>decide (to < -1)||decide (((b.tags.l.length:Nat):Int)≤to))=true:=ho
   rw[hnl,ho2]at h1
   cases h1
 ·rw[List.take_of_length_le HT]at hrs
  rw[List.take_of_length_le HT]at hts
  repeat' first|apply ad|(apply gw;first|refine ai rx_ ?_|(apply gq3;first|refine az rx_ ?_|refine aN rx_ ?_|(refine aB rfl rfl rfl ?_ ?_<;>(intro hc;try omega))))|(apply gx;first|apply af|refine ae rfl ?_|apply aM|apply aP|refine ah rfl ?_)|apply ac|apply aQ|apply aR|apply ba
  refine aH (v := .bool true) rfl ?_
  rw[ko]
  refine⟨⟨by omega,by omega,fun r hr=>?_,hts⟩,by omega⟩
  obtain⟨q,hq,rfl⟩:=List.mem_map.1 hr
  rw[hnl]
  exact hrs q hq
noncomputable def r6 (b:Bm)(s:List Int):Int×Int:=if uV b=true then mc b.plain 0 s 0 (0,-1) else(0,-1)
set_option maxRecDepth 100000 in
theorem sA {Φ:Lib}(L:em Φ)(L1:gC Φ)(b:Bm)(hf:b.Fits)(s:List Int)(fl:Bool)(hsl:s.length≤1048576)(hsb:∀ c∈s,0≤c∧c≤255):ia Φ 262 [.agg b.av,iy s fl] (.tup [.int .i64 (r6 b s).1,.int .i64 (r6 b s).2]):=by
 have hsd:=pR L L1 b hf
 have hfn:=hf.next
 have hft:=hf.tags
 have hnl:b.plain.n=b.tags.l.length:=by simp[Bm.plain,PD.n]
 have hxl:b.plain.next.length=b.next.l.length:=by simp[Bm.plain,cR]
 refine bb (fun _=>false) rfl L.f262 ?_
 apply af
 refine ae rfl ?_
 refine gJ (v := .agg b.av) rfl rfl ?_
 intro ib hib
 have hbox:(aa.empty.set ib (.cells 0 (AV.agg b.av).cells)).get ib=some (.cells 0 b.av):=aa.get_set_self _ _ _
 generalize aa.empty.set ib (.cells 0 (AV.agg b.av).cells)=h0 at hbox
 by_cases hok:OkS b.plain
 ·rw[ko hok]at hsd
  rw[r6,if_pos (ko hok)]
  have hnl2:=hok.nl
  generalize hz:mc b.plain 0 s 0 (0,-1)=z
  repeat' first|apply ad|(apply gw;first|refine ai rx_ ?_|(apply gq2;first|refine aC rx_ ?_|refine ak rfl hg_ HU b_ pv_ ?_)|(apply gq6;first|refine bM rx_ ?_|refine aD rfl ?_)|refine aL rfl nt_ ?_|refine dm (b:=true) rfl ?_)|(apply gx;first|apply af|refine ae rfl ?_|apply ay|apply au|refine ah rfl ?_)|apply ac|refine bu (by assumption) fz_ fz_ ?_
  refine cl s.length (fun i env h'=>∃ (a:Nat) (lo tg:Int),a<b.tags.l.length∧mc b.plain a (s.drop i) i (lo,tg)=z∧h'.get ib=some (.cells 0 b.av)∧env.has [(2,.ptr ib 0 0),(6,.int .i64 lo),(7,.int .i64 tg),(8,.int .i64 a),(16,iy s fl),(17,.int .i64 s.length),(18,.int .i64 i)]) ⟨0,0,-1,by have:=hok.n1;omega,hz,hbox,hh_⟩ ?_
  clear hbox hz
  rintro i env h' hi ⟨a,lo,tg,han,hlong,hb1,he⟩
  obtain⟨env,rfl⟩:=he.ex
  clear he
  by_cases hi2:i<s.length
  ·obtain⟨c,hc⟩:=aK hi2
   have hcb:=hsb c (List.mem_of_getElem? hc)
   obtain⟨r,hr⟩:=aK (l:=b.next.l) (i:=a) HT
   have hrow:b.plain.row a=r.l:=by simp[PD.row,Bm.plain,cR,List.getD_eq_getElem?_getD,hr]
   have hrm:r.l∈b.plain.next:=List.mem_map.2 ⟨r,List.mem_of_getElem? hr,rfl⟩
   obtain⟨hrl,hrt⟩:=hok.rows _ hrm
   obtain⟨x,hx⟩:=aK (l:=r.l) (i:=c.toNat) HT
   have hxr:=hrt x (List.mem_of_getElem? hx)
   have hcol:col b.plain.row a c.toNat=x:=by rw[col,hrow,List.getD_eq_getElem?_getD,hx];rfl
   rw[List.drop_eq_getElem_cons hi2,(List.getElem?_eq_some_iff.1 hc).2]at hlong
   unfold mc at hlong
   rw[hcol]at hlong
   rcases hxr with rfl|hin
   ·rw[if_pos rfl]at hlong
    repeat' first|apply ad|(apply gw;first|refine ai rx_ ?_|(apply gq2;first|refine aC rx_ ?_|refine aI rfl b_ pv_ ?_|refine ak rfl hg_ HU b_ pv_ ?_)|(apply gq3;first|refine az rx_ ?_|refine aN rx_ ?_|((first|refine aB rfl rfl rfl ?_ ?_|refine dD rfl rfl rfl ?_ ?_)<;>(intro hc;try omega)))|(apply gq5;first|refine aO rx_ ?_|refine aS rx_ ?_|refine ar rfl rfl hr HT rfl ?_|refine ar rfl rfl hx HT rfl ?_|refine ig rfl rfl rfl (by assumption) rfl ?_)|(apply gq4;first|refine aG rx_ ?_|refine aq rfl (Nat.zero_add _) ?_))|(apply gx;first|apply af|refine ae rfl ?_|apply ay|apply au|apply aM|apply aP|refine al rfl ?_)|apply ac|apply aQ|apply aR|refine sB rfl ?_|apply ba
    refine aH (v := .tup [.int .i64 lo,.int .i64 tg]) rfl ?_
    rw[← hlong]
   ·obtain⟨x,rfl⟩:∃ n:Nat,x=n:=⟨x.toNat,by have:=hin.1;omega⟩
    have hx0:=hin.1
    have hx1:=hin.2
    rw[hnl]at hx1
    rw[if_neg HT]at hlong
    obtain⟨t,ht⟩:=aK (l:=b.tags.l) (i:=x) HT
    have htag:b.plain.tag x=t:=by simp[PD.tag,Bm.plain,List.getD_eq_getElem?_getD,ht]
    rw[htag]at hlong
    repeat' first|apply ad|(apply gw;first|refine ai rx_ ?_|(apply gq2;first|refine aC rx_ ?_|refine aI rfl b_ pv_ ?_|refine ak rfl hg_ HU b_ pv_ ?_)|(apply gq3;first|refine az rx_ ?_|refine aN rx_ ?_|refine a8 rfl rfl rfl HT HT ?_|((first|refine aB rfl rfl rfl ?_ ?_|refine jq rfl rfl rfl ?_ ?_|refine dD rfl rfl rfl ?_ ?_)<;>(intro hc;try omega)))|(apply gq5;first|refine aO rx_ ?_|refine aS rx_ ?_|refine ar rfl rfl hr HT rfl ?_|refine ar rfl rfl hx HT rfl ?_|refine ar rfl rfl ht HT rfl ?_|refine ig rfl rfl rfl (by assumption) rfl ?_)|(apply gq4;first|refine aG rx_ ?_|refine aq rfl (Nat.zero_add _) ?_))|(apply gx;first|apply af|refine ae rfl ?_|apply ay|apply au|refine al rfl ?_|refine ah rfl ?_)|apply ac|apply aJ
    ·rw[if_pos HT]at hlong
     refine aW hi2 ⟨x,_,t,by omega,hlong,hb1,?_⟩
     exact hh_
    ·rw[if_neg HT]at hlong
     exact aW hi2 ⟨x,lo,tg,by omega,hlong,hb1,hh_⟩
  ·rw[List.drop_eq_nil_of_le HT]at hlong
   unfold mc at hlong
   repeat' first|apply ad|(apply gw;first|refine ai rx_ ?_|(apply gq3;first|refine az rx_ ?_|refine aN rx_ ?_|(refine aB rfl rfl rfl ?_ ?_<;>(intro hc;try omega))))|(apply gx;first|apply af|refine ae rfl ?_|apply aM|apply aP|refine ah rfl ?_)|apply ac|apply aQ|apply aR|apply ba
   refine aH (v := .tup [.int .i64 lo,.int .i64 tg]) rfl ?_
   rw[← hlong]
 ·rw[lu hok]at hsd
  rw[r6,if_neg (by rw[lu hok];simp)]
  repeat' first|apply ad|(apply gw;first|refine ai rx_ ?_|(apply gq2;first|refine aC rx_ ?_|refine ak rfl hg_ HU b_ pv_ ?_)|refine aL rfl nt_ ?_|refine dm (b:=false) rfl ?_)|(apply gx;first|apply af|refine ae rfl ?_|apply aM|refine al rfl ?_)|apply ac|apply cz|refine bu (by assumption) fz_ fz_ ?_
  exact aH (v := .tup [.int .i64 0,.int .i64 (-1)]) rfl rfl
end
section
open Go
set_option maxHeartbeats 4000000
def mE:Option Int→List UInt8
 | none=>[33]
 | some v=>cX v
def dC (l:List (Option Int)):List UInt8:=l.flatMap fun o=>32::mE o
def Gv (k:Int×List (Option Int)):List UInt8:=cX k.1++dC k.2
theorem o5 {x:Int}:∀ c∈cX x,c≠32∧c≠33:=by
 have hd:∀ u,u<36→iJ u≠32∧iJ u≠33:=by decide
 have hn:∀ u,∀ c∈gK u,c≠32∧c≠33:=fun u=>by
  induction u using Nat.strongRecOn with
  | ind u ih =>
   by_cases h:u<36
   ·rw[iE h]
    intro c hc
    obtain rfl:=List.mem_singleton.1 hc
    exact hd u h
   ·rw[jc h]
    intro c hc
    rcases List.mem_append.1 hc with hc|hc
    ·exact ih (u / 36) HT c hc
    ·obtain rfl:=List.mem_singleton.1 hc
     exact hd _ (Nat.mod_lt _ HT)
 intro c hc
 unfold cX at hc
 split at hc
 ·rcases List.mem_cons.1 hc with rfl|hc
  ·decide
  ·exact hn _ c hc
 ·exact hn _ c hc
theorem zD (o:Option Int):∀ c∈mE o,c≠32:=by
 cases o with
 | none=>intro c hc;simp[mE]at hc;subst hc;decide
 | some v=>exact fun c hc=>(o5 c hc).1
theorem Dt {o p:Option Int}(h:mE o=mE p):o=p:=by
 cases o with
 | none=>cases p with
  | none=>rfl
  | some w =>
   have h:[33]=cX w:=h
   exact absurd rfl ((o5 (x:=w) 33 (by rw[← h];simp)).2)
 | some v=>cases p with
  | none =>
   have h:cX v=[33]:=h
   exact absurd rfl ((o5 (x:=v) 33 (by rw[h];simp)).2)
  | some w=>rw[mN h]
theorem nZ:∀ {a b:List UInt8} {l m:List (Option Int)},(∀ c∈a,c≠32)→(∀ c∈b,c≠32)→a++dC l=b++dC m→a=b∧dC l=dC m
 | [],[],_,_,_,_,e=>⟨rfl,e⟩
 | [],c::b,l,m,_,hb,e=>by
  cases l with
  | nil=>cases e
  | cons o l =>
   have e:(32:UInt8)::(mE o++dC l)=c::(b++dC m):=e
   injection e with e1 _
   exact absurd e1.symm (hb c HU)
 | c::a,[],l,m,ha,_,e=>by
  cases m with
  | nil=>cases e
  | cons o m =>
   have e:c::(a++dC l)=(32:UInt8)::(mE o++dC m):=e
   injection e with e1 _
   exact absurd e1 (ha c HU)
 | c::a,d::b,l,m,ha,hb,e=>by
  injection e with e1 e2
  obtain⟨h1,h2⟩:=nZ (fun x hx=>ha x (by simp[hx])) (fun x hx=>hb x (by simp[hx])) e2
  exact⟨by rw[e1,h1],h2⟩
theorem qR:∀ {l m:List (Option Int)},dC l=dC m→l=m
 | [],[],_=>rfl
 | [],_::_,e=>by cases e
 | _::_,[],e=>by cases e
 | o::l,p::m,e=>by
  have e:(32:UInt8)::(mE o++dC l)=32::(mE p++dC m):=e
  injection e with _ e
  obtain⟨h1,h2⟩:=nZ (zD o) (zD p) e
  rw[Dt h1,qR h2]
theorem xh (a b:Int×List (Option Int))(h:Gv a=Gv b):a=b:=by
 obtain⟨h1,h2⟩:=nZ (fun c hc=>(o5 c hc).1) (fun c hc=>(o5 c hc).1) h
 exact Prod.ext (mN h1) (qR h2)
def I32 (x:Int):Prop := -2147483648≤x∧x≤2147483647
theorem qQ:∀ {l:List (Option Int)},(∀ v,some v∈l→I32 v)→(dC l).length≤10*l.length
 | [],_=>by simp[dC]
 | o::l,h=>by
  have ih:=qQ (l:=l) fun v hv=>h v (by simp[hv])
  have e:dC (o::l)=32::(mE o++dC l):=rfl
  rw[e,List.length_cons,List.length_append,List.length_cons]
  cases o with
  | none=>simp[mE];omega
  | some v =>
   have:=h v HU
   have:=pH this.1 this.2
   simp only[mE]
   omega
theorem iV.congr {n:Nat}{R:Int→List Int}{T T' κ:Int→Int}(hT:∀ s,In n s→T s=T' s)(h:iV n R T κ):iV n R T' κ :=
 ⟨h.no,h.yes,fun s t hs ht e=>by rw[← hT s hs,← hT t ht];exact h.tag s t hs ht e,h.step,fun B hB s t hs ht e=>h.least B (fun s t hs ht e=>⟨by rw[hT s hs,hT t ht];exact(hB s t hs ht e).1,(hB s t hs ht e).2⟩) s t hs ht e⟩
theorem rV (R:Int→List Int){n:Nat}{T:List Int}(hT:T.length=n):∀ q,(ofY R n T q).length=n
 | 0=>hT
 | q+1=>vw R n _
theorem Dx {R:Int→List Int}{n:Nat}(hn:n≤268435456){T:List Int}(hT:∀ x∈T,I32 x):∀ q,∀ x∈ofY R n T q,I32 x
 | 0=>hT
 | q+1=>fun x hx=>by
  obtain⟨k,hk,rfl⟩:=List.mem_map.1 hx
  have h1:=zI hk
  have h2:=zT R n (ofY R n T q)
  unfold nF at h2
  unfold I32
  omega
def qf (R:Int→List Int)(n:Nat)(T:List Int):Nat→Nat
 | 0=>0
 | q+1=>nF R n (ofY R n T q)
theorem DS {of:List Int}(h:∀ x∈of,I32 x)(i:Nat):I32 (of.getD i 0):=by
 rcases kF (l:=of) (i:=i) (d:=0) with e|e
 ·rw[e];unfold I32;omega
 ·exact h _ e
theorem qO (n:Nat):(List.replicate ((n:Nat):Int).toNat [AV.int .i64 0]).flatten=List.replicate n (AV.int .i64 0):=by
 rw[Int.toNat_natCast]
 induction n with
 | zero=>rfl
 | succ n ih=>rw[List.replicate_succ,List.flatten_cons,ih];rfl
theorem OkB.tab {x:PD}(h:OkB x):Tab x.n 256 x.row where
 len s hs:=by
  obtain⟨r,hr⟩:=aK (l:=x.next) (i:=s.toNat) (by have:=hs.1;have:=hs.2;have:=h.nl;omega)
  simp[PD.row,hr,(h.rows r (List.mem_of_getElem? hr)).1]
 to s hs y hy:=by
  obtain⟨r,hr⟩:=aK (l:=x.next) (i:=s.toNat) (by have:=hs.1;have:=hs.2;have:=h.nl;omega)
  simp[PD.row,hr]at hy
  exact(h.rows r (List.mem_of_getElem? hr)).2 y hy
attribute [local irreducible] aj bc bj dn bz cn dz bL wop cq aU
set_option maxRecDepth 100000 in
theorem Cj {Φ:Lib}(L:em Φ)(L3:cZ Φ)(b:Bm)(hb:OkB b.plain)(hn:b.tags.l.length≤268435456)(ht:∀ t∈b.tags.l,I32 t) :
  aU Φ 280 [.agg b.av] aa.empty (fun v _=>∃ of:List Int,v = .rd of.length (of.map (.int .i64)) false∧of.length=b.tags.l.length∧(∀ x∈of,I32 x)∧iV b.tags.l.length b.plain.row b.plain.tag (r8 of)):=by
 have hcl:=up L3 b.tags HT
 have hnl:b.next.l.length=b.tags.l.length:=by have:=hb.nl;simpa[Bm.plain,cR,PD.n] using this
 have hn1:1≤b.tags.l.length:=hb.n1
 have hrow:∀ {i:Nat} {r:Rw Int},b.next.l[i]?=some r→b.plain.row i=r.l:=fun {i r} hr=>by simp[PD.row,Bm.plain,cR,List.getD_eq_getElem?_getD,hr]
 have hrows:∀ r∈b.next.l,r.l.length=256∧∀ y∈r.l,y = -1∨In b.tags.l.length y:=fun r hr=>hb.rows r.l (List.mem_map.2 ⟨r,hr,rfl⟩)
 obtain⟨n,hnn⟩:∃ n,n=b.tags.l.length:=⟨_,rfl⟩
 obtain⟨R,hR⟩:∃ R,R=b.plain.row:=⟨_,rfl⟩
 rw[← hnn]at hnl hn1 hn hrows hcl
 rw[← hR]at hrow
 refine bb (fun o=>o == some 75||o == some 43) rfl L.f280 ?_
 apply af
 refine ae rfl ?_
 refine gJ (v := .agg b.av) rfl rfl ?_
 intro ib hib
 have hbox:(aa.empty.set ib (.cells 0 (AV.agg b.av).cells)).get ib=some (.cells 0 b.av):=aa.get_set_self _ _ _
 have hS0:Sep (aa.empty.set ib (.cells 0 (AV.agg b.av).cells)) [jA aa.empty,ck ib (.cells 0 b.av)]:=(Sep.old aa.empty).new (o := .cells 0 b.av) hib
 generalize aa.empty.set ib (.cells 0 (AV.agg b.av).cells)=h0 at hbox hS0
 repeat' first|apply ad|(apply gw;first|refine ai rx_ ?_|(apply gq2;first|refine aC rx_ ?_|refine ak rfl hg_ HU b_ pv_ ?_)|(apply gq4;first|refine aG rx_ ?_|refine aq rfl (Nat.zero_add _) ?_)|refine aL rfl nt_ ?_)|(apply gx;first|apply af|refine ae rfl ?_|apply ay|apply au)|apply ac|refine bu (by assumption) fz_ fz_ ?_
 refine ic (fun m env h'=>∃ (q:Nat) (of:List Int) (fl:Bool),of=ofY R n b.tags.l q∧m=n-qf R n b.tags.l q∧Sep h' [jA aa.empty,ck ib (.cells 0 b.av)]∧env.has [(1,.ptr ib 0 0),(3,.rd of.length (of.map (.int .i64)) fl),(4,.int .i64 (qf R n b.tags.l q))]) n ⟨0,b.tags.l,false,rfl,rfl,hS0,by rw[← hnn];exact hh_⟩ ?_
 clear hS0 hbox hib
 rintro m env h' ⟨q,of,fl,hof,rfl,hS,he⟩
 have hofl:of.length=n:=by rw[hof];exact rV R hnn.symm q
 have hofI:∀ x∈of,I32 x:=by rw[hof];exact Dx hn ht q
 have hbx:h'.get ib=some (.cells 0 b.av):=hS.get (i:=1) rfl
 obtain⟨env,rfl⟩:=he.ex
 clear he
 repeat' first|apply ad|(apply gw;first|refine ai rx_ ?_|(apply gq2;first|refine aC rx_ ?_|refine ak rfl hg_ HU b_ pv_ ?_)|(apply gq6;first|refine bM rx_ ?_|refine aD rfl ?_)|(apply gq4;first|refine aG rx_ ?_|refine aq rfl (Nat.zero_add _) ?_)|(refine gb rfl rfl HT HT ?_;intro id hid;try simp only[aa.set_none]at hid)|(refine ki ?_;intro id hid;try simp only[aa.set_none]at hid))|(apply gx;first|apply af|refine ae rfl ?_|apply au)|apply ac
 rename_i im him
 obtain⟨i6,rfl⟩:∃ x,x=id:=⟨_,rfl⟩
 have hSa:=(hS.new (o := .map none []) him).new (id:=i6) (o := .cells 1 (List.replicate of.length (.int .i64 0))) (by rw[aa.get_set_ne _ _ hid.1];exact hid.2)
 have hz6:=qO of.length
 rw[hz6]
 obtain⟨T,hT⟩:∃ T,T=(kW R n of).map Gv:=⟨_,rfl⟩
 have hTl:T.length=n:=by rw[hT];simp[kW]
 refine cl b.next.l.length (fun i env h'=>Sep h' [jA aa.empty,ck ib (.cells 0 b.av),ck im (.map none (bJ AV.str 0 (bB (T.take i)))),ck i6 (.cells 1 ((fZ (T.take i)).map fu++List.replicate (of.length-i) (AV.int .i64 0)))]∧env.has [(1,.ptr ib 0 0),(3,.rd of.length (of.map (.int .i64)) fl),(4,.int .i64 (qf R n b.tags.l q)),(5,.map im),(6,.own i6 1 1 0 of.length none),(22,b.next.mv Rw.iv),(23,.int .i64 b.next.l.length),(24,.int .i64 i)]) ⟨hSa,hh_⟩ ?_
 clear hSa hS hbx hid him hz6
 rintro i env h' hi ⟨hS,he⟩
 obtain⟨env,rfl⟩:=he.ex
 clear he
 by_cases hi2:i<b.next.l.length
 ·obtain⟨r,hr⟩:=aK (l:=b.next.l) (i:=i) HT
  obtain⟨k,hk⟩:=aK (l:=of) (i:=i) HT
  obtain⟨hrl,hrx⟩:=hrows r (List.mem_of_getElem? hr)
  have hkI:=hofI k (List.mem_of_getElem? hk)
  obtain⟨ws,hws⟩:∃ ws,ws=r.l.map fun to=>if to = -1 then none else some (of.getD to.toNat 0):=⟨_,rfl⟩
  have hwl:ws.length=256:=by rw[hws,List.length_map];exact hrl
  have hti:T[i]?=some (cX k++dC ws):=by
   rw[hT,List.getElem?_map,pG (by omega:i<n)]
   have e1:of.getD i 0=k:=by rw[List.getD_eq_getElem?_getD,hk];rfl
   show some (cX (of.getD i 0)++dC ((R i).map fun to=>if to = -1 then none else some (of.getD to.toNat 0)))=_
   rw[e1,hrow hr,← hws]
  have h9:=pH hkI.1 hkI.2
  unfold I32 at hkI
  repeat' first|apply ad|(apply gw;first|refine ai rx_ ?_|(apply gq2;first|refine aC rx_ ?_|refine aI rfl b_ pv_ ?_)|(apply gq3;first|refine az rx_ ?_|refine aN rx_ ?_|(refine aB rfl rfl rfl ?_ ?_<;>(intro hc;try omega)))|(apply gq5;first|refine aO rx_ ?_|refine aS rx_ ?_|refine ar rfl rfl hr HT rfl ?_|refine ar rfl rfl hk HT rfl ?_)|refine aL rfl nt_ ?_)|(apply gx;first|apply af|refine ae rfl ?_|apply ay|apply au|refine al rfl ?_)|apply ac
  refine bS (jo L3 (aA.nil _ _) HT k HT HT) ?_
  rintro v2 h2 ⟨hv2,hk2,hi2'⟩
  have hSb:=hS.add (cP v2 1 _ _) hv2 (fun k hk=>hk2 k hk (by simp[AV.rowId])) (fun k hk=>(hi2' k hk).resolve_left (by simp[AV.rowId]))
  rw[Nat.zero_add,List.nil_append]at hSb
  have hnt:=hv2.notTup
  clear hv2 hk2 hi2' hS
  repeat' first|apply ad|(apply gw;first|refine ai rx_ ?_|(apply gq6;first|refine bM rx_ ?_|refine aD rfl ?_))|(apply gx;first|apply af|refine ae rfl ?_|apply au)|apply ac
  refine cl r.l.length (fun j env h'=>∃ v,Sep h' [jA aa.empty,ck ib (.cells 0 b.av),ck im (.map none (bJ AV.str 0 (bB (T.take i)))),ck i6 (.cells 1 ((fZ (T.take i)).map fu++List.replicate (of.length-i) (AV.int .i64 0))),cP v 1 (cX k++dC (ws.take j)).length (bd (cX k++dC (ws.take j)))]∧env.has [(1,.ptr ib 0 0),(3,.rd of.length (of.map (.int .i64)) fl),(4,.int .i64 (qf R n b.tags.l q)),(5,.map im),(6,.own i6 1 1 0 of.length none),(7,.int .i64 i),(9,v),(22,b.next.mv Rw.iv),(23,.int .i64 b.next.l.length),(24,.int .i64 i),(34,r.iv),(35,.int .i64 r.l.length),(36,.int .i64 j)]) ⟨v2,by rw[List.take_zero,show dC []=[] from rfl,List.append_nil];exact hSb,hh_⟩ ?_
  clear hSb hnt
  rintro j env h' hj ⟨v,hS,he⟩
  obtain⟨env,rfl⟩:=he.ex
  clear he
  have hv:aA h' v 1 _ _:=hS.get (i:=4) rfl
  have hnt:=hv.notTup
  have hwsI:∀ v,some v∈ws→I32 v:=fun v hv=>by
   rw[hws]at hv
   obtain⟨to,_,hto⟩:=List.mem_map.1 hv
   split at hto
   ·cases hto
   ·injection hto with hto;rw[← hto];exact DS hofI _
  have hwl2:(cX k++dC (ws.take j)).length≤3000:=by
   have h1:=qQ (l:=ws.take j) fun v hv=>hwsI v (List.mem_of_mem_take hv)
   rw[List.length_take]at h1
   rw[List.length_append]
   omega
  by_cases hj2:j<r.l.length
  ·obtain⟨x,hx⟩:=aK hj2
   have hxr:=hrx x (List.mem_of_getElem? hx)
   have hwx:ws[j]?=some (if x = -1 then none else some (of.getD x.toNat 0)):=by rw[hws,List.getElem?_map,hx];rfl
   repeat' first|apply ad|(apply gw;first|refine ai rx_ ?_|(apply gq2;first|refine aC rx_ ?_|refine aI rfl b_ pv_ ?_)|(apply gq3;first|refine az rx_ ?_|refine aN rx_ ?_|(refine aB rfl rfl rfl ?_ ?_<;>(intro hc;try omega)))|(apply gq5;first|refine aO rx_ ?_|refine aS rx_ ?_|refine ar rfl rfl hx HT rfl ?_)|(apply lE;first|refine bX rx_ ?_|refine bW rx_ ?_|(refine br (m:=1) rx_ ir_ rfl rfl HT ?_;intro va hpa hra hka hria))|refine bF (cs:=[AV.int _ _]) rfl rfl ?_)|(apply gx;first|apply af|refine ae rfl ?_|apply ay|apply au|refine al rfl ?_)|apply ac
   have hS1:=hS.upd 4 (cP va 1 _ _) rfl hra hka hria
   have hnt1:=hra.notTup
   refine m9 rfl ?_
   have hsn:dC (ws.take (j+1))=dC (ws.take j)++(32::mE (if x = -1 then none else some (of.getD x.toNat 0))):=by
    rw[aX hwx]
    simp[dC]
   have hsn3:cX k++dC (ws.take (j+1))=(cX k++dC (ws.take j))++(32::mE (if x = -1 then none else some (of.getD x.toNat 0))):=by rw[hsn,List.append_assoc]
   by_cases hx1:x = -1
   ·subst hx1
    rw[if_pos rfl]at hsn3
    clear hra hka hria hv hnt
    have hra:aA hpa va 1 _ _:=hS1.get (i:=4) rfl
    repeat' first|apply ad|(apply gw;first|refine ai rx_ ?_|(apply gq3;first|refine az rx_ ?_|refine a8 rfl rfl rfl HT HT ?_|(refine eM rfl rfl rfl ?_ ?_<;>(intro hc;try omega)))|(apply lE;first|refine bX rx_ ?_|refine bW rx_ ?_|(refine br (m:=1) rx_ ir_ rfl rfl HT ?_;intro va hpa hra hka hria))|refine bF (cs:=[AV.int _ _]) rfl rfl ?_)|(apply gx;first|refine ae rfl ?_|refine ah rfl ?_)|apply ac|apply aJ
    have hS2:=hS1.upd 4 (cP va 1 _ _) rfl hra hka hria
    refine aW hj2 ⟨va,?_,hh_⟩
    rw[hsn3,eJ,List.length_append (bs:=32::_)]
    have e2:bd (32::mE none)=[AV.int .u8 32]++[AV.int .u8 33]:=rfl
    rw[e2,← List.append_assoc]
    exact hS2
   ·have hxn:In n x:=hxr.resolve_left hx1
    obtain⟨y,hy⟩:=aK (l:=of) (i:=x.toNat) (by have:=hxn.1;have:=hxn.2;omega)
    have hyI:=hofI y (List.mem_of_getElem? hy)
    unfold I32 at hyI
    have hx0:=hxn.1
    have hx2:=hxn.2
    rw[if_neg hx1,List.getD_eq_getElem?_getD,hy,Option.getD_some]at hsn3
    repeat' first|apply ad|(apply gw;first|refine ai rx_ ?_|(apply gq2;first|refine aC rx_ ?_|refine aI rfl b_ pv_ ?_)|(apply gq3;first|refine az rx_ ?_|(refine eM rfl rfl rfl ?_ ?_<;>(intro hc;try omega)))|(apply gq5;first|refine aO rx_ ?_|refine aS rx_ ?_|refine ar rfl rfl hy HT rfl ?_)|refine aL rfl nt_ ?_)|(apply gx;first|refine ae rfl ?_|refine al rfl ?_)|apply ac
    refine bS (jo L3 hra HT y HT HT) ?_
    rintro v2 h2 ⟨hv2,hk2,hi2'⟩
    have hS2:=hS1.upd 4 (cP v2 1 _ _) rfl hv2 hk2 hi2'
    have hnt2:=hv2.notTup
    repeat' first|apply ad|(apply gw;first|refine ai rx_ ?_|(apply gq3;first|refine az rx_ ?_|refine a8 rfl rfl rfl HT HT ?_))|refine ae rfl ?_|apply ac|apply aJ
    refine aW hj2 ⟨v2,?_,hh_⟩
    rw[hsn3,eJ,List.length_append (bs:=32::_)]
    have e2:bd (32::mE (some y))=[AV.int .u8 32]++bd (cX y):=rfl
    rw[e2,← List.append_assoc,show(32::mE (some y)).length=1+(cX y).length from Nat.add_comm _ _,← Nat.add_assoc]
    exact hS2
  ·rw[List.take_of_length_le (l:=ws) (i:=j) HT]at hv hS
   have hns:v.isStr=false:=by rcases hv with⟨rfl,_⟩|⟨_,_,rfl,_⟩<;>rfl
   generalize cX k++dC ws=t at hti hv hS
   clear hwsI hwl2 hwl hws hrl hrx h9 hkI
   have hfl:=iB (T.take i)
   have hsnT:T.take (i+1)=T.take i++[t]:=aX hti
   have hnl2:=fm (T.take i)
   rw[List.length_take]at hnl2 hfl
   have hm:h'.get im=_:=hS.get (i:=2) rfl
   have hx6:h'.get i6=_:=hS.get (i:=3) rfl
   repeat' first|apply ad|(apply gw;first|refine ai rx_ ?_|(apply gq3;first|refine az rx_ ?_|refine aN rx_ ?_|(refine aB rfl rfl rfl ?_ ?_<;>(intro hc;try omega))))|(apply gx;first|apply af|refine ae rfl ?_|apply aP|refine ah rfl ?_)|apply ac|apply aQ|apply aR|apply ba
   refine kh rfl hns (fk hv) ?_
   skip
   refine gV (key:=AV.str t) rfl rfl rfl hm ?_
   rw[iK nc]
   by_cases hmem:t∈bB (T.take i)
   ·have hfe:bB (T.take (i+1))=bB (T.take i):=by rw[hsnT,iT,eF,if_pos hmem]
    have hne:fZ (T.take (i+1))=fZ (T.take i)++[cH (bB (T.take i)) t]:=by rw[hsnT,ns,← hsnT,hfe]
    rw[if_pos hmem]
    repeat' first|apply ad|(apply gw;first|refine ai rx_ ?_|(apply gq3;first|refine az rx_ ?_|refine a8 rfl rfl rfl HT HT ?_)|(apply gq5;first|refine aO rx_ ?_|refine aS rx_ ?_|refine bk rfl rfl HT HT ?_)|(apply iA;first|refine bg rx_ ?_|refine bf rx_ ?_|refine aY (v:=AV.int _ _) rfl rfl hg_ rfl rfl b_ sv_ ?_)|refine dm (b:=true) rfl ?_|refine bY rfl rfl ?_)|(apply gx;first|apply af|refine ae rfl ?_|apply ay|refine ah rfl ?_)|apply ac|apply aJ
    refine aW hi2 ⟨?_,hh_⟩
    have hcell:((fZ (T.take i)).map fu++List.replicate (of.length-i) (AV.int .i64 0)).set ((i:Int).toNat*1) (AV.int .i64 (cH (bB (T.take i)) t))=(fZ (T.take (i+1))).map fu++List.replicate (of.length-(i+1)) (AV.int .i64 0):=by
     rw[hne,Int.toNat_natCast,Nat.mul_one,jP (by rw[List.length_map,hnl2];omega) HT]
     simp[fu]
    rw[hcell,hfe]
    exact(hS.put 3 _ rfl).drop 4 rfl (fun _ _=>rfl)
   ·have hfe:bB (T.take (i+1))=bB (T.take i)++[t]:=by rw[hsnT,iT,eF,if_neg hmem]
    have hne:fZ (T.take (i+1))=fZ (T.take i)++[(bB (T.take i)).length]:=by
     rw[hsnT,ns,← hsnT,hfe,oR hmem]
    rw[if_neg hmem]
    repeat' first|apply ad|(apply gw;first|refine ai rx_ ?_|refine bM rx_ ?_|refine dm (b:=false) rfl ?_|refine bY rfl rfl ?_)|(apply gx;first|apply af|refine ae rfl ?_|refine al rfl ?_)|apply ac
    refine kn rfl hm ?_
    rw[fj]
    repeat' first|apply ad|refine ai rx_ ?_|refine ae rfl ?_|apply ac
    refine kh rfl hns (fk hv) ?_
    repeat' first|refine ai rx_ ?_
    refine fQ (key:=AV.str t) (v:=AV.int _ _) rfl rfl rfl rfl rfl hm ?_
    have he2:=jC nc t (bB (T.take i)) 0 hmem
    rw[Nat.zero_add]at he2
    rw[he2,← hfe]
    have hS1:=hS.put 2 (.map none (bJ AV.str 0 (bB (T.take (i+1))))) rfl
    clear hm hx6
    have hm:=hS1.get (i:=2) rfl
    have hx6:=hS1.get (i:=3) rfl
    repeat' first|apply ad|(apply gw;first|refine ai rx_ ?_|(apply gq3;first|refine az rx_ ?_|refine a8 rfl rfl rfl HT HT ?_)|(apply gq5;first|refine aO rx_ ?_|refine aS rx_ ?_|refine bk rfl rfl HT HT ?_)|(apply iA;first|refine bg rx_ ?_|refine bf rx_ ?_|refine aY (v:=AV.int _ _) rfl rfl hg_ rfl rfl b_ sv_ ?_))|refine ae rfl ?_|apply ac|apply aJ
    refine aW hi2 ⟨?_,hh_⟩
    have hcell:((fZ (T.take i)).map fu++List.replicate (of.length-i) (AV.int .i64 0)).set ((i:Int).toNat*1) (AV.int .i64 ((bB (T.take i)).length))=(fZ (T.take (i+1))).map fu++List.replicate (of.length-(i+1)) (AV.int .i64 0):=by
     rw[hne,Int.toNat_natCast,Nat.mul_one,jP (by rw[List.length_map,hnl2];omega) HT]
     simp[fu]
    rw[hcell]
    exact(hS1.put 3 _ rfl).drop 4 rfl (fun _ _=>rfl)
 ·have hii:i=b.next.l.length:=by omega
  rw[List.take_of_length_le (l:=T) (i:=i) HT]at hS
  rw[show of.length-i=0 by omega,List.replicate_zero,List.append_nil]at hS
  have hx6:h'.get i6=_:=hS.get (i:=3) rfl
  have hnl2:=fm T
  have hrow6:aA h' (.own i6 1 1 0 of.length none) 1 of.length ((fZ T).map fu) := .inr ⟨i6,1,rfl,hx6,Nat.le_refl _,by simp[hnl2,hTl,hofl]⟩
  repeat' first|apply ad|(apply gq3;first|refine az rx_ ?_|refine aN rx_ ?_|(refine aB rfl rfl rfl ?_ ?_<;>(intro hc;try omega)))|(apply gx;first|apply af|refine ae rfl ?_|apply aP|refine ah rfl ?_)|apply ac|apply aQ|apply aR|apply ba
  refine jn 6 (v := .own i6 1 1 0 of.length none) rfl rfl hrow6 ?_
  intro h2 hk2
  have hS2:=hS.drop 3 (h':=h2) rfl (fun k hk=>hk2 k (by simpa[AV.rowId] using fun e=>hk e.symm))
  have hm:h2.get im=_:=hS2.get (i:=2) rfl
  have hnum:(fZ T).map fu=(ofY R n b.tags.l (q+1)).map (.int .i64):=by
   show _=((fZ (kW R n (ofY R n b.tags.l q))).map fun k:Nat=>(k:Int)).map _
   rw[hT,Dy xh,hof,List.map_map]
   rfl
  have hcnt:(bB T).length=nF R n of:=by rw[hT,sh xh,List.length_map];rfl
  have hc2:qf R n b.tags.l (q+1)=nF R n of:=by rw[hof];rfl
  have hpos:=Ei (R:=R) hn1 of
  have hle:=zT R n of
  have hln:(ofY R n b.tags.l (q+1)).length=n:=rV R hnn.symm (q+1)
  have hlast:qf R n b.tags.l q≤nF R n of:=by
   cases q with
   | zero=>exact Nat.zero_le _
   | succ q=>rw[hof];exact(um R n _).1
  rw[hnum,show of.length=(ofY R n b.tags.l (q+1)).length by omega]
  repeat' first|apply ad|(apply gw;first|refine ai rx_ ?_|refine bM rx_ ?_)|(apply gx;first|apply af|refine ae rfl ?_)|apply ac
  refine kn rfl hm ?_
  rw[fj,hcnt]
  repeat' first|apply ad|(apply gw;first|refine ai rx_ ?_|(apply gq3;first|refine az rx_ ?_|refine aN rx_ ?_|(refine dD rfl rfl rfl ?_ ?_<;>(intro hc;try omega)))|refine bM rx_ ?_)|(apply gx;first|apply af|refine ae rfl ?_|apply ay|apply aM|apply aP|refine al rfl ?_|refine ah rfl ?_)|apply ac|apply aQ|apply aR|refine sB rfl ?_|apply ba
  ·cases q with
   | zero=>exfalso;simp only[qf]at hc;omega
   | succ q =>
    refine aH rfl ⟨_,rfl,by omega,Dx hn ht _,?_⟩
    have hc3:nF R n (ofY R n b.tags.l q)=nF R n (ofY R n b.tags.l (q+1)):=by
     simp only[qf]at hc
     rw[hof]at hc
     omega
    rw[← hnn,← hR]
    refine iV.congr ?_ (Ck (p:=256) ?_ hc3)
    ·intro s hs
     have hs1:=hs.1
     have hs2:=hs.2
     obtain⟨y,hy⟩:=aK (l:=b.tags.l) (i:=s.toNat) HT
     simp[PD.tag,Bm.plain,hy]
    ·rw[hR,hnn]
     exact hb.tab
  ·refine kn rfl hm ?_
   rw[fj,hcnt]
   repeat' first|apply ad|refine ai rx_ ?_|apply aJ
   refine fo _ ?_ ⟨q+1,_,_,rfl,rfl,hS2.weak ?_,by rw[hc2];exact hh_⟩
   ·omega
   ·exact .cons_cons _ (.cons_cons _ (List.nil_sublist _))
end
end Go.Proofs.YtlnobeojgifojaaGreatDoor
