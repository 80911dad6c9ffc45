/- lower.Sound, lower.Longest. lower.kinds: states told apart, round by round. -/
import Derived.Test.YtlnobeojgifojaaGreatDoorVB
set_option linter.unusedVariables false
set_option linter.unusedSimpArgs false
namespace Go.Proofs.YtlnobeojgifojaaGreatDoor
section
open Go
set_option maxHeartbeats 4000000
attribute [local irreducible] aw bd bm cV bz cu dF bH wop cz a8
structure Bm where
 next:Rw (Rw Int)
 tags:Rw Int
@[reducible] def Bm.av (b:Bm):List AV:=[b.next.mv Rw.iv,b.tags.iv]
def Bm.plain (b:Bm):PD:=⟨[],cH b.next.l,b.tags.l⟩
@[simp] theorem KG (b:Bm):AV.frozenL b.av=true:=by simp[Bm.av,AV.frozenL,AV.frozen]
structure Bm.Fits (b:Bm):Prop where
 next:b.next.l.length≤4294967296
 tags:b.tags.l.length≤4294967296
 rows:∀ r∈b.next.l,r.l.length≤1048576
structure OkS (x:PD):Prop extends OkB x where
 most:x.n≤40000
def Ga (k:Int)(to:Int):Bool:=decide (to < -1)||decide (k≤to)
theorem HV {Φ:Lib}(L:eW Φ){h:ac}{i:Nat}{k:Int}(hg:h.get i=some (.cells 0 [.int .i64 k]))(to:Int):a8 Φ 274 [.int .i64 to,.ptr i 0 0] h (fun v h'=>v = .bool (Ga k to)∧h.Ext h'):=by
 refine aY (fun _=>false) rfl L.f274 ?_
 repeat' first|apply ad|(apply gw;first|(apply gq0;first|refine am rfl ?_|refine bj rfl ?_)|(apply gq1;first|refine cr rfl ?_|refine bP rfl ?_)|refine aq rfl hg_ (by simp) b_ pv_ ?_|(apply gq3;first|(refine aA rfl rfl rfl ?_ ?_<;>(intro hc;try (exfalso;omega)))|(refine eK rfl rfl rfl ?_ ?_<;>(intro hc;try (exfalso;omega))))|(apply gq7;first|refine aZ rfl rfl ?_|refine bc rfl rfl ?_))|(apply gx;first|apply af|refine ae rfl ?_|apply aM)|apply aa
 ·exact aH (v := .bool true) rfl ⟨by simp[Ga, *],ac.Ext.refl h⟩
 ·exact aH (v := .bool true) rfl ⟨by simp[Ga, *],ac.Ext.refl h⟩
 ·exact aH (v := .bool false) rfl ⟨by simp[Ga, *],ac.Ext.refl h⟩
noncomputable def xn (b:Bm):Bool:=Be (OkS b.plain)
theorem mF {b:Bm}(h:¬ OkS b.plain):xn b=false:=Bd h
theorem nQ {b:Bm}(h:OkS b.plain):xn b=true:=Bc h
set_option maxRecDepth 100000 in
theorem rQ {Φ:Lib}(L:eW Φ)(L1:gY Φ)(b:Bm)(hf:b.Fits):eV Φ 263 [.agg b.av] (.bool (xn b)):=by
 have hfn:=hf.next
 have hft:=hf.tags
 have hnl:b.plain.n=b.tags.l.length:=by simp[Bm.plain,PD.n]
 have hxl:b.plain.next.length=b.next.l.length:=by simp[Bm.plain,cH]
 have hrow:∀ {i:Nat} {r:Rw Int},b.next.l[i]?=some r→r.l∈b.plain.next:=fun hr=>List.mem_map.2 ⟨_,List.mem_of_getElem? hr,rfl⟩
 refine aY (fun _=>false) rfl L.f263 ?_
 repeat' first|apply ad|(apply gw;first|refine ar rx_ ?_|(apply gq2;first|refine aP rx_ ?_|refine aq rfl hg_ (by simp) b_ pv_ ?_)|(apply gq3;first|refine aF rx_ ?_|refine ba rx_ ?_|(refine cY rfl rfl rfl ?_ ?_<;>(intro hc;try (exfalso;omega)))|(refine cn rfl rfl rfl ?_ ?_<;>(intro hc;try (exfalso;omega)))|(refine fq rfl rfl rfl ?_ ?_<;>(intro hc;try (exfalso;omega))))|(apply jy;first|refine bq rx_ ?_|refine bp rx_ ?_|refine cE (cs':=[AV.int _ _]) rfl rfl rfl rfl b_ rfl ?_)|(apply gq6;first|refine bT rx_ ?_|refine ay rfl ?_)|(apply gq4;first|refine aV rx_ ?_|refine au rfl (Nat.zero_add _) ?_)|(apply gq1;first|refine cr rfl ?_|refine bP rfl ?_)|(apply gq7;first|refine aZ rfl rfl ?_|refine bc rfl rfl ?_)|(refine cd ?_;intro id hid;try simp only[ac.set_none]at hid)|(refine iT (v:=AV.agg _) rfl rfl ?_;intro id hid;try simp only[ac.set_none]at hid)|refine qq (vs:=[AV.ptr _ _ _]) rfl rfl ?_)|(apply gx;first|apply af|refine ae rfl ?_|apply az|apply al|apply aM|refine ak rfl ?_|refine ah rfl ?_)|apply aa|apply cv
 all_goals first
  | (
   refine aH (v := .bool false) rfl ?_
   rw[mF (fun h=>by have:=h.n1;have:=h.most;have:=h.nl;omega)]
   done)
  | skip
 rename_i ib hib hc1 hc2
 obtain⟨ik,rfl⟩:∃ x,x=id:=⟨_,rfl⟩
 refine bD b.next.l.length (fun i env h'=>(∀ r∈b.next.l.take i,r.l.length=256∧∀ x∈r.l,x = -1∨In b.tags.l.length x)∧(∀ t∈b.tags.l.take i,-1≤t)∧h'.get ib=some (.cells 0 b.av)∧h'.get ik=some (.cells 0 [.int .i64 b.tags.l.length])∧env.has [(1,.ptr ib 0 0),(4,.fn 274 [.ptr ik 0 0]),(25,b.next.mv Rw.iv),(26,.int .i64 b.next.l.length),(27,.int .i64 i)]) ⟨by simp,by simp,by rw[ac.get_set_ne _ _ (Ne.symm hid.1)];exact ac.get_set_self _ _ _,ac.get_set_self _ _ _,hh_⟩ ?_
 clear hid hib
 rintro i env h' hi ⟨hrs,hts,hb1,hb2,he⟩
 obtain⟨env,rfl⟩:=he.ex
 clear he
 by_cases hi2:i<b.next.l.length
 ·obtain⟨r,hr⟩:=aN hi2
  obtain⟨t,ht⟩:=aN (l:=b.tags.l) (show i<b.tags.l.length by omega)
  have hrl:=hf.rows r (List.mem_of_getElem? hr)
  have hrm:=hrow hr
  have htm:t∈b.plain.tags:=List.mem_of_getElem? ht
  repeat' first|apply ad|(apply gw;first|refine ar rx_ ?_|(apply gq2;first|refine aP rx_ ?_|refine aB rfl b_ pv_ ?_|refine aq rfl hg_ (by simp) b_ pv_ ?_)|(apply gq3;first|refine aF rx_ ?_|refine ba rx_ ?_|(refine aA rfl rfl rfl ?_ ?_<;>(intro hc;try (exfalso;omega)))|(refine fq rfl rfl rfl ?_ ?_<;>(intro hc;try (exfalso;omega))))|(apply gq5;first|refine bb rx_ ?_|refine bf rx_ ?_|refine ai rfl rfl hr (by omega) rfl ?_|refine ai rfl rfl ht (by omega) rfl ?_)|(apply gq6;first|refine bT rx_ ?_|refine ay rfl ?_)|(apply gq4;first|refine aV rx_ ?_|refine au rfl (Nat.zero_add _) ?_)|(apply gq1;first|refine cr rfl ?_|refine bP rfl ?_)|(apply gq7;first|refine aZ rfl rfl ?_|refine bc rfl rfl ?_)|refine aI rfl nt_ ?_)|(apply gx;first|apply af|refine ae rfl ?_|apply az|apply al|apply aM|refine ak rfl ?_)|apply aa|apply cv|apply fM|apply kX
  all_goals first
   | (
    refine aH (v := .bool false) rfl ?_
    rw[mF (fun h=>by have h1:=(h.rows _ hrm).1;have h2:=h.tags _ htm;omega)]
    done)
   | skip
  refine ce (mW L1 r.l r.fl 274 [.ptr ik 0 0] _ h' (by omega) fun x _=>HV L hb2 x) ?_
  rintro _ h2 ⟨rfl,rfl⟩
  cases ho:(r.l.any (Ga (b.tags.l.length:Int)))
  ·repeat' first|apply ad|(apply gw;first|refine ar rx_ ?_|(apply gq3;first|refine aF rx_ ?_|refine aQ rfl rfl rfl (by omega) (by omega) ?_)|refine bc rfl rfl ?_)|(apply gx;first|refine ae rfl ?_|apply az|refine ah rfl ?_)|apply aa|apply aD
   refine aO hi2 ⟨fun q hq=>?_,fun q hq=>?_,hb1,hb2,hh_⟩
   ·rw[aS hr]at hq
    rcases List.mem_append.1 hq with hq|hq
    ·exact hrs q hq
    ·simp at hq;subst hq
     exact⟨by omega,sV.1 ho⟩
   ·rw[aS ht]at hq
    rcases List.mem_append.1 hq with hq|hq
    ·exact hts q hq
    ·simp at hq;subst hq
     omega
  ·repeat' first|apply ad|(apply gw;first|refine ar rx_ ?_|refine bc rfl rfl ?_)|(apply gx;first|apply af|refine ae rfl ?_|apply aM|refine ak rfl ?_)|apply aa|apply cv|apply fM|apply kX
   refine aH (v := .bool false) rfl ?_
   rw[mF]
   intro h
   have h1:=sV.2 (h.rows _ hrm).2
   have ho2:(r.l.any fun to=>decide (to < -1)||decide (((b.tags.l.length:Nat):Int)≤to))=true:=ho
   rw[hnl,ho2]at h1
   cases h1
 ·rw[List.take_of_length_le (by omega)]at hrs
  rw[List.take_of_length_le (by omega)]at hts
  repeat' first|apply ad|(apply gw;first|refine ar rx_ ?_|(apply gq3;first|refine aF rx_ ?_|refine ba rx_ ?_|(refine aA rfl rfl rfl ?_ ?_<;>(intro hc;try (exfalso;omega)))))|(apply gx;first|apply af|refine ae rfl ?_|apply aM|apply aJ|refine ah rfl ?_)|apply aa|apply aK|apply aL|apply aR
  refine aH (v := .bool true) rfl ?_
  rw[nQ]
  refine⟨⟨by omega,by omega,fun r hr=>?_,hts⟩,by omega⟩
  obtain⟨q,hq,rfl⟩:=List.mem_map.1 hr
  rw[hnl]
  exact hrs q hq
noncomputable def zq (b:Bm)(s:List Int):Int×Int:=if xn b=true then sd b.plain 0 s 0 (0,-1) else(0,-1)
set_option maxRecDepth 100000 in
theorem Hf {Φ:Lib}(L:eW Φ)(L1:gY Φ)(b:Bm)(hf:b.Fits)(s:List Int)(fl:Bool)(hsl:s.length≤1048576)(hsb:∀ c∈s,0≤c∧c≤255):eV Φ 262 [.agg b.av,jZ s fl] (.tup [.int .i64 (zq b s).1,.int .i64 (zq b s).2]):=by
 have hsd:=rQ L L1 b hf
 have hfn:=hf.next
 have hft:=hf.tags
 have hnl:b.plain.n=b.tags.l.length:=by simp[Bm.plain,PD.n]
 have hxl:b.plain.next.length=b.next.l.length:=by simp[Bm.plain,cH]
 refine aY (fun _=>false) rfl L.f262 ?_
 apply af
 refine ae rfl ?_
 refine iT (v := .agg b.av) rfl rfl ?_
 intro ib hib
 have hbox:(ac.empty.set ib (.cells 0 (AV.agg b.av).cells)).get ib=some (.cells 0 b.av):=ac.get_set_self _ _ _
 generalize ac.empty.set ib (.cells 0 (AV.agg b.av).cells)=h0 at hbox
 by_cases hok:OkS b.plain
 ·rw[nQ hok]at hsd
  rw[zq,if_pos (nQ hok)]
  have hnl2:=hok.nl
  generalize hz:sd b.plain 0 s 0 (0,-1)=z
  repeat' first|apply ad|(apply gw;first|refine ar rx_ ?_|(apply gq2;first|refine aP rx_ ?_|refine aq rfl hg_ (by simp) b_ pv_ ?_)|(apply gq6;first|refine bT rx_ ?_|refine ay rfl ?_)|refine aI rfl nt_ ?_|refine dq (b:=true) rfl ?_)|(apply gx;first|apply af|refine ae rfl ?_|apply az|apply al|refine ah rfl ?_)|apply aa|refine aX (by assumption) fz_ fz_ ?_
  refine bD s.length (fun i env h'=>∃ (a:Nat) (lo tg:Int),a<b.tags.l.length∧sd b.plain a (s.drop i) i (lo,tg)=z∧h'.get ib=some (.cells 0 b.av)∧env.has [(2,.ptr ib 0 0),(6,.int .i64 lo),(7,.int .i64 tg),(8,.int .i64 a),(16,jZ s fl),(17,.int .i64 s.length),(18,.int .i64 i)]) ⟨0,0,-1,by have:=hok.n1;omega,hz,hbox,hh_⟩ ?_
  clear hbox hz
  rintro i env h' hi ⟨a,lo,tg,han,hlong,hb1,he⟩
  obtain⟨env,rfl⟩:=he.ex
  clear he
  by_cases hi2:i<s.length
  ·obtain⟨c,hc⟩:=aN hi2
   have hcb:=hsb c (List.mem_of_getElem? hc)
   obtain⟨r,hr⟩:=aN (l:=b.next.l) (i:=a) (by omega)
   have hrow:b.plain.row a=r.l:=by simp[PD.row,Bm.plain,cH,List.getD_eq_getElem?_getD,hr]
   have hrm:r.l∈b.plain.next:=List.mem_map.2 ⟨r,List.mem_of_getElem? hr,rfl⟩
   obtain⟨hrl,hrt⟩:=hok.rows _ hrm
   obtain⟨x,hx⟩:=aN (l:=r.l) (i:=c.toNat) (by omega)
   have hxr:=hrt x (List.mem_of_getElem? hx)
   have hcol:col b.plain.row a c.toNat=x:=by rw[col,hrow,List.getD_eq_getElem?_getD,hx];rfl
   rw[List.drop_eq_getElem_cons hi2,(List.getElem?_eq_some_iff.1 hc).2]at hlong
   unfold sd at hlong
   rw[hcol]at hlong
   rcases hxr with rfl|hin
   ·rw[if_pos rfl]at hlong
    repeat' first|apply ad|(apply gw;first|refine ar rx_ ?_|(apply gq2;first|refine aP rx_ ?_|refine aB rfl b_ pv_ ?_|refine aq rfl hg_ (by simp) b_ pv_ ?_)|(apply gq3;first|refine aF rx_ ?_|refine ba rx_ ?_|(refine aA rfl rfl rfl ?_ ?_<;>(intro hc;try (exfalso;omega)))|(refine cn rfl rfl rfl ?_ ?_<;>(intro hc;try (exfalso;omega))))|(apply gq5;first|refine bb rx_ ?_|refine bf rx_ ?_|refine ai rfl rfl hr (by omega) rfl ?_|refine ai rfl rfl hx (by omega) rfl ?_|refine f7 rfl rfl rfl (by assumption) rfl ?_)|(apply gq4;first|refine aV rx_ ?_|refine au rfl (Nat.zero_add _) ?_))|(apply gx;first|apply af|refine ae rfl ?_|apply az|apply al|apply aM|apply aJ|refine ak rfl ?_)|apply aa|apply aK|apply aL|refine uF rfl ?_|apply aR
    refine aH (v := .tup [.int .i64 lo,.int .i64 tg]) rfl ?_
    rw[← hlong]
   ·obtain⟨x,rfl⟩:∃ n:Nat,x=n:=⟨x.toNat,by have:=hin.1;omega⟩
    have hx0:=hin.1
    have hx1:=hin.2
    rw[hnl]at hx1
    rw[if_neg (by omega)]at hlong
    obtain⟨t,ht⟩:=aN (l:=b.tags.l) (i:=x) (by omega)
    have htag:b.plain.tag x=t:=by simp[PD.tag,Bm.plain,List.getD_eq_getElem?_getD,ht]
    rw[htag]at hlong
    repeat' first|apply ad|(apply gw;first|refine ar rx_ ?_|(apply gq2;first|refine aP rx_ ?_|refine aB rfl b_ pv_ ?_|refine aq rfl hg_ (by simp) b_ pv_ ?_)|(apply gq3;first|refine aF rx_ ?_|refine ba rx_ ?_|refine aQ rfl rfl rfl (by omega) (by omega) ?_|(refine aA rfl rfl rfl ?_ ?_<;>(intro hc;try (exfalso;omega)))|(refine eK rfl rfl rfl ?_ ?_<;>(intro hc;try (exfalso;omega)))|(refine cn rfl rfl rfl ?_ ?_<;>(intro hc;try (exfalso;omega))))|(apply gq5;first|refine bb rx_ ?_|refine bf rx_ ?_|refine ai rfl rfl hr (by omega) rfl ?_|refine ai rfl rfl hx (by omega) rfl ?_|refine ai rfl rfl ht (by omega) rfl ?_|refine f7 rfl rfl rfl (by assumption) rfl ?_)|(apply gq4;first|refine aV rx_ ?_|refine au rfl (Nat.zero_add _) ?_))|(apply gx;first|apply af|refine ae rfl ?_|apply az|apply al|refine ak rfl ?_|refine ah rfl ?_)|apply aa|apply aD
    ·rw[if_pos (by omega)]at hlong
     refine aO hi2 ⟨x,_,t,by omega,hlong,hb1,?_⟩
     exact hh_
    ·rw[if_neg (by omega)]at hlong
     exact aO hi2 ⟨x,lo,tg,by omega,hlong,hb1,hh_⟩
  ·rw[List.drop_eq_nil_of_le (by omega)]at hlong
   unfold sd at hlong
   repeat' first|apply ad|(apply gw;first|refine ar rx_ ?_|(apply gq3;first|refine aF rx_ ?_|refine ba rx_ ?_|(refine aA rfl rfl rfl ?_ ?_<;>(intro hc;try (exfalso;omega)))))|(apply gx;first|apply af|refine ae rfl ?_|apply aM|apply aJ|refine ah rfl ?_)|apply aa|apply aK|apply aL|apply aR
   refine aH (v := .tup [.int .i64 lo,.int .i64 tg]) rfl ?_
   rw[← hlong]
 ·rw[mF hok]at hsd
  rw[zq,if_neg (by rw[mF hok];simp)]
  repeat' first|apply ad|(apply gw;first|refine ar rx_ ?_|(apply gq2;first|refine aP rx_ ?_|refine aq rfl hg_ (by simp) b_ pv_ ?_)|refine aI rfl nt_ ?_|refine dq (b:=false) rfl ?_)|(apply gx;first|apply af|refine ae rfl ?_|apply aM|refine ak rfl ?_)|apply aa|apply cv|refine aX (by assumption) fz_ fz_ ?_
  exact aH (v := .tup [.int .i64 0,.int .i64 (-1)]) rfl rfl
end
section
open Go
set_option maxHeartbeats 4000000
def nZ:Option Int→List UInt8
 | none=>[33]
 | some v=>dM v
def eh (l:List (Option Int)):List UInt8:=l.flatMap fun o=>32::nZ o
def Jl (k:Int×List (Option Int)):List UInt8:=dM k.1++eh k.2
theorem qQ {x:Int}:∀ c∈dM x,c≠32∧c≠33:=by
 have hd:∀ u,u<36→jJ u≠32∧jJ u≠33:=by decide
 have hn:∀ u,∀ c∈iU u,c≠32∧c≠33:=fun u=>by
  induction u using Nat.strongRecOn with
  | ind u ih =>
   by_cases h:u<36
   ·rw[jD h]
    intro c hc
    obtain rfl:=List.mem_singleton.1 hc
    exact hd u h
   ·rw[j0 h]
    intro c hc
    rcases List.mem_append.1 hc with hc|hc
    ·exact ih (u / 36) (by omega) c hc
    ·obtain rfl:=List.mem_singleton.1 hc
     exact hd _ (Nat.mod_lt _ (by omega))
 intro c hc
 unfold dM at hc
 split at hc
 ·rcases List.mem_cons.1 hc with rfl|hc
  ·decide
  ·exact hn _ c hc
 ·exact hn _ c hc
theorem BP (o:Option Int):∀ c∈nZ o,c≠32:=by
 cases o with
 | none=>intro c hc;simp[nZ]at hc;subst hc;decide
 | some v=>exact fun c hc=>(qQ c hc).1
theorem Gb {o p:Option Int}(h:nZ o=nZ p):o=p:=by
 cases o with
 | none=>cases p with
  | none=>rfl
  | some w =>
   have h:[33]=dM w:=h
   exact absurd rfl ((qQ (x:=w) 33 (by rw[← h];simp)).2)
 | some v=>cases p with
  | none =>
   have h:dM v=[33]:=h
   exact absurd rfl ((qQ (x:=v) 33 (by rw[h];simp)).2)
  | some w=>rw[og h]
theorem pE:∀ {a b:List UInt8} {l m:List (Option Int)},(∀ c∈a,c≠32)→(∀ c∈b,c≠32)→a++eh l=b++eh m→a=b∧eh l=eh m
 | [],[],_,_,_,_,e=>⟨rfl,e⟩
 | [],c::b,l,m,_,hb,e=>by
  cases l with
  | nil=>cases e
  | cons o l =>
   have e:(32:UInt8)::(nZ o++eh l)=c::(b++eh m):=e
   injection e with e1 _
   exact absurd e1.symm (hb c (by simp))
 | c::a,[],l,m,ha,_,e=>by
  cases m with
  | nil=>cases e
  | cons o m =>
   have e:c::(a++eh l)=(32:UInt8)::(nZ o++eh m):=e
   injection e with e1 _
   exact absurd e1 (ha c (by simp))
 | c::a,d::b,l,m,ha,hb,e=>by
  injection e with e1 e2
  obtain⟨h1,h2⟩:=pE (fun x hx=>ha x (by simp[hx])) (fun x hx=>hb x (by simp[hx])) e2
  exact⟨by rw[e1,h1],h2⟩
theorem sZ:∀ {l m:List (Option Int)},eh l=eh m→l=m
 | [],[],_=>rfl
 | [],_::_,e=>by cases e
 | _::_,[],e=>by cases e
 | o::l,p::m,e=>by
  have e:(32:UInt8)::(nZ o++eh l)=32::(nZ p++eh m):=e
  injection e with _ e
  obtain⟨h1,h2⟩:=pE (BP o) (BP p) e
  rw[Gb h1,sZ h2]
theorem zv (a b:Int×List (Option Int))(h:Jl a=Jl b):a=b:=by
 obtain⟨h1,h2⟩:=pE (fun c hc=>(qQ c hc).1) (fun c hc=>(qQ c hc).1) h
 exact Prod.ext (og h1) (sZ h2)
def I32 (x:Int):Prop := -2147483648≤x∧x≤2147483647
theorem sY:∀ {l:List (Option Int)},(∀ v,some v∈l→I32 v)→(eh l).length≤10*l.length
 | [],_=>by simp[eh]
 | o::l,h=>by
  have ih:=sY (l:=l) fun v hv=>h v (by simp[hv])
  have e:eh (o::l)=32::(nZ o++eh l):=rfl
  rw[e,List.length_cons,List.length_append,List.length_cons]
  cases o with
  | none=>simp[nZ];omega
  | some v =>
   have:=h v (by simp)
   have:=rE this.1 this.2
   simp only[nZ]
   omega
theorem jT.congr {n:Nat}{R:Int→List Int}{T T' κ:Int→Int}(hT:∀ s,In n s→T s=T' s)(h:jT n R T κ):jT n R T' κ :=
 ⟨h.no,h.yes,fun s t hs ht e=>by rw[← hT s hs,← hT t ht];exact h.tag s t hs ht e,h.step,fun B hB s t hs ht e=>h.least B (fun s t hs ht e=>⟨by rw[hT s hs,hT t ht];exact(hB s t hs ht e).1,(hB s t hs ht e).2⟩) s t hs ht e⟩
theorem t6 (R:Int→List Int){n:Nat}{T:List Int}(hT:T.length=n):∀ q,(ofY R n T q).length=n
 | 0=>hT
 | q+1=>xG R n _
theorem Gg {R:Int→List Int}{n:Nat}(hn:n≤268435456){T:List Int}(hT:∀ x∈T,I32 x):∀ q,∀ x∈ofY R n T q,I32 x
 | 0=>hT
 | q+1=>fun x hx=>by
  obtain⟨k,hk,rfl⟩:=List.mem_map.1 hx
  have h1:=BU hk
  have h2:=Cb R n (ofY R n T q)
  unfold pa at h2
  unfold I32
  omega
def se (R:Int→List Int)(n:Nat)(T:List Int):Nat→Nat
 | 0=>0
 | q+1=>pa R n (ofY R n T q)
theorem GH {of:List Int}(h:∀ x∈of,I32 x)(i:Nat):I32 (of.getD i 0):=by
 rcases lT (l:=of) (i:=i) (d:=0) with e|e
 ·rw[e];unfold I32;omega
 ·exact h _ e
theorem qh (n:Nat):(List.replicate ((n:Nat):Int).toNat [AV.int .i64 0]).flatten=List.replicate n (AV.int .i64 0):=by
 rw[Int.toNat_natCast]
 induction n with
 | zero=>rfl
 | succ n ih=>rw[List.replicate_succ,List.flatten_cons,ih];rfl
theorem OkB.tab {x:PD}(h:OkB x):Tab x.n 256 x.row where
 len s hs:=by
  obtain⟨r,hr⟩:=aN (l:=x.next) (i:=s.toNat) (by have:=hs.1;have:=hs.2;have:=h.nl;omega)
  simp[PD.row,hr,(h.rows r (List.mem_of_getElem? hr)).1]
 to s hs y hy:=by
  obtain⟨r,hr⟩:=aN (l:=x.next) (i:=s.toNat) (by have:=hs.1;have:=hs.2;have:=h.nl;omega)
  simp[PD.row,hr]at hy
  exact(h.rows r (List.mem_of_getElem? hr)).2 y hy
attribute [local irreducible] aw bd bm cV bz cu dF bH wop cz a8
set_option maxRecDepth 100000 in
theorem ET {Φ:Lib}(L:eW Φ)(L3:cO Φ)(b:Bm)(hb:OkB b.plain)(hn:b.tags.l.length≤268435456)(ht:∀ t∈b.tags.l,I32 t) :
  a8 Φ 280 [.agg b.av] ac.empty (fun v _=>∃ of:List Int,v = .rd of.length (of.map (.int .i64)) false∧of.length=b.tags.l.length∧(∀ x∈of,I32 x)∧jT b.tags.l.length b.plain.row b.plain.tag (ud of)):=by
 have hcl:=wN L3 b.tags (by omega)
 have hnl:b.next.l.length=b.tags.l.length:=by have:=hb.nl;simpa[Bm.plain,cH,PD.n] using this
 have hn1:1≤b.tags.l.length:=hb.n1
 have hrow:∀ {i:Nat} {r:Rw Int},b.next.l[i]?=some r→b.plain.row i=r.l:=fun {i r} hr=>by simp[PD.row,Bm.plain,cH,List.getD_eq_getElem?_getD,hr]
 have hrows:∀ r∈b.next.l,r.l.length=256∧∀ y∈r.l,y = -1∨In b.tags.l.length y:=fun r hr=>hb.rows r.l (List.mem_map.2 ⟨r,hr,rfl⟩)
 obtain⟨n,hnn⟩:∃ n,n=b.tags.l.length:=⟨_,rfl⟩
 obtain⟨R,hR⟩:∃ R,R=b.plain.row:=⟨_,rfl⟩
 rw[← hnn]at hnl hn1 hn hrows hcl
 rw[← hR]at hrow
 refine aY (fun o=>o == some 75||o == some 43) rfl L.f280 ?_
 apply af
 refine ae rfl ?_
 refine iT (v := .agg b.av) rfl rfl ?_
 intro ib hib
 have hbox:(ac.empty.set ib (.cells 0 (AV.agg b.av).cells)).get ib=some (.cells 0 b.av):=ac.get_set_self _ _ _
 have hS0:Sep (ac.empty.set ib (.cells 0 (AV.agg b.av).cells)) [jA ac.empty,bX ib (.cells 0 b.av)]:=(Sep.old ac.empty).new (o := .cells 0 b.av) hib
 generalize ac.empty.set ib (.cells 0 (AV.agg b.av).cells)=h0 at hbox hS0
 repeat' first|apply ad|(apply gw;first|refine ar rx_ ?_|(apply gq2;first|refine aP rx_ ?_|refine aq rfl hg_ (by simp) b_ pv_ ?_)|(apply gq4;first|refine aV rx_ ?_|refine au rfl (Nat.zero_add _) ?_)|refine aI rfl nt_ ?_)|(apply gx;first|apply af|refine ae rfl ?_|apply az|apply al)|apply aa|refine aX (by assumption) fz_ fz_ ?_
 refine hZ (fun m env h'=>∃ (q:Nat) (of:List Int) (fl:Bool),of=ofY R n b.tags.l q∧m=n-se R n b.tags.l q∧Sep h' [jA ac.empty,bX ib (.cells 0 b.av)]∧env.has [(1,.ptr ib 0 0),(3,.rd of.length (of.map (.int .i64)) fl),(4,.int .i64 (se R n b.tags.l q))]) n ⟨0,b.tags.l,false,rfl,rfl,hS0,by rw[← hnn];exact hh_⟩ ?_
 clear hS0 hbox hib
 rintro m env h' ⟨q,of,fl,hof,rfl,hS,he⟩
 have hofl:of.length=n:=by rw[hof];exact t6 R hnn.symm q
 have hofI:∀ x∈of,I32 x:=by rw[hof];exact Gg hn ht q
 have hbx:h'.get ib=some (.cells 0 b.av):=hS.get (i:=1) rfl
 obtain⟨env,rfl⟩:=he.ex
 clear he
 repeat' first|apply ad|(apply gw;first|refine ar rx_ ?_|(apply gq2;first|refine aP rx_ ?_|refine aq rfl hg_ (by simp) b_ pv_ ?_)|(apply gq6;first|refine bT rx_ ?_|refine ay rfl ?_)|(apply gq4;first|refine aV rx_ ?_|refine au rfl (Nat.zero_add _) ?_)|(refine gg rfl rfl (by omega) (by omega) ?_;intro id hid;try simp only[ac.set_none]at hid)|(refine lG ?_;intro id hid;try simp only[ac.set_none]at hid))|(apply gx;first|apply af|refine ae rfl ?_|apply al)|apply aa
 rename_i im him
 obtain⟨i6,rfl⟩:∃ x,x=id:=⟨_,rfl⟩
 have hSa:=(hS.new (o := .map none []) him).new (id:=i6) (o := .cells 1 (List.replicate of.length (.int .i64 0))) (by rw[ac.get_set_ne _ _ hid.1];exact hid.2)
 have hz6:=qh of.length
 rw[hz6]
 obtain⟨T,hT⟩:∃ T,T=(mg R n of).map Jl:=⟨_,rfl⟩
 have hTl:T.length=n:=by rw[hT];simp[mg]
 refine bD b.next.l.length (fun i env h'=>Sep h' [jA ac.empty,bX ib (.cells 0 b.av),bX im (.map none (bR AV.str 0 (bN (T.take i)))),bX i6 (.cells 1 ((gV (T.take i)).map gh++List.replicate (of.length-i) (AV.int .i64 0)))]∧env.has [(1,.ptr ib 0 0),(3,.rd of.length (of.map (.int .i64)) fl),(4,.int .i64 (se R n b.tags.l q)),(5,.map im),(6,.own i6 1 1 0 of.length none),(22,b.next.mv Rw.iv),(23,.int .i64 b.next.l.length),(24,.int .i64 i)]) ⟨hSa,hh_⟩ ?_
 clear hSa hS hbx hid him hz6
 rintro i env h' hi ⟨hS,he⟩
 obtain⟨env,rfl⟩:=he.ex
 clear he
 by_cases hi2:i<b.next.l.length
 ·obtain⟨r,hr⟩:=aN (l:=b.next.l) (i:=i) (by omega)
  obtain⟨k,hk⟩:=aN (l:=of) (i:=i) (by omega)
  obtain⟨hrl,hrx⟩:=hrows r (List.mem_of_getElem? hr)
  have hkI:=hofI k (List.mem_of_getElem? hk)
  obtain⟨ws,hws⟩:∃ ws,ws=r.l.map fun to=>if to = -1 then none else some (of.getD to.toNat 0):=⟨_,rfl⟩
  have hwl:ws.length=256:=by rw[hws,List.length_map];exact hrl
  have hti:T[i]?=some (dM k++eh ws):=by
   rw[hT,List.getElem?_map,rC (by omega:i<n)]
   have e1:of.getD i 0=k:=by rw[List.getD_eq_getElem?_getD,hk];rfl
   show some (dM (of.getD i 0)++eh ((R i).map fun to=>if to = -1 then none else some (of.getD to.toNat 0)))=_
   rw[e1,hrow hr,← hws]
  have h9:=rE hkI.1 hkI.2
  unfold I32 at hkI
  repeat' first|apply ad|(apply gw;first|refine ar rx_ ?_|(apply gq2;first|refine aP rx_ ?_|refine aB rfl b_ pv_ ?_)|(apply gq3;first|refine aF rx_ ?_|refine ba rx_ ?_|(refine aA rfl rfl rfl ?_ ?_<;>(intro hc;try (exfalso;omega))))|(apply gq5;first|refine bb rx_ ?_|refine bf rx_ ?_|refine ai rfl rfl hr (by omega) rfl ?_|refine ai rfl rfl hk (by omega) rfl ?_)|refine aI rfl nt_ ?_)|(apply gx;first|apply af|refine ae rfl ?_|apply az|apply al|refine ak rfl ?_)|apply aa
  refine ce (kn L3 (aC.nil _ _) (by omega) k (by omega) (by omega)) ?_
  rintro v2 h2 ⟨hv2,hk2,hi2'⟩
  have hSb:=hS.add (cB v2 1 _ _) hv2 (fun k hk=>hk2 k hk (by simp[AV.rowId])) (fun k hk=>(hi2' k hk).resolve_left (by simp[AV.rowId]))
  rw[Nat.zero_add,List.nil_append]at hSb
  have hnt:=hv2.notTup
  clear hv2 hk2 hi2' hS
  repeat' first|apply ad|(apply gw;first|refine ar rx_ ?_|(apply gq6;first|refine bT rx_ ?_|refine ay rfl ?_))|(apply gx;first|apply af|refine ae rfl ?_|apply al)|apply aa
  refine bD r.l.length (fun j env h'=>∃ v,Sep h' [jA ac.empty,bX ib (.cells 0 b.av),bX im (.map none (bR AV.str 0 (bN (T.take i)))),bX i6 (.cells 1 ((gV (T.take i)).map gh++List.replicate (of.length-i) (AV.int .i64 0))),cB v 1 (dM k++eh (ws.take j)).length (bl (dM k++eh (ws.take j)))]∧env.has [(1,.ptr ib 0 0),(3,.rd of.length (of.map (.int .i64)) fl),(4,.int .i64 (se R n b.tags.l q)),(5,.map im),(6,.own i6 1 1 0 of.length none),(7,.int .i64 i),(9,v),(22,b.next.mv Rw.iv),(23,.int .i64 b.next.l.length),(24,.int .i64 i),(34,r.iv),(35,.int .i64 r.l.length),(36,.int .i64 j)]) ⟨v2,by rw[List.take_zero,show eh []=[] from rfl,List.append_nil];exact hSb,hh_⟩ ?_
  clear hSb hnt
  rintro j env h' hj ⟨v,hS,he⟩
  obtain⟨env,rfl⟩:=he.ex
  clear he
  have hv:aC h' v 1 _ _:=hS.get (i:=4) rfl
  have hnt:=hv.notTup
  have hwsI:∀ v,some v∈ws→I32 v:=fun v hv=>by
   rw[hws]at hv
   obtain⟨to,_,hto⟩:=List.mem_map.1 hv
   split at hto
   ·cases hto
   ·injection hto with hto;rw[← hto];exact GH hofI _
  have hwl2:(dM k++eh (ws.take j)).length≤3000:=by
   have h1:=sY (l:=ws.take j) fun v hv=>hwsI v (List.mem_of_mem_take hv)
   rw[List.length_take]at h1
   rw[List.length_append]
   omega
  by_cases hj2:j<r.l.length
  ·obtain⟨x,hx⟩:=aN hj2
   have hxr:=hrx x (List.mem_of_getElem? hx)
   have hwx:ws[j]?=some (if x = -1 then none else some (of.getD x.toNat 0)):=by rw[hws,List.getElem?_map,hx];rfl
   repeat' first|apply ad|(apply gw;first|refine ar rx_ ?_|(apply gq2;first|refine aP rx_ ?_|refine aB rfl b_ pv_ ?_)|(apply gq3;first|refine aF rx_ ?_|refine ba rx_ ?_|(refine aA rfl rfl rfl ?_ ?_<;>(intro hc;try (exfalso;omega))))|(apply gq5;first|refine bb rx_ ?_|refine bf rx_ ?_|refine ai rfl rfl hx (by omega) rfl ?_)|(apply kZ;first|refine cm rx_ ?_|refine ck rx_ ?_|(refine aW (m:=1) rx_ ir_ rfl rfl (by omega) ?_;intro va hpa hra hka hria))|refine bk (cs:=[AV.int _ _]) rfl rfl ?_)|(apply gx;first|apply af|refine ae rfl ?_|apply az|apply al|refine ak rfl ?_)|apply aa
   have hS1:=hS.upd 4 (cB va 1 _ _) rfl hra hka hria
   have hnt1:=hra.notTup
   refine jC rfl ?_
   have hsn:eh (ws.take (j+1))=eh (ws.take j)++(32::nZ (if x = -1 then none else some (of.getD x.toNat 0))):=by
    rw[aS hwx]
    simp[eh]
   have hsn3:dM k++eh (ws.take (j+1))=(dM k++eh (ws.take j))++(32::nZ (if x = -1 then none else some (of.getD x.toNat 0))):=by rw[hsn,List.append_assoc]
   by_cases hx1:x = -1
   ·subst hx1
    rw[if_pos rfl]at hsn3
    clear hra hka hria hv hnt
    have hra:aC hpa va 1 _ _:=hS1.get (i:=4) rfl
    repeat' first|apply ad|(apply gw;first|refine ar rx_ ?_|(apply gq3;first|refine aF rx_ ?_|refine aQ rfl rfl rfl (by omega) (by omega) ?_|(refine fq rfl rfl rfl ?_ ?_<;>(intro hc;try (exfalso;omega))))|(apply kZ;first|refine cm rx_ ?_|refine ck rx_ ?_|(refine aW (m:=1) rx_ ir_ rfl rfl (by omega) ?_;intro va hpa hra hka hria))|refine bk (cs:=[AV.int _ _]) rfl rfl ?_)|(apply gx;first|refine ae rfl ?_|refine ah rfl ?_)|apply aa|apply aD
    have hS2:=hS1.upd 4 (cB va 1 _ _) rfl hra hka hria
    refine aO hj2 ⟨va,?_,hh_⟩
    rw[hsn3,fD,List.length_append (bs:=32::_)]
    have e2:bl (32::nZ none)=[AV.int .u8 32]++[AV.int .u8 33]:=rfl
    rw[e2,← List.append_assoc]
    exact hS2
   ·have hxn:In n x:=hxr.resolve_left hx1
    obtain⟨y,hy⟩:=aN (l:=of) (i:=x.toNat) (by have:=hxn.1;have:=hxn.2;omega)
    have hyI:=hofI y (List.mem_of_getElem? hy)
    unfold I32 at hyI
    have hx0:=hxn.1
    have hx2:=hxn.2
    rw[if_neg hx1,List.getD_eq_getElem?_getD,hy,Option.getD_some]at hsn3
    repeat' first|apply ad|(apply gw;first|refine ar rx_ ?_|(apply gq2;first|refine aP rx_ ?_|refine aB rfl b_ pv_ ?_)|(apply gq3;first|refine aF rx_ ?_|(refine fq rfl rfl rfl ?_ ?_<;>(intro hc;try (exfalso;omega))))|(apply gq5;first|refine bb rx_ ?_|refine bf rx_ ?_|refine ai rfl rfl hy (by omega) rfl ?_)|refine aI rfl nt_ ?_)|(apply gx;first|refine ae rfl ?_|refine ak rfl ?_)|apply aa
    refine ce (kn L3 hra (by omega) y (by omega) (by omega)) ?_
    rintro v2 h2 ⟨hv2,hk2,hi2'⟩
    have hS2:=hS1.upd 4 (cB v2 1 _ _) rfl hv2 hk2 hi2'
    have hnt2:=hv2.notTup
    repeat' first|apply ad|(apply gw;first|refine ar rx_ ?_|(apply gq3;first|refine aF rx_ ?_|refine aQ rfl rfl rfl (by omega) (by omega) ?_))|refine ae rfl ?_|apply aa|apply aD
    refine aO hj2 ⟨v2,?_,hh_⟩
    rw[hsn3,fD,List.length_append (bs:=32::_)]
    have e2:bl (32::nZ (some y))=[AV.int .u8 32]++bl (dM y):=rfl
    rw[e2,← List.append_assoc,show(32::nZ (some y)).length=1+(dM y).length from Nat.add_comm _ _,← Nat.add_assoc]
    exact hS2
  ·rw[List.take_of_length_le (l:=ws) (i:=j) (by omega)]at hv hS
   have hns:v.isStr=false:=by rcases hv with⟨rfl,_⟩|⟨_,_,rfl,_⟩<;>rfl
   generalize dM k++eh ws=t at hti hv hS
   clear hwsI hwl2 hwl hws hrl hrx h9 hkI
   have hfl:=jz (T.take i)
   have hsnT:T.take (i+1)=T.take i++[t]:=aS hti
   have hnl2:=ga (T.take i)
   rw[List.length_take]at hnl2 hfl
   have hm:h'.get im=_:=hS.get (i:=2) rfl
   have hx6:h'.get i6=_:=hS.get (i:=3) rfl
   repeat' first|apply ad|(apply gw;first|refine ar rx_ ?_|(apply gq3;first|refine aF rx_ ?_|refine ba rx_ ?_|(refine aA rfl rfl rfl ?_ ?_<;>(intro hc;try (exfalso;omega)))))|(apply gx;first|apply af|refine ae rfl ?_|apply aJ|refine ah rfl ?_)|apply aa|apply aK|apply aL|apply aR
   refine lF rfl hns (f8 hv) ?_
   skip
   refine jf (key:=AV.str t) rfl rfl rfl hm ?_
   rw[jK oG]
   by_cases hmem:t∈bN (T.take i)
   ·have hfe:bN (T.take (i+1))=bN (T.take i):=by rw[hsnT,jR,fA,if_pos hmem]
    have hne:gV (T.take (i+1))=gV (T.take i)++[cW (bN (T.take i)) t]:=by rw[hsnT,oU,← hsnT,hfe]
    rw[if_pos hmem]
    repeat' first|apply ad|(apply gw;first|refine ar rx_ ?_|(apply gq3;first|refine aF rx_ ?_|refine aQ rfl rfl rfl (by omega) (by omega) ?_)|(apply gq5;first|refine bb rx_ ?_|refine bf rx_ ?_|refine bn rfl rfl (by omega) (by omega) ?_)|(apply jy;first|refine bq rx_ ?_|refine bp rx_ ?_|refine bh (v:=AV.int _ _) rfl rfl hg_ rfl rfl b_ sv_ ?_)|refine dq (b:=true) rfl ?_|refine ci rfl rfl ?_)|(apply gx;first|apply af|refine ae rfl ?_|apply az|refine ah rfl ?_)|apply aa|apply aD
    refine aO hi2 ⟨?_,hh_⟩
    have hcell:((gV (T.take i)).map gh++List.replicate (of.length-i) (AV.int .i64 0)).set ((i:Int).toNat*1) (AV.int .i64 (cW (bN (T.take i)) t))=(gV (T.take (i+1))).map gh++List.replicate (of.length-(i+1)) (AV.int .i64 0):=by
     rw[hne,Int.toNat_natCast,Nat.mul_one,kU (by rw[List.length_map,hnl2];omega) (by omega)]
     simp[gh]
    rw[hcell,hfe]
    exact(hS.put 3 _ rfl).drop 4 rfl (fun _ _=>rfl)
   ·have hfe:bN (T.take (i+1))=bN (T.take i)++[t]:=by rw[hsnT,jR,fA,if_neg hmem]
    have hne:gV (T.take (i+1))=gV (T.take i)++[(bN (T.take i)).length]:=by
     rw[hsnT,oU,← hsnT,hfe,qF hmem]
    rw[if_neg hmem]
    repeat' first|apply ad|(apply gw;first|refine ar rx_ ?_|refine bT rx_ ?_|refine dq (b:=false) rfl ?_|refine ci rfl rfl ?_)|(apply gx;first|apply af|refine ae rfl ?_|refine ak rfl ?_)|apply aa
    refine lH rfl hm ?_
    rw[f6]
    repeat' first|apply ad|refine ar rx_ ?_|refine ae rfl ?_|apply aa
    refine lF rfl hns (f8 hv) ?_
    repeat' first|refine ar rx_ ?_
    refine gJ (key:=AV.str t) (v:=AV.int _ _) rfl rfl rfl rfl rfl hm ?_
    have he2:=kE oG t (bN (T.take i)) 0 hmem
    rw[Nat.zero_add]at he2
    rw[he2,← hfe]
    have hS1:=hS.put 2 (.map none (bR AV.str 0 (bN (T.take (i+1))))) rfl
    clear hm hx6
    have hm:=hS1.get (i:=2) rfl
    have hx6:=hS1.get (i:=3) rfl
    repeat' first|apply ad|(apply gw;first|refine ar rx_ ?_|(apply gq3;first|refine aF rx_ ?_|refine aQ rfl rfl rfl (by omega) (by omega) ?_)|(apply gq5;first|refine bb rx_ ?_|refine bf rx_ ?_|refine bn rfl rfl (by omega) (by omega) ?_)|(apply jy;first|refine bq rx_ ?_|refine bp rx_ ?_|refine bh (v:=AV.int _ _) rfl rfl hg_ rfl rfl b_ sv_ ?_))|refine ae rfl ?_|apply aa|apply aD
    refine aO hi2 ⟨?_,hh_⟩
    have hcell:((gV (T.take i)).map gh++List.replicate (of.length-i) (AV.int .i64 0)).set ((i:Int).toNat*1) (AV.int .i64 ((bN (T.take i)).length))=(gV (T.take (i+1))).map gh++List.replicate (of.length-(i+1)) (AV.int .i64 0):=by
     rw[hne,Int.toNat_natCast,Nat.mul_one,kU (by rw[List.length_map,hnl2];omega) (by omega)]
     simp[gh]
    rw[hcell]
    exact(hS1.put 3 _ rfl).drop 4 rfl (fun _ _=>rfl)
 ·have hii:i=b.next.l.length:=by omega
  rw[List.take_of_length_le (l:=T) (i:=i) (by omega)]at hS
  rw[show of.length-i=0 by omega,List.replicate_zero,List.append_nil]at hS
  have hx6:h'.get i6=_:=hS.get (i:=3) rfl
  have hnl2:=ga T
  have hrow6:aC h' (.own i6 1 1 0 of.length none) 1 of.length ((gV T).map gh) := .inr ⟨i6,1,rfl,hx6,Nat.le_refl _,by simp[hnl2,hTl,hofl]⟩
  repeat' first|apply ad|(apply gq3;first|refine aF rx_ ?_|refine ba rx_ ?_|(refine aA rfl rfl rfl ?_ ?_<;>(intro hc;try (exfalso;omega))))|(apply gx;first|apply af|refine ae rfl ?_|apply aJ|refine ah rfl ?_)|apply aa|apply aK|apply aL|apply aR
  refine f4 6 (v := .own i6 1 1 0 of.length none) rfl rfl hrow6 ?_
  intro h2 hk2
  have hS2:=hS.drop 3 (h':=h2) rfl (fun k hk=>hk2 k (by simpa[AV.rowId] using fun e=>hk e.symm))
  have hm:h2.get im=_:=hS2.get (i:=2) rfl
  have hnum:(gV T).map gh=(ofY R n b.tags.l (q+1)).map (.int .i64):=by
   show _=((gV (mg R n (ofY R n b.tags.l q))).map fun k:Nat=>(k:Int)).map _
   rw[hT,Gh zv,hof,List.map_map]
   rfl
  have hcnt:(bN T).length=pa R n of:=by rw[hT,uo zv,List.length_map];rfl
  have hc2:se R n b.tags.l (q+1)=pa R n of:=by rw[hof];rfl
  have hpos:=G1 (R:=R) hn1 of
  have hle:=Cb R n of
  have hln:(ofY R n b.tags.l (q+1)).length=n:=t6 R hnn.symm (q+1)
  have hlast:se R n b.tags.l q≤pa R n of:=by
   cases q with
   | zero=>exact Nat.zero_le _
   | succ q=>rw[hof];exact(wL R n _).1
  rw[hnum,show of.length=(ofY R n b.tags.l (q+1)).length by omega]
  repeat' first|apply ad|(apply gw;first|refine ar rx_ ?_|refine bT rx_ ?_)|(apply gx;first|apply af|refine ae rfl ?_)|apply aa
  refine lH rfl hm ?_
  rw[f6,hcnt]
  repeat' first|apply ad|(apply gw;first|refine ar rx_ ?_|(apply gq3;first|refine aF rx_ ?_|refine ba rx_ ?_|(refine cn rfl rfl rfl ?_ ?_<;>(intro hc;try (exfalso;omega))))|refine bT rx_ ?_)|(apply gx;first|apply af|refine ae rfl ?_|apply az|apply aM|apply aJ|refine ak rfl ?_|refine ah rfl ?_)|apply aa|apply aK|apply aL|refine uF rfl ?_|apply aR
  ·cases q with
   | zero=>exfalso;simp only[se]at hc;omega
   | succ q =>
    refine aH rfl ⟨_,rfl,by omega,Gg hn ht _,?_⟩
    have hc3:pa R n (ofY R n b.tags.l q)=pa R n (ofY R n b.tags.l (q+1)):=by
     simp only[se]at hc
     rw[hof]at hc
     omega
    rw[← hnn,← hR]
    refine jT.congr ?_ (EU (p:=256) ?_ hc3)
    ·intro s hs
     have hs1:=hs.1
     have hs2:=hs.2
     obtain⟨y,hy⟩:=aN (l:=b.tags.l) (i:=s.toNat) (by omega)
     simp[PD.tag,Bm.plain,hy]
    ·rw[hR,hnn]
     exact hb.tab
  ·refine lH rfl hm ?_
   rw[f6,hcnt]
   repeat' first|apply ad|refine ar rx_ ?_|apply aD
   refine ft _ ?_ ⟨q+1,_,_,rfl,rfl,hS2.weak ?_,by rw[hc2];exact hh_⟩
   ·omega
   ·exact .cons_cons _ (.cons_cons _ (List.nil_sublist _))
end
end Go.Proofs.YtlnobeojgifojaaGreatDoor
