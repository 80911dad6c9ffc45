/- lower.Sound, lower.Longest. -/
import Derived.Test.YtlnobeojgifojaaGreatDoorVB
set_option linter.unusedVariables false
set_option linter.unusedSimpArgs false
namespace Go.Proofs.YtlnobeojgifojaaGreatDoor
section
open Go
set_option maxHeartbeats 4000000
attribute [local irreducible] az bf bm de bz cw dH bJ wop cz bc
structure Bm where
 next:Rw (Rw Int)
 tags:Rw Int
@[reducible] def Bm.av (b:Bm):List AV:=[b.next.mv Rw.iv,b.tags.iv]
def Bm.plain (b:Bm):PD:=⟨[],cG b.next.l,b.tags.l⟩
@[simp] theorem Lc (b:Bm):AV.frozenL b.av=true:=by simp[Bm.av,AV.frozenL,AV.frozen]
structure Bm.Fits (b:Bm):Prop where
 next:b.next.l.length≤4294967296
 tags:b.tags.l.length≤4294967296
 rows:∀ r∈b.next.l,r.l.length≤1048576
structure OkS (x:PD):Prop extends OkB x where
 most:x.n≤40000
def GK (k:Int)(to:Int):Bool:=decide (to < -1)||decide (k≤to)
theorem Iw {Φ:Lib}(L:fh Φ){h:ad}{i:Nat}{k:Int}(hg:h.get i=some (.cells 0 [.int .i64 k]))(to:Int):bc Φ 274 [.int .i64 to,.ptr i 0 0] h (fun v h'=>v = .bool (GK k to)∧h.Ext h'):=by
 refine ba (fun _=>false) rfl L.f274 ?_
 repeat' first|apply ac|(apply gw;first|(apply gq0;first|refine aq rfl ?_|refine bl rfl ?_)|(apply gq1;first|refine cf rfl ?_|refine cj rfl ?_)|refine am rfl hg_ Lm b_ pv_ ?_|(apply gq3;first|((first|refine aA rfl rfl rfl ?_ ?_|refine iy rfl rfl rfl ?_ ?_)<;>(intro hc;try omega)))|(apply gq7;first|refine bi rfl rfl ?_|refine bb rfl rfl ?_))|(apply gx;first|apply af|refine ae rfl ?_|apply aM)|apply aa
 ·exact aJ (v := .bool true) rfl ⟨by simp[GK, *],ad.Ext.refl h⟩
 ·exact aJ (v := .bool true) rfl ⟨by simp[GK, *],ad.Ext.refl h⟩
 ·exact aJ (v := .bool false) rfl ⟨by simp[GK, *],ad.Ext.refl h⟩
noncomputable def xH (b:Bm):Bool:=BN (OkS b.plain)
theorem mV {b:Bm}(h:¬ OkS b.plain):xH b=false:=BM h
theorem lS {b:Bm}(h:OkS b.plain):xH b=true:=BL h
set_option maxRecDepth 100000 in
theorem pu {Φ:Lib}(L:fh Φ)(L1:il Φ)(b:Bm)(hf:b.Fits):eQ Φ 263 [.agg b.av] (.bool (xH b)):=by
 have hfn:=hf.next
 have hft:=hf.tags
 have hnl:b.plain.n=b.tags.l.length:=by simp[Bm.plain,PD.n]
 have hxl:b.plain.next.length=b.next.l.length:=by simp[Bm.plain,cG]
 have hrow:∀ {i:Nat} {r:Rw Int},b.next.l[i]?=some r→r.l∈b.plain.next:=fun hr=>List.mem_map.2 ⟨_,List.mem_of_getElem? hr,rfl⟩
 refine ba (fun _=>false) rfl L.f263 ?_
 repeat' first|apply ac|(apply gw;first|refine au rx_ ?_|(apply gq2;first|refine aF rx_ ?_|refine am rfl hg_ Lm b_ pv_ ?_)|(apply gq3;first|refine aC rx_ ?_|refine aQ rx_ ?_|((first|refine cN rfl rfl rfl ?_ ?_|refine dd rfl rfl rfl ?_ ?_|refine eK rfl rfl rfl ?_ ?_)<;>(intro hc;try omega)))|(apply jI;first|refine bq rx_ ?_|refine bp rx_ ?_|refine cC (cs':=[AV.int _ _]) rfl rfl rfl rfl b_ rfl ?_)|(apply gq6;first|refine bk rx_ ?_|refine aw rfl ?_)|(apply gq4;first|refine aL rx_ ?_|refine ar rfl (Nat.zero_add _) ?_)|(apply gq1;first|refine cf rfl ?_|refine cj rfl ?_)|(apply gq7;first|refine bi rfl rfl ?_|refine bb rfl rfl ?_)|(refine bV ?_;intro id hid;try simp only[ad.set_none]at hid)|(refine gQ (v:=AV.agg _) rfl rfl ?_;intro id hid;try simp only[ad.set_none]at hid)|refine qC (vs:=[AV.ptr _ _ _]) rfl rfl ?_)|(apply gx;first|apply af|refine ae rfl ?_|apply ay|apply al|apply aM|refine ak rfl ?_|refine ai rfl ?_)|apply aa|apply cp
 all_goals first
  | (
   refine aJ (v := .bool false) rfl ?_
   rw[mV (fun h=>by have:=h.n1;have:=h.most;have:=h.nl;omega)]
   done)
  | skip
 rename_i ib hib hc1 hc2
 obtain⟨ik,rfl⟩:∃ x,x=id:=⟨_,rfl⟩
 refine bD b.next.l.length (fun i env h'=>(∀ r∈b.next.l.take i,r.l.length=256∧∀ x∈r.l,x = -1∨In b.tags.l.length x)∧(∀ t∈b.tags.l.take i,-1≤t)∧h'.get ib=some (.cells 0 b.av)∧h'.get ik=some (.cells 0 [.int .i64 b.tags.l.length])∧env.has [(1,.ptr ib 0 0),(4,.fn 274 [.ptr ik 0 0]),(25,b.next.mv Rw.iv),(26,.int .i64 b.next.l.length),(27,.int .i64 i)]) ⟨by simp,by simp,by rw[ad.get_set_ne _ _ (Ne.symm hid.1)];exact ad.get_set_self _ _ _,ad.get_set_self _ _ _,hh_⟩ ?_
 clear hid hib
 rintro i env h' hi ⟨hrs,hts,hb1,hb2,he⟩
 obtain⟨env,rfl⟩:=he.ex
 clear he
 by_cases hi2:i<b.next.l.length
 ·obtain⟨r,hr⟩:=aK hi2
  obtain⟨t,ht⟩:=aK (l:=b.tags.l) (show i<b.tags.l.length by omega)
  have hrl:=hf.rows r (List.mem_of_getElem? hr)
  have hrm:=hrow hr
  have htm:t∈b.plain.tags:=List.mem_of_getElem? ht
  repeat' first|apply ac|(apply gw;first|refine au rx_ ?_|(apply gq2;first|refine aF rx_ ?_|refine aB rfl b_ pv_ ?_|refine am rfl hg_ Lm b_ pv_ ?_)|(apply gq3;first|refine aC rx_ ?_|refine aQ rx_ ?_|((first|refine aA rfl rfl rfl ?_ ?_|refine eK rfl rfl rfl ?_ ?_)<;>(intro hc;try omega)))|(apply gq5;first|refine aS rx_ ?_|refine aU rx_ ?_|refine ah rfl rfl hr Ll rfl ?_|refine ah rfl rfl ht Ll rfl ?_)|(apply gq6;first|refine bk rx_ ?_|refine aw rfl ?_)|(apply gq4;first|refine aL rx_ ?_|refine ar rfl (Nat.zero_add _) ?_)|(apply gq1;first|refine cf rfl ?_|refine cj rfl ?_)|(apply gq7;first|refine bi rfl rfl ?_|refine bb rfl rfl ?_)|refine aH rfl nt_ ?_)|(apply gx;first|apply af|refine ae rfl ?_|apply ay|apply al|apply aM|refine ak rfl ?_)|apply aa|apply cp|apply gH|apply iX
  all_goals first
   | (
    refine aJ (v := .bool false) rfl ?_
    rw[mV (fun h=>by have h1:=(h.rows _ hrm).1;have h2:=h.tags _ htm;omega)]
    done)
   | skip
  refine ci (nj L1 r.l r.fl 274 [.ptr ik 0 0] _ h' Ll fun x _=>Iw L hb2 x) ?_
  rintro _ h2 ⟨rfl,rfl⟩
  cases ho:(r.l.any (GK (b.tags.l.length:Int)))
  ·repeat' first|apply ac|(apply gw;first|refine au rx_ ?_|(apply gq3;first|refine aC rx_ ?_|refine aT rfl rfl rfl Ll Ll ?_)|refine bb rfl rfl ?_)|(apply gx;first|refine ae rfl ?_|apply ay|refine ai rfl ?_)|apply aa|apply aI
   refine aR hi2 ⟨fun q hq=>?_,fun q hq=>?_,hb1,hb2,hh_⟩
   ·rw[aV hr]at hq
    rcases List.mem_append.1 hq with hq|hq
    ·exact hrs q hq
    ·simp at hq;subst hq
     exact⟨by omega,ti.1 ho⟩
   ·rw[aV ht]at hq
    rcases List.mem_append.1 hq with hq|hq
    ·exact hts q hq
    ·simp at hq;subst hq
     omega
  ·repeat' first|apply ac|(apply gw;first|refine au rx_ ?_|refine bb rfl rfl ?_)|(apply gx;first|apply af|refine ae rfl ?_|apply aM|refine ak rfl ?_)|apply aa|apply cp|apply gH|apply iX
   refine aJ (v := .bool false) rfl ?_
   rw[mV]
   intro h
   have h1:=ti.2 (h.rows _ hrm).2
   have ho2:(r.l.any fun to=>decide (to < -1)||decide (((b.tags.l.length:Nat):Int)≤to))=true:=ho
   rw[hnl,ho2]at h1
   cases h1
 ·rw[List.take_of_length_le Ll]at hrs
  rw[List.take_of_length_le Ll]at hts
  repeat' first|apply ac|(apply gw;first|refine au rx_ ?_|(apply gq3;first|refine aC rx_ ?_|refine aQ rx_ ?_|(refine aA rfl rfl rfl ?_ ?_<;>(intro hc;try omega))))|(apply gx;first|apply af|refine ae rfl ?_|apply aM|apply aN|refine ai rfl ?_)|apply aa|apply aO|apply aP|apply aX
  refine aJ (v := .bool true) rfl ?_
  rw[lS]
  refine⟨⟨by omega,by omega,fun r hr=>?_,hts⟩,by omega⟩
  obtain⟨q,hq,rfl⟩:=List.mem_map.1 hr
  rw[hnl]
  exact hrs q hq
noncomputable def wL (b:Bm)(s:List Int):Int×Int:=if xH b=true then l7 b.plain 0 s 0 (0,-1) else(0,-1)
set_option maxRecDepth 100000 in
theorem Ar {Φ:Lib}(L:fh Φ)(L1:il Φ)(b:Bm)(hf:b.Fits)(s:List Int)(fl:Bool)(hsl:s.length≤1048576)(hsb:∀ c∈s,0≤c∧c≤255):eQ Φ 262 [.agg b.av,kw s fl] (.tup [.int .i64 (wL b s).1,.int .i64 (wL b s).2]):=by
 have hsd:=pu L L1 b hf
 have hfn:=hf.next
 have hft:=hf.tags
 have hnl:b.plain.n=b.tags.l.length:=by simp[Bm.plain,PD.n]
 have hxl:b.plain.next.length=b.next.l.length:=by simp[Bm.plain,cG]
 refine ba (fun _=>false) rfl L.f262 ?_
 apply af
 refine ae rfl ?_
 refine gQ (v := .agg b.av) rfl rfl ?_
 intro ib hib
 have hbox:(ad.empty.set ib (.cells 0 (AV.agg b.av).cells)).get ib=some (.cells 0 b.av):=ad.get_set_self _ _ _
 generalize ad.empty.set ib (.cells 0 (AV.agg b.av).cells)=h0 at hbox
 by_cases hok:OkS b.plain
 ·rw[lS hok]at hsd
  rw[wL,if_pos (lS hok)]
  have hnl2:=hok.nl
  generalize hz:l7 b.plain 0 s 0 (0,-1)=z
  repeat' first|apply ac|(apply gw;first|refine au rx_ ?_|(apply gq2;first|refine aF rx_ ?_|refine am rfl hg_ Lm b_ pv_ ?_)|(apply gq6;first|refine bk rx_ ?_|refine aw rfl ?_)|refine aH rfl nt_ ?_|refine dh (b:=true) rfl ?_)|(apply gx;first|apply af|refine ae rfl ?_|apply ay|apply al|refine ai rfl ?_)|apply aa|refine aW (by assumption) fz_ fz_ ?_
  refine bD s.length (fun i env h'=>∃ (a:Nat) (lo tg:Int),a<b.tags.l.length∧l7 b.plain a (s.drop i) i (lo,tg)=z∧h'.get ib=some (.cells 0 b.av)∧env.has [(2,.ptr ib 0 0),(6,.int .i64 lo),(7,.int .i64 tg),(8,.int .i64 a),(16,kw s fl),(17,.int .i64 s.length),(18,.int .i64 i)]) ⟨0,0,-1,by have:=hok.n1;omega,hz,hbox,hh_⟩ ?_
  clear hbox hz
  rintro i env h' hi ⟨a,lo,tg,han,hlong,hb1,he⟩
  obtain⟨env,rfl⟩:=he.ex
  clear he
  by_cases hi2:i<s.length
  ·obtain⟨c,hc⟩:=aK hi2
   have hcb:=hsb c (List.mem_of_getElem? hc)
   obtain⟨r,hr⟩:=aK (l:=b.next.l) (i:=a) Ll
   have hrow:b.plain.row a=r.l:=by simp[PD.row,Bm.plain,cG,List.getD_eq_getElem?_getD,hr]
   have hrm:r.l∈b.plain.next:=List.mem_map.2 ⟨r,List.mem_of_getElem? hr,rfl⟩
   obtain⟨hrl,hrt⟩:=hok.rows _ hrm
   obtain⟨x,hx⟩:=aK (l:=r.l) (i:=c.toNat) Ll
   have hxr:=hrt x (List.mem_of_getElem? hx)
   have hcol:col b.plain.row a c.toNat=x:=by rw[col,hrow,List.getD_eq_getElem?_getD,hx];rfl
   rw[List.drop_eq_getElem_cons hi2,(List.getElem?_eq_some_iff.1 hc).2]at hlong
   unfold l7 at hlong
   rw[hcol]at hlong
   rcases hxr with rfl|hin
   ·rw[if_pos rfl]at hlong
    repeat' first|apply ac|(apply gw;first|refine au rx_ ?_|(apply gq2;first|refine aF rx_ ?_|refine aB rfl b_ pv_ ?_|refine am rfl hg_ Lm b_ pv_ ?_)|(apply gq3;first|refine aC rx_ ?_|refine aQ rx_ ?_|((first|refine aA rfl rfl rfl ?_ ?_|refine dd rfl rfl rfl ?_ ?_)<;>(intro hc;try omega)))|(apply gq5;first|refine aS rx_ ?_|refine aU rx_ ?_|refine ah rfl rfl hr Ll rfl ?_|refine ah rfl rfl hx Ll rfl ?_|refine dN rfl rfl rfl (by assumption) rfl ?_)|(apply gq4;first|refine aL rx_ ?_|refine ar rfl (Nat.zero_add _) ?_))|(apply gx;first|apply af|refine ae rfl ?_|apply ay|apply al|apply aM|apply aN|refine ak rfl ?_)|apply aa|apply aO|apply aP|refine oP rfl ?_|apply aX
    refine aJ (v := .tup [.int .i64 lo,.int .i64 tg]) rfl ?_
    rw[← hlong]
   ·obtain⟨x,rfl⟩:∃ n:Nat,x=n:=⟨x.toNat,by have:=hin.1;omega⟩
    have hx0:=hin.1
    have hx1:=hin.2
    rw[hnl]at hx1
    rw[if_neg Ll]at hlong
    obtain⟨t,ht⟩:=aK (l:=b.tags.l) (i:=x) Ll
    have htag:b.plain.tag x=t:=by simp[PD.tag,Bm.plain,List.getD_eq_getElem?_getD,ht]
    rw[htag]at hlong
    repeat' first|apply ac|(apply gw;first|refine au rx_ ?_|(apply gq2;first|refine aF rx_ ?_|refine aB rfl b_ pv_ ?_|refine am rfl hg_ Lm b_ pv_ ?_)|(apply gq3;first|refine aC rx_ ?_|refine aQ rx_ ?_|refine aT rfl rfl rfl Ll Ll ?_|((first|refine aA rfl rfl rfl ?_ ?_|refine iy rfl rfl rfl ?_ ?_|refine dd rfl rfl rfl ?_ ?_)<;>(intro hc;try omega)))|(apply gq5;first|refine aS rx_ ?_|refine aU rx_ ?_|refine ah rfl rfl hr Ll rfl ?_|refine ah rfl rfl hx Ll rfl ?_|refine ah rfl rfl ht Ll rfl ?_|refine dN rfl rfl rfl (by assumption) rfl ?_)|(apply gq4;first|refine aL rx_ ?_|refine ar rfl (Nat.zero_add _) ?_))|(apply gx;first|apply af|refine ae rfl ?_|apply ay|apply al|refine ak rfl ?_|refine ai rfl ?_)|apply aa|apply aI
    ·rw[if_pos Ll]at hlong
     refine aR hi2 ⟨x,_,t,by omega,hlong,hb1,?_⟩
     exact hh_
    ·rw[if_neg Ll]at hlong
     exact aR hi2 ⟨x,lo,tg,by omega,hlong,hb1,hh_⟩
  ·rw[List.drop_eq_nil_of_le Ll]at hlong
   unfold l7 at hlong
   repeat' first|apply ac|(apply gw;first|refine au rx_ ?_|(apply gq3;first|refine aC rx_ ?_|refine aQ rx_ ?_|(refine aA rfl rfl rfl ?_ ?_<;>(intro hc;try omega))))|(apply gx;first|apply af|refine ae rfl ?_|apply aM|apply aN|refine ai rfl ?_)|apply aa|apply aO|apply aP|apply aX
   refine aJ (v := .tup [.int .i64 lo,.int .i64 tg]) rfl ?_
   rw[← hlong]
 ·rw[mV hok]at hsd
  rw[wL,if_neg (by rw[mV hok];simp)]
  repeat' first|apply ac|(apply gw;first|refine au rx_ ?_|(apply gq2;first|refine aF rx_ ?_|refine am rfl hg_ Lm b_ pv_ ?_)|refine aH rfl nt_ ?_|refine dh (b:=false) rfl ?_)|(apply gx;first|apply af|refine ae rfl ?_|apply aM|refine ak rfl ?_)|apply aa|apply cp|refine aW (by assumption) fz_ fz_ ?_
  exact aJ (v := .tup [.int .i64 0,.int .i64 (-1)]) rfl rfl
end
section
open Go
set_option maxHeartbeats 4000000
def om:Option Int→List UInt8
 | none=>[33]
 | some v=>dP v
def er (l:List (Option Int)):List UInt8:=l.flatMap fun o=>32::om o
def JT (k:Int×List (Option Int)):List UInt8:=dP k.1++er k.2
theorem qW {x:Int}:∀ c∈dP x,c≠32∧c≠33:=by
 have hd:∀ u,u<36→jS u≠32∧jS u≠33:=by decide
 have hn:∀ u,∀ c∈iW u,c≠32∧c≠33:=fun u=>by
  induction u using Nat.strongRecOn with
  | ind u ih =>
   by_cases h:u<36
   ·rw[jP h]
    intro c hc
    obtain rfl:=List.mem_singleton.1 hc
    exact hd u h
   ·rw[ka h]
    intro c hc
    rcases List.mem_append.1 hc with hc|hc
    ·exact ih (u / 36) Ll c hc
    ·obtain rfl:=List.mem_singleton.1 hc
     exact hd _ (Nat.mod_lt _ Ll)
 intro c hc
 unfold dP at hc
 split at hc
 ·rcases List.mem_cons.1 hc with rfl|hc
  ·decide
  ·exact hn _ c hc
 ·exact hn _ c hc
theorem Cq (o:Option Int):∀ c∈om o,c≠32:=by
 cases o with
 | none=>intro c hc;simp[om]at hc;subst hc;decide
 | some v=>exact fun c hc=>(qW c hc).1
theorem GL {o p:Option Int}(h:om o=om p):o=p:=by
 cases o with
 | none=>cases p with
  | none=>rfl
  | some w =>
   have h:[33]=dP w:=h
   exact absurd rfl ((qW (x:=w) 33 (by rw[← h];simp)).2)
 | some v=>cases p with
  | none =>
   have h:dP v=[33]:=h
   exact absurd rfl ((qW (x:=v) 33 (by rw[h];simp)).2)
  | some w=>rw[oA h]
theorem pV:∀ {a b:List UInt8} {l m:List (Option Int)},(∀ c∈a,c≠32)→(∀ c∈b,c≠32)→a++er l=b++er m→a=b∧er l=er m
 | [],[],_,_,_,_,e=>⟨rfl,e⟩
 | [],c::b,l,m,_,hb,e=>by
  cases l with
  | nil=>cases e
  | cons o l =>
   have e:(32:UInt8)::(om o++er l)=c::(b++er m):=e
   injection e with e1 _
   exact absurd e1.symm (hb c Lm)
 | c::a,[],l,m,ha,_,e=>by
  cases m with
  | nil=>cases e
  | cons o m =>
   have e:c::(a++er l)=(32:UInt8)::(om o++er m):=e
   injection e with e1 _
   exact absurd e1 (ha c Lm)
 | c::a,d::b,l,m,ha,hb,e=>by
  injection e with e1 e2
  obtain⟨h1,h2⟩:=pV (fun x hx=>ha x (by simp[hx])) (fun x hx=>hb x (by simp[hx])) e2
  exact⟨by rw[e1,h1],h2⟩
theorem tp:∀ {l m:List (Option Int)},er l=er m→l=m
 | [],[],_=>rfl
 | [],_::_,e=>by cases e
 | _::_,[],e=>by cases e
 | o::l,p::m,e=>by
  have e:(32:UInt8)::(om o++er l)=32::(om p++er m):=e
  injection e with _ e
  obtain⟨h1,h2⟩:=pV (Cq o) (Cq p) e
  rw[GL h1,tp h2]
theorem zW (a b:Int×List (Option Int))(h:JT a=JT b):a=b:=by
 obtain⟨h1,h2⟩:=pV (fun c hc=>(qW c hc).1) (fun c hc=>(qW c hc).1) h
 exact Prod.ext (oA h1) (tp h2)
def I32 (x:Int):Prop := -2147483648≤x∧x≤2147483647
theorem tn:∀ {l:List (Option Int)},(∀ v,some v∈l→I32 v)→(er l).length≤10*l.length
 | [],_=>by simp[er]
 | o::l,h=>by
  have ih:=tn (l:=l) fun v hv=>h v (by simp[hv])
  have e:er (o::l)=32::(om o++er l):=rfl
  rw[e,List.length_cons,List.length_append,List.length_cons]
  cases o with
  | none=>simp[om];omega
  | some v =>
   have:=h v Lm
   have:=rP this.1 this.2
   simp only[om]
   omega
theorem jK.congr {n:Nat}{R:Int→List Int}{T T' κ:Int→Int}(hT:∀ s,In n s→T s=T' s)(h:jK n R T κ):jK n R T' κ :=
 ⟨h.no,h.yes,fun s t hs ht e=>by rw[← hT s hs,← hT t ht];exact h.tag s t hs ht e,h.step,fun B hB s t hs ht e=>h.least B (fun s t hs ht e=>⟨by rw[hT s hs,hT t ht];exact(hB s t hs ht e).1,(hB s t hs ht e).2⟩) s t hs ht e⟩
theorem uk (R:Int→List Int){n:Nat}{T:List Int}(hT:T.length=n):∀ q,(ofY R n T q).length=n
 | 0=>hT
 | q+1=>x9 R n _
theorem GQ {R:Int→List Int}{n:Nat}(hn:n≤268435456){T:List Int}(hT:∀ x∈T,I32 x):∀ q,∀ x∈ofY R n T q,I32 x
 | 0=>hT
 | q+1=>fun x hx=>by
  obtain⟨k,hk,rfl⟩:=List.mem_map.1 hx
  have h1:=Cu hk
  have h2:=CE R n (ofY R n T q)
  unfold pB at h2
  unfold I32
  omega
def sr (R:Int→List Int)(n:Nat)(T:List Int):Nat→Nat
 | 0=>0
 | q+1=>pB R n (ofY R n T q)
theorem He {of:List Int}(h:∀ x∈of,I32 x)(i:Nat):I32 (of.getD i 0):=by
 rcases l9 (l:=of) (i:=i) (d:=0) with e|e
 ·rw[e];unfold I32;omega
 ·exact h _ e
theorem tk (n:Nat):(List.replicate ((n:Nat):Int).toNat [AV.int .i64 0]).flatten=List.replicate n (AV.int .i64 0):=by
 rw[Int.toNat_natCast]
 induction n with
 | zero=>rfl
 | succ n ih=>rw[List.replicate_succ,List.flatten_cons,ih];rfl
theorem OkB.tab {x:PD}(h:OkB x):Tab x.n 256 x.row where
 len s hs:=by
  obtain⟨r,hr⟩:=aK (l:=x.next) (i:=s.toNat) (by have:=hs.1;have:=hs.2;have:=h.nl;omega)
  simp[PD.row,hr,(h.rows r (List.mem_of_getElem? hr)).1]
 to s hs y hy:=by
  obtain⟨r,hr⟩:=aK (l:=x.next) (i:=s.toNat) (by have:=hs.1;have:=hs.2;have:=h.nl;omega)
  simp[PD.row,hr]at hy
  exact(h.rows r (List.mem_of_getElem? hr)).2 y hy
attribute [local irreducible] az bf bm de bz cw dH bJ wop cz bc
set_option maxRecDepth 100000 in
theorem Fl {Φ:Lib}(L:fh Φ)(L3:cJ Φ)(b:Bm)(hb:OkB b.plain)(hn:b.tags.l.length≤268435456)(ht:∀ t∈b.tags.l,I32 t) :
  bc Φ 280 [.agg b.av] ad.empty (fun v _=>∃ of:List Int,v = .rd of.length (of.map (.int .i64)) false∧of.length=b.tags.l.length∧(∀ x∈of,I32 x)∧jK b.tags.l.length b.plain.row b.plain.tag (ur of)):=by
 have hcl:=w7 L3 b.tags Ll
 have hnl:b.next.l.length=b.tags.l.length:=by have:=hb.nl;simpa[Bm.plain,cG,PD.n] using this
 have hn1:1≤b.tags.l.length:=hb.n1
 have hrow:∀ {i:Nat} {r:Rw Int},b.next.l[i]?=some r→b.plain.row i=r.l:=fun {i r} hr=>by simp[PD.row,Bm.plain,cG,List.getD_eq_getElem?_getD,hr]
 have hrows:∀ r∈b.next.l,r.l.length=256∧∀ y∈r.l,y = -1∨In b.tags.l.length y:=fun r hr=>hb.rows r.l (List.mem_map.2 ⟨r,hr,rfl⟩)
 obtain⟨n,hnn⟩:∃ n,n=b.tags.l.length:=⟨_,rfl⟩
 obtain⟨R,hR⟩:∃ R,R=b.plain.row:=⟨_,rfl⟩
 rw[← hnn]at hnl hn1 hn hrows hcl
 rw[← hR]at hrow
 refine ba (fun o=>o == some 75||o == some 43) rfl L.f280 ?_
 apply af
 refine ae rfl ?_
 refine gQ (v := .agg b.av) rfl rfl ?_
 intro ib hib
 have hbox:(ad.empty.set ib (.cells 0 (AV.agg b.av).cells)).get ib=some (.cells 0 b.av):=ad.get_set_self _ _ _
 have hS0:Sep (ad.empty.set ib (.cells 0 (AV.agg b.av).cells)) [j4 ad.empty,bU ib (.cells 0 b.av)]:=(Sep.old ad.empty).new (o := .cells 0 b.av) hib
 generalize ad.empty.set ib (.cells 0 (AV.agg b.av).cells)=h0 at hbox hS0
 repeat' first|apply ac|(apply gw;first|refine au rx_ ?_|(apply gq2;first|refine aF rx_ ?_|refine am rfl hg_ Lm b_ pv_ ?_)|(apply gq4;first|refine aL rx_ ?_|refine ar rfl (Nat.zero_add _) ?_)|refine aH rfl nt_ ?_)|(apply gx;first|apply af|refine ae rfl ?_|apply ay|apply al)|apply aa|refine aW (by assumption) fz_ fz_ ?_
 refine gL (fun m env h'=>∃ (q:Nat) (of:List Int) (fl:Bool),of=ofY R n b.tags.l q∧m=n-sr R n b.tags.l q∧Sep h' [j4 ad.empty,bU ib (.cells 0 b.av)]∧env.has [(1,.ptr ib 0 0),(3,.rd of.length (of.map (.int .i64)) fl),(4,.int .i64 (sr R n b.tags.l q))]) n ⟨0,b.tags.l,false,rfl,rfl,hS0,by rw[← hnn];exact hh_⟩ ?_
 clear hS0 hbox hib
 rintro m env h' ⟨q,of,fl,hof,rfl,hS,he⟩
 have hofl:of.length=n:=by rw[hof];exact uk R hnn.symm q
 have hofI:∀ x∈of,I32 x:=by rw[hof];exact GQ hn ht q
 have hbx:h'.get ib=some (.cells 0 b.av):=hS.get (i:=1) rfl
 obtain⟨env,rfl⟩:=he.ex
 clear he
 repeat' first|apply ac|(apply gw;first|refine au rx_ ?_|(apply gq2;first|refine aF rx_ ?_|refine am rfl hg_ Lm b_ pv_ ?_)|(apply gq6;first|refine bk rx_ ?_|refine aw rfl ?_)|(apply gq4;first|refine aL rx_ ?_|refine ar rfl (Nat.zero_add _) ?_)|(refine ix rfl rfl Ll Ll ?_;intro id hid;try simp only[ad.set_none]at hid)|(refine lQ ?_;intro id hid;try simp only[ad.set_none]at hid))|(apply gx;first|apply af|refine ae rfl ?_|apply al)|apply aa
 rename_i im him
 obtain⟨i6,rfl⟩:∃ x,x=id:=⟨_,rfl⟩
 have hSa:=(hS.new (o := .map none []) him).new (id:=i6) (o := .cells 1 (List.replicate of.length (.int .i64 0))) (by rw[ad.get_set_ne _ _ hid.1];exact hid.2)
 have hz6:=tk of.length
 rw[hz6]
 obtain⟨T,hT⟩:∃ T,T=(mA R n of).map JT:=⟨_,rfl⟩
 have hTl:T.length=n:=by rw[hT];simp[mA]
 refine bD b.next.l.length (fun i env h'=>Sep h' [j4 ad.empty,bU ib (.cells 0 b.av),bU im (.map none (bS AV.str 0 (bP (T.take i)))),bU i6 (.cells 1 ((hZ (T.take i)).map gm++List.replicate (of.length-i) (AV.int .i64 0)))]∧env.has [(1,.ptr ib 0 0),(3,.rd of.length (of.map (.int .i64)) fl),(4,.int .i64 (sr R n b.tags.l q)),(5,.map im),(6,.own i6 1 1 0 of.length none),(22,b.next.mv Rw.iv),(23,.int .i64 b.next.l.length),(24,.int .i64 i)]) ⟨hSa,hh_⟩ ?_
 clear hSa hS hbx hid him hz6
 rintro i env h' hi ⟨hS,he⟩
 obtain⟨env,rfl⟩:=he.ex
 clear he
 by_cases hi2:i<b.next.l.length
 ·obtain⟨r,hr⟩:=aK (l:=b.next.l) (i:=i) Ll
  obtain⟨k,hk⟩:=aK (l:=of) (i:=i) Ll
  obtain⟨hrl,hrx⟩:=hrows r (List.mem_of_getElem? hr)
  have hkI:=hofI k (List.mem_of_getElem? hk)
  obtain⟨ws,hws⟩:∃ ws,ws=r.l.map fun to=>if to = -1 then none else some (of.getD to.toNat 0):=⟨_,rfl⟩
  have hwl:ws.length=256:=by rw[hws,List.length_map];exact hrl
  have hti:T[i]?=some (dP k++er ws):=by
   rw[hT,List.getElem?_map,rO (by omega:i<n)]
   have e1:of.getD i 0=k:=by rw[List.getD_eq_getElem?_getD,hk];rfl
   show some (dP (of.getD i 0)++er ((R i).map fun to=>if to = -1 then none else some (of.getD to.toNat 0)))=_
   rw[e1,hrow hr,← hws]
  have h9:=rP hkI.1 hkI.2
  unfold I32 at hkI
  repeat' first|apply ac|(apply gw;first|refine au rx_ ?_|(apply gq2;first|refine aF rx_ ?_|refine aB rfl b_ pv_ ?_)|(apply gq3;first|refine aC rx_ ?_|refine aQ rx_ ?_|(refine aA rfl rfl rfl ?_ ?_<;>(intro hc;try omega)))|(apply gq5;first|refine aS rx_ ?_|refine aU rx_ ?_|refine ah rfl rfl hr Ll rfl ?_|refine ah rfl rfl hk Ll rfl ?_)|refine aH rfl nt_ ?_)|(apply gx;first|apply af|refine ae rfl ?_|apply ay|apply al|refine ak rfl ?_)|apply aa
  refine ci (kC L3 (aD.nil _ _) Ll k Ll Ll) ?_
  rintro v2 h2 ⟨hv2,hk2,hi2'⟩
  have hSb:=hS.add (cA v2 1 _ _) hv2 (fun k hk=>hk2 k hk (by simp[AV.rowId])) (fun k hk=>(hi2' k hk).resolve_left (by simp[AV.rowId]))
  rw[Nat.zero_add,List.nil_append]at hSb
  have hnt:=hv2.notTup
  clear hv2 hk2 hi2' hS
  repeat' first|apply ac|(apply gw;first|refine au rx_ ?_|(apply gq6;first|refine bk rx_ ?_|refine aw rfl ?_))|(apply gx;first|apply af|refine ae rfl ?_|apply al)|apply aa
  refine bD r.l.length (fun j env h'=>∃ v,Sep h' [j4 ad.empty,bU ib (.cells 0 b.av),bU im (.map none (bS AV.str 0 (bP (T.take i)))),bU i6 (.cells 1 ((hZ (T.take i)).map gm++List.replicate (of.length-i) (AV.int .i64 0))),cA v 1 (dP k++er (ws.take j)).length (bn (dP k++er (ws.take j)))]∧env.has [(1,.ptr ib 0 0),(3,.rd of.length (of.map (.int .i64)) fl),(4,.int .i64 (sr R n b.tags.l q)),(5,.map im),(6,.own i6 1 1 0 of.length none),(7,.int .i64 i),(9,v),(22,b.next.mv Rw.iv),(23,.int .i64 b.next.l.length),(24,.int .i64 i),(34,r.iv),(35,.int .i64 r.l.length),(36,.int .i64 j)]) ⟨v2,by rw[List.take_zero,show er []=[] from rfl,List.append_nil];exact hSb,hh_⟩ ?_
  clear hSb hnt
  rintro j env h' hj ⟨v,hS,he⟩
  obtain⟨env,rfl⟩:=he.ex
  clear he
  have hv:aD h' v 1 _ _:=hS.get (i:=4) rfl
  have hnt:=hv.notTup
  have hwsI:∀ v,some v∈ws→I32 v:=fun v hv=>by
   rw[hws]at hv
   obtain⟨to,_,hto⟩:=List.mem_map.1 hv
   split at hto
   ·cases hto
   ·injection hto with hto;rw[← hto];exact He hofI _
  have hwl2:(dP k++er (ws.take j)).length≤3000:=by
   have h1:=tn (l:=ws.take j) fun v hv=>hwsI v (List.mem_of_mem_take hv)
   rw[List.length_take]at h1
   rw[List.length_append]
   omega
  by_cases hj2:j<r.l.length
  ·obtain⟨x,hx⟩:=aK hj2
   have hxr:=hrx x (List.mem_of_getElem? hx)
   have hwx:ws[j]?=some (if x = -1 then none else some (of.getD x.toNat 0)):=by rw[hws,List.getElem?_map,hx];rfl
   repeat' first|apply ac|(apply gw;first|refine au rx_ ?_|(apply gq2;first|refine aF rx_ ?_|refine aB rfl b_ pv_ ?_)|(apply gq3;first|refine aC rx_ ?_|refine aQ rx_ ?_|(refine aA rfl rfl rfl ?_ ?_<;>(intro hc;try omega)))|(apply gq5;first|refine aS rx_ ?_|refine aU rx_ ?_|refine ah rfl rfl hx Ll rfl ?_)|(apply lp;first|refine cn rx_ ?_|refine cm rx_ ?_|(refine aY (m:=1) rx_ ir_ rfl rfl Ll ?_;intro va hpa hra hka hria))|refine bj (cs:=[AV.int _ _]) rfl rfl ?_)|(apply gx;first|apply af|refine ae rfl ?_|apply ay|apply al|refine ak rfl ?_)|apply aa
   have hS1:=hS.upd 4 (cA va 1 _ _) rfl hra hka hria
   have hnt1:=hra.notTup
   refine jN rfl ?_
   have hsn:er (ws.take (j+1))=er (ws.take j)++(32::om (if x = -1 then none else some (of.getD x.toNat 0))):=by
    rw[aV hwx]
    simp[er]
   have hsn3:dP k++er (ws.take (j+1))=(dP k++er (ws.take j))++(32::om (if x = -1 then none else some (of.getD x.toNat 0))):=by rw[hsn,List.append_assoc]
   by_cases hx1:x = -1
   ·subst hx1
    rw[if_pos rfl]at hsn3
    clear hra hka hria hv hnt
    have hra:aD hpa va 1 _ _:=hS1.get (i:=4) rfl
    repeat' first|apply ac|(apply gw;first|refine au rx_ ?_|(apply gq3;first|refine aC rx_ ?_|refine aT rfl rfl rfl Ll Ll ?_|(refine eK rfl rfl rfl ?_ ?_<;>(intro hc;try omega)))|(apply lp;first|refine cn rx_ ?_|refine cm rx_ ?_|(refine aY (m:=1) rx_ ir_ rfl rfl Ll ?_;intro va hpa hra hka hria))|refine bj (cs:=[AV.int _ _]) rfl rfl ?_)|(apply gx;first|refine ae rfl ?_|refine ai rfl ?_)|apply aa|apply aI
    have hS2:=hS1.upd 4 (cA va 1 _ _) rfl hra hka hria
    refine aR hj2 ⟨va,?_,hh_⟩
    rw[hsn3,fJ,List.length_append (bs:=32::_)]
    have e2:bn (32::om none)=[AV.int .u8 32]++[AV.int .u8 33]:=rfl
    rw[e2,← List.append_assoc]
    exact hS2
   ·have hxn:In n x:=hxr.resolve_left hx1
    obtain⟨y,hy⟩:=aK (l:=of) (i:=x.toNat) (by have:=hxn.1;have:=hxn.2;omega)
    have hyI:=hofI y (List.mem_of_getElem? hy)
    unfold I32 at hyI
    have hx0:=hxn.1
    have hx2:=hxn.2
    rw[if_neg hx1,List.getD_eq_getElem?_getD,hy,Option.getD_some]at hsn3
    repeat' first|apply ac|(apply gw;first|refine au rx_ ?_|(apply gq2;first|refine aF rx_ ?_|refine aB rfl b_ pv_ ?_)|(apply gq3;first|refine aC rx_ ?_|(refine eK rfl rfl rfl ?_ ?_<;>(intro hc;try omega)))|(apply gq5;first|refine aS rx_ ?_|refine aU rx_ ?_|refine ah rfl rfl hy Ll rfl ?_)|refine aH rfl nt_ ?_)|(apply gx;first|refine ae rfl ?_|refine ak rfl ?_)|apply aa
    refine ci (kC L3 hra Ll y Ll Ll) ?_
    rintro v2 h2 ⟨hv2,hk2,hi2'⟩
    have hS2:=hS1.upd 4 (cA v2 1 _ _) rfl hv2 hk2 hi2'
    have hnt2:=hv2.notTup
    repeat' first|apply ac|(apply gw;first|refine au rx_ ?_|(apply gq3;first|refine aC rx_ ?_|refine aT rfl rfl rfl Ll Ll ?_))|refine ae rfl ?_|apply aa|apply aI
    refine aR hj2 ⟨v2,?_,hh_⟩
    rw[hsn3,fJ,List.length_append (bs:=32::_)]
    have e2:bn (32::om (some y))=[AV.int .u8 32]++bn (dP y):=rfl
    rw[e2,← List.append_assoc,show(32::om (some y)).length=1+(dP y).length from Nat.add_comm _ _,← Nat.add_assoc]
    exact hS2
  ·rw[List.take_of_length_le (l:=ws) (i:=j) Ll]at hv hS
   have hns:v.isStr=false:=by rcases hv with⟨rfl,_⟩|⟨_,_,rfl,_⟩<;>rfl
   generalize dP k++er ws=t at hti hv hS
   clear hwsI hwl2 hwl hws hrl hrx h9 hkI
   have hfl:=jJ (T.take i)
   have hsnT:T.take (i+1)=T.take i++[t]:=aV hti
   have hnl2:=gg (T.take i)
   rw[List.length_take]at hnl2 hfl
   have hm:h'.get im=_:=hS.get (i:=2) rfl
   have hx6:h'.get i6=_:=hS.get (i:=3) rfl
   repeat' first|apply ac|(apply gw;first|refine au rx_ ?_|(apply gq3;first|refine aC rx_ ?_|refine aQ rx_ ?_|(refine aA rfl rfl rfl ?_ ?_<;>(intro hc;try omega))))|(apply gx;first|apply af|refine ae rfl ?_|apply aN|refine ai rfl ?_)|apply aa|apply aO|apply aP|apply aX
   refine lP rfl hns (gd hv) ?_
   skip
   refine jk (key:=AV.str t) rfl rfl rfl hm ?_
   rw[jT oX]
   by_cases hmem:t∈bP (T.take i)
   ·have hfe:bP (T.take (i+1))=bP (T.take i):=by rw[hsnT,jZ,fG,if_pos hmem]
    have hne:hZ (T.take (i+1))=hZ (T.take i)++[dg (bP (T.take i)) t]:=by rw[hsnT,ph,← hsnT,hfe]
    rw[if_pos hmem]
    repeat' first|apply ac|(apply gw;first|refine au rx_ ?_|(apply gq3;first|refine aC rx_ ?_|refine aT rfl rfl rfl Ll Ll ?_)|(apply gq5;first|refine aS rx_ ?_|refine aU rx_ ?_|refine bv rfl rfl Ll Ll ?_)|(apply jI;first|refine bq rx_ ?_|refine bp rx_ ?_|refine bh (v:=AV.int _ _) rfl rfl hg_ rfl rfl b_ sv_ ?_)|refine dh (b:=true) rfl ?_|refine ce rfl rfl ?_)|(apply gx;first|apply af|refine ae rfl ?_|apply ay|refine ai rfl ?_)|apply aa|apply aI
    refine aR hi2 ⟨?_,hh_⟩
    have hcell:((hZ (T.take i)).map gm++List.replicate (of.length-i) (AV.int .i64 0)).set ((i:Int).toNat*1) (AV.int .i64 (dg (bP (T.take i)) t))=(hZ (T.take (i+1))).map gm++List.replicate (of.length-(i+1)) (AV.int .i64 0):=by
     rw[hne,Int.toNat_natCast,Nat.mul_one,lg (by rw[List.length_map,hnl2];omega) Ll]
     simp[gm]
    rw[hcell,hfe]
    exact(hS.put 3 _ rfl).drop 4 rfl (fun _ _=>rfl)
   ·have hfe:bP (T.take (i+1))=bP (T.take i)++[t]:=by rw[hsnT,jZ,fG,if_neg hmem]
    have hne:hZ (T.take (i+1))=hZ (T.take i)++[(bP (T.take i)).length]:=by
     rw[hsnT,ph,← hsnT,hfe,qM hmem]
    rw[if_neg hmem]
    repeat' first|apply ac|(apply gw;first|refine au rx_ ?_|refine bk rx_ ?_|refine dh (b:=false) rfl ?_|refine ce rfl rfl ?_)|(apply gx;first|apply af|refine ae rfl ?_|refine ak rfl ?_)|apply aa
    refine lR rfl hm ?_
    rw[gc]
    repeat' first|apply ac|refine au rx_ ?_|refine ae rfl ?_|apply aa
    refine lP rfl hns (gd hv) ?_
    repeat' first|refine au rx_ ?_
    refine gP (key:=AV.str t) (v:=AV.int _ _) rfl rfl rfl rfl rfl hm ?_
    have he2:=kN oX t (bP (T.take i)) 0 hmem
    rw[Nat.zero_add]at he2
    rw[he2,← hfe]
    have hS1:=hS.put 2 (.map none (bS AV.str 0 (bP (T.take (i+1))))) rfl
    clear hm hx6
    have hm:=hS1.get (i:=2) rfl
    have hx6:=hS1.get (i:=3) rfl
    repeat' first|apply ac|(apply gw;first|refine au rx_ ?_|(apply gq3;first|refine aC rx_ ?_|refine aT rfl rfl rfl Ll Ll ?_)|(apply gq5;first|refine aS rx_ ?_|refine aU rx_ ?_|refine bv rfl rfl Ll Ll ?_)|(apply jI;first|refine bq rx_ ?_|refine bp rx_ ?_|refine bh (v:=AV.int _ _) rfl rfl hg_ rfl rfl b_ sv_ ?_))|refine ae rfl ?_|apply aa|apply aI
    refine aR hi2 ⟨?_,hh_⟩
    have hcell:((hZ (T.take i)).map gm++List.replicate (of.length-i) (AV.int .i64 0)).set ((i:Int).toNat*1) (AV.int .i64 ((bP (T.take i)).length))=(hZ (T.take (i+1))).map gm++List.replicate (of.length-(i+1)) (AV.int .i64 0):=by
     rw[hne,Int.toNat_natCast,Nat.mul_one,lg (by rw[List.length_map,hnl2];omega) Ll]
     simp[gm]
    rw[hcell]
    exact(hS1.put 3 _ rfl).drop 4 rfl (fun _ _=>rfl)
 ·have hii:i=b.next.l.length:=by omega
  rw[List.take_of_length_le (l:=T) (i:=i) Ll]at hS
  rw[show of.length-i=0 by omega,List.replicate_zero,List.append_nil]at hS
  have hx6:h'.get i6=_:=hS.get (i:=3) rfl
  have hnl2:=gg T
  have hrow6:aD h' (.own i6 1 1 0 of.length none) 1 of.length ((hZ T).map gm) := .inr ⟨i6,1,rfl,hx6,Nat.le_refl _,by simp[hnl2,hTl,hofl]⟩
  repeat' first|apply ac|(apply gq3;first|refine aC rx_ ?_|refine aQ rx_ ?_|(refine aA rfl rfl rfl ?_ ?_<;>(intro hc;try omega)))|(apply gx;first|apply af|refine ae rfl ?_|apply aN|refine ai rfl ?_)|apply aa|apply aO|apply aP|apply aX
  refine fk 6 (v := .own i6 1 1 0 of.length none) rfl rfl hrow6 ?_
  intro h2 hk2
  have hS2:=hS.drop 3 (h':=h2) rfl (fun k hk=>hk2 k (by simpa[AV.rowId] using fun e=>hk e.symm))
  have hm:h2.get im=_:=hS2.get (i:=2) rfl
  have hnum:(hZ T).map gm=(ofY R n b.tags.l (q+1)).map (.int .i64):=by
   show _=((hZ (mA R n (ofY R n b.tags.l q))).map fun k:Nat=>(k:Int)).map _
   rw[hT,GR zW,hof,List.map_map]
   rfl
  have hcnt:(bP T).length=pB R n of:=by rw[hT,uE zW,List.length_map];rfl
  have hc2:sr R n b.tags.l (q+1)=pB R n of:=by rw[hof];rfl
  have hpos:=HA (R:=R) hn1 of
  have hle:=CE R n of
  have hln:(ofY R n b.tags.l (q+1)).length=n:=uk R hnn.symm (q+1)
  have hlast:sr R n b.tags.l q≤pB R n of:=by
   cases q with
   | zero=>exact Nat.zero_le _
   | succ q=>rw[hof];exact(w5 R n _).1
  rw[hnum,show of.length=(ofY R n b.tags.l (q+1)).length by omega]
  repeat' first|apply ac|(apply gw;first|refine au rx_ ?_|refine bk rx_ ?_)|(apply gx;first|apply af|refine ae rfl ?_)|apply aa
  refine lR rfl hm ?_
  rw[gc,hcnt]
  repeat' first|apply ac|(apply gw;first|refine au rx_ ?_|(apply gq3;first|refine aC rx_ ?_|refine aQ rx_ ?_|(refine dd rfl rfl rfl ?_ ?_<;>(intro hc;try omega)))|refine bk rx_ ?_)|(apply gx;first|apply af|refine ae rfl ?_|apply ay|apply aM|apply aN|refine ak rfl ?_|refine ai rfl ?_)|apply aa|apply aO|apply aP|refine oP rfl ?_|apply aX
  ·cases q with
   | zero=>exfalso;simp only[sr]at hc;omega
   | succ q =>
    refine aJ rfl ⟨_,rfl,by omega,GQ hn ht _,?_⟩
    have hc3:pB R n (ofY R n b.tags.l q)=pB R n (ofY R n b.tags.l (q+1)):=by
     simp only[sr]at hc
     rw[hof]at hc
     omega
    rw[← hnn,← hR]
    refine jK.congr ?_ (Fm (p:=256) ?_ hc3)
    ·intro s hs
     have hs1:=hs.1
     have hs2:=hs.2
     obtain⟨y,hy⟩:=aK (l:=b.tags.l) (i:=s.toNat) Ll
     simp[PD.tag,Bm.plain,hy]
    ·rw[hR,hnn]
     exact hb.tab
  ·refine lR rfl hm ?_
   rw[gc,hcnt]
   repeat' first|apply ac|refine au rx_ ?_|apply aI
   refine fp _ ?_ ⟨q+1,_,_,rfl,rfl,hS2.weak ?_,by rw[hc2];exact hh_⟩
   ·omega
   ·exact .cons_cons _ (.cons_cons _ (List.nil_sublist _))
end
end Go.Proofs.YtlnobeojgifojaaGreatDoor
