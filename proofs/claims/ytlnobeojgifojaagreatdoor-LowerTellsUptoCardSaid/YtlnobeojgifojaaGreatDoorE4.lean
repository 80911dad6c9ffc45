/- Which states are live. -/
import Derived.Test.YtlnobeojgifojaaGreatDoorE3
import Derived.Test.YtlnobeojgifojaaGreatDoorP2
set_option linter.unusedVariables false
set_option linter.unusedSimpArgs false
namespace Go.Proofs.YtlnobeojgifojaaGreatDoor
section
open Go
set_option maxHeartbeats 4000000
theorem xu {F:bZ}{r:List bK}{Q:Env→ad→Prop}{env:Env}{h:ad}{x y:bA}{id g o:Nat}{cs cs':List AV}{v:AV}(hx:ev env x = .ptr id g o)(hv:ev env y=v)(hval:v.isVal=true)(hc1:v.cells=[v])(hg:h.get id=some (.cells g cs))(hb:o+1≤cs.length)(hc:cs.set o v=cs')(k:az F r Q env (h.set id (.cells g cs'))):az F (⟨none,.store 1 x y,none⟩::r) Q env h :=
 bh hx hv hg hval (by rw[hc1];rfl) hb (by rw[hc1];exact hc) k
attribute [local irreducible] az bf bm de bz cw dH bJ wop cz bc
@[reducible] def iC (l:List Int):List AV:=l.map (.int .i64)
@[reducible] def bC (l:List Bool):List AV:=l.map .bool
def ly (rows:List (List Int))(s:Int):List Int:=rows.getD s.toNat []
def tC (T:List Int)(s:Int):Int:=T.getD s.toNat (-1)
structure lu (h0 h:ad)(ib ibk iout:Nat)(box:List AV)(bws:List AV)(bs:List (List Int))(os:List Bool)(vl:AV)(ll:List AV):Prop where
 ne:ib≠ibk∧ib≠iout∧ibk≠iout
 box:h.get ib=some (.cells 0 box)
 grid:eG h ibk bws (bs.map iC)
 out:h.get iout=some (.cells 1 (bC os))
 left:aD h vl 1 ll.length ll
 old:∀ k,h0.get k≠none→h.get k=h0.get k
 new:h0.get ib=none∧h0.get iout=none∧(∀ k,fX ibk bws k→h0.get k=none)∧(∀ k,vl.rowId=some k→h0.get k=none)
 gap:∀ k,fX ibk bws k→k≠ib∧k≠iout∧vl.rowId≠some k
 lap:∀ k,vl.rowId=some k→k≠ib∧k≠iout
theorem lu.mark {h0 h:ad}{ib ibk iout:Nat}{box bws:List AV}{bs:List (List Int)}{os:List Bool}{vl:AV}{ll:List AV}(hA:lu h0 h ib ibk iout box bws bs os vl ll)(os':List Bool):lu h0 (h.set iout (.cells 1 (bC os'))) ib ibk iout box bws bs os' vl ll:=by
 obtain⟨n1,n2,n3⟩:=hA.ne
 refine⟨hA.ne,(ad.get_set_ne _ _ n2).trans hA.box,hA.grid.keep fun k hk=>ad.get_set_ne _ _ (hA.gap k hk).2.1,ad.get_set_self _ _ _,hA.left.set_ne fun e=>(hA.lap _ e).2 rfl,fun k hk=>?_,hA.new,hA.gap,hA.lap⟩
 rw[ad.get_set_ne _ _ (fun e=>by subst e;exact hk hA.new.2.1)]
 exact hA.old k hk
theorem lu.back {h0 h hpa:ad}{ib ibk iout:Nat}{box bws:List AV}{bs:List (List Int)}{os:List Bool}{vl:AV}{ll:List AV}(hA:lu h0 h ib ibk iout box bws bs os vl ll){t:Nat}{w va:AV}{r:List Int}(hw:bws[t]?=some w)
  (hra:aD hpa va 1 r.length (iC r)) (hka:∀ k,h.get k≠none→w.rowId≠some k→hpa.get k=h.get k) (hria:∀ k,va.rowId=some k→w.rowId=some k∨h.get k=none) :
  lu h0 (hpa.set ibk (.cells 1 (bws.set t va))) ib ibk iout box (bws.set t va) (bs.set t r) os vl ll:=by
 obtain⟨n1,n2,n3⟩:=hA.ne
 have hwm:=List.mem_of_getElem? hw
 obtain⟨hG,hsub⟩:=hA.grid.put (r:=iC r) hw (by simpa using hra) hka hria
 rw[← List.map_set]at hG
 have hin:∀ {k},w.rowId=some k→fX ibk bws k:=fun hk => .inr ⟨w,hwm,hk⟩
 have keep:∀ k o,h.get k=some o→¬ fX ibk bws k→(hpa.set ibk (.cells 1 (bws.set t va))).get k=some o:=fun k o ho hk=>by
  rw[ad.get_set_ne _ _ (fun e=>hk (.inl e)),hka k (by rw[ho];simp) (fun e=>hk (hin e)),ho]
 have lrow:aD (hpa.set ibk (.cells 1 (bws.set t va))) vl 1 ll.length ll:=hA.left.keep fun k hk=>by
  have hng:¬ fX ibk bws k:=fun hg=>(hA.gap k hg).2.2 hk
  rw[ad.get_set_ne _ _ (fun e=>hng (.inl e)),hka k (hA.left.there hk) (fun e=>hng (hin e))]
 refine⟨hA.ne,keep _ _ hA.box fun hg=>(hA.gap _ hg).1 rfl,hG,keep _ _ hA.out fun hg=>(hA.gap _ hg).2.1 rfl,lrow,fun k hk=>?_,⟨hA.new.1,hA.new.2.1,fun k hk=>?_,hA.new.2.2.2⟩,fun k hk=>?_,hA.lap⟩
 ·have h1:¬ fX ibk bws k:=fun hg=>hk (hA.new.2.2.1 k hg)
  rw[ad.get_set_ne _ _ (fun e=>h1 (.inl e)),hka k (by rw[hA.old k hk];exact hk) (fun e=>h1 (hin e)),hA.old k hk]
 ·rcases hsub k hk with h1|h1
  ·exact hA.new.2.2.1 k h1
  ·apply Classical.byContradiction
   intro hn
   rw[hA.old k hn]at h1
   exact hn h1
 ·rcases hsub k hk with h1|h1
  ·exact hA.gap k h1
  ·refine⟨?_,?_,fun e=>?_⟩
   ·rintro rfl;rw[hA.box]at h1;cases h1
   ·rintro rfl;rw[hA.out]at h1;cases h1
   ·exact hA.left.there e h1
theorem lu.push {h0 h hpa:ad}{ib ibk iout:Nat}{box bws:List AV}{bs:List (List Int)}{os:List Bool}{vl va:AV}{ll ll':List AV}(hA:lu h0 h ib ibk iout box bws bs os vl ll)
  (hra:aD hpa va 1 ll'.length ll') (hka:∀ k,h.get k≠none→vl.rowId≠some k→hpa.get k=h.get k) (hria:∀ k,va.rowId=some k→vl.rowId=some k∨h.get k=none):lu h0 hpa ib ibk iout box bws bs os va ll':=by
 have keep:∀ k o,h.get k=some o→vl.rowId≠some k→hpa.get k=some o:=fun k o ho hk=>(hka k (by rw[ho];simp) hk).trans ho
 have new:∀ k,va.rowId=some k→h0.get k=none:=fun k hk=>by
  rcases hria k hk with h1|h1
  ·exact hA.new.2.2.2 k h1
  ·apply Classical.byContradiction
   intro hn
   rw[hA.old k hn]at h1
   exact hn h1
 refine⟨hA.ne,keep _ _ hA.box fun e=>(hA.lap _ e).1 rfl,hA.grid.keep fun k hk=>hka k (hA.grid.there hk) (hA.gap k hk).2.2,keep _ _ hA.out fun e=>(hA.lap _ e).2 rfl,hra,fun k hk=>?_,⟨hA.new.1,hA.new.2.1,hA.new.2.2.1,new⟩,fun k hk=>?_,fun k hk=>?_⟩
 ·rw[hka k (by rw[hA.old k hk];exact hk) (fun e=>hk (hA.new.2.2.2 k e)),hA.old k hk]
 ·obtain⟨a1,a2,a3⟩:=hA.gap k hk
  refine⟨a1,a2,fun e=>?_⟩
  rcases hria k e with h1|h1
  ·exact a3 h1
  ·exact hA.grid.there hk h1
 ·rcases hria k hk with h1|h1
  ·exact hA.lap k h1
  ·refine⟨?_,?_⟩
   ·rintro rfl;rw[hA.box]at h1;cases h1
   ·rintro rfl;rw[hA.out]at h1;cases h1
set_option maxRecDepth 100000 in
theorem IL {Φ:Lib}(L:cJ Φ){h:ad}{P:AV}{T:Rw Int}{inx p:Nat}{ws:List AV}{rows:List (List Int)}(hG:eG h inx ws (rows.map iC))(hT:T.l.length=rows.length)(hn:rows.length≤2000)(hp:p≤2000)(hr:∀ r∈rows,r.length=p∧∀ x∈r,x = -1∨In rows.length x) :
  bc Φ 115 [.agg [P,.own inx 1 1 0 rows.length none,T.iv]] h (fun v h'=>(∃ os:List Bool,v = .rd rows.length (bC os) false∧os.length=rows.length∧∀ s,In rows.length s→(os.getD s.toNat false=true↔lD rows.length (ly rows) (tC T.l) s))∧∀ k,h.get k≠none→h'.get k=h.get k):=by
 have hTab:Tab rows.length p (ly rows):=by
  have key:∀ s,In rows.length s→ly rows s∈rows:=fun s hs=>jB (by unfold In at hs;omega)
  exact⟨fun s hs=>(hr _ (key s hs)).1,fun s hs=>(hr _ (key s hs)).2⟩
 refine ba (fun o=>o == some 25) rfl L.f115 ?_
 repeat' first|apply ac|(apply gw;first|(apply gq0;first|refine aq rfl ?_|refine aG rfl ?_|refine au (v:=AV.own _ _ _ _ _ _) rfl ?_)|refine am rfl hg_ Lm b_ pv_ ?_|refine ar rfl (Nat.zero_add _) ?_|(apply gq6;first|refine aw rfl ?_|refine eS rfl ?_)|(refine gQ (v:=AV.agg _) rfl rfl ?_;intro id hid;try simp only[ad.set_none]at hid)|(refine ix rfl rfl Ll Ll ?_;intro id hid;try simp only[ad.set_none]at hid))|(apply gx;first|apply af|refine ae rfl ?_|apply al)|apply aa
 rename_i ib hib ibk hibk
 have hne:∀ {k},h.get k≠none→k≠ib∧k≠ibk∧k≠id:=fun hk=>⟨fun e=>hk (e ▸ hib),fun e=>hk (e ▸ hibk.2),fun e=>hk (e ▸ hid.2.2)⟩
 have hstart:lu h (((h.set ib (.cells 0 [P,.own inx 1 1 0 rows.length none,T.iv])).set ibk (.cells 1 (List.replicate T.l.length (.rd 0 [] true)))).set id (.cells 1 (bC (kU T.l T.l.length 0)))) ib ibk id [P,.own inx 1 1 0 rows.length none,T.iv] (List.replicate T.l.length (.rd 0 [] true)) (List.replicate T.l.length []) (kU T.l T.l.length 0) (.rd 0 [] true) ((pA T.l 0).map gm):=by
  have hg:∀ k,fX ibk (List.replicate T.l.length (AV.rd 0 [] true)) k→k=ibk:=fun k hk=>by
   rcases hk with h1|⟨w,hw,h1⟩
   ·exact h1
   ·rw[List.mem_replicate]at hw
    rw[hw.2]at h1;cases h1
  refine⟨⟨hibk.1.symm,hid.2.1.symm,hid.1.symm⟩,?_,?_,ad.get_set_self _ _ _,aD.nil _ _,fun k hk=>?_,⟨hib,hid.2.2,fun k hk=>by rw[hg k hk];exact hibk.2,fun k hk=>by cases hk⟩,fun k hk=>?_,fun k hk=>by cases hk⟩
  ·rw[ad.get_set_ne _ _ hid.2.1.symm,ad.get_set_ne _ _ hibk.1.symm,ad.get_set_self]
  ·have:=eG.begin (h:=(((h.set ib (.cells 0 [P,.own inx 1 1 0 rows.length none,T.iv])).set ibk (.cells 1 (List.replicate T.l.length (.rd 0 [] true)))).set id (.cells 1 (bC (kU T.l T.l.length 0))))) (id:=ibk) (n:=T.l.length) (by rw[ad.get_set_ne _ _ hid.1.symm,ad.get_set_self])
   simpa using this
  ·obtain⟨h1,h2,h3⟩:=hne hk
   rw[ad.get_set_ne _ _ h3,ad.get_set_ne _ _ h2,ad.get_set_ne _ _ h1]
  ·have:=hg k hk
   subst this
   exact⟨hibk.1,hid.1.symm,by simp[AV.rowId]⟩
 have e1:(List.replicate (T.l.length:Int).toNat [AV.rd 0 [] true]).flatten=List.replicate T.l.length (.rd 0 [] true):=jn _ _
 have e2:(List.replicate (T.l.length:Int).toNat [AV.bool false]).flatten=bC (kU T.l T.l.length 0):=by
  rw[jn]
  refine List.ext_getElem (by simp[kU]) fun q h1 h2=>?_
  simp[kU]
 rw[e1,e2]
 refine bD rows.length (fun i env h'=>∃ bws bs vl,lu h h' ib ibk id [P,.own inx 1 1 0 rows.length none,T.iv] bws bs (kU T.l T.l.length i) vl ((pA T.l i).map gm)∧jH rows.length (ly rows) i (fun _=>False) bs∧(∀ b∈bs,b.length≤i*2000)∧env.has [(1,.ptr ib 0 0),(3,.own ibk 1 1 0 T.l.length none),(4,.own id 1 1 0 T.l.length none),(5,vl),(22,.own inx 1 1 0 rows.length none),(23,.int .i64 rows.length),(24,.int .i64 i)]) ⟨_,_,_,hstart,by rw[hT];exact jH.begin _ _,fun b hb=>by rw[List.mem_replicate]at hb;rw[hb.2];simp,hh_⟩ ?_
 clear hstart e1 e2
 rintro i env h' hi ⟨bws,bs,vl,hA,hB,hbl,he⟩
 obtain⟨env,rfl⟩:=he.ex
 clear he
 have hll:=yW T.l i
 by_cases hi2:i<rows.length
 ·obtain⟨r,hri⟩:=aK hi2
  obtain⟨rl,rto⟩:=hr r (List.mem_of_getElem? hri)
  have hrof:ly rows i=r:=by simp[ly,List.getD_eq_getElem?_getD,hri]
  obtain⟨w,hw⟩:=aK (l:=ws) (i:=i) (by have:=hG.len;simp at this;omega)
  obtain⟨t,ht⟩:=aK (l:=T.l) (i:=i) Ll
  have hGx:∀ {h':ad},(∀ k,h.get k≠none→h'.get k=h.get k)→h'.get inx=some (.cells 1 ws)∧aD h' w 1 r.length (iC r):=fun ho=>by
   refine⟨(ho _ (by rw[hG.at_];simp)).trans hG.at_,?_⟩
   have:=hG.row (r:=iC r) hw (by rw[List.getElem?_map,hri];rfl)
   rw[List.length_map]at this
   exact this.keep fun k hk=>ho k (this.there hk)
  obtain⟨hx1,hw1⟩:=hGx hA.old
  apply af
  refine jN rfl ?_
  have hbox:=hA.box
  repeat' first|apply ac|(apply gw;first|(apply gq0;first|refine aq rfl ?_|refine au rv_ ?_)|refine jW (g:=_) rfl hg_ hw eq_ Lm ?_|(refine aA rfl rfl rfl ?_ ?_<;>(intro hc;try omega))|refine bv rfl rfl Ll Ll ?_|refine eR rv_ (by assumption) ?_)|(apply gx;first|apply af|refine ae rfl ?_|apply ay|apply al|refine ak rfl ?_)|apply aa
  refine bD r.length (fun j env h'=>∃ bws bs,lu h h' ib ibk id [P,.own inx 1 1 0 rows.length none,T.iv] bws bs (kU T.l T.l.length i) vl ((pA T.l i).map gm)∧jH rows.length (ly rows) i (fun t=>t∈r.take j) bs∧(∀ b∈bs,b.length≤i*2000+j)∧env.has [(1,.ptr ib 0 0),(3,.own ibk 1 1 0 T.l.length none),(4,.own id 1 1 0 T.l.length none),(5,vl),(6,.int .i64 i),(22,.own inx 1 1 0 rows.length none),(23,.int .i64 rows.length),(24,.int .i64 i),(29,w),(30,.int .i64 r.length),(31,.int .i64 j)]) ⟨bws,bs,hA,hB.iff Lm,fun b hb=>by have:=hbl b hb;omega,hh_⟩ ?_
  clear hA hB hbl hx1 hw1 hbox
  rintro j env h' hj ⟨bws,bs,hA,hB,hbl,he⟩
  obtain⟨env,rfl⟩:=he.ex
  clear he
  obtain⟨hx1,hw1⟩:=hGx hA.old
  have hbsl:=hB.len
  have hbwl:=hA.grid.len
  rw[List.length_map]at hbwl
  by_cases hj2:j<r.length
  ·obtain⟨x,hx⟩:=aK hj2
   have hxo:=rto x (List.mem_of_getElem? hx)
   by_cases hx1:x = -1
   ·repeat' first|apply ac|(apply gw;first|refine aq rfl ?_|refine eH (g:=_) rfl hg_ hx eq_ ?_|(apply gq3;first|refine aT rfl rfl rfl Ll Ll ?_|((first|refine aA rfl rfl rfl ?_ ?_|refine eK rfl rfl rfl ?_ ?_)<;>(intro hc;try omega)))|(refine cY rv_ (by assumption) rfl Ll Ll ?_;intro ir gr hvr hgr hgp;have hner:=ad.ne_of hgr;have hner2:=ad.ne_of2 hgr))|(apply gx;first|apply af|refine ae rfl ?_|apply ay|apply al|refine ak rfl ?_|refine ai rfl ?_)|apply aa|apply aI
    refine aR hj2 ⟨bws,bs,hA,hB.iff fun t=>?_,fun b hb=>by have:=hbl b hb;omega,hh_⟩
    rw[aV hx,List.mem_append,List.mem_singleton]
    have:((t:Int)=x)=False:=eq_false fun e=>by omega
    rw[this,or_false]
   ·have hxi:=hxo.resolve_left hx1
    have hxn:x=(x.toNat:Int):=by unfold In at hxi;omega
    obtain⟨bw,hbw⟩:=aK (l:=bws) (i:=x.toNat) (by unfold In at hxi;omega)
    obtain⟨b,hb⟩:=aK (l:=bs) (i:=x.toNat) (by unfold In at hxi;omega)
    have hbr:aD h' bw 1 b.length (iC b):=by
     have:=hA.grid.row (r:=iC b) hbw (by rw[List.getElem?_map,hb];rfl)
     rwa [List.length_map]at this
    have hbl2:=hbl b (List.mem_of_getElem? hb)
    have hgrid:=hA.grid.at_
    repeat' first|apply ac|(apply gw;first|(apply gq0;first|refine aq rfl ?_|refine au (v:=AV.own _ _ _ _ _ _) rfl ?_)|refine eH (g:=_) rfl hg_ hx eq_ ?_|(apply gq3;first|((first|refine aA rfl rfl rfl ?_ ?_|refine eK rfl rfl rfl ?_ ?_)<;>(intro hc;try omega)))|(refine cY rv_ (by assumption) rfl Ll Ll ?_;intro ir gr hvr hgr hgp;have hner:=ad.ne_of hgr;have hner2:=ad.ne_of2 hgr))|(apply gx;first|apply af|refine ae rfl ?_|apply ay|apply al|refine ak rfl ?_)|apply aa
    refine bv rfl rfl (by unfold In at hxi;omega) (by unfold In at hxi;omega) ?_
    repeat' first|(apply gw;first|refine aq rfl ?_|refine jW (g:=_) rfl hg_ hbw eq_ Lm ?_|(refine aY (m:=1) rv_ ir_ rfl rfl Ll ?_;intro va hpa hra hka hria)|refine bj (cs:=[AV.int _ _]) rfl rfl ?_)
    refine bv rfl rfl (by unfold In at hxi;omega) (by unfold In at hxi;omega) ?_
    have hg2:hpa.get ibk=some (.cells 1 bws):=by
     rw[hka ibk (by rw[hgrid];simp) (fun e=>hA.grid.apart bw (List.mem_of_getElem? hbw) _ e rfl),hgrid]
    refine ck (v:=va) (cs':=bws.set x.toNat va) rfl rfl hra hg2 (by have:=lt_of_getElem? hbw;omega) (by rw[Nat.zero_add,Nat.mul_one]) ?_
    repeat' first|apply ac|(apply gw;first|refine aq rfl ?_|refine aT rfl rfl rfl Ll Ll ?_)|refine ae rfl ?_|apply aa|apply aI
    refine aR hj2 ⟨_,_,hA.back hbw (r:=b++[(i:Int)]) (by simpa using hra) hka hria,?_,fun q hq=>?_,hh_⟩
    ·have h1:=hB.add (x:=x.toNat) (by unfold In at hxi;omega)
     rw[show bs.getD x.toNat []=b by simp[List.getD_eq_getElem?_getD,hb]]at h1
     refine h1.iff fun t=>?_
     rw[aV hx,List.mem_append,List.mem_singleton,← hxn]
    ·rcases List.mem_or_eq_of_mem_set hq with hq|rfl
     ·have:=hbl q hq;omega
     ·simp;omega
  ·rw[List.take_of_length_le Ll]at hB
   have hB2:=(show jH rows.length (ly rows) i (fun t=>t∈ly rows i) bs by rw[hrof];exact hB).next
   have hbl2:∀ b∈bs,b.length≤(i+1)*2000:=fun b hb=>by have:=hbl b hb;omega
   have htg:T.l.getD i (-1)=t:=by simp[List.getD_eq_getElem?_getD,ht]
   have hbox:=hA.box
   have hout:=hA.out
   have hleft:=hA.left
   rw[List.length_map]at hleft
   by_cases ht0:0≤t
   ·have es:=wi (T:=T.l) (n:=T.l.length) (i:=i) Ll
    rw[htg,if_pos ht0]at es
    have el:=wh T.l i
    rw[htg,if_pos ht0]at el
    have hA2:=hA.mark ((kU T.l T.l.length i).set i true)
    have hleft2:=hA2.left
    rw[List.length_map]at hleft2
    repeat' first|apply ac|(apply gw;first|(apply gq0;first|refine aq rfl ?_|refine au (v:=AV.own _ _ _ _ _ _) rfl ?_)|(apply gq2;first|refine aB rfl b_ pv_ ?_|refine am rfl hg_ Lm b_ pv_ ?_)|(apply gq3;first|((first|refine aA rfl rfl rfl ?_ ?_|refine iy rfl rfl rfl ?_ ?_)<;>(intro hc;try omega)))|refine ar rfl (Nat.zero_add _) ?_|(apply gq5;first|refine ah rfl rfl ht Ll rfl ?_|refine bv rfl rfl Ll Ll ?_))|(apply gx;first|apply af|refine ae rfl ?_|apply aN|refine ak rfl ?_|refine ai rfl ?_)|apply aa|apply aO|apply aP|apply aX
    refine rC (f:=AV.bool) (l:=kU T.l T.l.length i) (a':=true) (m:=i) rfl rfl hout Ll (by simp[kU];omega) rfl rfl rfl ?_
    repeat' first|apply ac|(apply gw;first|(apply gq0;first|refine aq rfl ?_|refine au rv_ ?_)|refine aT rfl rfl rfl Ll Ll ?_|(refine aY (m:=1) rv_ ir_ rfl rfl Ll ?_;intro va hpa hra hka hria)|refine bj (cs:=[AV.int _ _]) rfl rfl ?_)|refine ae rfl ?_|apply aa|apply aI
    refine aR hi2 ⟨bws,bs,va,?_,hB2,hbl2,hh_⟩
    rw[es,el]
    exact hA2.push (by simpa[gm] using hra) hka hria
   ·have es:=wi (T:=T.l) (n:=T.l.length) (i:=i) Ll
    rw[htg,if_neg ht0]at es
    have el:=wh T.l i
    rw[htg,if_neg ht0,List.append_nil]at el
    repeat' first|apply ac|(apply gw;first|refine aq rfl ?_|(apply gq2;first|refine aB rfl b_ pv_ ?_|refine am rfl hg_ Lm b_ pv_ ?_)|(apply gq3;first|refine aT rfl rfl rfl Ll Ll ?_|((first|refine aA rfl rfl rfl ?_ ?_|refine iy rfl rfl rfl ?_ ?_)<;>(intro hc;try omega)))|refine ar rfl (Nat.zero_add _) ?_|refine ah rfl rfl ht Ll rfl ?_)|(apply gx;first|apply af|refine ae rfl ?_|apply ay|apply aN|refine ai rfl ?_)|apply aa|apply aO|apply aI|apply aP|apply aX
    refine aR hi2 ⟨bws,bs,vl,by rw[es,el];exact hA,hB2,hbl2,hh_⟩
 ·have hi3:i=rows.length:=by omega
  subst hi3
  have hbsl:=hB.len
  apply af
  refine AN 3 (id:=ibk) (ws:=bws) (rows:=bs.map iC) rfl (by rw[List.length_map,hbsl,← hT];rfl) hA.grid ?_
  intro h2 hk2
  have e3:AV.rd (bs.map iC).length ((bs.map iC).map fun r => .rd r.length r false) false = .rd (bs.map fun l=>Rw.mk l false).length ((bs.map fun l=>Rw.mk l false).map Rw.iv) false:=by
   rw[List.length_map,List.length_map,List.map_map,List.map_map]
   congr 1
   apply List.map_congr_left
   intro l _
   simp
  rw[e3]
  generalize hBR:bs.map (fun l=>Rw.mk l false)=BR
  have hBRl:BR.length=rows.length:=by rw[← hBR,List.length_map,hbsl]
  have hng:∀ k,h.get k≠none→¬ fX ibk bws k:=fun k hk hg=>hk (hA.new.2.2.1 k hg)
  have hold2:∀ k,h.get k≠none→h2.get k=h.get k:=fun k hk=>(hk2 k (hng k hk)).trans (hA.old k hk)
  have hout2:h2.get id=some (.cells 1 (bC (kU T.l rows.length rows.length))):=by
   rw[hk2 id (fun hg=>(hA.gap id hg).2.1 rfl),hA.out,hT]
  have hleft2:aD h2 vl 1 (pA T.l rows.length).length ((pA T.l rows.length).map gm):=by
   have:=hA.left
   rw[List.length_map]at this
   exact this.keep fun k hk=>hk2 k fun hg=>(hA.gap k hg).2.2 hk
  have hlid:vl.rowId≠some id:=fun e=>(hA.lap _ e).2 rfl
  have hlnew:=hA.new.2.2.2
  have hcnt:=Dd T.l rows.length
  have hinv:eV rows.length (ly rows) (tC T.l) bs (kU T.l rows.length rows.length) (pA T.l rows.length) (fun _=>False) (fun _=>True):=Ib
  clear hA hk2 hng
  repeat' first|apply ac|(refine aA rfl rfl rfl ?_ ?_<;>(intro hc;try omega))|(apply gx;first|apply af|apply al|apply aN|refine ai rfl ?_)|apply aa|apply aO|apply aP|apply aX
  refine gL (fun m env h'=>∃ os ls vl,m=2*os.count false+ls.length∧eV rows.length (ly rows) (tC T.l) bs os ls (fun _=>False) (fun _=>True)∧h'.get id=some (.cells 1 (bC os))∧iP h' vl 1 ls.length (ls.map gm)∧vl.rowId≠some id∧(∀ k,vl.rowId=some k→h.get k=none)∧(∀ k,h.get k≠none→h'.get k=h.get k)∧ls.length+os.count false≤rows.length∧env.has [(3,.rd BR.length (BR.map Rw.iv) false),(4,.own id 1 1 0 T.l.length none),(5,vl)]) _ ⟨_,_,vl,rfl,hinv,hout2,hleft2.pre,hlid,hlnew,hold2,by omega,hh_⟩ ?_
  clear hinv hout2 hleft2 hlid hlnew hold2 hcnt
  rintro m env h' ⟨os,ls,vl,rfl,hI,hout,hleft,hlid,hlnew,hold,hcnt,he⟩
  obtain⟨env,rfl⟩:=he.ex
  clear he
  have hnt:vl.isTup=false:=by rcases hleft with⟨rfl,_⟩|⟨_,_,_,rfl,_⟩<;>rfl
  have hol:=hI.len
  rcases tK ls with rfl|⟨ls,q,rfl⟩
  ·have hl0:([]:List Nat).length=0:=rfl
   apply af
   repeat' first|apply ac|(apply gw;first|(apply gq0;first|refine au (v:=AV.own _ _ _ _ _ _) rfl ?_|refine au rv_ ?_)|(refine cN rfl rfl rfl ?_ ?_<;>(intro hc;try omega))|refine tD rv_ (by assumption) ?_)|(apply gx;first|apply af|refine ae rfl ?_|apply aM|apply aN|refine ai rfl ?_)|apply aa|apply aO|apply aP|apply aX
   have hrow:aD h' (.own id 1 1 0 T.l.length none) 1 T.l.length (bC os) := .inr ⟨id,1,rfl,hout,Nat.le_refl _,by simp;omega⟩
   refine CB rfl hrow.app fun h3 hk3=>⟨⟨os,by rw[hT],hol,fun s hs=>hI.done hTab hB hs⟩,fun k hk=>?_⟩
   rw[hk3 k (fun e=>hk (by cases e;exact hid.2.2)),hold k hk]
  ·have hl0:(ls++[q]).length=ls.length+1:=by simp
   have hls:(ls++[q])[ls.length]?=some q:=by simp
   have hq:q<rows.length:=by
    have:=(List.getElem?_eq_some_iff.1 (hI.left q Lm)).1
    omega
   obtain⟨b,hb⟩:=aK (l:=bs) (i:=q) Ll
   have hbR:BR[q]?=some ⟨b,false⟩:=by rw[← hBR,List.getElem?_map,hb];rfl
   have hbd:bs.getD q []=b:=by simp[List.getD_eq_getElem?_getD,hb]
   have hbl2:=hbl b (List.mem_of_getElem? hb)
   have hpop:=hI.pop
   apply af
   repeat' first|apply ac|(apply gw;first|(apply gq0;first|refine aq rfl ?_|refine aG rfl ?_|refine au (v:=AV.own _ _ _ _ _ _) rfl ?_|refine au rv_ ?_)|(apply gq2;first|refine aB rfl b_ pv_ ?_|refine sM (g:=_) rfl hg_ (by assumption) (by assumption) eq_ ?_)|(apply gq3;first|refine jj rfl rfl rfl Ll Ll ?_|(refine cN rfl rfl rfl ?_ ?_<;>(intro hc;try omega)))|(apply gq5;first|refine ah rfl rfl hbR Ll rfl ?_|(refine xA rv_ (by assumption) rfl Ll Ll ?_;intro ir gr allr hvr hgr hgp hlr htr;have hner:=ad.ne_of hgr;have hner2:=ad.ne_of2 hgr))|(apply gq6;first|refine aw rfl ?_|refine tD rv_ (by assumption) ?_)|refine nO (by assumption) rfl Ll Ll ?_)|(apply gx;first|apply af|refine ae rfl ?_|apply ay|apply al|refine ak rfl ?_)|apply aa
   have hl1:(((ls++[q]).length:Int)-1).toNat=ls.length:=by omega
   rw[hl1]
   have hlir:ir≠id:=fun e=>hlid (by rw[hvr,e];rfl)
   have hlh:h.get ir=none:=hlnew ir (by rw[hvr];rfl)
   have hleft2:iP h' (.own ir gr 1 0 ls.length none) 1 ls.length (ls.map gm):=by
    refine .inr ⟨ir,gr,allr,rfl,hgr,hgp,by omega,?_⟩
    have h1:(allr.take ((ls++[q]).length*1)).take (ls.length*1)=ls.map gm:=by
     rw[htr,List.map_append,Nat.mul_one]
     simp
    rwa [List.take_take,Nat.min_eq_left Ll]at h1
   refine bD b.length (fun j env h'=>∃ os' ls' vl,eV rows.length (ly rows) (tC T.l) bs os' ls' (fun x=>x=q) (fun f=>f∈b.take j)∧h'.get id=some (.cells 1 (bC os'))∧iP h' vl 1 ls'.length (ls'.map gm)∧vl.rowId≠some id∧(∀ k,vl.rowId=some k→h.get k=none)∧(∀ k,h.get k≠none→h'.get k=h.get k)∧ls'.length+os'.count false+1≤rows.length∧2*os'.count false+ls'.length+1≤2*os.count false+(ls++[q]).length∧env.has [(3,.rd BR.length (BR.map Rw.iv) false),(4,.own id 1 1 0 T.l.length none),(5,vl),(79,.rd b.length (b.map (.int .i64)) false),(80,.int .i64 b.length),(81,.int .i64 j)]) ⟨os,ls,_,hpop.iff Lm,hout,hleft2,by simpa[AV.rowId] using hlir,(fun k hk=>by cases hk;exact hlh),hold,by omega,by omega,hh_⟩ ?_
   clear hout hleft hleft2 hlid hlnew hold hnt hgr htr hlr hner hner2 hvr hpop hlir hlh hol
   rintro j env h' hj ⟨os',ls',vl,hI,hout,hleft,hlid,hlnew,hold,hcnt2,hdec,he⟩
   obtain⟨env,rfl⟩:=he.ex
   clear he
   have hnt:vl.isTup=false:=by rcases hleft with⟨rfl,_⟩|⟨_,_,_,rfl,_⟩<;>rfl
   have hol:=hI.len
   by_cases hj2:j<b.length
   ·obtain⟨x,hx⟩:=aK hj2
    have hxm:x∈bs.getD q []:=by rw[hbd];exact List.mem_of_getElem? hx
    have hxb:0≤x∧x<rows.length∧(q:Int)∈ly rows x:=by
     rcases (hB.mem q hq x).1 hxm with h1|h1
     ·exact h1
     ·exact h1.2.elim
    have hxi:In rows.length x:=⟨hxb.1,hxb.2.1⟩
    have hxn:x=(x.toNat:Int):=by omega
    obtain⟨o,ho⟩:=aK (l:=os') (i:=x.toNat) Ll
    have hsn:∀ f,f∈b.take (j+1)→f∈b.take j∨f=x:=fun f hf=>by
     rw[aV hx,List.mem_append,List.mem_singleton]at hf
     exact hf
    repeat' first|apply ac|(apply gw;first|(apply gq0;first|refine aq rfl ?_|refine au (v:=AV.own _ _ _ _ _ _) rfl ?_)|(apply gq2;first|refine eH (g:=_) rfl hg_ ho eq_ ?_|refine aB rfl b_ pv_ ?_)|(refine aA rfl rfl rfl ?_ ?_<;>(intro hc;try omega))|(apply gq5;first|refine ah rfl rfl hx Ll rfl ?_|refine bv rfl rfl Ll Ll ?_)|refine dh rfl ?_)|(apply gx;first|apply af|refine ae rfl ?_|apply ay|apply al|refine ak rfl ?_)|apply aa
    cases o
    ·have hlive:lD rows.length (ly rows) (tC T.l) x := .step hxi hxb.2.2 (by unfold In;omega) (hI.sound q (hI.curs q rfl))
     have hmk:=hI.mark hxi hlive
     have hc1:=uN ho
     have hleft3:iP (h'.set id (.cells 1 ((os'.set x.toNat true).map AV.bool))) vl 1 ls'.length (ls'.map gm):=hleft.set_ne hlid
     repeat' first|apply ac|(apply gw;first|(apply gq0;first|refine aq rfl ?_|refine au (v:=AV.own _ _ _ _ _ _) rfl ?_|refine au rv_ ?_)|refine aT rfl rfl rfl Ll Ll ?_|refine bv rfl rfl Ll Ll ?_|refine rC (g:=_) rfl rfl hg_ (by simp only[Nat.zero_add,Nat.mul_one];exact rfl) Ll rfl rfl (by exact rfl) ?_|(refine vh (m:=1) rv_ ip_ rfl rfl Ll ?_;intro va hpa hra hka hria)|refine bj (cs:=[AV.int _ _]) rfl rfl ?_)|(apply gx;first|apply af|refine ae rfl ?_|refine ak rfl ?_)|apply aa|apply aI
     refine aR hj2 ⟨_,_,va,hmk.iff hsn,?_,?_,?_,?_,?_,?_,?_,hh_⟩
     ·rw[hka id (by rw[ad.get_set_self];simp) hlid,ad.get_set_self]
     ·rw[List.length_append,List.map_append]
      refine aD.pre ?_
      simpa[gm,← hxn] using hra
     ·intro e
      rcases hria id e with h1|h1
      ·exact hlid h1
      ·rw[ad.get_set_self]at h1;cases h1
     ·intro k hk
      rcases hria k hk with h1|h1
      ·exact hlnew k h1
      ·rw[ad.set_none]at h1
       apply Classical.byContradiction
       intro hn
       rw[hold k hn]at h1
       exact hn h1.2
     ·intro k hk
      have e1:(h'.set id (.cells 1 ((os'.set x.toNat true).map AV.bool))).get k=h'.get k:=ad.get_set_ne _ _ (hne hk).2.2
      rw[hka k (by rw[e1,hold k hk];exact hk) (fun e=>hk (hlnew k e)),e1,hold k hk]
     ·rw[List.length_append];simp only[List.length_cons,List.length_nil];omega
     ·rw[List.length_append];simp only[List.length_cons,List.length_nil];omega
    ·repeat' first|apply ac|(apply gw;first|refine aq rfl ?_|refine aT rfl rfl rfl Ll Ll ?_)|(apply gx;first|refine ae rfl ?_|apply ay|refine ai rfl ?_)|apply aa|apply aI
     refine aR hj2 ⟨os',ls',vl,(hI.old ho).iff hsn,hout,hleft,hlid,hlnew,hold,hcnt2,hdec,hh_⟩
   ·repeat' first|apply ac|(refine aA rfl rfl rfl ?_ ?_<;>(intro hc;try omega))|(apply gx;first|apply af|refine ae rfl ?_|apply aN|refine ai rfl ?_)|apply aa|apply aO|apply aI|apply aP|apply aX
    rw[List.take_of_length_le Ll,← hbd]at hI
    refine fp (2*os'.count false+ls'.length) Ll ⟨os',ls',vl,rfl,hI.end_,hout,hleft,hlid,hlnew,hold,by omega,hh_⟩
end
section
open Go
theorem hq_ {P:Prop}(h:P:=by first|assumption|fail):P:=h
theorem iq_ {P:Prop}(h:P:=by first|assumption|exact aD.nil _ _|fail):P:=h
theorem rx_ {P:Prop}(h:P:=by first|(simp only[Ho,lh,Env.puts,Env.put_apply,reduceIte,Nat.reduceEqDiff];exact rfl)|exact rfl):P:=h
section
variable {F:bZ} {r:List bK} {Q:Env→ad→Prop} {env:Env} {h:ad} {d:Option Nat} {x y:bA} {v:AV}
theorem Dk {b n ag}(hx:ev env x=v)(k:az F (⟨d,.load b n ag (.const v),none⟩::r) Q env h):az F (⟨d,.load b n ag x,none⟩::r) Q env h:=by
 subst hx
 simpa only[bO,tr,bg,lh] using k
theorem Dm {o}(hx:ev env x=v)(k:az F (⟨d,.bin o (.const v) y,none⟩::r) Q env h):az F (⟨d,.bin o x y,none⟩::r) Q env h:=by
 subst hx
 simpa only[bO,xl,lh] using k
theorem Dl {o}(hx:ev env y=v)(k:az F (⟨d,.bin o x (.const v),none⟩::r) Q env h):az F (⟨d,.bin o x y,none⟩::r) Q env h:=by
 subst hx
 simpa only[bO,xl,lh] using k
theorem zb {e}(hx:ev env x=v)(k:az F (⟨d,.indexAddr e (.const v) y,none⟩::r) Q env h):az F (⟨d,.indexAddr e x y,none⟩::r) Q env h:=by
 subst hx
 simpa only[bO,pE,a8,lh] using k
theorem za {e}(hx:ev env y=v)(k:az F (⟨d,.indexAddr e x (.const v),none⟩::r) Q env h):az F (⟨d,.indexAddr e x y,none⟩::r) Q env h:=by
 subst hx
 simpa only[bO,pE,a8,lh] using k
theorem yY {n}(hx:ev env x=v)(k:az F (⟨d,.store n (.const v) y,none⟩::r) Q env h):az F (⟨d,.store n x y,none⟩::r) Q env h:=by
 subst hx
 simp only[bO,ry]at k ⊢
 exact k
theorem yX {n}(hx:ev env y=v)(k:az F (⟨d,.store n x (.const v),none⟩::r) Q env h):az F (⟨d,.store n x y,none⟩::r) Q env h:=by
 subst hx
 simp only[bO,ry]at k ⊢
 exact k
theorem Gc {n}(hx:ev env x=v)(k:az F (⟨d,.len n (.const v),none⟩::r) Q env h):az F (⟨d,.len n x,none⟩::r) Q env h:=by
 subst hx
 simpa only[bO,Ca,bg,lh] using k
theorem xE {n}(hx:ev env x=v)(k:az F (⟨d,.append n (.const v) y,none⟩::r) Q env h):az F (⟨d,.append n x y,none⟩::r) Q env h:=by
 subst hx
 simp only[bO,kB]at k ⊢
 exact k
theorem xD {n}(hx:ev env y=v)(k:az F (⟨d,.append n x (.const v),none⟩::r) Q env h):az F (⟨d,.append n x y,none⟩::r) Q env h:=by
 subst hx
 simp only[bO,kB]at k ⊢
 exact k
theorem AU {n}(hx:ev env x=v)(k:az F (⟨d,.fieldAddr n (.const v),none⟩::r) Q env h):az F (⟨d,.fieldAddr n x,none⟩::r) Q env h:=by
 subst hx
 simpa only[bO,vd,a8,lh] using k
end
section
variable {F:bZ} {r:List bK} {Q:Env→ad→Prop} {env:Env} {h:ad} {d:Option Nat} {x y:bA} {v:AV} {t:Nat}
theorem aF {b n ag}(hx:ev env (.tmp t)=v)(k:az F (⟨d,.load b n ag (.const v),none⟩::r) Q env h):az F (⟨d,.load b n ag (.tmp t),none⟩::r) Q env h:=Dk hx k
theorem aC {o}(hx:ev env (.tmp t)=v)(k:az F (⟨d,.bin o (.const v) y,none⟩::r) Q env h):az F (⟨d,.bin o (.tmp t) y,none⟩::r) Q env h:=Dm hx k
theorem aQ {o}(hx:ev env (.tmp t)=v)(k:az F (⟨d,.bin o x (.const v),none⟩::r) Q env h):az F (⟨d,.bin o x (.tmp t),none⟩::r) Q env h:=Dl hx k
theorem aS {e}(hx:ev env (.tmp t)=v)(k:az F (⟨d,.indexAddr e (.const v) y,none⟩::r) Q env h):az F (⟨d,.indexAddr e (.tmp t) y,none⟩::r) Q env h:=zb hx k
theorem aU {e}(hx:ev env (.tmp t)=v)(k:az F (⟨d,.indexAddr e x (.const v),none⟩::r) Q env h):az F (⟨d,.indexAddr e x (.tmp t),none⟩::r) Q env h:=za hx k
theorem bq {n}(hx:ev env (.tmp t)=v)(k:az F (⟨d,.store n (.const v) y,none⟩::r) Q env h):az F (⟨d,.store n (.tmp t) y,none⟩::r) Q env h:=yY hx k
theorem bp {n}(hx:ev env (.tmp t)=v)(k:az F (⟨d,.store n x (.const v),none⟩::r) Q env h):az F (⟨d,.store n x (.tmp t),none⟩::r) Q env h:=yX hx k
theorem bk {n}(hx:ev env (.tmp t)=v)(k:az F (⟨d,.len n (.const v),none⟩::r) Q env h):az F (⟨d,.len n (.tmp t),none⟩::r) Q env h:=Gc hx k
theorem cn {n}(hx:ev env (.tmp t)=v)(k:az F (⟨d,.append n (.const v) y,none⟩::r) Q env h):az F (⟨d,.append n (.tmp t) y,none⟩::r) Q env h:=xE hx k
theorem cm {n}(hx:ev env (.tmp t)=v)(k:az F (⟨d,.append n x (.const v),none⟩::r) Q env h):az F (⟨d,.append n x (.tmp t),none⟩::r) Q env h:=xD hx k
theorem aL {n}(hx:ev env (.tmp t)=v)(k:az F (⟨d,.fieldAddr n (.const v),none⟩::r) Q env h):az F (⟨d,.fieldAddr n (.tmp t),none⟩::r) Q env h:=AU hx k
end
structure cT where
 foot:Nat→Prop
 holds:ad→Prop
 keep:∀ {h h':ad},holds h→(∀ k,foot k→h'.get k=h.get k)→holds h'
 there:∀ {h:ad},holds h→∀ k,foot k→h.get k≠none
@[reducible] def bU (id:Nat)(o:iQ):cT :=
 ⟨fun k=>k=id,fun h=>h.get id=some o,fun h1 h2=>(h2 _ rfl).trans h1,fun h1 k hk=>by subst hk;rw[h1];simp⟩
@[reducible] def cA (v:AV)(e n:Nat)(cs:List AV):cT :=
 ⟨fun k=>v.rowId=some k,fun h=>aD h v e n cs,fun h1 h2=>h1.keep fun k hk=>h2 k hk,fun h1 k hk=>h1.there hk⟩
@[reducible] def I5 (v:AV)(e n:Nat)(cs:List AV):cT :=
 ⟨fun k=>v.rowId=some k,fun h=>eo h v e n cs,fun h1 h2=>h1.keep fun k hk=>h2 k hk,fun h1 k hk=>h1.there hk⟩
@[reducible] def nm (id:Nat)(ws:List AV)(rows:List (List AV)):cT :=
 ⟨fX id ws,fun h=>eG h id ws rows,fun h1 h2=>h1.keep h2,fun h1 k hk=>h1.there hk⟩
@[reducible] def j4 (h0:ad):cT :=
 ⟨fun k=>h0.get k≠none,fun h=>∀ k,h0.get k≠none→h.get k=h0.get k,fun h1 h2 k hk=>(h2 k hk).trans (h1 k hk),fun h1 k hk=>by rw[h1 k hk];exact hk⟩
structure Sep (h:ad)(cs:List cT):Prop where
 all:∀ c∈cs,c.holds h
 apart:cs.Pairwise fun c d=>∀ k,c.foot k→¬ d.foot k
theorem Sep.get {h:ad}{cs:List cT}(hS:Sep h cs){i:Nat}{c:cT}(hc:cs[i]?=some c):c.holds h:=hS.all c (List.mem_of_getElem? hc)
theorem Sep.disj {h:ad}{cs:List cT}(hS:Sep h cs){i j:Nat}{c d:cT}(hc:cs[i]?=some c)(hd:cs[j]?=some d)(hij:i≠j)(k:Nat)(h1:c.foot k)(h2:d.foot k):False:=by
 obtain⟨hi,rfl⟩:=List.getElem?_eq_some_iff.1 hc
 obtain⟨hj,rfl⟩:=List.getElem?_eq_some_iff.1 hd
 have hp:=List.pairwise_iff_getElem.1 hS.apart
 rcases Nat.lt_or_gt_of_ne hij with h3|h3
 ·exact hp i j hi hj h3 k h1 h2
 ·exact hp j i hj hi h3 k h2 h1
theorem Sep.old (h:ad):Sep h [j4 h]:=⟨fun c hc=>by simp at hc;subst hc;exact fun k _=>rfl,List.pairwise_singleton _ _⟩
theorem Sep.upd {h h':ad}{cs:List cT}(hS:Sep h cs)(i:Nat){c:cT}(c':cT)(hc:cs[i]?=some c)(hc':c'.holds h')(ho:∀ k,h.get k≠none→¬ c.foot k→h'.get k=h.get k)(hf:∀ k,c'.foot k→c.foot k∨h.get k=none):Sep h' (cs.set i c'):=by
 obtain⟨hi,rfl⟩:=List.getElem?_eq_some_iff.1 hc
 have hp:=List.pairwise_iff_getElem.1 hS.apart
 have keep:∀ j (hj:j<cs.length),j≠i→cs[j].holds h':=fun j hj hne=>by
  refine(cs[j]).keep (hS.all _ (List.getElem_mem hj)) fun k hk=>ho k ((cs[j]).there (hS.all _ (List.getElem_mem hj)) k hk) fun hk2=>?_
  exact hS.disj (List.getElem?_eq_getElem hj) hc hne k hk hk2
 constructor
 ·intro d hd
  obtain⟨j,hj,rfl⟩:=List.getElem_of_mem hd
  rw[List.length_set]at hj
  rw[List.getElem_set]
  split
  ·exact hc'
  ·rename_i hne
   exact keep j hj (Ne.symm hne)
 ·rw[List.pairwise_iff_getElem]
  intro a b ha hb hab k hka hkb
  rw[List.length_set]at ha hb
  rw[List.getElem_set]at hka hkb
  split at hka
  ·rename_i e
   subst e
   rw[if_neg Ll]at hkb
   rcases hf k hka with h1|h1
   ·exact hp _ b ha hb hab k h1 hkb
   ·exact(cs[b]).there (hS.all _ (List.getElem_mem hb)) k hkb h1
  ·split at hkb
   ·rename_i _ e
    subst e
    rcases hf k hkb with h1|h1
    ·exact hp a _ ha hb hab k hka h1
    ·exact(cs[a]).there (hS.all _ (List.getElem_mem ha)) k hka h1
   ·exact hp a b ha hb hab k hka hkb
theorem Sep.put {h:ad}{cs:List cT}(hS:Sep h cs)(i:Nat){id:Nat}{o:iQ}(o':iQ)(hc:cs[i]?=some (bU id o)):Sep (h.set id o') (cs.set i (bU id o')) :=
 hS.upd i _ hc (ad.get_set_self _ _ _) (fun k _ hk=>ad.get_set_ne _ _ hk) (fun k hk => .inl hk)
theorem Sep.turn {h:ad}{cs:List cT}(hS:Sep h cs)(i:Nat){c:cT}(c':cT)(hc:cs[i]?=some c)(hc':c'.holds h)(hf:∀ k,c'.foot k→c.foot k):Sep h (cs.set i c') :=
 hS.upd i c' hc hc' (fun _ _ _=>rfl) (fun k hk => .inl (hf k hk))
theorem Sep.add {h h':ad}{cs:List cT}(hS:Sep h cs)(c:cT)(hc:c.holds h')(ho:∀ k,h.get k≠none→h'.get k=h.get k)(hf:∀ k,c.foot k→h.get k=none):Sep h' (cs++[c]):=by
 constructor
 ·intro d hd
  rcases List.mem_append.1 hd with hd|hd
  ·exact d.keep (hS.all d hd) fun k hk=>ho k (d.there (hS.all d hd) k hk)
  ·simp at hd;subst hd;exact hc
 ·rw[List.pairwise_append]
  refine⟨hS.apart,List.pairwise_singleton _ _,fun a ha b hb k hka hkb=>?_⟩
  simp at hb;subst hb
  exact a.there (hS.all a ha) k hka (hf k hkb)
theorem Sep.new {h:ad}{cs:List cT}(hS:Sep h cs){id:Nat}{o:iQ}(hid:h.get id=none):Sep (h.set id o) (cs++[bU id o]) :=
 hS.add _ (ad.get_set_self _ _ _) (fun k hk=>ad.get_set_ne _ _ (fun e=>hk (e ▸ hid))) (fun k hk=>by rw[hk];exact hid)
theorem Sep.drop {h h':ad}{cs:List cT}(hS:Sep h cs)(i:Nat){c:cT}(hc:cs[i]?=some c)(ho:∀ k,¬ c.foot k→h'.get k=h.get k):Sep h' (cs.eraseIdx i):=by
 obtain⟨hi,rfl⟩:=List.getElem?_eq_some_iff.1 hc
 refine⟨fun d hd=>?_,hS.apart.sublist (List.eraseIdx_sublist _ _)⟩
 obtain⟨j,hj,hje⟩:=List.mem_eraseIdx_iff_getElem.1 hd
 obtain⟨hj1,rfl⟩:=hje
 refine(cs[j]).keep (hS.all _ (List.getElem_mem hj)) fun k hk=>ho k fun hk2=>?_
 exact hS.disj (List.getElem?_eq_getElem hj) hc hj1 k hk hk2
theorem Sep.gput {h hpa:ad}{cs:List cT}(hS:Sep h cs)(i:Nat){inx j:Nat}{ws:List AV}{rows:List (List AV)}{w va:AV}{r:List AV}(hc:cs[i]?=some (nm inx ws rows))(hw:ws[j]?=some w)
  (hrow:aD hpa va 1 r.length r) (hka:∀ k,h.get k≠none→w.rowId≠some k→hpa.get k=h.get k) (hria:∀ k,va.rowId=some k→w.rowId=some k∨h.get k=none) :
  Sep (hpa.set inx (.cells 1 (ws.set j va))) (cs.set i (nm inx (ws.set j va) (rows.set j r)))∧hpa.get inx=some (.cells 1 ws):=by
 have hG:eG h inx ws rows:=hS.get hc
 have hwm:=List.mem_of_getElem? hw
 obtain⟨g1,g2⟩:=hG.put hw hrow hka hria
 refine⟨hS.upd i _ hc g1 (fun k hk hng=>?_) g2,?_⟩
 ·rw[ad.get_set_ne _ _ (fun e=>hng (.inl e)),hka k hk (fun e=>hng (.inr ⟨w,hwm,e⟩))]
 ·rw[hka inx (by rw[hG.at_];simp) (fun e=>hG.apart w hwm _ e rfl),hG.at_]
theorem Sep.ext {h h':ad}{cs:List cT}(hS:Sep h cs)(ho:∀ k,h.get k≠none→h'.get k=h.get k):Sep h' cs :=
 ⟨fun d hd=>d.keep (hS.all d hd) fun k hk=>ho k (d.there (hS.all d hd) k hk),hS.apart⟩
theorem Sep.rowset {h:ad}{cs:List cT}(hS:Sep h cs)(i:Nat){v:AV}{e n id g:Nat}{rs:List AV}(rs':List AV)(hc:cs[i]?=some (cA v e n rs))(hv:v = .own id g e 0 n none)(hg:1≤g)(hl:rs'.length=n*e):Sep (h.set id (.cells g rs')) (cs.set i (cA v e n rs')):=by
 refine hS.upd i _ hc (.inr ⟨id,g,hv,ad.get_set_self _ _ _,hg,hl⟩) (fun k _ hk=>ad.get_set_ne _ _ fun e=>hk ?_) (fun k hk => .inl hk)
 subst hv e
 rfl
theorem Sep.gtake {h:ad}{cs:List cT}(hS:Sep h cs)(i i' j:Nat){inx q:Nat}{ws:List AV}{rows:List (List AV)}{w va:AV}{r:List AV}(hj:cs[j]?=some (cA va 1 r.length r))(hi:(cs.eraseIdx j)[i']?=some (nm inx ws rows))(hw:ws[q]?=some w) :
  Sep (h.set inx (.cells 1 (ws.set q va))) ((cs.eraseIdx j).set i' (nm inx (ws.set q va) (rows.set q r)))∧h.get inx=some (.cells 1 ws):=by
 have hm:=hS.drop j (h':=h.drop fun k=>va.rowId=some k) hj fun k hk=>by
  simp only[ad.drop]
  rw[if_neg hk]
 refine hm.gput i' hi hw (hS.get hj) (fun k hk _=>?_) fun k hk => .inr ?_
 ·simp only[ad.drop]at hk ⊢
  split
  ·rename_i h1;rw[if_pos h1]at hk;exact absurd rfl hk
  ·rfl
 ·simp only[ad.drop]
  rw[if_pos hk]
theorem Sep.weak {h:ad}{cs ds:List cT}(hS:Sep h cs)(hs:ds.Sublist cs):Sep h ds:=⟨fun d hd=>hS.all d (hs.mem hd),hS.apart.sublist hs⟩
theorem Il {F:bZ}{l:List bK}{Q:Env→ad→Prop}{env:Env}{h:ad}(cs:List cT)(hS:Sep h cs)(k:∀ h1,Sep h1 cs→az F l Q env h1):az F l Q env h:=k h hS
theorem Sep.grid0 {h:ad}{cs:List cT}(hS:Sep h cs)(i:Nat){id n:Nat}(hc:cs[i]?=some (bU id (.cells 1 (List.replicate n (.rd 0 [] true))))):Sep h (cs.set i (nm id (List.replicate n (.rd 0 [] true)) (List.replicate n []))) :=
 hS.turn i _ hc (eG.begin (hS.get hc)) fun k hk=>by
  rcases hk with h1|⟨w,hw,h1⟩
  ·exact h1
  ·rw[List.mem_replicate]at hw
   rw[hw.2]at h1;cases h1
theorem Sep.nil {h:ad}{cs:List cT}(hS:Sep h cs)(e:Nat):Sep h (cs++[cA (.rd 0 [] true) e 0 []]):=hS.add _ (aD.nil _ _) (fun _ _=>rfl) (fun k hk=>by cases hk)
end
section
open Go
set_option maxHeartbeats 4000000
theorem mY {env:Env}{h:ad}{t id g n:Nat}{cs:List AV}(ht:env t = .ptr id g 0)(hg:h.get id=some (.cells g cs))(hl:cs.length=n):fm env h [.cell t n true]=some (.agg cs):=by
 subst hl
 simp only[fm,lY,ht,hg]
 rw[if_pos ⟨trivial,by omega⟩]
 simp
attribute [local irreducible] az bf bm de bz cw dH bJ wop cz bc
def gJ (d:PD)(i:Nat):List Nat:=(List.range i).filter fun k => !(d.part k).isEmpty
theorem uv (d:PD)(i:Nat):gJ d (i+1)=gJ d i++(if d.part i=[] then [] else [i]):=by
 unfold gJ
 rw[List.range_succ,List.filter_append]
 congr 1
 by_cases h:d.part i=[]
 ·rw[if_pos h,List.filter_cons_of_neg (by simp[h])];rfl
 ·rw[if_neg h,List.filter_cons_of_pos (by simp[h])];rfl
theorem qU (d:PD)(i:Nat):(gJ d i).length≤i:=by
 have:=List.length_filter_le (fun k => !(d.part k).isEmpty) (List.range i)
 rwa [List.length_range]at this
def eL (N:List (List Int))(n:Nat)(ks ks':List Nat)(j:Nat):List (List Int):=(List.range n).map fun q=>(if q<j then ks' else ks).map fun k=>(N.getD q []).getD k (-1)
theorem mJ (N:List (List Int))(n:Nat)(ks ks':List Nat)(j:Nat):(eL N n ks ks' j).length=n:=by simp[eL]
theorem tS {N:List (List Int)}{n:Nat}{ks ks':List Nat}{j:Nat}(hj:j<n):(eL N n ks ks' j)[j]?=some (ks.map fun k=>(N.getD j []).getD k (-1)):=by
 simp[eL,hj]
theorem tR {N:List (List Int)}{n:Nat}{ks:List Nat}{i j:Nat}(hj:j<n):(eL N n ks (ks++[i]) j).set j ((ks.map fun k=>(N.getD j []).getD k (-1))++[(N.getD j []).getD i (-1)])=eL N n ks (ks++[i]) (j+1):=by
 refine List.ext_getElem (by simp[eL]) fun q h1 h2=>?_
 rw[List.getElem_set]
 simp only[eL,List.getElem_map,List.getElem_range]
 by_cases e:j=q
 ·subst e
  rw[if_pos rfl,if_pos Ll]
  simp
 ·rw[if_neg e]
  by_cases h:q<j
  ·rw[if_pos h,if_pos Ll]
  ·rw[if_neg h,if_neg Ll]
theorem tT (N:List (List Int))(n:Nat)(ks ks':List Nat):eL N n ks ks' n=eL N n ks' ks' 0:=by
 unfold eL
 apply List.map_congr_left
 intro q hq
 rw[List.mem_range]at hq
 rw[if_pos hq,if_neg Ll]
theorem oe (N:List (List Int))(n:Nat)(ks ks' ks'':List Nat):eL N n ks ks' 0=eL N n ks ks'' 0:=by
 unfold eL
 apply List.map_congr_left
 intro q hq
 rw[if_neg Ll,if_neg Ll]
set_option maxRecDepth 100000 in
theorem FF {Φ:Lib}(L:cJ Φ){h:ad}(d:Dfa)(hf:d.Fits)(hok:d.plain.Ok) :
  bc Φ 102 [.agg d.av] h (fun v h'=>∃ inx ws,v = .agg [.rd (fu d.plain).length ((fu d.plain).map fun k=>(d.parts.l.getD k ⟨[],false⟩).sv) false,.own inx 1 1 0 d.next.l.length none,d.tags.iv]∧Sep h' [j4 h,nm inx ws ((cy d.plain).next.map iC)]):=by
 have hpl:d.plain.p=d.parts.l.length:=by simp[Dfa.plain,cu,PD.p]
 have hnl:d.plain.n=d.tags.l.length:=by simp[Dfa.plain,PD.n]
 have hxl:d.plain.next.length=d.next.l.length:=by simp[Dfa.plain,cG]
 have hn2:=hok.n2
 have hp1:=hok.p1
 have hnle:=hok.nl
 refine ba (fun _=>false) rfl L.f102 ?_
 repeat' first|apply ac|(apply gw;first|refine aq rfl ?_|refine am rfl hg_ Lm b_ pv_ ?_|refine ar rfl (Nat.zero_add _) ?_|refine aw rfl ?_|(refine bV ?_;intro id hid;try simp only[ad.set_none]at hid)|(refine gQ (v:=AV.agg _) rfl rfl ?_;intro id hid;try simp only[ad.set_none]at hid)|refine bh (v:=AV.agg _) rfl rfl hg_ rfl rfl b_ sv_ ?_|refine cO rfl ?_|(refine ix rfl rfl Ll Ll ?_;intro id hid;try simp only[ad.set_none]at hid))|(apply gx;first|apply af|refine ae rfl ?_|apply al)|apply aa
 rename_i ib hib ires hires inx hinx
 have e1:(List.replicate (d.next.l.length:Int).toNat [AV.rd 0 [] true]).flatten=List.replicate d.next.l.length (.rd 0 [] true):=jn _ _
 rw[e1]
 have hrows0:(eL d.plain.next d.next.l.length (gJ d.plain 0) (gJ d.plain 0) 0).map iC=List.replicate d.next.l.length []:=by
  refine List.ext_getElem (by simp[eL]) fun q h1 h2=>?_
  simp[eL,gJ]
 have hpart:∀ {i:Nat} {p:Rw aj},d.parts.l[i]?=some p→d.plain.part i=p.l:=fun {i p} hp=>by
  simp[PD.part,Dfa.plain,cu,List.getD_eq_getElem?_getD,hp]
 have hnext:∀ {j:Nat} {r:Rw Int},d.next.l[j]?=some r→d.plain.next.getD j []=r.l:=fun {j r} hr=>by
  simp[Dfa.plain,cG,List.getD_eq_getElem?_getD,hr]
 refine bD d.parts.l.length (fun i env h'=>∃ vp ws,Sep h' [j4 h,bU ib (.cells 0 d.av),bU ires (.cells 0 [.rd 0 [] true,.rd 0 [] true,.rd 0 [] true]),nm inx ws ((eL d.plain.next d.next.l.length (gJ d.plain i) (gJ d.plain i) 0).map iC),bU id (.cells 0 [vp,.own inx 1 1 0 d.next.l.length none,d.tags.iv]),cA vp 1 (gJ d.plain i).length ((gJ d.plain i).map fun k=>(d.parts.l.getD k ⟨[],false⟩).sv)]∧env.has [(1,.ptr ib 0 0),(2,.ptr ires 0 0),(3,.ptr id 0 0),(16,d.parts.mv Rw.sv),(17,.int .i64 d.parts.l.length),(18,.int .i64 i)]) ⟨.rd 0 [] true,List.replicate d.next.l.length (.rd 0 [] true),?_,hh_⟩ ?_
 ·have s1:=(Sep.old h).new (o := .cells 0 d.av) hib
  have s2:=s1.new (id:=ires) (o := .cells 0 [.rd 0 [] true,.rd 0 [] true,.rd 0 [] true]) (by simp only[ad.set_none];exact hires)
  have s3:=s2.new (id:=inx) (o := .cells 1 (List.replicate d.next.l.length (.rd 0 [] true))) (by simp only[ad.set_none];exact hinx)
  have s4:=s3.turn 3 (nm inx (List.replicate d.next.l.length (.rd 0 [] true)) (List.replicate d.next.l.length [])) rfl (eG.begin (ad.get_set_self _ _ _)) fun k hk=>by
   rcases hk with h1|⟨w,hw,h1⟩
   ·exact h1
   ·rw[List.mem_replicate]at hw
    rw[hw.2]at h1;cases h1
  have s5:=s4.new (id:=id) (o := .cells 0 [.rd 0 [] true,.rd 0 [] true,.rd 0 [] true]) (by simp only[ad.set_none];exact hid)
  have s6:=s5.put 4 (.cells 0 [.rd 0 [] true,.own inx 1 1 0 d.next.l.length none,d.tags.iv]) rfl
  rw[hrows0]
  exact s6.add (cA (.rd 0 [] true) 1 0 []) (aD.nil _ _) (fun _ _=>rfl) (fun k hk=>by cases hk)
 clear hrows0 e1
 rintro i env h' hi ⟨vp,ws,hS,he⟩
 obtain⟨env,rfl⟩:=he.ex
 clear he
 have hbox:h'.get ib=some (.cells 0 d.av):=hS.get (i:=1) rfl
 have hvp:aD h' vp 1 (gJ d.plain i).length _:=hS.get (i:=5) rfl
 have hio:h'.get id=some (.cells 0 [vp,.own inx 1 1 0 d.next.l.length none,d.tags.iv]):=hS.get (i:=4) rfl
 have hkl:=qU d.plain i
 have hks:=uv d.plain i
 by_cases hi2:i<d.parts.l.length
 ·obtain⟨p,hp⟩:=aK hi2
  have hpp:=hpart hp
  rw[hpp]at hks
  have hpd:d.parts.l.getD i ⟨[],false⟩=p:=by simp[List.getD_eq_getElem?_getD,hp]
  by_cases hp0:p.l=[]
  ·have hp1:p.l.length=0:=by rw[hp0];rfl
   rw[if_pos hp0,List.append_nil]at hks
   repeat' first|apply ac|(apply gw;first|(apply gq0;first|refine aq rfl ?_|refine aG rfl ?_)|refine aB rfl b_ pv_ ?_|(apply gq3;first|refine aT rfl rfl rfl Ll Ll ?_|((first|refine aA rfl rfl rfl ?_ ?_|refine dd rfl rfl rfl ?_ ?_)<;>(intro hc;try omega)))|refine ah rfl rfl hp Ll rfl ?_|refine aw rfl ?_)|(apply gx;first|apply af|refine ae rfl ?_|apply ay|apply al|apply aN|refine ak rfl ?_)|apply aa|apply aO|apply aP
   refine aR hi2 ⟨vp,ws,by rw[hks];exact hS,hh_⟩
  ·have hp1:p.l.length≠0:=fun e=>hp0 (List.eq_nil_of_length_eq_zero e)
   rw[if_neg hp0]at hks
   repeat' first|apply ac|(apply gw;first|(apply gq0;first|refine aq rfl ?_|refine aG rfl ?_)|(apply gq2;first|refine aB rfl b_ pv_ ?_|refine am rfl hg_ Lm b_ pv_ ?_)|(apply gq3;first|((first|refine aA rfl rfl rfl ?_ ?_|refine dd rfl rfl rfl ?_ ?_)<;>(intro hc;try omega)))|refine ar rfl (Nat.zero_add _) ?_|refine ah rfl rfl hp Ll rfl ?_|refine aw rfl ?_|(refine aY (m:=1) rv_ ir_ rfl rfl Ll ?_;intro va hpa hra hka hria)|refine bj (cs:=[AV.rd _ _ _]) rfl rfl ?_)|(apply gx;first|apply af|refine ae rfl ?_|apply ay|apply al|refine ak rfl ?_|refine ai rfl ?_)|apply aa
   have hS2:=hS.upd 5 (cA va 1 (gJ d.plain (i+1)).length ((gJ d.plain (i+1)).map fun k=>(d.parts.l.getD k ⟨[],false⟩).sv)) rfl (by
    rw[hks,List.length_append,List.map_append,List.map_singleton,hpd]
    exact hra) hka hria
   have hio2:hpa.get id=some (.cells 0 [vp,.own inx 1 1 0 d.next.l.length none,d.tags.iv]):=hS2.get (i:=4) rfl
   refine ck (v:=va) (cs':=[va,.own inx 1 1 0 d.next.l.length none,d.tags.iv]) rfl rfl hra hio2 Lm rfl ?_
   have hS3:=hS2.put 4 (.cells 0 [va,.own inx 1 1 0 d.next.l.length none,d.tags.iv]) rfl
   have hbox2:(hpa.set id (.cells 0 [va,.own inx 1 1 0 d.next.l.length none,d.tags.iv])).get ib=some (.cells 0 d.av):=hS3.get (i:=1) rfl
   clear hS hS2 hio2 hbox hvp hio
   repeat' first|apply ac|(apply gw;first|refine aq rfl ?_|refine am rfl hg_ Lm b_ pv_ ?_|refine ar rfl (Nat.zero_add _) ?_|refine aw rfl ?_)|(apply gx;first|apply af|refine ae rfl ?_|apply al)|apply aa
   refine bD d.next.l.length (fun j env h'=>∃ ws,Sep h' [j4 h,bU ib (.cells 0 d.av),bU ires (.cells 0 [.rd 0 [] true,.rd 0 [] true,.rd 0 [] true]),nm inx ws ((eL d.plain.next d.next.l.length (gJ d.plain i) (gJ d.plain i++[i]) j).map iC),bU id (.cells 0 [va,.own inx 1 1 0 d.next.l.length none,d.tags.iv]),cA va 1 (gJ d.plain (i+1)).length ((gJ d.plain (i+1)).map fun k=>(d.parts.l.getD k ⟨[],false⟩).sv)]∧env.has [(1,.ptr ib 0 0),(2,.ptr ires 0 0),(3,.ptr id 0 0),(4,.int .i64 i),(16,d.parts.mv Rw.sv),(17,.int .i64 d.parts.l.length),(18,.int .i64 i),(33,d.next.mv Rw.iv),(34,.int .i64 d.next.l.length),(35,.int .i64 j)]) ⟨ws,by rw[oe _ _ _ _ (gJ d.plain i)];exact hS3,hh_⟩ ?_
   clear hS3 hbox2 hra hka hria
   rintro j env h' hj ⟨ws,hS,he⟩
   obtain⟨env,rfl⟩:=he.ex
   clear he
   have hbox:h'.get ib=some (.cells 0 d.av):=hS.get (i:=1) rfl
   have hio:h'.get id=some (.cells 0 [va,.own inx 1 1 0 d.next.l.length none,d.tags.iv]):=hS.get (i:=4) rfl
   have hgr:eG h' inx ws _:=hS.get (i:=3) rfl
   have hwl:=hgr.len
   rw[List.length_map,mJ]at hwl
   by_cases hj2:j<d.next.l.length
   ·obtain⟨r,hr⟩:=aK hj2
    obtain⟨w,hw⟩:=aK (l:=ws) (i:=j) Ll
    have hrl:=(hok.rows r.l (List.mem_map.2 ⟨r,List.mem_of_getElem? hr,rfl⟩)).1
    obtain⟨x,hx⟩:=aK (l:=r.l) (i:=i) Ll
    have hrx:(d.plain.next.getD j []).getD i (-1)=x:=by rw[hnext hr];simp[List.getD_eq_getElem?_getD,hx]
    have hat:=hgr.at_
    have hrow:=hgr.row hw (by rw[List.getElem?_map,tS hj2];rfl)
    rw[List.length_map,List.length_map]at hrow
    repeat' first|apply ac|(apply gw;first|(apply gq0;first|refine aq rfl ?_|refine aG rfl ?_)|(apply gq2;first|refine jW (g:=_) rfl hg_ hw eq_ Lm ?_|refine aB rfl b_ pv_ ?_|refine am rfl hg_ Lm b_ pv_ ?_)|(refine aA rfl rfl rfl ?_ ?_<;>(intro hc;try omega))|refine ar rfl (Nat.zero_add _) ?_|(apply gq5;first|refine ah rfl rfl hr Ll rfl ?_|refine ah rfl rfl hx Ll rfl ?_|refine bv rfl rfl Ll Ll ?_)|(refine aY (m:=1) rv_ ir_ rfl rfl Ll ?_;intro va hpa hra hka hria)|refine bj (cs:=[AV.int _ _]) rfl rfl ?_)|(apply gx;first|apply af|refine ae rfl ?_|apply ay|apply al|refine ak rfl ?_)|apply aa
    obtain⟨hS2,hg2⟩:=hS.gput 3 (j:=j) (r:=iC ((gJ d.plain i).map fun k=>(d.plain.next.getD j []).getD k (-1))++[.int .i64 x]) rfl hw (by
     rw[List.length_append,List.length_map,List.length_map]
     exact hra) hka hria
    refine ck (v:=va) (cs':=ws.set j va) rfl rfl hra hg2 Ll (by rw[show(0+(j:Int).toNat)*1=j by omega]) ?_
    repeat' first|apply ac|(apply gw;first|refine aq rfl ?_|refine aT rfl rfl rfl Ll Ll ?_)|refine ae rfl ?_|apply aa|apply aI
    refine aR hj2 ⟨ws.set j va,?_,hh_⟩
    have e4:iC ((gJ d.plain i).map (fun k=>(d.plain.next.getD j []).getD k (-1))++[(d.plain.next.getD j []).getD i (-1)])=iC ((gJ d.plain i).map fun k=>(d.plain.next.getD j []).getD k (-1))++[.int .i64 x]:=by
     rw[hrx];simp[iC]
    rw[← tR hj2,List.map_set,e4]
    exact hS2
   ·have hj3:j=d.next.l.length:=by omega
    subst hj3
    rw[tT,← hks]at hS
    repeat' first|apply ac|(apply gw;first|refine aq rfl ?_|(apply gq3;first|refine aT rfl rfl rfl Ll Ll ?_|(refine aA rfl rfl rfl ?_ ?_<;>(intro hc;try omega))))|(apply gx;first|apply af|refine ae rfl ?_|apply aN|refine ai rfl ?_)|apply aa|apply aO|apply aI|apply aP|apply aX
    refine aR hi2 ⟨va,ws,by rw[oe _ _ _ _ (gJ d.plain (i+1))]at hS ⊢;exact hS,hh_⟩
 ·have hi3:i=d.parts.l.length:=by omega
  subst hi3
  have hres:h'.get ires=some (.cells 0 [.rd 0 [] true,.rd 0 [] true,.rd 0 [] true]):=hS.get (i:=2) rfl
  have hbk:gJ d.plain d.parts.l.length=fu d.plain:=by unfold fu;rw[hpl];rfl
  rw[hbk]at hvp hS
  have hrows:eL d.plain.next d.next.l.length (fu d.plain) (fu d.plain) 0=(cy d.plain).next:=by
   refine List.ext_getElem (by simp[eL,cy,hxl]) fun q h1 h2=>?_
   have hq:q<d.plain.next.length:=by simpa[cy] using h2
   simp[eL,cy,List.getD_eq_getElem?_getD,hq]
  rw[hrows]at hS
  repeat' first|apply ac|(apply gw;first|refine am rfl hg_ Lm b_ pv_ ?_|(refine aA rfl rfl rfl ?_ ?_<;>(intro hc;try omega))|refine bh (v:=AV.agg _) rfl rfl hg_ rfl rfl b_ sv_ ?_)|(apply gx;first|apply af|refine ae rfl ?_|apply aM|apply aN|refine ai rfl ?_)|apply aa|apply aO|apply aP|apply aX
  have hS2:=hS.put 2 (.cells 0 [vp,.own inx 1 1 0 d.next.l.length none,d.tags.iv]) rfl
  have hvp2:aD _ vp 1 _ _:=hS2.get (i:=5) rfl
  refine fP (fun k=>vp.rowId=some k) (mY rfl (ad.get_set_self _ _ _) rfl) (.agg (.cons (hvp2.fz _ (fun _ h=>h) (FzL.same _)) (.cons (.same _) (.cons (.same _) .nil)))) ⟨inx,ws,rfl,?_⟩
  have hS3:=hS2.drop 5 (h':=(h'.set ires (.cells 0 [vp,.own inx 1 1 0 d.next.l.length none,d.tags.iv])).drop fun k=>vp.rowId=some k) rfl fun k hk=>by
   simp only[ad.drop]
   rw[if_neg hk]
  exact hS3.weak Lm
end
end Go.Proofs.YtlnobeojgifojaaGreatDoor
