/- Which states are live. What of the heap is whose: chunks that have nothing in common. Without empty parts; without what is dead. -/
import Derived.Test.YtlnobeojgifojaaGreatDoorE3
import Derived.Test.YtlnobeojgifojaaGreatDoorP2
set_option linter.unusedVariables false
set_option linter.unusedSimpArgs false
namespace Go.Proofs.YtlnobeojgifojaaGreatDoor
section
open Go
set_option maxHeartbeats 4000000
theorem uK {F:bR}{r:List bA}{Q:Env→aa→Prop}{env:Env}{h:aa}{x y:bl}{id g o:Nat}{cs cs':List AV}{v:AV}(hx:ev env x = .ptr id g o)(hv:ev env y=v)(hval:v.isVal=true)(hc1:v.cells=[v])(hg:h.get id=some (.cells g cs))(hb:o+1≤cs.length)(hc:cs.set o v=cs')(k:aj F r Q env (h.set id (.cells g cs'))):aj F (⟨none,.store 1 x y,none⟩::r) Q env h :=
 aY hx hv hg hval (by rw[hc1];rfl) hb (by rw[hc1];exact hc) k
attribute [local irreducible] aj bc bj dn bz cn dz bL wop cq aU
@[reducible] def iC (l:List Int):List AV:=l.map (.int .i64)
@[reducible] def bC (l:List Bool):List AV:=l.map .bool
def jW (rows:List (List Int))(s:Int):List Int:=rows.getD s.toNat []
def rb (T:List Int)(s:Int):Int:=T.getD s.toNat (-1)
structure jV (h0 h:aa)(ib ibk iout:Nat)(box:List AV)(bws:List AV)(bs:List (List Int))(os:List Bool)(vl:AV)(ll:List AV):Prop where
 ne:ib≠ibk∧ib≠iout∧ibk≠iout
 box:h.get ib=some (.cells 0 box)
 grid:dN h ibk bws (bs.map iC)
 out:h.get iout=some (.cells 1 (bC os))
 left:aA h vl 1 ll.length ll
 old:∀ k,h0.get k≠none→h.get k=h0.get k
 new:h0.get ib=none∧h0.get iout=none∧(∀ k,eX ibk bws k→h0.get k=none)∧(∀ k,vl.rowId=some k→h0.get k=none)
 gap:∀ k,eX ibk bws k→k≠ib∧k≠iout∧vl.rowId≠some k
 lap:∀ k,vl.rowId=some k→k≠ib∧k≠iout
theorem jV.mark {h0 h:aa}{ib ibk iout:Nat}{box bws:List AV}{bs:List (List Int)}{os:List Bool}{vl:AV}{ll:List AV}(hA:jV h0 h ib ibk iout box bws bs os vl ll)(os':List Bool):jV h0 (h.set iout (.cells 1 (bC os'))) ib ibk iout box bws bs os' vl ll:=by
 obtain⟨n1,n2,n3⟩:=hA.ne
 refine⟨hA.ne,(aa.get_set_ne _ _ n2).trans hA.box,hA.grid.keep fun k hk=>aa.get_set_ne _ _ (hA.gap k hk).2.1,aa.get_set_self _ _ _,hA.left.set_ne fun e=>(hA.lap _ e).2 rfl,fun k hk=>?_,hA.new,hA.gap,hA.lap⟩
 rw[aa.get_set_ne _ _ (fun e=>by subst e;exact hk hA.new.2.1)]
 exact hA.old k hk
theorem jV.back {h0 h hpa:aa}{ib ibk iout:Nat}{box bws:List AV}{bs:List (List Int)}{os:List Bool}{vl:AV}{ll:List AV}(hA:jV h0 h ib ibk iout box bws bs os vl ll){t:Nat}{w va:AV}{r:List Int}(hw:bws[t]?=some w)
  (hra:aA hpa va 1 r.length (iC r)) (hka:∀ k,h.get k≠none→w.rowId≠some k→hpa.get k=h.get k) (hria:∀ k,va.rowId=some k→w.rowId=some k∨h.get k=none) :
  jV h0 (hpa.set ibk (.cells 1 (bws.set t va))) ib ibk iout box (bws.set t va) (bs.set t r) os vl ll:=by
 obtain⟨n1,n2,n3⟩:=hA.ne
 have hwm:=List.mem_of_getElem? hw
 obtain⟨hG,hsub⟩:=hA.grid.put (r:=iC r) hw (by simpa using hra) hka hria
 rw[← List.map_set]at hG
 have hin:∀ {k},w.rowId=some k→eX ibk bws k:=fun hk => .inr ⟨w,hwm,hk⟩
 have keep:∀ k o,h.get k=some o→¬ eX ibk bws k→(hpa.set ibk (.cells 1 (bws.set t va))).get k=some o:=fun k o ho hk=>by
  rw[aa.get_set_ne _ _ (fun e=>hk (.inl e)),hka k (by rw[ho];simp) (fun e=>hk (hin e)),ho]
 have lrow:aA (hpa.set ibk (.cells 1 (bws.set t va))) vl 1 ll.length ll:=hA.left.keep fun k hk=>by
  have hng:¬ eX ibk bws k:=fun hg=>(hA.gap k hg).2.2 hk
  rw[aa.get_set_ne _ _ (fun e=>hng (.inl e)),hka k (hA.left.there hk) (fun e=>hng (hin e))]
 refine⟨hA.ne,keep _ _ hA.box fun hg=>(hA.gap _ hg).1 rfl,hG,keep _ _ hA.out fun hg=>(hA.gap _ hg).2.1 rfl,lrow,fun k hk=>?_,⟨hA.new.1,hA.new.2.1,fun k hk=>?_,hA.new.2.2.2⟩,fun k hk=>?_,hA.lap⟩
 ·have h1:¬ eX ibk bws k:=fun hg=>hk (hA.new.2.2.1 k hg)
  rw[aa.get_set_ne _ _ (fun e=>h1 (.inl e)),hka k (by rw[hA.old k hk];exact hk) (fun e=>h1 (hin e)),hA.old k hk]
 ·rcases hsub k hk with h1|h1
  ·exact hA.new.2.2.1 k h1
  ·apply Classical.byContradiction
   intro hn
   rw[hA.old k hn]at h1
   exact hn h1
 ·rcases hsub k hk with h1|h1
  ·exact hA.gap k h1
  ·refine⟨?_,?_,fun e=>?_⟩
   ·rintro rfl;rw[hA.box]at h1;cases h1
   ·rintro rfl;rw[hA.out]at h1;cases h1
   ·exact hA.left.there e h1
theorem jV.push {h0 h hpa:aa}{ib ibk iout:Nat}{box bws:List AV}{bs:List (List Int)}{os:List Bool}{vl va:AV}{ll ll':List AV}(hA:jV h0 h ib ibk iout box bws bs os vl ll)
  (hra:aA hpa va 1 ll'.length ll') (hka:∀ k,h.get k≠none→vl.rowId≠some k→hpa.get k=h.get k) (hria:∀ k,va.rowId=some k→vl.rowId=some k∨h.get k=none):jV h0 hpa ib ibk iout box bws bs os va ll':=by
 have keep:∀ k o,h.get k=some o→vl.rowId≠some k→hpa.get k=some o:=fun k o ho hk=>(hka k (by rw[ho];simp) hk).trans ho
 have new:∀ k,va.rowId=some k→h0.get k=none:=fun k hk=>by
  rcases hria k hk with h1|h1
  ·exact hA.new.2.2.2 k h1
  ·apply Classical.byContradiction
   intro hn
   rw[hA.old k hn]at h1
   exact hn h1
 refine⟨hA.ne,keep _ _ hA.box fun e=>(hA.lap _ e).1 rfl,hA.grid.keep fun k hk=>hka k (hA.grid.there hk) (hA.gap k hk).2.2,keep _ _ hA.out fun e=>(hA.lap _ e).2 rfl,hra,fun k hk=>?_,⟨hA.new.1,hA.new.2.1,hA.new.2.2.1,new⟩,fun k hk=>?_,fun k hk=>?_⟩
 ·rw[hka k (by rw[hA.old k hk];exact hk) (fun e=>hk (hA.new.2.2.2 k e)),hA.old k hk]
 ·obtain⟨a1,a2,a3⟩:=hA.gap k hk
  refine⟨a1,a2,fun e=>?_⟩
  rcases hria k e with h1|h1
  ·exact a3 h1
  ·exact hA.grid.there hk h1
 ·rcases hria k hk with h1|h1
  ·exact hA.lap k h1
  ·refine⟨?_,?_⟩
   ·rintro rfl;rw[hA.box]at h1;cases h1
   ·rintro rfl;rw[hA.out]at h1;cases h1
set_option maxRecDepth 100000 in
theorem Fr {Φ:Lib}(L:cZ Φ){h:aa}{P:AV}{T:Rw Int}{inx p:Nat}{ws:List AV}{rows:List (List Int)}(hG:dN h inx ws (rows.map iC))(hT:T.l.length=rows.length)(hn:rows.length≤2000)(hp:p≤2000)(hr:∀ r∈rows,r.length=p∧∀ x∈r,x = -1∨In rows.length x) :
  aU Φ 115 [.agg [P,.own inx 1 1 0 rows.length none,T.iv]] h (fun v h'=>(∃ os:List Bool,v = .rd rows.length (bC os) false∧os.length=rows.length∧∀ s,In rows.length s→(os.getD s.toNat false=true↔j0 rows.length (jW rows) (rb T.l) s))∧∀ k,h.get k≠none→h'.get k=h.get k):=by
 have hTab:Tab rows.length p (jW rows):=by
  have key:∀ s,In rows.length s→jW rows s∈rows:=fun s hs=>jg (by unfold In at hs;omega)
  exact⟨fun s hs=>(hr _ (key s hs)).1,fun s hs=>(hr _ (key s hs)).2⟩
 refine bb (fun o=>o == some 25) rfl L.f115 ?_
 repeat' first|apply ad|(apply gw;first|(apply gq0;first|refine aw rfl ?_|refine bm rfl ?_|refine ai (v:=AV.own _ _ _ _ _ _) rfl ?_)|refine ak rfl hg_ HU b_ pv_ ?_|refine aq rfl (Nat.zero_add _) ?_|(apply gq6;first|refine aD rfl ?_|refine dW rfl ?_)|(refine gJ (v:=AV.agg _) rfl rfl ?_;intro id hid;try simp only[aa.set_none]at hid)|(refine gb rfl rfl HT HT ?_;intro id hid;try simp only[aa.set_none]at hid))|(apply gx;first|apply af|refine ae rfl ?_|apply au)|apply ac
 rename_i ib hib ibk hibk
 have hne:∀ {k},h.get k≠none→k≠ib∧k≠ibk∧k≠id:=fun hk=>⟨fun e=>hk (e ▸ hib),fun e=>hk (e ▸ hibk.2),fun e=>hk (e ▸ hid.2.2)⟩
 have hstart:jV h (((h.set ib (.cells 0 [P,.own inx 1 1 0 rows.length none,T.iv])).set ibk (.cells 1 (List.replicate T.l.length (.rd 0 [] true)))).set id (.cells 1 (bC (jI T.l T.l.length 0)))) ib ibk id [P,.own inx 1 1 0 rows.length none,T.iv] (List.replicate T.l.length (.rd 0 [] true)) (List.replicate T.l.length []) (jI T.l T.l.length 0) (.rd 0 [] true) ((nE T.l 0).map fu):=by
  have hg:∀ k,eX ibk (List.replicate T.l.length (AV.rd 0 [] true)) k→k=ibk:=fun k hk=>by
   rcases hk with h1|⟨w,hw,h1⟩
   ·exact h1
   ·rw[List.mem_replicate]at hw
    rw[hw.2]at h1;cases h1
  refine⟨⟨hibk.1.symm,hid.2.1.symm,hid.1.symm⟩,?_,?_,aa.get_set_self _ _ _,aA.nil _ _,fun k hk=>?_,⟨hib,hid.2.2,fun k hk=>by rw[hg k hk];exact hibk.2,fun k hk=>by cases hk⟩,fun k hk=>?_,fun k hk=>by cases hk⟩
  ·rw[aa.get_set_ne _ _ hid.2.1.symm,aa.get_set_ne _ _ hibk.1.symm,aa.get_set_self]
  ·have:=dN.begin (h:=(((h.set ib (.cells 0 [P,.own inx 1 1 0 rows.length none,T.iv])).set ibk (.cells 1 (List.replicate T.l.length (.rd 0 [] true)))).set id (.cells 1 (bC (jI T.l T.l.length 0))))) (id:=ibk) (n:=T.l.length) (by rw[aa.get_set_ne _ _ hid.1.symm,aa.get_set_self])
   simpa using this
  ·obtain⟨h1,h2,h3⟩:=hne hk
   rw[aa.get_set_ne _ _ h3,aa.get_set_ne _ _ h2,aa.get_set_ne _ _ h1]
  ·have:=hg k hk
   subst this
   exact⟨hibk.1,hid.1.symm,by simp[AV.rowId]⟩
 have e1:(List.replicate (T.l.length:Int).toNat [AV.rd 0 [] true]).flatten=List.replicate T.l.length (.rd 0 [] true):=gW _ _
 have e2:(List.replicate (T.l.length:Int).toNat [AV.bool false]).flatten=bC (jI T.l T.l.length 0):=by
  rw[gW]
  refine List.ext_getElem (by simp[jI]) fun q h1 h2=>?_
  simp[jI]
 rw[e1,e2]
 refine cl rows.length (fun i env h'=>∃ bws bs vl,jV h h' ib ibk id [P,.own inx 1 1 0 rows.length none,T.iv] bws bs (jI T.l T.l.length i) vl ((nE T.l i).map fu)∧ix rows.length (jW rows) i (fun _=>False) bs∧(∀ b∈bs,b.length≤i*2000)∧env.has [(1,.ptr ib 0 0),(3,.own ibk 1 1 0 T.l.length none),(4,.own id 1 1 0 T.l.length none),(5,vl),(22,.own inx 1 1 0 rows.length none),(23,.int .i64 rows.length),(24,.int .i64 i)]) ⟨_,_,_,hstart,by rw[hT];exact ix.begin _ _,fun b hb=>by rw[List.mem_replicate]at hb;rw[hb.2];simp,hh_⟩ ?_
 clear hstart e1 e2
 rintro i env h' hi ⟨bws,bs,vl,hA,hB,hbl,he⟩
 obtain⟨env,rfl⟩:=he.ex
 clear he
 have hll:=wp T.l i
 by_cases hi2:i<rows.length
 ·obtain⟨r,hri⟩:=aK hi2
  obtain⟨rl,rto⟩:=hr r (List.mem_of_getElem? hri)
  have hrof:jW rows i=r:=by simp[jW,List.getD_eq_getElem?_getD,hri]
  obtain⟨w,hw⟩:=aK (l:=ws) (i:=i) (by have:=hG.len;simp at this;omega)
  obtain⟨t,ht⟩:=aK (l:=T.l) (i:=i) HT
  have hGx:∀ {h':aa},(∀ k,h.get k≠none→h'.get k=h.get k)→h'.get inx=some (.cells 1 ws)∧aA h' w 1 r.length (iC r):=fun ho=>by
   refine⟨(ho _ (by rw[hG.at_];simp)).trans hG.at_,?_⟩
   have:=hG.row (r:=iC r) hw (by rw[List.getElem?_map,hri];rfl)
   rw[List.length_map]at this
   exact this.keep fun k hk=>ho k (this.there hk)
  obtain⟨hx1,hw1⟩:=hGx hA.old
  apply af
  refine m9 rfl ?_
  have hbox:=hA.box
  repeat' first|apply ad|(apply gw;first|(apply gq0;first|refine aw rfl ?_|refine ai rv_ ?_)|refine iP (g:=_) rfl hg_ hw eq_ HU ?_|(refine aB rfl rfl rfl ?_ ?_<;>(intro hc;try omega))|refine bk rfl rfl HT HT ?_|refine eP rv_ (by assumption) ?_)|(apply gx;first|apply af|refine ae rfl ?_|apply ay|apply au|refine al rfl ?_)|apply ac
  refine cl r.length (fun j env h'=>∃ bws bs,jV h h' ib ibk id [P,.own inx 1 1 0 rows.length none,T.iv] bws bs (jI T.l T.l.length i) vl ((nE T.l i).map fu)∧ix rows.length (jW rows) i (fun t=>t∈r.take j) bs∧(∀ b∈bs,b.length≤i*2000+j)∧env.has [(1,.ptr ib 0 0),(3,.own ibk 1 1 0 T.l.length none),(4,.own id 1 1 0 T.l.length none),(5,vl),(6,.int .i64 i),(22,.own inx 1 1 0 rows.length none),(23,.int .i64 rows.length),(24,.int .i64 i),(29,w),(30,.int .i64 r.length),(31,.int .i64 j)]) ⟨bws,bs,hA,hB.iff HU,fun b hb=>by have:=hbl b hb;omega,hh_⟩ ?_
  clear hA hB hbl hx1 hw1 hbox
  rintro j env h' hj ⟨bws,bs,hA,hB,hbl,he⟩
  obtain⟨env,rfl⟩:=he.ex
  clear he
  obtain⟨hx1,hw1⟩:=hGx hA.old
  have hbsl:=hB.len
  have hbwl:=hA.grid.len
  rw[List.length_map]at hbwl
  by_cases hj2:j<r.length
  ·obtain⟨x,hx⟩:=aK hj2
   have hxo:=rto x (List.mem_of_getElem? hx)
   by_cases hx1:x = -1
   ·repeat' first|apply ad|(apply gw;first|refine aw rfl ?_|refine dP (g:=_) rfl hg_ hx eq_ ?_|(apply gq3;first|refine a8 rfl rfl rfl HT HT ?_|((first|refine aB rfl rfl rfl ?_ ?_|refine eM rfl rfl rfl ?_ ?_)<;>(intro hc;try omega)))|(refine cM rv_ (by assumption) rfl HT HT ?_;intro ir gr hvr hgr hgp;have hner:=aa.ne_of hgr;have hner2:=aa.ne_of2 hgr))|(apply gx;first|apply af|refine ae rfl ?_|apply ay|apply au|refine al rfl ?_|refine ah rfl ?_)|apply ac|apply aJ
    refine aW hj2 ⟨bws,bs,hA,hB.iff fun t=>?_,fun b hb=>by have:=hbl b hb;omega,hh_⟩
    rw[aX hx,List.mem_append,List.mem_singleton]
    have:((t:Int)=x)=False:=eq_false fun e=>by omega
    rw[this,or_false]
   ·have hxi:=hxo.resolve_left hx1
    have hxn:x=(x.toNat:Int):=by unfold In at hxi;omega
    obtain⟨bw,hbw⟩:=aK (l:=bws) (i:=x.toNat) (by unfold In at hxi;omega)
    obtain⟨b,hb⟩:=aK (l:=bs) (i:=x.toNat) (by unfold In at hxi;omega)
    have hbr:aA h' bw 1 b.length (iC b):=by
     have:=hA.grid.row (r:=iC b) hbw (by rw[List.getElem?_map,hb];rfl)
     rwa [List.length_map]at this
    have hbl2:=hbl b (List.mem_of_getElem? hb)
    have hgrid:=hA.grid.at_
    repeat' first|apply ad|(apply gw;first|(apply gq0;first|refine aw rfl ?_|refine ai (v:=AV.own _ _ _ _ _ _) rfl ?_)|refine dP (g:=_) rfl hg_ hx eq_ ?_|(apply gq3;first|((first|refine aB rfl rfl rfl ?_ ?_|refine eM rfl rfl rfl ?_ ?_)<;>(intro hc;try omega)))|(refine cM rv_ (by assumption) rfl HT HT ?_;intro ir gr hvr hgr hgp;have hner:=aa.ne_of hgr;have hner2:=aa.ne_of2 hgr))|(apply gx;first|apply af|refine ae rfl ?_|apply ay|apply au|refine al rfl ?_)|apply ac
    refine bk rfl rfl (by unfold In at hxi;omega) (by unfold In at hxi;omega) ?_
    repeat' first|(apply gw;first|refine aw rfl ?_|refine iP (g:=_) rfl hg_ hbw eq_ HU ?_|(refine br (m:=1) rv_ ir_ rfl rfl HT ?_;intro va hpa hra hka hria)|refine bF (cs:=[AV.int _ _]) rfl rfl ?_)
    refine bk rfl rfl (by unfold In at hxi;omega) (by unfold In at hxi;omega) ?_
    have hg2:hpa.get ibk=some (.cells 1 bws):=by
     rw[hka ibk (by rw[hgrid];simp) (fun e=>hA.grid.apart bw (List.mem_of_getElem? hbw) _ e rfl),hgrid]
    refine cr (v:=va) (cs':=bws.set x.toNat va) rfl rfl hra hg2 (by have:=lt_of_getElem? hbw;omega) (by rw[Nat.zero_add,Nat.mul_one]) ?_
    repeat' first|apply ad|(apply gw;first|refine aw rfl ?_|refine a8 rfl rfl rfl HT HT ?_)|refine ae rfl ?_|apply ac|apply aJ
    refine aW hj2 ⟨_,_,hA.back hbw (r:=b++[(i:Int)]) (by simpa using hra) hka hria,?_,fun q hq=>?_,hh_⟩
    ·have h1:=hB.add (x:=x.toNat) (by unfold In at hxi;omega)
     rw[show bs.getD x.toNat []=b by simp[List.getD_eq_getElem?_getD,hb]]at h1
     refine h1.iff fun t=>?_
     rw[aX hx,List.mem_append,List.mem_singleton,← hxn]
    ·rcases List.mem_or_eq_of_mem_set hq with hq|rfl
     ·have:=hbl q hq;omega
     ·simp;omega
  ·rw[List.take_of_length_le HT]at hB
   have hB2:=(show ix rows.length (jW rows) i (fun t=>t∈jW rows i) bs by rw[hrof];exact hB).next
   have hbl2:∀ b∈bs,b.length≤(i+1)*2000:=fun b hb=>by have:=hbl b hb;omega
   have htg:T.l.getD i (-1)=t:=by simp[List.getD_eq_getElem?_getD,ht]
   have hbox:=hA.box
   have hout:=hA.out
   have hleft:=hA.left
   rw[List.length_map]at hleft
   by_cases ht0:0≤t
   ·have es:=tG (T:=T.l) (n:=T.l.length) (i:=i) HT
    rw[htg,if_pos ht0]at es
    have el:=tF T.l i
    rw[htg,if_pos ht0]at el
    have hA2:=hA.mark ((jI T.l T.l.length i).set i true)
    have hleft2:=hA2.left
    rw[List.length_map]at hleft2
    repeat' first|apply ad|(apply gw;first|(apply gq0;first|refine aw rfl ?_|refine ai (v:=AV.own _ _ _ _ _ _) rfl ?_)|(apply gq2;first|refine aI rfl b_ pv_ ?_|refine ak rfl hg_ HU b_ pv_ ?_)|(apply gq3;first|((first|refine aB rfl rfl rfl ?_ ?_|refine jq rfl rfl rfl ?_ ?_)<;>(intro hc;try omega)))|refine aq rfl (Nat.zero_add _) ?_|(apply gq5;first|refine ar rfl rfl ht HT rfl ?_|refine bk rfl rfl HT HT ?_))|(apply gx;first|apply af|refine ae rfl ?_|apply aP|refine al rfl ?_|refine ah rfl ?_)|apply ac|apply aQ|apply aR|apply ba
    refine pv (f:=AV.bool) (l:=jI T.l T.l.length i) (a':=true) (m:=i) rfl rfl hout HT (by simp[jI];omega) rfl rfl rfl ?_
    repeat' first|apply ad|(apply gw;first|(apply gq0;first|refine aw rfl ?_|refine ai rv_ ?_)|refine a8 rfl rfl rfl HT HT ?_|(refine br (m:=1) rv_ ir_ rfl rfl HT ?_;intro va hpa hra hka hria)|refine bF (cs:=[AV.int _ _]) rfl rfl ?_)|refine ae rfl ?_|apply ac|apply aJ
    refine aW hi2 ⟨bws,bs,va,?_,hB2,hbl2,hh_⟩
    rw[es,el]
    exact hA2.push (by simpa[fu] using hra) hka hria
   ·have es:=tG (T:=T.l) (n:=T.l.length) (i:=i) HT
    rw[htg,if_neg ht0]at es
    have el:=tF T.l i
    rw[htg,if_neg ht0,List.append_nil]at el
    repeat' first|apply ad|(apply gw;first|refine aw rfl ?_|(apply gq2;first|refine aI rfl b_ pv_ ?_|refine ak rfl hg_ HU b_ pv_ ?_)|(apply gq3;first|refine a8 rfl rfl rfl HT HT ?_|((first|refine aB rfl rfl rfl ?_ ?_|refine jq rfl rfl rfl ?_ ?_)<;>(intro hc;try omega)))|refine aq rfl (Nat.zero_add _) ?_|refine ar rfl rfl ht HT rfl ?_)|(apply gx;first|apply af|refine ae rfl ?_|apply ay|apply aP|refine ah rfl ?_)|apply ac|apply aQ|apply aJ|apply aR|apply ba
    refine aW hi2 ⟨bws,bs,vl,by rw[es,el];exact hA,hB2,hbl2,hh_⟩
 ·have hi3:i=rows.length:=by omega
  subst hi3
  have hbsl:=hB.len
  apply af
  refine ya 3 (id:=ibk) (ws:=bws) (rows:=bs.map iC) rfl (by rw[List.length_map,hbsl,← hT];rfl) hA.grid ?_
  intro h2 hk2
  have e3:AV.rd (bs.map iC).length ((bs.map iC).map fun r => .rd r.length r false) false = .rd (bs.map fun l=>Rw.mk l false).length ((bs.map fun l=>Rw.mk l false).map Rw.iv) false:=by
   rw[List.length_map,List.length_map,List.map_map,List.map_map]
   congr 1
   apply List.map_congr_left
   intro l _
   simp
  rw[e3]
  generalize hBR:bs.map (fun l=>Rw.mk l false)=BR
  have hBRl:BR.length=rows.length:=by rw[← hBR,List.length_map,hbsl]
  have hng:∀ k,h.get k≠none→¬ eX ibk bws k:=fun k hk hg=>hk (hA.new.2.2.1 k hg)
  have hold2:∀ k,h.get k≠none→h2.get k=h.get k:=fun k hk=>(hk2 k (hng k hk)).trans (hA.old k hk)
  have hout2:h2.get id=some (.cells 1 (bC (jI T.l rows.length rows.length))):=by
   rw[hk2 id (fun hg=>(hA.gap id hg).2.1 rfl),hA.out,hT]
  have hleft2:aA h2 vl 1 (nE T.l rows.length).length ((nE T.l rows.length).map fu):=by
   have:=hA.left
   rw[List.length_map]at this
   exact this.keep fun k hk=>hk2 k fun hg=>(hA.gap k hg).2.2 hk
  have hlid:vl.rowId≠some id:=fun e=>(hA.lap _ e).2 rfl
  have hlnew:=hA.new.2.2.2
  have hcnt:=Ao T.l rows.length
  have hinv:dX rows.length (jW rows) (rb T.l) bs (jI T.l rows.length rows.length) (nE T.l rows.length) (fun _=>False) (fun _=>True):=EV
  clear hA hk2 hng
  repeat' first|apply ad|(refine aB rfl rfl rfl ?_ ?_<;>(intro hc;try omega))|(apply gx;first|apply af|apply au|apply aP|refine ah rfl ?_)|apply ac|apply aQ|apply aR|apply ba
  refine ic (fun m env h'=>∃ os ls vl,m=2*os.count false+ls.length∧dX rows.length (jW rows) (rb T.l) bs os ls (fun _=>False) (fun _=>True)∧h'.get id=some (.cells 1 (bC os))∧gA h' vl 1 ls.length (ls.map fu)∧vl.rowId≠some id∧(∀ k,vl.rowId=some k→h.get k=none)∧(∀ k,h.get k≠none→h'.get k=h.get k)∧ls.length+os.count false≤rows.length∧env.has [(3,.rd BR.length (BR.map Rw.iv) false),(4,.own id 1 1 0 T.l.length none),(5,vl)]) _ ⟨_,_,vl,rfl,hinv,hout2,hleft2.pre,hlid,hlnew,hold2,by omega,hh_⟩ ?_
  clear hinv hout2 hleft2 hlid hlnew hold2 hcnt
  rintro m env h' ⟨os,ls,vl,rfl,hI,hout,hleft,hlid,hlnew,hold,hcnt,he⟩
  obtain⟨env,rfl⟩:=he.ex
  clear he
  have hnt:vl.isTup=false:=by rcases hleft with⟨rfl,_⟩|⟨_,_,_,rfl,_⟩<;>rfl
  have hol:=hI.len
  rcases rn ls with rfl|⟨ls,q,rfl⟩
  ·have hl0:([]:List Nat).length=0:=rfl
   apply af
   repeat' first|apply ad|(apply gw;first|(apply gq0;first|refine ai (v:=AV.own _ _ _ _ _ _) rfl ?_|refine ai rv_ ?_)|(refine dS rfl rfl rfl ?_ ?_<;>(intro hc;try omega))|refine rg rv_ (by assumption) ?_)|(apply gx;first|apply af|refine ae rfl ?_|apply aM|apply aP|refine ah rfl ?_)|apply ac|apply aQ|apply aR|apply ba
   have hrow:aA h' (.own id 1 1 0 T.l.length none) 1 T.l.length (bC os) := .inr ⟨id,1,rfl,hout,Nat.le_refl _,by simp;omega⟩
   refine zO rfl hrow.app fun h3 hk3=>⟨⟨os,by rw[hT],hol,fun s hs=>hI.done hTab hB hs⟩,fun k hk=>?_⟩
   rw[hk3 k (fun e=>hk (by cases e;exact hid.2.2)),hold k hk]
  ·have hl0:(ls++[q]).length=ls.length+1:=by simp
   have hls:(ls++[q])[ls.length]?=some q:=by simp
   have hq:q<rows.length:=by
    have:=(List.getElem?_eq_some_iff.1 (hI.left q HU)).1
    omega
   obtain⟨b,hb⟩:=aK (l:=bs) (i:=q) HT
   have hbR:BR[q]?=some ⟨b,false⟩:=by rw[← hBR,List.getElem?_map,hb];rfl
   have hbd:bs.getD q []=b:=by simp[List.getD_eq_getElem?_getD,hb]
   have hbl2:=hbl b (List.mem_of_getElem? hb)
   have hpop:=hI.pop
   apply af
   repeat' first|apply ad|(apply gw;first|(apply gq0;first|refine aw rfl ?_|refine bm rfl ?_|refine ai (v:=AV.own _ _ _ _ _ _) rfl ?_|refine ai rv_ ?_)|(apply gq2;first|refine aI rfl b_ pv_ ?_|refine qw (g:=_) rfl hg_ (by assumption) (by assumption) eq_ ?_)|(apply gq3;first|refine iq rfl rfl rfl HT HT ?_|(refine dS rfl rfl rfl ?_ ?_<;>(intro hc;try omega)))|(apply gq5;first|refine ar rfl rfl hbR HT rfl ?_|(refine uN rv_ (by assumption) rfl HT HT ?_;intro ir gr allr hvr hgr hgp hlr htr;have hner:=aa.ne_of hgr;have hner2:=aa.ne_of2 hgr))|(apply gq6;first|refine aD rfl ?_|refine rg rv_ (by assumption) ?_)|refine l9 (by assumption) rfl HT HT ?_)|(apply gx;first|apply af|refine ae rfl ?_|apply ay|apply au|refine al rfl ?_)|apply ac
   have hl1:(((ls++[q]).length:Int)-1).toNat=ls.length:=by omega
   rw[hl1]
   have hlir:ir≠id:=fun e=>hlid (by rw[hvr,e];rfl)
   have hlh:h.get ir=none:=hlnew ir (by rw[hvr];rfl)
   have hleft2:gA h' (.own ir gr 1 0 ls.length none) 1 ls.length (ls.map fu):=by
    refine .inr ⟨ir,gr,allr,rfl,hgr,hgp,by omega,?_⟩
    have h1:(allr.take ((ls++[q]).length*1)).take (ls.length*1)=ls.map fu:=by
     rw[htr,List.map_append,Nat.mul_one]
     simp
    rwa [List.take_take,Nat.min_eq_left HT]at h1
   refine cl b.length (fun j env h'=>∃ os' ls' vl,dX rows.length (jW rows) (rb T.l) bs os' ls' (fun x=>x=q) (fun f=>f∈b.take j)∧h'.get id=some (.cells 1 (bC os'))∧gA h' vl 1 ls'.length (ls'.map fu)∧vl.rowId≠some id∧(∀ k,vl.rowId=some k→h.get k=none)∧(∀ k,h.get k≠none→h'.get k=h.get k)∧ls'.length+os'.count false+1≤rows.length∧2*os'.count false+ls'.length+1≤2*os.count false+(ls++[q]).length∧env.has [(3,.rd BR.length (BR.map Rw.iv) false),(4,.own id 1 1 0 T.l.length none),(5,vl),(79,.rd b.length (b.map (.int .i64)) false),(80,.int .i64 b.length),(81,.int .i64 j)]) ⟨os,ls,_,hpop.iff HU,hout,hleft2,by simpa[AV.rowId] using hlir,(fun k hk=>by cases hk;exact hlh),hold,by omega,by omega,hh_⟩ ?_
   clear hout hleft hleft2 hlid hlnew hold hnt hgr htr hlr hner hner2 hvr hpop hlir hlh hol
   rintro j env h' hj ⟨os',ls',vl,hI,hout,hleft,hlid,hlnew,hold,hcnt2,hdec,he⟩
   obtain⟨env,rfl⟩:=he.ex
   clear he
   have hnt:vl.isTup=false:=by rcases hleft with⟨rfl,_⟩|⟨_,_,_,rfl,_⟩<;>rfl
   have hol:=hI.len
   by_cases hj2:j<b.length
   ·obtain⟨x,hx⟩:=aK hj2
    have hxm:x∈bs.getD q []:=by rw[hbd];exact List.mem_of_getElem? hx
    have hxb:0≤x∧x<rows.length∧(q:Int)∈jW rows x:=by
     rcases (hB.mem q hq x).1 hxm with h1|h1
     ·exact h1
     ·exact h1.2.elim
    have hxi:In rows.length x:=⟨hxb.1,hxb.2.1⟩
    have hxn:x=(x.toNat:Int):=by omega
    obtain⟨o,ho⟩:=aK (l:=os') (i:=x.toNat) HT
    have hsn:∀ f,f∈b.take (j+1)→f∈b.take j∨f=x:=fun f hf=>by
     rw[aX hx,List.mem_append,List.mem_singleton]at hf
     exact hf
    repeat' first|apply ad|(apply gw;first|(apply gq0;first|refine aw rfl ?_|refine ai (v:=AV.own _ _ _ _ _ _) rfl ?_)|(apply gq2;first|refine dP (g:=_) rfl hg_ ho eq_ ?_|refine aI rfl b_ pv_ ?_)|(refine aB rfl rfl rfl ?_ ?_<;>(intro hc;try omega))|(apply gq5;first|refine ar rfl rfl hx HT rfl ?_|refine bk rfl rfl HT HT ?_)|refine dm rfl ?_)|(apply gx;first|apply af|refine ae rfl ?_|apply ay|apply au|refine al rfl ?_)|apply ac
    cases o
    ·have hlive:j0 rows.length (jW rows) (rb T.l) x := .step hxi hxb.2.2 (by unfold In;omega) (hI.sound q (hI.curs q rfl))
     have hmk:=hI.mark hxi hlive
     have hc1:=ss ho
     have hleft3:gA (h'.set id (.cells 1 ((os'.set x.toNat true).map AV.bool))) vl 1 ls'.length (ls'.map fu):=hleft.set_ne hlid
     repeat' first|apply ad|(apply gw;first|(apply gq0;first|refine aw rfl ?_|refine ai (v:=AV.own _ _ _ _ _ _) rfl ?_|refine ai rv_ ?_)|refine a8 rfl rfl rfl HT HT ?_|refine bk rfl rfl HT HT ?_|refine pv (g:=_) rfl rfl hg_ (by simp only[Nat.zero_add,Nat.mul_one];exact rfl) HT rfl rfl (by exact rfl) ?_|(refine sQ (m:=1) rv_ ip_ rfl rfl HT ?_;intro va hpa hra hka hria)|refine bF (cs:=[AV.int _ _]) rfl rfl ?_)|(apply gx;first|apply af|refine ae rfl ?_|refine al rfl ?_)|apply ac|apply aJ
     refine aW hj2 ⟨_,_,va,hmk.iff hsn,?_,?_,?_,?_,?_,?_,?_,hh_⟩
     ·rw[hka id (by rw[aa.get_set_self];simp) hlid,aa.get_set_self]
     ·rw[List.length_append,List.map_append]
      refine aA.pre ?_
      simpa[fu,← hxn] using hra
     ·intro e
      rcases hria id e with h1|h1
      ·exact hlid h1
      ·rw[aa.get_set_self]at h1;cases h1
     ·intro k hk
      rcases hria k hk with h1|h1
      ·exact hlnew k h1
      ·rw[aa.set_none]at h1
       apply Classical.byContradiction
       intro hn
       rw[hold k hn]at h1
       exact hn h1.2
     ·intro k hk
      have e1:(h'.set id (.cells 1 ((os'.set x.toNat true).map AV.bool))).get k=h'.get k:=aa.get_set_ne _ _ (hne hk).2.2
      rw[hka k (by rw[e1,hold k hk];exact hk) (fun e=>hk (hlnew k e)),e1,hold k hk]
     ·rw[List.length_append];simp only[List.length_cons,List.length_nil];omega
     ·rw[List.length_append];simp only[List.length_cons,List.length_nil];omega
    ·repeat' first|apply ad|(apply gw;first|refine aw rfl ?_|refine a8 rfl rfl rfl HT HT ?_)|(apply gx;first|refine ae rfl ?_|apply ay|refine ah rfl ?_)|apply ac|apply aJ
     refine aW hj2 ⟨os',ls',vl,(hI.old ho).iff hsn,hout,hleft,hlid,hlnew,hold,hcnt2,hdec,hh_⟩
   ·repeat' first|apply ad|(refine aB rfl rfl rfl ?_ ?_<;>(intro hc;try omega))|(apply gx;first|apply af|refine ae rfl ?_|apply aP|refine ah rfl ?_)|apply ac|apply aQ|apply aJ|apply aR|apply ba
    rw[List.take_of_length_le HT,← hbd]at hI
    refine fo (2*os'.count false+ls'.length) HT ⟨os',ls',vl,rfl,hI.end_,hout,hleft,hlid,hlnew,hold,by omega,hh_⟩
end
section
open Go
theorem hq_ {P:Prop}(h:P:=by first|assumption|fail):P:=h
theorem iq_ {P:Prop}(h:P:=by first|assumption|exact aA.nil _ _|fail):P:=h
theorem rx_ {P:Prop}(h:P:=by first|(simp only[D3,jQ,Env.puts,Env.put_apply,reduceIte,Nat.reduceEqDiff];exact rfl)|exact rfl):P:=h
section
variable {F:bR} {r:List bA} {Q:Env→aa→Prop} {env:Env} {h:aa} {d:Option Nat} {x y:bl} {v:AV}
theorem Au {b n ag}(hx:ev env x=v)(k:aj F (⟨d,.load b n ag (.const v),none⟩::r) Q env h):aj F (⟨d,.load b n ag x,none⟩::r) Q env h:=by
 subst hx
 simpa only[bE,qT,aT,jQ] using k
theorem Aw {o}(hx:ev env x=v)(k:aj F (⟨d,.bin o (.const v) y,none⟩::r) Q env h):aj F (⟨d,.bin o x y,none⟩::r) Q env h:=by
 subst hx
 simpa only[bE,uC,jQ] using k
theorem Av {o}(hx:ev env y=v)(k:aj F (⟨d,.bin o x (.const v),none⟩::r) Q env h):aj F (⟨d,.bin o x y,none⟩::r) Q env h:=by
 subst hx
 simpa only[bE,uC,jQ] using k
theorem wx {e}(hx:ev env x=v)(k:aj F (⟨d,.indexAddr e (.const v) y,none⟩::r) Q env h):aj F (⟨d,.indexAddr e x y,none⟩::r) Q env h:=by
 subst hx
 simpa only[bE,nJ,aF,jQ] using k
theorem wv {e}(hx:ev env y=v)(k:aj F (⟨d,.indexAddr e x (.const v),none⟩::r) Q env h):aj F (⟨d,.indexAddr e x y,none⟩::r) Q env h:=by
 subst hx
 simpa only[bE,nJ,aF,jQ] using k
theorem wr {n}(hx:ev env x=v)(k:aj F (⟨d,.store n (.const v) y,none⟩::r) Q env h):aj F (⟨d,.store n x y,none⟩::r) Q env h:=by
 subst hx
 simp only[bE,pm]at k ⊢
 exact k
theorem wq {n}(hx:ev env y=v)(k:aj F (⟨d,.store n x (.const v),none⟩::r) Q env h):aj F (⟨d,.store n x y,none⟩::r) Q env h:=by
 subst hx
 simp only[bE,pm]at k ⊢
 exact k
theorem C5 {n}(hx:ev env x=v)(k:aj F (⟨d,.len n (.const v),none⟩::r) Q env h):aj F (⟨d,.len n x,none⟩::r) Q env h:=by
 subst hx
 simpa only[bE,zp,aT,jQ] using k
theorem uS {n}(hx:ev env x=v)(k:aj F (⟨d,.append n (.const v) y,none⟩::r) Q env h):aj F (⟨d,.append n x y,none⟩::r) Q env h:=by
 subst hx
 simp only[bE,jm]at k ⊢
 exact k
theorem uR {n}(hx:ev env y=v)(k:aj F (⟨d,.append n x (.const v),none⟩::r) Q env h):aj F (⟨d,.append n x y,none⟩::r) Q env h:=by
 subst hx
 simp only[bE,jm]at k ⊢
 exact k
theorem yh {n}(hx:ev env x=v)(k:aj F (⟨d,.fieldAddr n (.const v),none⟩::r) Q env h):aj F (⟨d,.fieldAddr n x,none⟩::r) Q env h:=by
 subst hx
 simpa only[bE,sM,aF,jQ] using k
end
section
variable {F:bR} {r:List bA} {Q:Env→aa→Prop} {env:Env} {h:aa} {d:Option Nat} {x y:bl} {v:AV} {t:Nat}
theorem aC {b n ag}(hx:ev env (.tmp t)=v)(k:aj F (⟨d,.load b n ag (.const v),none⟩::r) Q env h):aj F (⟨d,.load b n ag (.tmp t),none⟩::r) Q env h:=Au hx k
theorem az {o}(hx:ev env (.tmp t)=v)(k:aj F (⟨d,.bin o (.const v) y,none⟩::r) Q env h):aj F (⟨d,.bin o (.tmp t) y,none⟩::r) Q env h:=Aw hx k
theorem aN {o}(hx:ev env (.tmp t)=v)(k:aj F (⟨d,.bin o x (.const v),none⟩::r) Q env h):aj F (⟨d,.bin o x (.tmp t),none⟩::r) Q env h:=Av hx k
theorem aO {e}(hx:ev env (.tmp t)=v)(k:aj F (⟨d,.indexAddr e (.const v) y,none⟩::r) Q env h):aj F (⟨d,.indexAddr e (.tmp t) y,none⟩::r) Q env h:=wx hx k
theorem aS {e}(hx:ev env (.tmp t)=v)(k:aj F (⟨d,.indexAddr e x (.const v),none⟩::r) Q env h):aj F (⟨d,.indexAddr e x (.tmp t),none⟩::r) Q env h:=wv hx k
theorem bg {n}(hx:ev env (.tmp t)=v)(k:aj F (⟨d,.store n (.const v) y,none⟩::r) Q env h):aj F (⟨d,.store n (.tmp t) y,none⟩::r) Q env h:=wr hx k
theorem bf {n}(hx:ev env (.tmp t)=v)(k:aj F (⟨d,.store n x (.const v),none⟩::r) Q env h):aj F (⟨d,.store n x (.tmp t),none⟩::r) Q env h:=wq hx k
theorem bM {n}(hx:ev env (.tmp t)=v)(k:aj F (⟨d,.len n (.const v),none⟩::r) Q env h):aj F (⟨d,.len n (.tmp t),none⟩::r) Q env h:=C5 hx k
theorem bX {n}(hx:ev env (.tmp t)=v)(k:aj F (⟨d,.append n (.const v) y,none⟩::r) Q env h):aj F (⟨d,.append n (.tmp t) y,none⟩::r) Q env h:=uS hx k
theorem bW {n}(hx:ev env (.tmp t)=v)(k:aj F (⟨d,.append n x (.const v),none⟩::r) Q env h):aj F (⟨d,.append n x (.tmp t),none⟩::r) Q env h:=uR hx k
theorem aG {n}(hx:ev env (.tmp t)=v)(k:aj F (⟨d,.fieldAddr n (.const v),none⟩::r) Q env h):aj F (⟨d,.fieldAddr n (.tmp t),none⟩::r) Q env h:=yh hx k
end
structure cC where
 foot:Nat→Prop
 holds:aa→Prop
 keep:∀ {h h':aa},holds h→(∀ k,foot k→h'.get k=h.get k)→holds h'
 there:∀ {h:aa},holds h→∀ k,foot k→h.get k≠none
@[reducible] def ck (id:Nat)(o:gB):cC :=
 ⟨fun k=>k=id,fun h=>h.get id=some o,fun h1 h2=>(h2 _ rfl).trans h1,fun h1 k hk=>by subst hk;rw[h1];simp⟩
@[reducible] def cP (v:AV)(e n:Nat)(cs:List AV):cC :=
 ⟨fun k=>v.rowId=some k,fun h=>aA h v e n cs,fun h1 h2=>h1.keep fun k hk=>h2 k hk,fun h1 k hk=>h1.there hk⟩
@[reducible] def FH (v:AV)(e n:Nat)(cs:List AV):cC :=
 ⟨fun k=>v.rowId=some k,fun h=>dx h v e n cs,fun h1 h2=>h1.keep fun k hk=>h2 k hk,fun h1 k hk=>h1.there hk⟩
@[reducible] def lL (id:Nat)(ws:List AV)(rows:List (List AV)):cC :=
 ⟨eX id ws,fun h=>dN h id ws rows,fun h1 h2=>h1.keep h2,fun h1 k hk=>h1.there hk⟩
@[reducible] def jA (h0:aa):cC :=
 ⟨fun k=>h0.get k≠none,fun h=>∀ k,h0.get k≠none→h.get k=h0.get k,fun h1 h2 k hk=>(h2 k hk).trans (h1 k hk),fun h1 k hk=>by rw[h1 k hk];exact hk⟩
structure Sep (h:aa)(cs:List cC):Prop where
 all:∀ c∈cs,c.holds h
 apart:cs.Pairwise fun c d=>∀ k,c.foot k→¬ d.foot k
theorem Sep.get {h:aa}{cs:List cC}(hS:Sep h cs){i:Nat}{c:cC}(hc:cs[i]?=some c):c.holds h:=hS.all c (List.mem_of_getElem? hc)
theorem Sep.disj {h:aa}{cs:List cC}(hS:Sep h cs){i j:Nat}{c d:cC}(hc:cs[i]?=some c)(hd:cs[j]?=some d)(hij:i≠j)(k:Nat)(h1:c.foot k)(h2:d.foot k):False:=by
 obtain⟨hi,rfl⟩:=List.getElem?_eq_some_iff.1 hc
 obtain⟨hj,rfl⟩:=List.getElem?_eq_some_iff.1 hd
 have hp:=List.pairwise_iff_getElem.1 hS.apart
 rcases Nat.lt_or_gt_of_ne hij with h3|h3
 ·exact hp i j hi hj h3 k h1 h2
 ·exact hp j i hj hi h3 k h2 h1
theorem Sep.old (h:aa):Sep h [jA h]:=⟨fun c hc=>by simp at hc;subst hc;exact fun k _=>rfl,List.pairwise_singleton _ _⟩
theorem Sep.upd {h h':aa}{cs:List cC}(hS:Sep h cs)(i:Nat){c:cC}(c':cC)(hc:cs[i]?=some c)(hc':c'.holds h')(ho:∀ k,h.get k≠none→¬ c.foot k→h'.get k=h.get k)(hf:∀ k,c'.foot k→c.foot k∨h.get k=none):Sep h' (cs.set i c'):=by
 obtain⟨hi,rfl⟩:=List.getElem?_eq_some_iff.1 hc
 have hp:=List.pairwise_iff_getElem.1 hS.apart
 have keep:∀ j (hj:j<cs.length),j≠i→cs[j].holds h':=fun j hj hne=>by
  refine(cs[j]).keep (hS.all _ (List.getElem_mem hj)) fun k hk=>ho k ((cs[j]).there (hS.all _ (List.getElem_mem hj)) k hk) fun hk2=>?_
  exact hS.disj (List.getElem?_eq_getElem hj) hc hne k hk hk2
 constructor
 ·intro d hd
  obtain⟨j,hj,rfl⟩:=List.getElem_of_mem hd
  rw[List.length_set]at hj
  rw[List.getElem_set]
  split
  ·exact hc'
  ·rename_i hne
   exact keep j hj (Ne.symm hne)
 ·rw[List.pairwise_iff_getElem]
  intro a b ha hb hab k hka hkb
  rw[List.length_set]at ha hb
  rw[List.getElem_set]at hka hkb
  split at hka
  ·rename_i e
   subst e
   rw[if_neg HT]at hkb
   rcases hf k hka with h1|h1
   ·exact hp _ b ha hb hab k h1 hkb
   ·exact(cs[b]).there (hS.all _ (List.getElem_mem hb)) k hkb h1
  ·split at hkb
   ·rename_i _ e
    subst e
    rcases hf k hkb with h1|h1
    ·exact hp a _ ha hb hab k hka h1
    ·exact(cs[a]).there (hS.all _ (List.getElem_mem ha)) k hka h1
   ·exact hp a b ha hb hab k hka hkb
theorem Sep.put {h:aa}{cs:List cC}(hS:Sep h cs)(i:Nat){id:Nat}{o:gB}(o':gB)(hc:cs[i]?=some (ck id o)):Sep (h.set id o') (cs.set i (ck id o')) :=
 hS.upd i _ hc (aa.get_set_self _ _ _) (fun k _ hk=>aa.get_set_ne _ _ hk) (fun k hk => .inl hk)
theorem Sep.turn {h:aa}{cs:List cC}(hS:Sep h cs)(i:Nat){c:cC}(c':cC)(hc:cs[i]?=some c)(hc':c'.holds h)(hf:∀ k,c'.foot k→c.foot k):Sep h (cs.set i c') :=
 hS.upd i c' hc hc' (fun _ _ _=>rfl) (fun k hk => .inl (hf k hk))
theorem Sep.add {h h':aa}{cs:List cC}(hS:Sep h cs)(c:cC)(hc:c.holds h')(ho:∀ k,h.get k≠none→h'.get k=h.get k)(hf:∀ k,c.foot k→h.get k=none):Sep h' (cs++[c]):=by
 constructor
 ·intro d hd
  rcases List.mem_append.1 hd with hd|hd
  ·exact d.keep (hS.all d hd) fun k hk=>ho k (d.there (hS.all d hd) k hk)
  ·simp at hd;subst hd;exact hc
 ·rw[List.pairwise_append]
  refine⟨hS.apart,List.pairwise_singleton _ _,fun a ha b hb k hka hkb=>?_⟩
  simp at hb;subst hb
  exact a.there (hS.all a ha) k hka (hf k hkb)
theorem Sep.new {h:aa}{cs:List cC}(hS:Sep h cs){id:Nat}{o:gB}(hid:h.get id=none):Sep (h.set id o) (cs++[ck id o]) :=
 hS.add _ (aa.get_set_self _ _ _) (fun k hk=>aa.get_set_ne _ _ (fun e=>hk (e ▸ hid))) (fun k hk=>by rw[hk];exact hid)
theorem Sep.drop {h h':aa}{cs:List cC}(hS:Sep h cs)(i:Nat){c:cC}(hc:cs[i]?=some c)(ho:∀ k,¬ c.foot k→h'.get k=h.get k):Sep h' (cs.eraseIdx i):=by
 obtain⟨hi,rfl⟩:=List.getElem?_eq_some_iff.1 hc
 refine⟨fun d hd=>?_,hS.apart.sublist (List.eraseIdx_sublist _ _)⟩
 obtain⟨j,hj,hje⟩:=List.mem_eraseIdx_iff_getElem.1 hd
 obtain⟨hj1,rfl⟩:=hje
 refine(cs[j]).keep (hS.all _ (List.getElem_mem hj)) fun k hk=>ho k fun hk2=>?_
 exact hS.disj (List.getElem?_eq_getElem hj) hc hj1 k hk hk2
theorem Sep.gput {h hpa:aa}{cs:List cC}(hS:Sep h cs)(i:Nat){inx j:Nat}{ws:List AV}{rows:List (List AV)}{w va:AV}{r:List AV}(hc:cs[i]?=some (lL inx ws rows))(hw:ws[j]?=some w)
  (hrow:aA hpa va 1 r.length r) (hka:∀ k,h.get k≠none→w.rowId≠some k→hpa.get k=h.get k) (hria:∀ k,va.rowId=some k→w.rowId=some k∨h.get k=none) :
  Sep (hpa.set inx (.cells 1 (ws.set j va))) (cs.set i (lL inx (ws.set j va) (rows.set j r)))∧hpa.get inx=some (.cells 1 ws):=by
 have hG:dN h inx ws rows:=hS.get hc
 have hwm:=List.mem_of_getElem? hw
 obtain⟨g1,g2⟩:=hG.put hw hrow hka hria
 refine⟨hS.upd i _ hc g1 (fun k hk hng=>?_) g2,?_⟩
 ·rw[aa.get_set_ne _ _ (fun e=>hng (.inl e)),hka k hk (fun e=>hng (.inr ⟨w,hwm,e⟩))]
 ·rw[hka inx (by rw[hG.at_];simp) (fun e=>hG.apart w hwm _ e rfl),hG.at_]
theorem Sep.ext {h h':aa}{cs:List cC}(hS:Sep h cs)(ho:∀ k,h.get k≠none→h'.get k=h.get k):Sep h' cs :=
 ⟨fun d hd=>d.keep (hS.all d hd) fun k hk=>ho k (d.there (hS.all d hd) k hk),hS.apart⟩
theorem Sep.rowset {h:aa}{cs:List cC}(hS:Sep h cs)(i:Nat){v:AV}{e n id g:Nat}{rs:List AV}(rs':List AV)(hc:cs[i]?=some (cP v e n rs))(hv:v = .own id g e 0 n none)(hg:1≤g)(hl:rs'.length=n*e):Sep (h.set id (.cells g rs')) (cs.set i (cP v e n rs')):=by
 refine hS.upd i _ hc (.inr ⟨id,g,hv,aa.get_set_self _ _ _,hg,hl⟩) (fun k _ hk=>aa.get_set_ne _ _ fun e=>hk ?_) (fun k hk => .inl hk)
 subst hv e
 rfl
theorem Sep.gtake {h:aa}{cs:List cC}(hS:Sep h cs)(i i' j:Nat){inx q:Nat}{ws:List AV}{rows:List (List AV)}{w va:AV}{r:List AV}(hj:cs[j]?=some (cP va 1 r.length r))(hi:(cs.eraseIdx j)[i']?=some (lL inx ws rows))(hw:ws[q]?=some w) :
  Sep (h.set inx (.cells 1 (ws.set q va))) ((cs.eraseIdx j).set i' (lL inx (ws.set q va) (rows.set q r)))∧h.get inx=some (.cells 1 ws):=by
 have hm:=hS.drop j (h':=h.drop fun k=>va.rowId=some k) hj fun k hk=>by
  simp only[aa.drop]
  rw[if_neg hk]
 refine hm.gput i' hi hw (hS.get hj) (fun k hk _=>?_) fun k hk => .inr ?_
 ·simp only[aa.drop]at hk ⊢
  split
  ·rename_i h1;rw[if_pos h1]at hk;exact absurd rfl hk
  ·rfl
 ·simp only[aa.drop]
  rw[if_pos hk]
theorem Sep.weak {h:aa}{cs ds:List cC}(hS:Sep h cs)(hs:ds.Sublist cs):Sep h ds:=⟨fun d hd=>hS.all d (hs.mem hd),hS.apart.sublist hs⟩
theorem E4 {F:bR}{l:List bA}{Q:Env→aa→Prop}{env:Env}{h:aa}(cs:List cC)(hS:Sep h cs)(k:∀ h1,Sep h1 cs→aj F l Q env h1):aj F l Q env h:=k h hS
theorem Sep.grid0 {h:aa}{cs:List cC}(hS:Sep h cs)(i:Nat){id n:Nat}(hc:cs[i]?=some (ck id (.cells 1 (List.replicate n (.rd 0 [] true))))):Sep h (cs.set i (lL id (List.replicate n (.rd 0 [] true)) (List.replicate n []))) :=
 hS.turn i _ hc (dN.begin (hS.get hc)) fun k hk=>by
  rcases hk with h1|⟨w,hw,h1⟩
  ·exact h1
  ·rw[List.mem_replicate]at hw
   rw[hw.2]at h1;cases h1
theorem Sep.nil {h:aa}{cs:List cC}(hS:Sep h cs)(e:Nat):Sep h (cs++[cP (.rd 0 [] true) e 0 []]):=hS.add _ (aA.nil _ _) (fun _ _=>rfl) (fun k hk=>by cases hk)
end
section
open Go
set_option maxHeartbeats 4000000
theorem mA {env:Env}{h:aa}{t id g n:Nat}{cs:List AV}(ht:env t = .ptr id g 0)(hg:h.get id=some (.cells g cs))(hl:cs.length=n):ef env h [.cell t n true]=some (.agg cs):=by
 subst hl
 simp only[ef,kA,ht,hg]
 rw[if_pos ⟨trivial,by omega⟩]
 simp
attribute [local irreducible] aj bc bj dn bz cn dz bL wop cq aU
def fL (d:PD)(i:Nat):List Nat:=(List.range i).filter fun k => !(d.part k).isEmpty
theorem sb (d:PD)(i:Nat):fL d (i+1)=fL d i++(if d.part i=[] then [] else [i]):=by
 unfold fL
 rw[List.range_succ,List.filter_append]
 congr 1
 by_cases h:d.part i=[]
 ·rw[if_pos h,List.filter_cons_of_neg (by simp[h])];rfl
 ·rw[if_neg h,List.filter_cons_of_pos (by simp[h])];rfl
theorem oZ (d:PD)(i:Nat):(fL d i).length≤i:=by
 have:=List.length_filter_le (fun k => !(d.part k).isEmpty) (List.range i)
 rwa [List.length_range]at this
def dT (N:List (List Int))(n:Nat)(ks ks':List Nat)(j:Nat):List (List Int):=(List.range n).map fun q=>(if q<j then ks' else ks).map fun k=>(N.getD q []).getD k (-1)
theorem lh (N:List (List Int))(n:Nat)(ks ks':List Nat)(j:Nat):(dT N n ks ks' j).length=n:=by simp[dT]
theorem rx {N:List (List Int)}{n:Nat}{ks ks':List Nat}{j:Nat}(hj:j<n):(dT N n ks ks' j)[j]?=some (ks.map fun k=>(N.getD j []).getD k (-1)):=by
 simp[dT,hj]
theorem ru {N:List (List Int)}{n:Nat}{ks:List Nat}{i j:Nat}(hj:j<n):(dT N n ks (ks++[i]) j).set j ((ks.map fun k=>(N.getD j []).getD k (-1))++[(N.getD j []).getD i (-1)])=dT N n ks (ks++[i]) (j+1):=by
 refine List.ext_getElem (by simp[dT]) fun q h1 h2=>?_
 rw[List.getElem_set]
 simp only[dT,List.getElem_map,List.getElem_range]
 by_cases e:j=q
 ·subst e
  rw[if_pos rfl,if_pos HT]
  simp
 ·rw[if_neg e]
  by_cases h:q<j
  ·rw[if_pos h,if_pos HT]
  ·rw[if_neg h,if_neg HT]
theorem ry (N:List (List Int))(n:Nat)(ks ks':List Nat):dT N n ks ks' n=dT N n ks' ks' 0:=by
 unfold dT
 apply List.map_congr_left
 intro q hq
 rw[List.mem_range]at hq
 rw[if_pos hq,if_neg HT]
theorem mz (N:List (List Int))(n:Nat)(ks ks' ks'':List Nat):dT N n ks ks' 0=dT N n ks ks'' 0:=by
 unfold dT
 apply List.map_congr_left
 intro q hq
 rw[if_neg HT,if_neg HT]
set_option maxRecDepth 100000 in
theorem CA {Φ:Lib}(L:cZ Φ){h:aa}(d:Dfa)(hf:d.Fits)(hok:d.plain.Ok) :
  aU Φ 102 [.agg d.av] h (fun v h'=>∃ inx ws,v = .agg [.rd (ej d.plain).length ((ej d.plain).map fun k=>(d.parts.l.getD k ⟨[],false⟩).sv) false,.own inx 1 1 0 d.next.l.length none,d.tags.iv]∧Sep h' [jA h,lL inx ws ((cm d.plain).next.map iC)]):=by
 have hpl:d.plain.p=d.parts.l.length:=by simp[Dfa.plain,dF,PD.p]
 have hnl:d.plain.n=d.tags.l.length:=by simp[Dfa.plain,PD.n]
 have hxl:d.plain.next.length=d.next.l.length:=by simp[Dfa.plain,cR]
 have hn2:=hok.n2
 have hp1:=hok.p1
 have hnle:=hok.nl
 refine bb (fun _=>false) rfl L.f102 ?_
 repeat' first|apply ad|(apply gw;first|refine aw rfl ?_|refine ak rfl hg_ HU b_ pv_ ?_|refine aq rfl (Nat.zero_add _) ?_|refine aD rfl ?_|(refine cd ?_;intro id hid;try simp only[aa.set_none]at hid)|(refine gJ (v:=AV.agg _) rfl rfl ?_;intro id hid;try simp only[aa.set_none]at hid)|refine aY (v:=AV.agg _) rfl rfl hg_ rfl rfl b_ sv_ ?_|refine dE rfl ?_|(refine gb rfl rfl HT HT ?_;intro id hid;try simp only[aa.set_none]at hid))|(apply gx;first|apply af|refine ae rfl ?_|apply au)|apply ac
 rename_i ib hib ires hires inx hinx
 have e1:(List.replicate (d.next.l.length:Int).toNat [AV.rd 0 [] true]).flatten=List.replicate d.next.l.length (.rd 0 [] true):=gW _ _
 rw[e1]
 have hrows0:(dT d.plain.next d.next.l.length (fL d.plain 0) (fL d.plain 0) 0).map iC=List.replicate d.next.l.length []:=by
  refine List.ext_getElem (by simp[dT]) fun q h1 h2=>?_
  simp[dT,fL]
 have hpart:∀ {i:Nat} {p:Rw am},d.parts.l[i]?=some p→d.plain.part i=p.l:=fun {i p} hp=>by
  simp[PD.part,Dfa.plain,dF,List.getD_eq_getElem?_getD,hp]
 have hnext:∀ {j:Nat} {r:Rw Int},d.next.l[j]?=some r→d.plain.next.getD j []=r.l:=fun {j r} hr=>by
  simp[Dfa.plain,cR,List.getD_eq_getElem?_getD,hr]
 refine cl d.parts.l.length (fun i env h'=>∃ vp ws,Sep h' [jA h,ck ib (.cells 0 d.av),ck ires (.cells 0 [.rd 0 [] true,.rd 0 [] true,.rd 0 [] true]),lL inx ws ((dT d.plain.next d.next.l.length (fL d.plain i) (fL d.plain i) 0).map iC),ck id (.cells 0 [vp,.own inx 1 1 0 d.next.l.length none,d.tags.iv]),cP vp 1 (fL d.plain i).length ((fL d.plain i).map fun k=>(d.parts.l.getD k ⟨[],false⟩).sv)]∧env.has [(1,.ptr ib 0 0),(2,.ptr ires 0 0),(3,.ptr id 0 0),(16,d.parts.mv Rw.sv),(17,.int .i64 d.parts.l.length),(18,.int .i64 i)]) ⟨.rd 0 [] true,List.replicate d.next.l.length (.rd 0 [] true),?_,hh_⟩ ?_
 ·have s1:=(Sep.old h).new (o := .cells 0 d.av) hib
  have s2:=s1.new (id:=ires) (o := .cells 0 [.rd 0 [] true,.rd 0 [] true,.rd 0 [] true]) (by simp only[aa.set_none];exact hires)
  have s3:=s2.new (id:=inx) (o := .cells 1 (List.replicate d.next.l.length (.rd 0 [] true))) (by simp only[aa.set_none];exact hinx)
  have s4:=s3.turn 3 (lL inx (List.replicate d.next.l.length (.rd 0 [] true)) (List.replicate d.next.l.length [])) rfl (dN.begin (aa.get_set_self _ _ _)) fun k hk=>by
   rcases hk with h1|⟨w,hw,h1⟩
   ·exact h1
   ·rw[List.mem_replicate]at hw
    rw[hw.2]at h1;cases h1
  have s5:=s4.new (id:=id) (o := .cells 0 [.rd 0 [] true,.rd 0 [] true,.rd 0 [] true]) (by simp only[aa.set_none];exact hid)
  have s6:=s5.put 4 (.cells 0 [.rd 0 [] true,.own inx 1 1 0 d.next.l.length none,d.tags.iv]) rfl
  rw[hrows0]
  exact s6.add (cP (.rd 0 [] true) 1 0 []) (aA.nil _ _) (fun _ _=>rfl) (fun k hk=>by cases hk)
 clear hrows0 e1
 rintro i env h' hi ⟨vp,ws,hS,he⟩
 obtain⟨env,rfl⟩:=he.ex
 clear he
 have hbox:h'.get ib=some (.cells 0 d.av):=hS.get (i:=1) rfl
 have hvp:aA h' vp 1 (fL d.plain i).length _:=hS.get (i:=5) rfl
 have hio:h'.get id=some (.cells 0 [vp,.own inx 1 1 0 d.next.l.length none,d.tags.iv]):=hS.get (i:=4) rfl
 have hkl:=oZ d.plain i
 have hks:=sb d.plain i
 by_cases hi2:i<d.parts.l.length
 ·obtain⟨p,hp⟩:=aK hi2
  have hpp:=hpart hp
  rw[hpp]at hks
  have hpd:d.parts.l.getD i ⟨[],false⟩=p:=by simp[List.getD_eq_getElem?_getD,hp]
  by_cases hp0:p.l=[]
  ·have hp1:p.l.length=0:=by rw[hp0];rfl
   rw[if_pos hp0,List.append_nil]at hks
   repeat' first|apply ad|(apply gw;first|(apply gq0;first|refine aw rfl ?_|refine bm rfl ?_)|refine aI rfl b_ pv_ ?_|(apply gq3;first|refine a8 rfl rfl rfl HT HT ?_|((first|refine aB rfl rfl rfl ?_ ?_|refine dD rfl rfl rfl ?_ ?_)<;>(intro hc;try omega)))|refine ar rfl rfl hp HT rfl ?_|refine aD rfl ?_)|(apply gx;first|apply af|refine ae rfl ?_|apply ay|apply au|apply aP|refine al rfl ?_)|apply ac|apply aQ|apply aR
   refine aW hi2 ⟨vp,ws,by rw[hks];exact hS,hh_⟩
  ·have hp1:p.l.length≠0:=fun e=>hp0 (List.eq_nil_of_length_eq_zero e)
   rw[if_neg hp0]at hks
   repeat' first|apply ad|(apply gw;first|(apply gq0;first|refine aw rfl ?_|refine bm rfl ?_)|(apply gq2;first|refine aI rfl b_ pv_ ?_|refine ak rfl hg_ HU b_ pv_ ?_)|(apply gq3;first|((first|refine aB rfl rfl rfl ?_ ?_|refine dD rfl rfl rfl ?_ ?_)<;>(intro hc;try omega)))|refine aq rfl (Nat.zero_add _) ?_|refine ar rfl rfl hp HT rfl ?_|refine aD rfl ?_|(refine br (m:=1) rv_ ir_ rfl rfl HT ?_;intro va hpa hra hka hria)|refine bF (cs:=[AV.rd _ _ _]) rfl rfl ?_)|(apply gx;first|apply af|refine ae rfl ?_|apply ay|apply au|refine al rfl ?_|refine ah rfl ?_)|apply ac
   have hS2:=hS.upd 5 (cP va 1 (fL d.plain (i+1)).length ((fL d.plain (i+1)).map fun k=>(d.parts.l.getD k ⟨[],false⟩).sv)) rfl (by
    rw[hks,List.length_append,List.map_append,List.map_singleton,hpd]
    exact hra) hka hria
   have hio2:hpa.get id=some (.cells 0 [vp,.own inx 1 1 0 d.next.l.length none,d.tags.iv]):=hS2.get (i:=4) rfl
   refine cr (v:=va) (cs':=[va,.own inx 1 1 0 d.next.l.length none,d.tags.iv]) rfl rfl hra hio2 HU rfl ?_
   have hS3:=hS2.put 4 (.cells 0 [va,.own inx 1 1 0 d.next.l.length none,d.tags.iv]) rfl
   have hbox2:(hpa.set id (.cells 0 [va,.own inx 1 1 0 d.next.l.length none,d.tags.iv])).get ib=some (.cells 0 d.av):=hS3.get (i:=1) rfl
   clear hS hS2 hio2 hbox hvp hio
   repeat' first|apply ad|(apply gw;first|refine aw rfl ?_|refine ak rfl hg_ HU b_ pv_ ?_|refine aq rfl (Nat.zero_add _) ?_|refine aD rfl ?_)|(apply gx;first|apply af|refine ae rfl ?_|apply au)|apply ac
   refine cl d.next.l.length (fun j env h'=>∃ ws,Sep h' [jA h,ck ib (.cells 0 d.av),ck ires (.cells 0 [.rd 0 [] true,.rd 0 [] true,.rd 0 [] true]),lL inx ws ((dT d.plain.next d.next.l.length (fL d.plain i) (fL d.plain i++[i]) j).map iC),ck id (.cells 0 [va,.own inx 1 1 0 d.next.l.length none,d.tags.iv]),cP va 1 (fL d.plain (i+1)).length ((fL d.plain (i+1)).map fun k=>(d.parts.l.getD k ⟨[],false⟩).sv)]∧env.has [(1,.ptr ib 0 0),(2,.ptr ires 0 0),(3,.ptr id 0 0),(4,.int .i64 i),(16,d.parts.mv Rw.sv),(17,.int .i64 d.parts.l.length),(18,.int .i64 i),(33,d.next.mv Rw.iv),(34,.int .i64 d.next.l.length),(35,.int .i64 j)]) ⟨ws,by rw[mz _ _ _ _ (fL d.plain i)];exact hS3,hh_⟩ ?_
   clear hS3 hbox2 hra hka hria
   rintro j env h' hj ⟨ws,hS,he⟩
   obtain⟨env,rfl⟩:=he.ex
   clear he
   have hbox:h'.get ib=some (.cells 0 d.av):=hS.get (i:=1) rfl
   have hio:h'.get id=some (.cells 0 [va,.own inx 1 1 0 d.next.l.length none,d.tags.iv]):=hS.get (i:=4) rfl
   have hgr:dN h' inx ws _:=hS.get (i:=3) rfl
   have hwl:=hgr.len
   rw[List.length_map,lh]at hwl
   by_cases hj2:j<d.next.l.length
   ·obtain⟨r,hr⟩:=aK hj2
    obtain⟨w,hw⟩:=aK (l:=ws) (i:=j) HT
    have hrl:=(hok.rows r.l (List.mem_map.2 ⟨r,List.mem_of_getElem? hr,rfl⟩)).1
    obtain⟨x,hx⟩:=aK (l:=r.l) (i:=i) HT
    have hrx:(d.plain.next.getD j []).getD i (-1)=x:=by rw[hnext hr];simp[List.getD_eq_getElem?_getD,hx]
    have hat:=hgr.at_
    have hrow:=hgr.row hw (by rw[List.getElem?_map,rx hj2];rfl)
    rw[List.length_map,List.length_map]at hrow
    repeat' first|apply ad|(apply gw;first|(apply gq0;first|refine aw rfl ?_|refine bm rfl ?_)|(apply gq2;first|refine iP (g:=_) rfl hg_ hw eq_ HU ?_|refine aI rfl b_ pv_ ?_|refine ak rfl hg_ HU b_ pv_ ?_)|(refine aB rfl rfl rfl ?_ ?_<;>(intro hc;try omega))|refine aq rfl (Nat.zero_add _) ?_|(apply gq5;first|refine ar rfl rfl hr HT rfl ?_|refine ar rfl rfl hx HT rfl ?_|refine bk rfl rfl HT HT ?_)|(refine br (m:=1) rv_ ir_ rfl rfl HT ?_;intro va hpa hra hka hria)|refine bF (cs:=[AV.int _ _]) rfl rfl ?_)|(apply gx;first|apply af|refine ae rfl ?_|apply ay|apply au|refine al rfl ?_)|apply ac
    obtain⟨hS2,hg2⟩:=hS.gput 3 (j:=j) (r:=iC ((fL d.plain i).map fun k=>(d.plain.next.getD j []).getD k (-1))++[.int .i64 x]) rfl hw (by
     rw[List.length_append,List.length_map,List.length_map]
     exact hra) hka hria
    refine cr (v:=va) (cs':=ws.set j va) rfl rfl hra hg2 HT (by rw[show(0+(j:Int).toNat)*1=j by omega]) ?_
    repeat' first|apply ad|(apply gw;first|refine aw rfl ?_|refine a8 rfl rfl rfl HT HT ?_)|refine ae rfl ?_|apply ac|apply aJ
    refine aW hj2 ⟨ws.set j va,?_,hh_⟩
    have e4:iC ((fL d.plain i).map (fun k=>(d.plain.next.getD j []).getD k (-1))++[(d.plain.next.getD j []).getD i (-1)])=iC ((fL d.plain i).map fun k=>(d.plain.next.getD j []).getD k (-1))++[.int .i64 x]:=by
     rw[hrx];simp[iC]
    rw[← ru hj2,List.map_set,e4]
    exact hS2
   ·have hj3:j=d.next.l.length:=by omega
    subst hj3
    rw[ry,← hks]at hS
    repeat' first|apply ad|(apply gw;first|refine aw rfl ?_|(apply gq3;first|refine a8 rfl rfl rfl HT HT ?_|(refine aB rfl rfl rfl ?_ ?_<;>(intro hc;try omega))))|(apply gx;first|apply af|refine ae rfl ?_|apply aP|refine ah rfl ?_)|apply ac|apply aQ|apply aJ|apply aR|apply ba
    refine aW hi2 ⟨va,ws,by rw[mz _ _ _ _ (fL d.plain (i+1))]at hS ⊢;exact hS,hh_⟩
 ·have hi3:i=d.parts.l.length:=by omega
  subst hi3
  have hres:h'.get ires=some (.cells 0 [.rd 0 [] true,.rd 0 [] true,.rd 0 [] true]):=hS.get (i:=2) rfl
  have hbk:fL d.plain d.parts.l.length=ej d.plain:=by unfold ej;rw[hpl];rfl
  rw[hbk]at hvp hS
  have hrows:dT d.plain.next d.next.l.length (ej d.plain) (ej d.plain) 0=(cm d.plain).next:=by
   refine List.ext_getElem (by simp[dT,cm,hxl]) fun q h1 h2=>?_
   have hq:q<d.plain.next.length:=by simpa[cm] using h2
   simp[dT,cm,List.getD_eq_getElem?_getD,hq]
  rw[hrows]at hS
  repeat' first|apply ad|(apply gw;first|refine ak rfl hg_ HU b_ pv_ ?_|(refine aB rfl rfl rfl ?_ ?_<;>(intro hc;try omega))|refine aY (v:=AV.agg _) rfl rfl hg_ rfl rfl b_ sv_ ?_)|(apply gx;first|apply af|refine ae rfl ?_|apply aM|apply aP|refine ah rfl ?_)|apply ac|apply aQ|apply aR|apply ba
  have hS2:=hS.put 2 (.cells 0 [vp,.own inx 1 1 0 d.next.l.length none,d.tags.iv]) rfl
  have hvp2:aA _ vp 1 _ _:=hS2.get (i:=5) rfl
  refine fA (fun k=>vp.rowId=some k) (mA rfl (aa.get_set_self _ _ _) rfl) (.agg (.cons (hvp2.fz _ (fun _ h=>h) (FzL.same _)) (.cons (.same _) (.cons (.same _) .nil)))) ⟨inx,ws,rfl,?_⟩
  have hS3:=hS2.drop 5 (h':=(h'.set ires (.cells 0 [vp,.own inx 1 1 0 d.next.l.length none,d.tags.iv])).drop fun k=>vp.rowId=some k) rfl fun k hk=>by
   simp only[aa.drop]
   rw[if_neg hk]
  exact hS3.weak HU
end
end Go.Proofs.YtlnobeojgifojaaGreatDoor
