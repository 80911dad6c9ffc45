/- (*lower.maker).step. Plain: states of ways, all of which are good; rows as they are written. Plain: states one after another, rows as they are written: begin, end, and what is whole. -/
import Derived.Test.YtlnobeojgifojaaGreatDoorVE
set_option linter.unusedVariables false
set_option linter.unusedSimpArgs false
namespace Go.Proofs.YtlnobeojgifojaaGreatDoor
section
open Go
set_option maxHeartbeats 4000000
theorem r6 (a b:List Way)(c:Int):dX (a++b) c=dX a c++dX b c:=by
 unfold dX
 rw[List.filterMap_append]
theorem wj {ws:List Way}{k:Nat}{w:Way}(h:ws[k]?=some w)(c:Int):dX (ws.take (k+1)) c=dX (ws.take k) c++dX [w] c:=by
 rw[aS h,r6]
theorem F7 {p:Int×Int}{r:js}{t c:Int}(h:¬ (p.1≤c∧c≤p.2)):dX [(p::r,t)] c=[]:=by
 simp[dX,h]
theorem BK {p:Int×Int}{r:js}{t c:Int}(h:p.1≤c∧c≤p.2):dX [(p::r,t)] c=[(r,t)]:=by
 simp[dX,h]
theorem FB {ws:List Way}{k:Nat}{p:Int×Int}{t c:Int}(hn:∀ v∈dX (ws.take k) c,v.1≠[])(hw:ws[k]?=some ([p],t))(hp:p.1≤c∧c≤p.2):lD ws c = .own t:=by
 have hk:=(List.getElem?_eq_some_iff.1 hw)
 have e:dX ws c=dX (ws.take k) c++([],t)::dX (ws.drop (k+1)) c:=by
  conv=>lhs;rw[← List.take_append_drop (k+1) ws,r6,wj hw,BK hp,List.append_assoc]
  rfl
 have hf:(dX (ws.take k) c).find? (fun w=>w.1.isEmpty)=none:=by
  rw[List.find?_eq_none]
  intro v hv e
  exact hn v hv (by simpa using e)
 unfold lD
 rw[e,List.find?_append,hf]
 rfl
theorem CG {ws:List Way}{c:Int}(hn:∀ v∈dX ws c,v.1≠[]):lD ws c=if dX ws c=[] then .none else .amid (dX ws c):=by
 have hf:(dX ws c).find? (fun w=>w.1.isEmpty)=none:=by
  rw[List.find?_eq_none]
  intro v hv e
  exact hn v hv (by simpa using e)
 unfold lD
 rw[hf]
theorem EC (r:js):(r.flatMap iZ).length=r.length*2:=jo iZ 2 (fun _=>rfl) r
theorem xe {F:bY}{r:List bG}{Q:Env→ac→Prop}{env:Env}{h:ac}{d:Nat}{x y:bt}{p:Int×Int}{rest:js}{kk:IntKind}(hx:ev env x=mw (p::rest))(hy:ev env y = .int kk 1)(k:aw F r Q (env.put d (mw rest)) h):aw F (⟨some d,.slice 2 x (some y) none none,none⟩::r) Q env h:=by
 refine eH rfl (v:=mw rest) ?_ k
 have hl:=EC rest
 have e1:(p::rest).flatMap iZ=iZ p++rest.flatMap iZ:=rfl
 simp only[aU,hx,eP,hy,Option.bind_some,e1]
 rw[if_pos ⟨by omega,by rw[List.length_cons];omega,by omega,trivial,by rw[List.length_append,hl];show 2+_=(rest.length+1)*2;omega⟩]
 simp only[List.length_cons,Option.isSome_none,Bool.false_or,Bool.false_and]
 rw[show((rest.length+1:Nat):Int)-1=rest.length by omega,Int.toNat_natCast,show(1:Int).toNat*2=(iZ p).length from rfl,List.drop_left,← hl,List.take_length]
attribute [local irreducible] aw bd bm cV bz cu dF bH wop cz a8
set_option maxRecDepth 100000 in
theorem FA {Φ:Lib}(L:eW Φ)(L3:cO Φ){h:ac}{cc:cP}{iM imN imO:Nat}{x:Dfa}{vR vN vT vW:AV}{ws:List AV}{D:List (List Int)}{d:PD}{A:List RSt}(hd:d.Ok)(hx:x.plain=d)(hS:Sep h (chA cc iM imN imO x (d.parts.map c9) vR vN vT vW ws D d A))(hA:∀ a∈A,OkR d a)(hD:D.length=A.length)(hAl:A.length≤1073741824)(hws:∀ w∈ws,sf w){s:Nat}{a:RSt}(ha:A[s]?=some a){c:Nat}(hc:c<256)(hto:∀ b,dp d a c=some b→OkR d b) :
  a8 Φ 269 [.ptr iM 0 0,.int .i64 s,.int .u8 c] h (fun r h'=>r = .int .i64 (gK (cF A (dp d a c)) (dp d a c))∧∃ (vN' vT' vW':AV) (ws':List AV),(∀ w∈ws',sf w)∧Sep h' (chA cc iM imN imO x (d.parts.map c9) vR vN' vT' vW' ws' (kg D A.length (cF A (dp d a c)).length) d (cF A (dp d a c)))):=by
 have hM:h.get iM=some (.cells 0 (mkM x vR vN vT vW imN imO)):=hS.get (i:=2) rfl
 have hvW:aC h vW 1 (A.map (fm d)).length _:=hS.get (i:=5) rfl
 have hWl:(A.map (fm d)).length=A.length:=List.length_map _
 have hs1:=lt_of_getElem? ha
 have hWs:(A.map (fm d))[s]?=some (fm d a):=by rw[List.getElem?_map,ha];rfl
 have hok:=hA a (List.mem_of_getElem? ha)
 obtain⟨wy,hwy⟩:∃ wy,wy=fm d a:=⟨_,rfl⟩
 have hlen:=hok.len
 have hwb:=hok.wb
 have hwto:=qj hd hok.inr
 have hstep:dp d a c=(match lD wy c with
  | .none=>none
  | .own i=>some (i,[])
  | .amid l=>some (-1,l)):=by rw[hwy];rfl
 rw[← hwy]at hlen hwb hWs hwto
 have hnW:=hvW.notTup
 refine aY (fun o=>o == some 58||o == some 27) rfl L.f269 ?_
 repeat' first|apply ad|(apply gw;first|refine ar rx_ ?_|(apply gq2;first|refine aP rx_ ?_|refine dV (g:=_) rfl hg_ hWs eq_ ?_|refine aq rfl hg_ (by simp) b_ pv_ ?_)|(apply gq5;first|refine bb rx_ ?_|refine bf rx_ ?_|(refine cS rx_ (by assumption) rfl (by omega) (by omega) ?_;intro ir gr hvr hgr hgp;have hner:=ac.ne_of hgr;have hner2:=ac.ne_of2 hgr))|(apply gq6;first|refine bT rx_ ?_|refine ay rfl ?_)|(apply gq4;first|refine aV rx_ ?_|refine au rfl (Nat.zero_add _) ?_)|refine br rfl ?_)|(apply gx;first|apply af|refine ae rfl ?_|apply al)|apply aa
 refine bD wy.length (fun k env h'=>∃ v,Sep h' (chA cc iM imN imO x (d.parts.map c9) vR vN vT vW ws D d A++[cB v 2 (dX (wy.take k) c).length ((dX (wy.take k) c).flatMap nE)])∧(∀ v∈dX (wy.take k) c,v.1≠[])∧env.has [(0,.ptr iM 0 0),(2,.int .u8 c),(7,v),(17,vI wy),(18,.int .i64 wy.length),(19,.int .i64 k)]) ⟨_,hS.nil 2,fun v hv=>by simp[dX]at hv,hh_⟩ ?_
 clear hS hM hvW hnW hvr hgr hgp hner hner2
 rintro k env h' hk ⟨v,hS,hne,he⟩
 obtain⟨env,rfl⟩:=he.ex
 clear he
 have hM:h'.get iM=some (.cells 0 (mkM x vR vN vT vW imN imO)):=hS.get (i:=2) rfl
 have hv:aC h' v 2 _ _:=hS.get (i:=8) rfl
 have hnt:=hv.notTup
 have hrl:(dX (wy.take k) c).length≤wy.length:=by
  unfold dX
  exact Nat.le_trans (List.length_filterMap_le _ _) (by rw[List.length_take];omega)
 by_cases hk2:k<wy.length
 ·obtain⟨w,hw⟩:=aN hk2
  obtain⟨hwB,hwne⟩:=hwb w (List.mem_of_getElem? hw)
  obtain⟨row,to⟩:=w
  cases row with
  | nil=>exact absurd rfl hwne
  | cons p rest =>
  have hp:(p::rest)[0]?=some p:=rfl
  have hpr:=hwB.rng p (by simp)
  have hsn:=wj hw (c:Int)
  have hw4:=hwB.len
  simp only[List.length_cons]at hw4
  repeat' first|apply ad|(apply gw;first|(apply gq2;first|refine aP rx_ ?_|refine jG rfl (by first|rfl|(simp[*];done)|fail) ?_|refine aq rfl hg_ (by simp) b_ pv_ ?_)|(apply gq3;first|refine aF rx_ ?_|refine ba rx_ ?_|(refine aA rfl rfl rfl ?_ ?_<;>(intro hc;try (exfalso;omega))))|(apply gq5;first|refine bb rx_ ?_|refine bf rx_ ?_|refine dD rfl fl_ rfl hw (by omega) rfl ?_|refine dD rfl fl_ rfl hp (by omega) rfl ?_)|(apply jy;first|refine bq rx_ ?_|refine bp rx_ ?_|refine cE (cs':=[AV.int _ _,AV.int _ _]) rfl rfl rfl rfl b_ rfl ?_|refine bh (v:=AV.agg _) rfl rfl hg_ rfl rfl b_ sv_ ?_)|(apply gq4;first|refine aV rx_ ?_|refine au rfl (Nat.zero_add _) ?_)|(refine cd ?_;intro id hid;try simp only[ac.set_none]at hid))|(apply gx;first|apply af|refine ae rfl ?_|apply az|apply al|refine ak rfl ?_)|apply aa
  rename_i i9 hi9
  rw[ac.set_set]
  obtain⟨i10,rfl⟩:∃ y,y=id:=⟨_,rfl⟩
  have hS1:=(hS.new (id:=i9) (o := .cells 0 [mw (p::rest),.int .i64 to]) hi9).new (id:=i10) (o := .cells 0 [.int .u8 p.1,.int .u8 p.2]) (by rw[ac.get_set_ne _ _ hid.1];exact hid.2.2)
  generalize (h'.set i9 (.cells 0 [mw (p::rest),.int .i64 to])).set i10 (.cells 0 [.int .u8 p.1,.int .u8 p.2])=h2 at hS1 ⊢
  have h9:h2.get i9=some (.cells 0 [mw (p::rest),.int .i64 to]):=hS1.get (i:=9) rfl
  have h10:h2.get i10=some (.cells 0 [.int .u8 p.1,.int .u8 p.2]):=hS1.get (i:=10) rfl
  have hS2:Sep h2 (chA cc iM imN imO x (d.parts.map c9) vR vN vT vW ws D d A++[cB v 2 (dX (wy.take k) c).length ((dX (wy.take k) c).flatMap nE)]):=(hS1.drop 10 rfl (fun _ _=>rfl)).drop 9 rfl (fun _ _=>rfl)
  clear hS hid hi9 hM hv
  have hv:aC h2 v 2 _ _:=hS2.get (i:=8) rfl
  refine jC rfl ?_
  by_cases hcp:p.1≤(c:Int)∧(c:Int)≤p.2
  ·have hcp1:=hcp.1
   have hcp2:=hcp.2
   rw[BK hcp]at hsn
   cases rest with
   | nil =>
    have hl1:([p]:js).length=1:=rfl
    have hst:=FB hne hw hcp
    rw[hst]at hstep
    have hstep:dp d a c=some (to,[]):=hstep
    have hR:=hto _ hstep
    rw[hstep]
    repeat' first|apply ad|(apply gw;first|refine ar rx_ ?_|(apply gq2;first|refine aP rx_ ?_|refine aq rfl hg_ (by simp) b_ pv_ ?_)|(apply gq3;first|refine aF rx_ ?_|refine ba rx_ ?_|(refine aA rfl rfl rfl ?_ ?_<;>(intro hc;try (exfalso;omega)))|(refine cY rfl rfl rfl ?_ ?_<;>(intro hc;try (exfalso;omega)))|(refine cn rfl rfl rfl ?_ ?_<;>(intro hc;try (exfalso;omega))))|(apply gq6;first|refine bT rx_ ?_|refine ay rfl ?_)|(apply gq4;first|refine aV rx_ ?_|refine au rfl (Nat.zero_add _) ?_)|refine bP rfl ?_|refine bc rfl rfl ?_|refine aI rfl nt_ ?_)|(apply gx;first|apply af|refine ae rfl ?_|apply az|refine ak rfl ?_|refine ah rfl ?_)|apply aa
    refine ce (vX L hd hx (hS2.weak (List.sublist_append_left _ _)) hA hD hAl hws to (hwto _ (List.mem_of_getElem? hw)) hR) ?_
    rintro _ h3 ⟨rfl,vN2,vT2,vW2,ws2,hws2,hS3⟩
    repeat' first|apply ad|refine ar rx_ ?_|apply aM|apply aa|apply cv|apply fM|apply kX
    exact aH rfl ⟨rfl,vN2,vT2,vW2,ws2,hws2,hS3⟩
   | cons p2 rest =>
    have hl1:(p::p2::rest).length=rest.length+2:=rfl
    repeat' first|apply ad|(apply gw;first|refine ar rx_ ?_|(apply gq2;first|refine aP rx_ ?_|refine aq rfl hg_ (by simp) b_ pv_ ?_)|(apply gq3;first|refine aF rx_ ?_|refine ba rx_ ?_|(refine aA rfl rfl rfl ?_ ?_<;>(intro hc;try (exfalso;omega)))|(refine cY rfl rfl rfl ?_ ?_<;>(intro hc;try (exfalso;omega)))|(refine cn rfl rfl rfl ?_ ?_<;>(intro hc;try (exfalso;omega))))|(apply gq6;first|refine bT rx_ ?_|refine ay rfl ?_)|(apply gq4;first|refine aV rx_ ?_|refine au rfl (Nat.zero_add _) ?_)|refine bP rfl ?_|refine bc rfl rfl ?_)|(apply gx;first|apply af|refine ae rfl ?_|apply az|refine ah rfl ?_)|apply aa
    refine xe (p:=p) (rest:=p2::rest) rfl rfl ?_
    repeat' first|apply ad|(apply gw;first|refine ar rx_ ?_|(apply gq2;first|refine aP rx_ ?_|refine aq rfl hg_ (by simp) b_ pv_ ?_)|(apply gq3;first|refine aF rx_ ?_|refine aQ rfl rfl rfl (by omega) (by omega) ?_)|(apply kZ;first|refine cm rx_ ?_|refine ck rx_ ?_|(refine aW (m:=1) rx_ ir_ rfl rfl (by omega) ?_;intro va hpa hra hka hria))|(apply gq4;first|refine aV rx_ ?_|refine au rfl (Nat.zero_add _) ?_)|refine cL rfl ?_|refine bk rfl rfl ?_)|refine ae rfl ?_|apply aa|apply aD
    have hS3:=hS2.upd 8 (cB va 2 ((dX (wy.take k) c).length+1) ((dX (wy.take k) c).flatMap nE++nE (p2::rest,to))) rfl hra hka hria
    refine aO hk2 ⟨va,?_,?_,hh_⟩
    ·rw[hsn,List.length_append,List.flatMap_append]
     simpa using hS3
    ·rw[hsn]
     intro y hy
     rcases List.mem_append.1 hy with hy|hy
     ·exact hne y hy
     ·simp only[List.mem_singleton]at hy;subst hy;simp
  ·rw[F7 hcp,List.append_nil]at hsn
   repeat' first|apply ad|(apply gw;first|refine ar rx_ ?_|(apply gq2;first|refine aP rx_ ?_|refine aq rfl hg_ (by simp) b_ pv_ ?_)|(apply gq3;first|refine aF rx_ ?_|refine ba rx_ ?_|refine aQ rfl rfl rfl (by omega) (by omega) ?_|(refine aA rfl rfl rfl ?_ ?_<;>(intro hc;try (exfalso;omega)))|(refine cY rfl rfl rfl ?_ ?_<;>(intro hc;try (exfalso;omega))))|(apply gq4;first|refine aV rx_ ?_|refine au rfl (Nat.zero_add _) ?_)|(apply gq1;first|refine cr rfl ?_|refine bP rfl ?_)|(apply gq7;first|refine aZ rfl rfl ?_|refine bc rfl rfl ?_))|(apply gx;first|refine ae rfl ?_|apply aJ|refine ak rfl ?_)|apply aa|apply aK|apply aL
   all_goals first
    | (refine aO hk2 ⟨v,?_,?_,hh_⟩<;>rw[hsn]<;>assumption)
    | skip
 ·rw[List.take_of_length_le (by omega)]at hS hne hv hrl
  have hend:=CG hne
  repeat' first|apply ad|(apply gw;first|refine ar rx_ ?_|(apply gq3;first|refine aF rx_ ?_|refine ba rx_ ?_|(refine aA rfl rfl rfl ?_ ?_<;>(intro hc;try (exfalso;omega)))|(refine cn rfl rfl rfl ?_ ?_<;>(intro hc;try (exfalso;omega))))|(apply gq6;first|refine bT rx_ ?_|refine eF rx_ (by assumption) ?_))|(apply gx;first|apply af|refine ae rfl ?_|apply az|apply aM|apply aJ|refine ak rfl ?_|refine ah rfl ?_)|apply aa|apply cv|apply aK|apply aL|apply aR
  ·have hnil:dX wy c=[]:=List.eq_nil_of_length_eq_zero (by omega)
   rw[hend,if_pos hnil]at hstep
   have hstep:dp d a c=none:=hstep
   refine aH rfl ⟨by rw[hstep];rfl,vN,vT,vW,ws,hws,?_⟩
   rw[hstep]
   show Sep h' (chA cc iM imN imO x (d.parts.map c9) vR vN vT vW ws (kg D A.length A.length) d A)
   rw[kg,Nat.sub_self,List.replicate_zero,List.append_nil]
   exact hS.weak (List.sublist_append_left _ _)
  ·have hnil:dX wy c≠[]:=fun e=>hc (by rw[e];rfl)
   rw[hend,if_neg hnil]at hstep
   have hstep:dp d a c=some (-1,dX wy c):=hstep
   have hR:=hto _ hstep
   rw[hstep]
   refine f4 7 (v:=v) rfl rfl hv ?_
   intro h2 hk2
   have hS2:=hS.drop 8 (h':=h2) rfl hk2
   clear hS hM hv hnt hk2
   repeat' first|(apply gw;first|refine ar rx_ ?_|refine aI rfl nt_ ?_)
   refine ce (Ho L L3 hS2 hA hD hAl hws (dX wy c) hR) ?_
   rintro _ h3 ⟨rfl,vN2,vT2,vW2,ws2,hws2,hS3⟩
   repeat' first|apply ad|refine ar rx_ ?_|apply aM|apply aa
   exact aH rfl ⟨rfl,vN2,vT2,vW2,ws2,hws2,hS3⟩
end
section
open Go
theorem wH {r:Int}(h:0≤r∧r≤1114111):∀ c∈bu r,0≤c∧c≤255:=by
 unfold bu
 split
 ·intro c hc;simp only[List.mem_singleton]at hc;omega
 ·split
  ·intro c hc;simp only[List.mem_cons,List.not_mem_nil,or_false]at hc;rcases hc with rfl|rfl<;>omega
  ·split
   ·intro c hc;simp only[List.mem_cons,List.not_mem_nil,or_false]at hc;rcases hc with rfl|rfl|rfl<;>omega
   ·intro c hc;simp only[List.mem_cons,List.not_mem_nil,or_false]at hc;rcases hc with rfl|rfl|rfl|rfl<;>omega
theorem Az {s:aj}(h:OneSize s):dW s≠[]∧∀ p∈dW s,(0≤p.1∧p.1≤255)∧(0≤p.2∧p.2≤255):=by
 have h1:=h.lo
 have h2:=h.le
 have h3:=h.hi
 constructor
 ·intro e
  have e1:=congrArg List.length e
  unfold dW at e1
  rw[List.length_zip,dG,dG,List.length_nil]at e1
  have q1:∀ r,1≤bB r:=fun r=>by unfold bB;split;omega;split;omega;split<;>omega
  have:=q1 s.lo
  have:=q1 s.hi
  omega
 ·intro p hp
  obtain⟨a,b⟩:=p
  obtain⟨m1,m2⟩:=List.of_mem_zip hp
  exact⟨wH ⟨h1,by omega⟩ a m1,wH ⟨by omega,h3⟩ b m2⟩
theorem yQ (s:aj):(cZ s).length≤4:=by
 unfold cZ
 exact Nat.le_trans (List.length_filterMap_le _ _) (by simp[jq])
theorem EY {l:List aj}:(eQ l).length≤28*(bi l).length:=by
 unfold eQ
 have h1:=(ou (l:=(bi l).flatMap cZ) fun q hq=>by
  obtain⟨s,hs,hq⟩:=List.mem_flatMap.1 hq
  exact lI hq).2
 have h2:∀ m:List aj,(m.flatMap cZ).length≤4*m.length:=fun m=>by
  induction m with
  | nil=>simp
  | cons s m ih =>
   rw[List.flatMap_cons,List.length_append,List.length_cons]
   have:=yQ s
   omega
 have:=h2 (bi l)
 omega
theorem yq:∀ (parts:List (List aj)) (next:List Int),(∀ p∈parts,bi p=p)→(dC parts next).length≤28*(parts.map List.length).sum
 | [],_,_=>by simp[dC]
 | _::_,[],_=>by simp[dC]
 | p::parts,t::next,h=>by
  have ih:=yq parts next fun q hq=>h q (by simp[hq])
  have e:dC (p::parts) (t::next)=nK (p,t)++dC parts next:=by simp[yt]
  rw[e,List.length_append,List.map_cons,List.sum_cons]
  have h1:=EY (l:=p)
  rw[h p (by simp)]at h1
  have h2:(nK (p,t)).length≤(eQ p).length:=by
   unfold nK
   split
   ·simp
   ·simp[c9]
  omega
theorem Aj {parts:List (List aj)}{next:List Int}{n:Nat}(hn:n≤2000)(hto:∀ w∈dC parts next,In n w.2):∀ w∈dC parts next,Bu w∧w.1≠[]:=by
 intro w hw
 have h1:=hto w hw
 have h2:=Cx w hw
 obtain⟨k,p,_,_,_,hr⟩:=fC.1 hw
 obtain⟨s,hs,hsr⟩:=List.mem_map.1 hr
 have ho:OneSize s:=by
  unfold eQ at hs
  obtain⟨q,hq,hs⟩:=List.mem_flatMap.1 hs
  obtain⟨s0,_,hq⟩:=List.mem_flatMap.1 hq
  exact((lu q (lI hq)).1 s hs).toOneSize
 obtain⟨g1,g2⟩:=Az ho
 rw[hsr]at g1 g2
 have q1:=h1.1
 have q2:=h1.2
 exact⟨⟨g2,h2,q1,by omega⟩,g1⟩
theorem xC {d:PD}(h:d.Ok)(hs:(d.parts.map List.length).sum≤100){i:Int}(hi:In d.n i):OkR d (i,[]):=by
 have e:fm d (i,[])=dC d.parts (d.row i):=by unfold fm;rw[if_neg (by have:=hi.1;simp only;omega)]
 refine⟨.inl ⟨hi,rfl⟩,?_,?_⟩
 ·rw[e]
  exact Aj h.n2 (w5 h hi)
 ·rw[e]
  have:=yq d.parts (d.row i) h.norm
  omega
theorem t5 {d:PD}(h:d.Ok)(hs:(d.parts.map List.length).sum≤100){a b:RSt}(ha:OkR d a){c:Int}(hb:dp d a c=some b):OkR d b:=by
 have hin:=GB h ha.inr hb
 unfold dp at hb
 split at hb
 ·cases hb
 ·rename_i i hi
  cases hb
  exact xC h hs (xb (qj h ha.inr) hi)
 ·rename_i l hl
  cases hb
  have e:fm d (-1,l)=l:=by unfold fm;rw[if_pos (by simp only;omega)]
  have g1:=rm hl
  obtain⟨_,g2⟩:=qp hl
  refine⟨hin,?_,?_⟩
  ·rw[e]
   intro w hw
   refine⟨?_,g2 w hw⟩
   rw[g1]at hw
   obtain⟨p,hp,_⟩:=iz.1 hw
   obtain⟨hB,_⟩:=ha.wb _ hp
   have hl4:=hB.len
   simp only[List.length_cons]at hl4
   exact⟨fun q hq=>hB.rng q (by simp only[List.mem_cons];exact .inr hq),by omega,hB.to⟩
  ·rw[e,g1]
   exact Nat.le_trans (by unfold dX;exact List.length_filterMap_le _ _) ha.len
def nD (d:PD)(A:List RSt)(s:Nat):List (List Int):=(A.take s).map fun a=>(dE d a).map (gK A)
def pR (d:PD)(A:List RSt)(a:RSt)(s c:Nat):List (List Int):=nD d A s++(((dE d a).take c).map (gK A)++List.replicate (256-c) (-1))::List.replicate (A.length-(s+1)) (List.replicate 256 (-1))
theorem tG (d:PD)(a:RSt){c:Nat}(hc:c<256):(dE d a)[c]?=some (dp d a c):=by
 unfold dE
 rw[List.getElem?_map,List.getElem?_range hc]
 rfl
theorem E2 {d:PD}{A B:List RSt}{s:Nat}(hp:A <+: B)(hs:s≤A.length)(hd:∀ a∈A.take s,∀ b,some b∈dE d a→b∈A):nD d B s=nD d A s:=by
 obtain⟨t,rfl⟩:=hp
 unfold nD
 rw[List.take_append_of_le_length hs]
 refine List.map_congr_left fun a ha=>List.map_congr_left fun to hto=>?_
 exact tY (List.prefix_append _ _) fun b e=>hd a ha b (by rw[← e];exact hto)
theorem EJ {d:PD}{A0 A:List RSt}{a:RSt}{s c:Nat}(hs:s<A.length)(hc:c<256)(hA:A=cN A0 ((dE d a).take c))(hd:∀ x∈A.take s,∀ b,some b∈dE d x→b∈A) :
  cN A0 ((dE d a).take (c+1))=cF A (dp d a c)∧(kg (pR d A a s c) A.length (cF A (dp d a c)).length).set s (((dE d a).take c).map (gK (cF A (dp d a c)))++gK (cF A (dp d a c)) (dp d a c)::List.replicate (256-(c+1)) (-1))=pR d (cF A (dp d a c)) a s (c+1):=by
 have hx:=tG d a hc
 have hpre:=pA A (dp d a c)
 have hle:=hpre.length_le
 refine⟨by rw[aS hx,w7,← hA],?_⟩
 have hdl:(nD d A s).length=s:=by unfold nD;rw[List.length_map,List.length_take];omega
 unfold pR kg
 rw[E2 hpre (by omega) hd,List.append_assoc,List.set_append_right _ _ (by omega),hdl,Nat.sub_self,List.cons_append,List.set_cons_zero,List.replicate_append_replicate,aS hx,List.map_append,List.append_assoc]
 congr 3
 congr 1
 omega
end
section
open Go
theorem G9 (P:List (List aj)):(fR P).length=(P.map List.length).sum:=by
 unfold fR
 rw[List.length_flatMap]
 rfl
theorem qk {α:Type}[DecidableEq α](L:List α)(tos:List (Option α))(c:Nat):cN L (tos.take c) <+: cN L tos:=by
 have e:cN L tos=cN (cN L (tos.take c)) (tos.drop c):=by
  unfold cN
  rw[← List.foldl_append,List.take_append_drop]
 rw[e]
 exact l9 _ _
theorem Bs {α:Type}[DecidableEq α]{row:α→List (Option α)}{s0:α}{s:Nat}:∀ x∈(eU row s0 s).take s,∀ b,some b∈row x→b∈eU row s0 s:=by
 intro x hx b hb
 obtain⟨i,hi⟩:=List.getElem?_of_mem hx
 have hlt:=lt_of_getElem? hi
 rw[List.length_take]at hlt
 rw[List.getElem?_take,if_pos (by omega)]at hi
 have h4:=m6 row s0 (show i≤s by omega)
 have h5:(eU row s0 i)[i]?=some x:=by
  by_cases h5:i<(eU row s0 i).length
  ·obtain⟨t,e⟩:=h4
   rw[← e,List.getElem?_append_left h5]at hi
   exact hi
  ·have h6:=o7 row s0 (i:=i) (by omega) (show i≤s by omega)
   rw[h6]at hi
   exact hi
 exact Ab h5 (by omega) hb
theorem Fc {α:Type}[DecidableEq α]{row:α→List (Option α)}{s0:α}{s:Nat}{a:α}(ha:(eU row s0 s)[s]?=some a):eU row s0 (s+1)=cN (eU row s0 s) (row a):=by rw[eU,ha]
theorem qy (d:PD)(a:RSt):(dE d a).length=256:=by simp[dE]
def sj (d:PD)(A:List RSt)(s:Nat):List (List Int):=nD d A s++List.replicate (A.length-s) (List.replicate 256 (-1))
theorem Gm {d:PD}{A:List RSt}{a:RSt}{s c:Nat}(h:s<A.length):(pR d A a s c).length=A.length:=by
 unfold pR nD
 rw[List.length_append,List.length_map,List.length_take,List.length_cons,List.length_replicate]
 omega
theorem EH (D:List (List Int))(n m:Nat):(kg D n m).length=D.length+(m-n):=by
 unfold kg
 rw[List.length_append,List.length_replicate]
theorem AJ {d:PD}{A:List RSt}(a:RSt){s:Nat}(h:s<A.length):sj d A s=pR d A a s 0:=by
 unfold sj pR
 rw[List.take_zero,List.map_nil,List.nil_append,Nat.sub_zero,show A.length-s=(A.length-(s+1))+1 by omega,List.replicate_succ]
theorem Gp {d:PD}{A:List RSt}{a:RSt}{s:Nat}(h:A[s]?=some a):pR d A a s 256=sj d A (s+1):=by
 unfold sj pR nD
 rw[aS h,List.map_append,List.map_singleton,List.take_of_length_le (l:=dE d a) (i:=256) (by rw[qy];exact Nat.le_refl _),Nat.sub_self,List.replicate_zero,List.append_nil,List.append_assoc,List.singleton_append]
theorem E0 {d:PD}{A:List RSt}{s:Nat}(h:s=A.length):sj d A s=jY (dE d) A:=by
 subst h
 unfold sj nD jY
 rw[Nat.sub_self,List.replicate_zero,List.append_nil,List.take_length]
def u0 (d:PD)(B:List RSt)(a:RSt)(c:Nat):List Int:=((dE d a).take c).map (gK B)++List.replicate (256-c) (-1)
theorem qA {d:PD}{B:List RSt}{a:RSt}{c:Nat}(h:c≤256):(u0 d B a c).length=256:=by
 unfold u0
 rw[List.length_append,List.length_map,List.length_take,qy,List.length_replicate]
 omega
theorem Gn {d:PD}{B:List RSt}{a:RSt}{s c m:Nat}(h:s<B.length):(kg (pR d B a s c) B.length m)[s]?=some (u0 d B a c):=by
 have hdl:(nD d B s).length=s:=by unfold nD;rw[List.length_map,List.length_take];omega
 unfold kg pR
 rw[List.append_assoc,List.getElem?_append_right (by omega),hdl,Nat.sub_self]
 rfl
theorem F4 {d:PD}{A B:List RSt}{a:RSt}{c:Nat}(hc:c<256)(hB:B=cN A ((dE d a).take c)):((u0 d B a c).map (AV.int .i64)).set ((c:Int).toNat*1) (AV.int .i64 (gK (cF B (dp d a c)) (dp d a c)))=(u0 d (cF B (dp d a c)) a (c+1)).map (AV.int .i64):=by
 have hx:=tG d a hc
 have e1:((dE d a).take c).map (gK (cF B (dp d a c)))=((dE d a).take c).map (gK B):=List.map_congr_left fun to hto=>tY (pA B _) fun b e=>by
  rw[hB];exact rW (by rw[← e];exact hto)
 rw[Int.toNat_natCast,Nat.mul_one]
 unfold u0
 rw[aS hx,List.map_append (f:=gK _),e1,List.map_append,List.map_append,List.map_replicate,kU (by rw[List.length_map,List.length_map,List.length_take,qy];omega) hc,List.map_append,List.map_replicate]
 rfl
theorem Io {D:List (List Int)}{s:Nat}{r:List Int}(h:D[s]?=some r)(hl:r.length=256):(dsM D)[s]?=some (1,256,r.map (AV.int .i64)):=by
 unfold dsM
 rw[List.getElem?_map,h,← hl]
 rfl
theorem Im {D:List (List Int)}{s:Nat}{r:List Int}(hl:r.length=256):(dsM D).set s (1,256,r.map (AV.int .i64))=dsM (D.set s r):=by
 unfold dsM
 rw[List.map_set,hl]
theorem A7 {d:PD}{A0 B:List RSt}{a:RSt}{s c:Nat}(hs:s<B.length)(hc:c<256)(hB:B=cN A0 ((dE d a).take c))(hd:∀ x∈B.take s,∀ b,some b∈dE d x→b∈B):cN A0 ((dE d a).take (c+1))=cF B (dp d a c)∧(kg (pR d B a s c) B.length (cF B (dp d a c)).length).set s (u0 d (cF B (dp d a c)) a (c+1))=pR d (cF B (dp d a c)) a s (c+1):=by
 obtain⟨h1,h2⟩:=EJ hs hc hB hd
 refine⟨h1,?_⟩
 rw[← h2]
 unfold u0
 rw[aS (tG d a hc),List.map_append,List.append_assoc]
 rfl
def yW (d:PD)(m:Nat):Bm:=⟨⟨(jY (dE d) (cC d m)).map fun r=>⟨r,false⟩,false⟩,⟨(cC d m).map (qm d),false⟩⟩
theorem tR (d:PD)(m:Nat):(yW d m).plain=fS d m:=by
 have e:((jY (dE d) (cC d m)).map fun r=>(⟨r,false⟩:Rw Int)).map (·.l)=jY (dE d) (cC d m):=by
  rw[List.map_map]
  exact List.map_id _
 simp only[yW,Bm.plain,cH,fS,e]
theorem El (d:PD)(m:Nat):AV.rd (dsM (jY (dE d) (cC d m))).length ((dsM (jY (dE d) (cC d m))).map fun d=>AV.rd d.2.1 d.2.2 false) false=(yW d m).next.mv Rw.iv:=by
 have e:((jY (dE d) (cC d m)).map fun r=>((1,r.length,r.map (AV.int .i64)):Nat×Nat×List AV)).map (fun d=>AV.rd d.2.1 d.2.2 false)=((jY (dE d) (cC d m)).map fun r=>(⟨r,false⟩:Rw Int)).map Rw.iv:=by
  rw[List.map_map,List.map_map]
  rfl
 show AV.rd _ (((jY (dE d) (cC d m)).map fun r=>((1,r.length,r.map (AV.int .i64)):Nat×Nat×List AV)).map _) false=_
 rw[e]
 show AV.rd _ _ false=AV.rd (List.length (List.map _ _)) _ false
 unfold dsM
 rw[List.length_map,List.length_map]
 rfl
theorem HS {d:PD}(h:d.Ok){m:Nat}(hle:(cC d m).length≤m):OkB (yW d m).plain:=by
 rw[tR]
 have hn:(fS d m).n=(cC d m).length:=by simp[fS,PD.n]
 refine⟨?_,?_,fun r hr=>?_,fun t ht=>?_⟩
 ·rw[hn];exact oz (dE d) ((0,[]):RSt) m
 ·rw[hn];simp[fS,jY]
 ·rw[hn]
  exact we (row:=dE d) (s0:=((0,[]):RSt)) (m:=m) (p:=256) hle (fun a=>by simp[dE]) r hr
 ·obtain⟨s,hs⟩:=List.getElem?_of_mem ht
  have hlt:=lt_of_getElem? hs
  have e:(fS d m).tag s=t:=by
   show(fS d m).tags.getD (s:Int).toNat (-1)=t
   rw[Int.toNat_natCast,List.getD_eq_getElem?_getD,hs]
   rfl
  rw[← e]
  refine yV h ⟨by omega,?_⟩
  rw[← hn]
  show(s:Int)<(((fS d m).tags.length:Nat):Int)
  omega
theorem Fv {d:PD}(h:∀ t∈d.tags,I32 t)(a:RSt):I32 (qm d a):=by
 unfold qm
 split
 ·unfold I32;omega
 ·unfold PD.tag
  rcases lT (l:=d.tags) (i:=a.1.toNat) (d := -1) with e|e
  ·rw[e];unfold I32;omega
  ·exact h _ e
theorem Ek {d:PD}(h:∀ t∈d.tags,I32 t)(m:Nat):∀ t∈(yW d m).tags.l,I32 t:=fun t ht=>by
 obtain⟨a,_,rfl⟩:=List.mem_map.1 ht
 exact Fv h a
theorem tQ {d:PD}(h:d.Ok)(hn:d.n≤100)(hs:(d.parts.map List.length).sum≤100)(m:Nat):(cC d m).length≤340100:=by
 have h1:=wm h (K:=3400) (fun i hi=>Nat.le_trans (rz d.parts (d.row i) h.norm) (by omega)) m
 have h2:d.n*3400≤100*3400:=Nat.mul_le_mul_right _ hn
 omega
theorem xD {d:PD}(h:d.Ok)(hs:(d.parts.map List.length).sum≤100)(m:Nat):∀ a∈cC d m,OkR d a:=by
 refine uK (xC h hs h.zero) (fun a b ha hb=>?_) m
 obtain⟨c,_,hc⟩:=qz hb
 exact t5 h hs ha hc
theorem Gf {d:PD}(h:d.Ok)(hs:(d.parts.map List.length).sum≤100){m:Nat}{a:RSt}(ha:a∈cC d m)(c:Nat):∀ b∈cN (cC d m) ((dE d a).take c),OkR d b:=by
 intro b hb
 rcases nL hb with hb|hb
 ·exact xD h hs m b hb
 ·obtain⟨c,_,hc⟩:=qz (List.mem_of_mem_take hb)
  exact t5 h hs (xD h hs m a ha) hc
end
end Go.Proofs.YtlnobeojgifojaaGreatDoor
