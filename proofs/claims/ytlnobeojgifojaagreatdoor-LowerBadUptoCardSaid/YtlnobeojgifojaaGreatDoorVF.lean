/- (*lower.maker).step. Plain: states of ways, all of which are good; rows as they are written. Plain: states one after another, rows as they are written: begin, end, and what is whole. -/
import Derived.Test.YtlnobeojgifojaaGreatDoorVE
set_option linter.unusedVariables false
set_option linter.unusedSimpArgs false
namespace Go.Proofs.YtlnobeojgifojaaGreatDoor
section
open Go
set_option maxHeartbeats 4000000
theorem sa (a b:List Way)(c:Int):dQ (a++b) c=dQ a c++dQ b c:=by
 unfold dQ
 rw[List.filterMap_append]
theorem wp {ws:List Way}{k:Nat}{w:Way}(h:ws[k]?=some w)(c:Int):dQ (ws.take (k+1)) c=dQ (ws.take k) c++dQ [w] c:=by
 rw[aS h,sa]
theorem Gu {p:Int×Int}{r:ju}{t c:Int}(h:¬ (p.1≤c∧c≤p.2)):dQ [(p::r,t)] c=[]:=by
 simp[dQ,h]
theorem B6 {p:Int×Int}{r:ju}{t c:Int}(h:p.1≤c∧c≤p.2):dQ [(p::r,t)] c=[(r,t)]:=by
 simp[dQ,h]
theorem FW {ws:List Way}{k:Nat}{p:Int×Int}{t c:Int}(hn:∀ v∈dQ (ws.take k) c,v.1≠[])(hw:ws[k]?=some ([p],t))(hp:p.1≤c∧c≤p.2):iZ ws c = .own t:=by
 have hk:=(List.getElem?_eq_some_iff.1 hw)
 have e:dQ ws c=dQ (ws.take k) c++([],t)::dQ (ws.drop (k+1)) c:=by
  conv=>lhs;rw[← List.take_append_drop (k+1) ws,sa,wp hw,B6 hp,List.append_assoc]
  rfl
 have hf:(dQ (ws.take k) c).find? (fun w=>w.1.isEmpty)=none:=by
  rw[List.find?_eq_none]
  intro v hv e
  exact hn v hv (by simpa using e)
 unfold iZ
 rw[e,List.find?_append,hf]
 rfl
theorem C3 {ws:List Way}{c:Int}(hn:∀ v∈dQ ws c,v.1≠[]):iZ ws c=if dQ ws c=[] then .none else .amid (dQ ws c):=by
 have hf:(dQ ws c).find? (fun w=>w.1.isEmpty)=none:=by
  rw[List.find?_eq_none]
  intro v hv e
  exact hn v hv (by simpa using e)
 unfold iZ
 rw[hf]
theorem EW (r:ju):(r.flatMap jc).length=r.length*2:=js jc 2 (fun _=>rfl) r
theorem xk {F:bT}{r:List bF}{Q:Env→ac→Prop}{env:Env}{h:ac}{d:Nat}{x y:bt}{p:Int×Int}{rest:ju}{kk:IntKind}(hx:ev env x=mC (p::rest))(hy:ev env y = .int kk 1)(k:aw F r Q (env.put d (mC rest)) h):aw F (⟨some d,.slice 2 x (some y) none none,none⟩::r) Q env h:=by
 refine eJ rfl (v:=mC rest) ?_ k
 have hl:=EW rest
 have e1:(p::rest).flatMap jc=jc p++rest.flatMap jc:=rfl
 simp only[aT,hx,eP,hy,Option.bind_some,e1]
 rw[if_pos ⟨by omega,by rw[List.length_cons];omega,by omega,trivial,by rw[List.length_append,hl];show 2+_=(rest.length+1)*2;omega⟩]
 simp only[List.length_cons,Option.isSome_none,Bool.false_or,Bool.false_and]
 rw[show((rest.length+1:Nat):Int)-1=rest.length by omega,Int.toNat_natCast,show(1:Int).toNat*2=(jc p).length from rfl,List.drop_left,← hl,List.take_length]
attribute [local irreducible] aw bg bm dg bz cw dO bH wop cz a8
set_option maxRecDepth 100000 in
theorem FV {Φ:Lib}(L:fd Φ)(L3:cP Φ){h:ac}{cc:cQ}{iM imN imO:Nat}{x:Dfa}{vR vN vT vW:AV}{ws:List AV}{D:List (List Int)}{d:PD}{A:List RSt}(hd:d.Ok)(hx:x.plain=d)(hS:Sep h (chA cc iM imN imO x (d.parts.map dh) vR vN vT vW ws D d A))(hA:∀ a∈A,OkR d a)(hD:D.length=A.length)(hAl:A.length≤1073741824)(hws:∀ w∈ws,si w){s:Nat}{a:RSt}(ha:A[s]?=some a){c:Nat}(hc:c<256)(hto:∀ b,cV d a c=some b→OkR d b) :
  a8 Φ 269 [.ptr iM 0 0,.int .i64 s,.int .u8 c] h (fun r h'=>r = .int .i64 (gR (cE A (cV d a c)) (cV d a c))∧∃ (vN' vT' vW':AV) (ws':List AV),(∀ w∈ws',si w)∧Sep h' (chA cc iM imN imO x (d.parts.map dh) vR vN' vT' vW' ws' (kn D A.length (cE A (cV d a c)).length) d (cE A (cV d a c)))):=by
 have hM:h.get iM=some (.cells 0 (mkM x vR vN vT vW imN imO)):=hS.get (i:=2) rfl
 have hvW:aC h vW 1 (A.map (eo d)).length _:=hS.get (i:=5) rfl
 have hWl:(A.map (eo d)).length=A.length:=List.length_map _
 have hs1:=lt_of_getElem? ha
 have hWs:(A.map (eo d))[s]?=some (eo d a):=by rw[List.getElem?_map,ha];rfl
 have hok:=hA a (List.mem_of_getElem? ha)
 obtain⟨wy,hwy⟩:∃ wy,wy=eo d a:=⟨_,rfl⟩
 have hlen:=hok.len
 have hwb:=hok.wb
 have hwto:=nS hd hok.inr
 have hstep:cV d a c=(match iZ wy c with
  | .none=>none
  | .own i=>some (i,[])
  | .amid l=>some (-1,l)):=by rw[hwy];rfl
 rw[← hwy]at hlen hwb hWs hwto
 have hnW:=hvW.notTup
 refine aY (fun o=>o == some 58||o == some 27) rfl L.f269 ?_
 repeat' first|apply ad|(apply gw;first|refine aq rx_ ?_|(apply gq2;first|refine aO rx_ ?_|refine eE (g:=_) rfl hg_ hWs eq_ ?_|refine ar rfl hg_ (by simp) b_ pv_ ?_)|(apply gq5;first|refine bb rx_ ?_|refine bd rx_ ?_|(refine cW rx_ (by assumption) rfl (by omega) (by omega) ?_;intro ir gr hvr hgr hgp;have hner:=ac.ne_of hgr;have hner2:=ac.ne_of2 hgr))|(apply gq6;first|refine bU rx_ ?_|refine az rfl ?_)|(apply gq4;first|refine aW rx_ ?_|refine au rfl (Nat.zero_add _) ?_)|refine bq rfl ?_)|(apply gx;first|apply af|refine ae rfl ?_|apply al)|apply aa
 refine bG wy.length (fun k env h'=>∃ v,Sep h' (chA cc iM imN imO x (d.parts.map dh) vR vN vT vW ws D d A++[cC v 2 (dQ (wy.take k) c).length ((dQ (wy.take k) c).flatMap nL)])∧(∀ v∈dQ (wy.take k) c,v.1≠[])∧env.has [(0,.ptr iM 0 0),(2,.int .u8 c),(7,v),(17,vP wy),(18,.int .i64 wy.length),(19,.int .i64 k)]) ⟨_,hS.nil 2,fun v hv=>by simp[dQ]at hv,hh_⟩ ?_
 clear hS hM hvW hnW hvr hgr hgp hner hner2
 rintro k env h' hk ⟨v,hS,hne,he⟩
 obtain⟨env,rfl⟩:=he.ex
 clear he
 have hM:h'.get iM=some (.cells 0 (mkM x vR vN vT vW imN imO)):=hS.get (i:=2) rfl
 have hv:aC h' v 2 _ _:=hS.get (i:=8) rfl
 have hnt:=hv.notTup
 have hrl:(dQ (wy.take k) c).length≤wy.length:=by
  unfold dQ
  exact Nat.le_trans (List.length_filterMap_le _ _) (by rw[List.length_take];omega)
 by_cases hk2:k<wy.length
 ·obtain⟨w,hw⟩:=aK hk2
  obtain⟨hwB,hwne⟩:=hwb w (List.mem_of_getElem? hw)
  obtain⟨row,to⟩:=w
  cases row with
  | nil=>exact absurd rfl hwne
  | cons p rest =>
  have hp:(p::rest)[0]?=some p:=rfl
  have hpr:=hwB.rng p (by simp)
  have hsn:=wp hw (c:Int)
  have hw4:=hwB.len
  simp only[List.length_cons]at hw4
  repeat' first|apply ad|(apply gw;first|(apply gq2;first|refine aO rx_ ?_|refine jM rfl (by first|rfl|(simp[*];done)|fail) ?_|refine ar rfl hg_ (by simp) b_ pv_ ?_)|(apply gq3;first|refine aD rx_ ?_|refine ba rx_ ?_|(refine aA rfl rfl rfl ?_ ?_<;>(intro hc;try (exfalso;omega))))|(apply gq5;first|refine bb rx_ ?_|refine bd rx_ ?_|refine dF rfl fl_ rfl hw (by omega) rfl ?_|refine dF rfl fl_ rfl hp (by omega) rfl ?_)|(apply jF;first|refine bp rx_ ?_|refine bn rx_ ?_|refine cD (cs':=[AV.int _ _,AV.int _ _]) rfl rfl rfl rfl b_ rfl ?_|refine bh (v:=AV.agg _) rfl rfl hg_ rfl rfl b_ sv_ ?_)|(apply gq4;first|refine aW rx_ ?_|refine au rfl (Nat.zero_add _) ?_)|(refine bZ ?_;intro id hid;try simp only[ac.set_none]at hid))|(apply gx;first|apply af|refine ae rfl ?_|apply ay|apply al|refine ak rfl ?_)|apply aa
  rename_i i9 hi9
  rw[ac.set_set]
  obtain⟨i10,rfl⟩:∃ y,y=id:=⟨_,rfl⟩
  have hS1:=(hS.new (id:=i9) (o := .cells 0 [mC (p::rest),.int .i64 to]) hi9).new (id:=i10) (o := .cells 0 [.int .u8 p.1,.int .u8 p.2]) (by rw[ac.get_set_ne _ _ hid.1];exact hid.2.2)
  generalize (h'.set i9 (.cells 0 [mC (p::rest),.int .i64 to])).set i10 (.cells 0 [.int .u8 p.1,.int .u8 p.2])=h2 at hS1 ⊢
  have h9:h2.get i9=some (.cells 0 [mC (p::rest),.int .i64 to]):=hS1.get (i:=9) rfl
  have h10:h2.get i10=some (.cells 0 [.int .u8 p.1,.int .u8 p.2]):=hS1.get (i:=10) rfl
  have hS2:Sep h2 (chA cc iM imN imO x (d.parts.map dh) vR vN vT vW ws D d A++[cC v 2 (dQ (wy.take k) c).length ((dQ (wy.take k) c).flatMap nL)]):=(hS1.drop 10 rfl (fun _ _=>rfl)).drop 9 rfl (fun _ _=>rfl)
  clear hS hid hi9 hM hv
  have hv:aC h2 v 2 _ _:=hS2.get (i:=8) rfl
  refine jJ rfl ?_
  by_cases hcp:p.1≤(c:Int)∧(c:Int)≤p.2
  ·have hcp1:=hcp.1
   have hcp2:=hcp.2
   rw[B6 hcp]at hsn
   cases rest with
   | nil =>
    have hl1:([p]:ju).length=1:=rfl
    have hst:=FW hne hw hcp
    rw[hst]at hstep
    have hstep:cV d a c=some (to,[]):=hstep
    have hR:=hto _ hstep
    rw[hstep]
    repeat' first|apply ad|(apply gw;first|refine aq rx_ ?_|(apply gq2;first|refine aO rx_ ?_|refine ar rfl hg_ (by simp) b_ pv_ ?_)|(apply gq3;first|refine aD rx_ ?_|refine ba rx_ ?_|(refine aA rfl rfl rfl ?_ ?_<;>(intro hc;try (exfalso;omega)))|(refine cY rfl rfl rfl ?_ ?_<;>(intro hc;try (exfalso;omega)))|(refine cq rfl rfl rfl ?_ ?_<;>(intro hc;try (exfalso;omega))))|(apply gq6;first|refine bU rx_ ?_|refine az rfl ?_)|(apply gq4;first|refine aW rx_ ?_|refine au rfl (Nat.zero_add _) ?_)|refine bP rfl ?_|refine bc rfl rfl ?_|refine aI rfl nt_ ?_)|(apply gx;first|apply af|refine ae rfl ?_|apply ay|refine ak rfl ?_|refine ah rfl ?_)|apply aa
    refine cd (v9 L hd hx (hS2.weak (List.sublist_append_left _ _)) hA hD hAl hws to (hwto _ (List.mem_of_getElem? hw)) hR) ?_
    rintro _ h3 ⟨rfl,vN2,vT2,vW2,ws2,hws2,hS3⟩
    repeat' first|apply ad|refine aq rx_ ?_|apply aJ|apply aa|apply cu|apply fT|apply ld
    exact aH rfl ⟨rfl,vN2,vT2,vW2,ws2,hws2,hS3⟩
   | cons p2 rest =>
    have hl1:(p::p2::rest).length=rest.length+2:=rfl
    repeat' first|apply ad|(apply gw;first|refine aq rx_ ?_|(apply gq2;first|refine aO rx_ ?_|refine ar rfl hg_ (by simp) b_ pv_ ?_)|(apply gq3;first|refine aD rx_ ?_|refine ba rx_ ?_|(refine aA rfl rfl rfl ?_ ?_<;>(intro hc;try (exfalso;omega)))|(refine cY rfl rfl rfl ?_ ?_<;>(intro hc;try (exfalso;omega)))|(refine cq rfl rfl rfl ?_ ?_<;>(intro hc;try (exfalso;omega))))|(apply gq6;first|refine bU rx_ ?_|refine az rfl ?_)|(apply gq4;first|refine aW rx_ ?_|refine au rfl (Nat.zero_add _) ?_)|refine bP rfl ?_|refine bc rfl rfl ?_)|(apply gx;first|apply af|refine ae rfl ?_|apply ay|refine ah rfl ?_)|apply aa
    refine xk (p:=p) (rest:=p2::rest) rfl rfl ?_
    repeat' first|apply ad|(apply gw;first|refine aq rx_ ?_|(apply gq2;first|refine aO rx_ ?_|refine ar rfl hg_ (by simp) b_ pv_ ?_)|(apply gq3;first|refine aD rx_ ?_|refine aQ rfl rfl rfl (by omega) (by omega) ?_)|(apply lg;first|refine cm rx_ ?_|refine ck rx_ ?_|(refine aX (m:=1) rx_ ir_ rfl rfl (by omega) ?_;intro va hpa hra hka hria))|(apply gq4;first|refine aW rx_ ?_|refine au rfl (Nat.zero_add _) ?_)|refine cJ rfl ?_|refine bk rfl rfl ?_)|refine ae rfl ?_|apply aa|apply aF
    have hS3:=hS2.upd 8 (cC va 2 ((dQ (wy.take k) c).length+1) ((dQ (wy.take k) c).flatMap nL++nL (p2::rest,to))) rfl hra hka hria
    refine aP hk2 ⟨va,?_,?_,hh_⟩
    ·rw[hsn,List.length_append,List.flatMap_append]
     simpa using hS3
    ·rw[hsn]
     intro y hy
     rcases List.mem_append.1 hy with hy|hy
     ·exact hne y hy
     ·simp only[List.mem_singleton]at hy;subst hy;simp
  ·rw[Gu hcp,List.append_nil]at hsn
   repeat' first|apply ad|(apply gw;first|refine aq rx_ ?_|(apply gq2;first|refine aO rx_ ?_|refine ar rfl hg_ (by simp) b_ pv_ ?_)|(apply gq3;first|refine aD rx_ ?_|refine ba rx_ ?_|refine aQ rfl rfl rfl (by omega) (by omega) ?_|(refine aA rfl rfl rfl ?_ ?_<;>(intro hc;try (exfalso;omega)))|(refine cY rfl rfl rfl ?_ ?_<;>(intro hc;try (exfalso;omega))))|(apply gq4;first|refine aW rx_ ?_|refine au rfl (Nat.zero_add _) ?_)|(apply gq1;first|refine cr rfl ?_|refine bP rfl ?_)|(apply gq7;first|refine aZ rfl rfl ?_|refine bc rfl rfl ?_))|(apply gx;first|refine ae rfl ?_|apply aL|refine ak rfl ?_)|apply aa|apply aM|apply aN
   all_goals first
    | (refine aP hk2 ⟨v,?_,?_,hh_⟩<;>rw[hsn]<;>assumption)
    | skip
 ·rw[List.take_of_length_le (by omega)]at hS hne hv hrl
  have hend:=C3 hne
  repeat' first|apply ad|(apply gw;first|refine aq rx_ ?_|(apply gq3;first|refine aD rx_ ?_|refine ba rx_ ?_|(refine aA rfl rfl rfl ?_ ?_<;>(intro hc;try (exfalso;omega)))|(refine cq rfl rfl rfl ?_ ?_<;>(intro hc;try (exfalso;omega))))|(apply gq6;first|refine bU rx_ ?_|refine eL rx_ (by assumption) ?_))|(apply gx;first|apply af|refine ae rfl ?_|apply ay|apply aJ|apply aL|refine ak rfl ?_|refine ah rfl ?_)|apply aa|apply cu|apply aM|apply aN|apply aR
  ·have hnil:dQ wy c=[]:=List.eq_nil_of_length_eq_zero (by omega)
   rw[hend,if_pos hnil]at hstep
   have hstep:cV d a c=none:=hstep
   refine aH rfl ⟨by rw[hstep];rfl,vN,vT,vW,ws,hws,?_⟩
   rw[hstep]
   show Sep h' (chA cc iM imN imO x (d.parts.map dh) vR vN vT vW ws (kn D A.length A.length) d A)
   rw[kn,Nat.sub_self,List.replicate_zero,List.append_nil]
   exact hS.weak (List.sublist_append_left _ _)
  ·have hnil:dQ wy c≠[]:=fun e=>hc (by rw[e];rfl)
   rw[hend,if_neg hnil]at hstep
   have hstep:cV d a c=some (-1,dQ wy c):=hstep
   have hR:=hto _ hstep
   rw[hstep]
   refine ga 7 (v:=v) rfl rfl hv ?_
   intro h2 hk2
   have hS2:=hS.drop 8 (h':=h2) rfl hk2
   clear hS hM hv hnt hk2
   repeat' first|(apply gw;first|refine aq rx_ ?_|refine aI rfl nt_ ?_)
   refine cd (HI L L3 hS2 hA hD hAl hws (dQ wy c) hR) ?_
   rintro _ h3 ⟨rfl,vN2,vT2,vW2,ws2,hws2,hS3⟩
   repeat' first|apply ad|refine aq rx_ ?_|apply aJ|apply aa
   exact aH rfl ⟨rfl,vN2,vT2,vW2,ws2,hws2,hS3⟩
end
section
open Go
theorem wN {r:Int}(h:0≤r∧r≤1114111):∀ c∈br r,0≤c∧c≤255:=by
 unfold br
 split
 ·intro c hc;simp only[List.mem_singleton]at hc;omega
 ·split
  ·intro c hc;simp only[List.mem_cons,List.not_mem_nil,or_false]at hc;rcases hc with rfl|rfl<;>omega
  ·split
   ·intro c hc;simp only[List.mem_cons,List.not_mem_nil,or_false]at hc;rcases hc with rfl|rfl|rfl<;>omega
   ·intro c hc;simp only[List.mem_cons,List.not_mem_nil,or_false]at hc;rcases hc with rfl|rfl|rfl|rfl<;>omega
theorem AQ {s:ai}(h:OneSize s):dY s≠[]∧∀ p∈dY s,(0≤p.1∧p.1≤255)∧(0≤p.2∧p.2≤255):=by
 have h1:=h.lo
 have h2:=h.le
 have h3:=h.hi
 constructor
 ·intro e
  have e1:=congrArg List.length e
  unfold dY at e1
  rw[List.length_zip,dv,dv,List.length_nil]at e1
  have q1:∀ r,1≤bB r:=fun r=>by unfold bB;split;omega;split;omega;split<;>omega
  have:=q1 s.lo
  have:=q1 s.hi
  omega
 ·intro p hp
  obtain⟨a,b⟩:=p
  obtain⟨m1,m2⟩:=List.of_mem_zip hp
  exact⟨wN ⟨h1,by omega⟩ a m1,wN ⟨by omega,h3⟩ b m2⟩
theorem y9 (s:ai):(de s).length≤4:=by
 unfold de
 exact Nat.le_trans (List.length_filterMap_le _ _) (by simp[jw])
theorem Fk {l:List ai}:(eV l).length≤28*(bi l).length:=by
 unfold eV
 have h1:=(oC (l:=(bi l).flatMap de) fun q hq=>by
  obtain⟨s,hs,hq⟩:=List.mem_flatMap.1 hq
  exact lM hq).2
 have h2:∀ m:List ai,(m.flatMap de).length≤4*m.length:=fun m=>by
  induction m with
  | nil=>simp
  | cons s m ih =>
   rw[List.flatMap_cons,List.length_append,List.length_cons]
   have:=y9 s
   omega
 have:=h2 (bi l)
 omega
theorem yC:∀ (parts:List (List ai)) (next:List Int),(∀ p∈parts,bi p=p)→(cN parts next).length≤28*(parts.map List.length).sum
 | [],_,_=>by simp[cN]
 | _::_,[],_=>by simp[cN]
 | p::parts,t::next,h=>by
  have ih:=yC parts next fun q hq=>h q (by simp[hq])
  have e:cN (p::parts) (t::next)=nT (p,t)++cN parts next:=by simp[yE]
  rw[e,List.length_append,List.map_cons,List.sum_cons]
  have h1:=Fk (l:=p)
  rw[h p (by simp)]at h1
  have h2:(nT (p,t)).length≤(eV p).length:=by
   unfold nT
   split
   ·simp
   ·simp[dh]
  omega
theorem Ay {parts:List (List ai)}{next:List Int}{n:Nat}(hn:n≤2000)(hto:∀ w∈cN parts next,In n w.2):∀ w∈cN parts next,BN w∧w.1≠[]:=by
 intro w hw
 have h1:=hto w hw
 have h2:=CR w hw
 obtain⟨k,p,_,_,_,hr⟩:=fG.1 hw
 obtain⟨s,hs,hsr⟩:=List.mem_map.1 hr
 have ho:OneSize s:=by
  unfold eV at hs
  obtain⟨q,hq,hs⟩:=List.mem_flatMap.1 hs
  obtain⟨s0,_,hq⟩:=List.mem_flatMap.1 hq
  exact((lB q (lM hq)).1 s hs).toOneSize
 obtain⟨g1,g2⟩:=AQ ho
 rw[hsr]at g1 g2
 have q1:=h1.1
 have q2:=h1.2
 exact⟨⟨g2,h2,q1,by omega⟩,g1⟩
theorem xK {d:PD}(h:d.Ok)(hs:(d.parts.map List.length).sum≤100){i:Int}(hi:In d.n i):OkR d (i,[]):=by
 have e:eo d (i,[])=cN d.parts (d.row i):=by unfold eo;rw[if_neg (by have:=hi.1;simp only;omega)]
 refine⟨.inl ⟨hi,rfl⟩,?_,?_⟩
 ·rw[e]
  exact Ay h.n2 (xc h hi)
 ·rw[e]
  have:=yC d.parts (d.row i) h.norm
  omega
theorem uc {d:PD}(h:d.Ok)(hs:(d.parts.map List.length).sum≤100){a b:RSt}(ha:OkR d a){c:Int}(hb:cV d a c=some b):OkR d b:=by
 have hin:=zP h ha.inr hb
 unfold cV at hb
 split at hb
 ·cases hb
 ·rename_i i hi
  cases hb
  exact xK h hs (sR (nS h ha.inr) hi)
 ·rename_i l hl
  cases hb
  have e:eo d (-1,l)=l:=by unfold eo;rw[if_pos (by simp only;omega)]
  have g1:=rt hl
  obtain⟨_,g2⟩:=qt hl
  refine⟨hin,?_,?_⟩
  ·rw[e]
   intro w hw
   refine⟨?_,g2 w hw⟩
   rw[g1]at hw
   obtain⟨p,hp,_⟩:=eK.1 hw
   obtain⟨hB,_⟩:=ha.wb _ hp
   have hl4:=hB.len
   simp only[List.length_cons]at hl4
   exact⟨fun q hq=>hB.rng q (by simp only[List.mem_cons];exact .inr hq),by omega,hB.to⟩
  ·rw[e,g1]
   exact Nat.le_trans (by unfold dQ;exact List.length_filterMap_le _ _) ha.len
def nK (d:PD)(A:List RSt)(s:Nat):List (List Int):=(A.take s).map fun a=>(dL d a).map (gR A)
def pY (d:PD)(A:List RSt)(a:RSt)(s c:Nat):List (List Int):=nK d A s++(((dL d a).take c).map (gR A)++List.replicate (256-c) (-1))::List.replicate (A.length-(s+1)) (List.replicate 256 (-1))
theorem tO (d:PD)(a:RSt){c:Nat}(hc:c<256):(dL d a)[c]?=some (cV d a c):=by
 unfold dL
 rw[List.getElem?_map,List.getElem?_range hc]
 rfl
theorem Fo {d:PD}{A B:List RSt}{s:Nat}(hp:A <+: B)(hs:s≤A.length)(hd:∀ a∈A.take s,∀ b,some b∈dL d a→b∈A):nK d B s=nK d A s:=by
 obtain⟨t,rfl⟩:=hp
 unfold nK
 rw[List.take_append_of_le_length hs]
 refine List.map_congr_left fun a ha=>List.map_congr_left fun to hto=>?_
 exact t8 (List.prefix_append _ _) fun b e=>hd a ha b (by rw[← e];exact hto)
theorem E3 {d:PD}{A0 A:List RSt}{a:RSt}{s c:Nat}(hs:s<A.length)(hc:c<256)(hA:A=cL A0 ((dL d a).take c))(hd:∀ x∈A.take s,∀ b,some b∈dL d x→b∈A) :
  cL A0 ((dL d a).take (c+1))=cE A (cV d a c)∧(kn (pY d A a s c) A.length (cE A (cV d a c)).length).set s (((dL d a).take c).map (gR (cE A (cV d a c)))++gR (cE A (cV d a c)) (cV d a c)::List.replicate (256-(c+1)) (-1))=pY d (cE A (cV d a c)) a s (c+1):=by
 have hx:=tO d a hc
 have hpre:=pI A (cV d a c)
 have hle:=hpre.length_le
 refine⟨by rw[aS hx,xe,← hA],?_⟩
 have hdl:(nK d A s).length=s:=by unfold nK;rw[List.length_map,List.length_take];omega
 unfold pY kn
 rw[Fo hpre (by omega) hd,List.append_assoc,List.set_append_right _ _ (by omega),hdl,Nat.sub_self,List.cons_append,List.set_cons_zero,List.replicate_append_replicate,aS hx,List.map_append,List.append_assoc]
 congr 3
 congr 1
 omega
end
section
open Go
theorem Hv (P:List (List ai)):(fW P).length=(P.map List.length).sum:=by
 unfold fW
 rw[List.length_flatMap]
 rfl
theorem qo {α:Type}[DecidableEq α](L:List α)(tos:List (Option α))(c:Nat):cL L (tos.take c) <+: cL L tos:=by
 have e:cL L tos=cL (cL L (tos.take c)) (tos.drop c):=by
  unfold cL
  rw[← List.foldl_append,List.take_append_drop]
 rw[e]
 exact me _ _
theorem BL {α:Type}[DecidableEq α]{row:α→List (Option α)}{s0:α}{s:Nat}:∀ x∈(eZ row s0 s).take s,∀ b,some b∈row x→b∈eZ row s0 s:=by
 intro x hx b hb
 obtain⟨i,hi⟩:=List.getElem?_of_mem hx
 have hlt:=lt_of_getElem? hi
 rw[List.length_take]at hlt
 rw[List.getElem?_take,if_pos (by omega)]at hi
 have h4:=ng row s0 (show i≤s by omega)
 have h5:(eZ row s0 i)[i]?=some x:=by
  by_cases h5:i<(eZ row s0 i).length
  ·obtain⟨t,e⟩:=h4
   rw[← e,List.getElem?_append_left h5]at hi
   exact hi
  ·have h6:=pi row s0 (i:=i) (by omega) (show i≤s by omega)
   rw[h6]at hi
   exact hi
 exact Ar h5 (by omega) hb
theorem Fy {α:Type}[DecidableEq α]{row:α→List (Option α)}{s0:α}{s:Nat}{a:α}(ha:(eZ row s0 s)[s]?=some a):eZ row s0 (s+1)=cL (eZ row s0 s) (row a):=by rw[eZ,ha]
theorem qB (d:PD)(a:RSt):(dL d a).length=256:=by simp[dL]
def sm (d:PD)(A:List RSt)(s:Nat):List (List Int):=nK d A s++List.replicate (A.length-s) (List.replicate 256 (-1))
theorem GK {d:PD}{A:List RSt}{a:RSt}{s c:Nat}(h:s<A.length):(pY d A a s c).length=A.length:=by
 unfold pY nK
 rw[List.length_append,List.length_map,List.length_take,List.length_cons,List.length_replicate]
 omega
theorem E1 (D:List (List Int))(n m:Nat):(kn D n m).length=D.length+(m-n):=by
 unfold kn
 rw[List.length_append,List.length_replicate]
theorem A3 {d:PD}{A:List RSt}(a:RSt){s:Nat}(h:s<A.length):sm d A s=pY d A a s 0:=by
 unfold sm pY
 rw[List.take_zero,List.map_nil,List.nil_append,Nat.sub_zero,show A.length-s=(A.length-(s+1))+1 by omega,List.replicate_succ]
theorem GM {d:PD}{A:List RSt}{a:RSt}{s:Nat}(h:A[s]?=some a):pY d A a s 256=sm d A (s+1):=by
 unfold sm pY nK
 rw[aS h,List.map_append,List.map_singleton,List.take_of_length_le (l:=dL d a) (i:=256) (by rw[qB];exact Nat.le_refl _),Nat.sub_self,List.replicate_zero,List.append_nil,List.append_assoc,List.singleton_append]
theorem Fm {d:PD}{A:List RSt}{s:Nat}(h:s=A.length):sm d A s=j5 (dL d) A:=by
 subst h
 unfold sm nK j5
 rw[Nat.sub_self,List.replicate_zero,List.append_nil,List.take_length]
def ve (d:PD)(B:List RSt)(a:RSt)(c:Nat):List Int:=((dL d a).take c).map (gR B)++List.replicate (256-c) (-1)
theorem qC {d:PD}{B:List RSt}{a:RSt}{c:Nat}(h:c≤256):(ve d B a c).length=256:=by
 unfold ve
 rw[List.length_append,List.length_map,List.length_take,qB,List.length_replicate]
 omega
theorem GL {d:PD}{B:List RSt}{a:RSt}{s c m:Nat}(h:s<B.length):(kn (pY d B a s c) B.length m)[s]?=some (ve d B a c):=by
 have hdl:(nK d B s).length=s:=by unfold nK;rw[List.length_map,List.length_take];omega
 unfold kn pY
 rw[List.append_assoc,List.getElem?_append_right (by omega),hdl,Nat.sub_self]
 rfl
theorem Gr {d:PD}{A B:List RSt}{a:RSt}{c:Nat}(hc:c<256)(hB:B=cL A ((dL d a).take c)):((ve d B a c).map (AV.int .i64)).set ((c:Int).toNat*1) (AV.int .i64 (gR (cE B (cV d a c)) (cV d a c)))=(ve d (cE B (cV d a c)) a (c+1)).map (AV.int .i64):=by
 have hx:=tO d a hc
 have e1:((dL d a).take c).map (gR (cE B (cV d a c)))=((dL d a).take c).map (gR B):=List.map_congr_left fun to hto=>t8 (pI B _) fun b e=>by
  rw[hB];exact r5 (by rw[← e];exact hto)
 rw[Int.toNat_natCast,Nat.mul_one]
 unfold ve
 rw[aS hx,List.map_append (f:=gR _),e1,List.map_append,List.map_append,List.map_replicate,kY (by rw[List.length_map,List.length_map,List.length_take,qB];omega) hc,List.map_append,List.map_replicate]
 rfl
theorem IJ {D:List (List Int)}{s:Nat}{r:List Int}(h:D[s]?=some r)(hl:r.length=256):(dsM D)[s]?=some (1,256,r.map (AV.int .i64)):=by
 unfold dsM
 rw[List.getElem?_map,h,← hl]
 rfl
theorem II {D:List (List Int)}{s:Nat}{r:List Int}(hl:r.length=256):(dsM D).set s (1,256,r.map (AV.int .i64))=dsM (D.set s r):=by
 unfold dsM
 rw[List.map_set,hl]
theorem Br {d:PD}{A0 B:List RSt}{a:RSt}{s c:Nat}(hs:s<B.length)(hc:c<256)(hB:B=cL A0 ((dL d a).take c))(hd:∀ x∈B.take s,∀ b,some b∈dL d x→b∈B):cL A0 ((dL d a).take (c+1))=cE B (cV d a c)∧(kn (pY d B a s c) B.length (cE B (cV d a c)).length).set s (ve d (cE B (cV d a c)) a (c+1))=pY d (cE B (cV d a c)) a s (c+1):=by
 obtain⟨h1,h2⟩:=E3 hs hc hB hd
 refine⟨h1,?_⟩
 rw[← h2]
 unfold ve
 rw[aS (tO d a hc),List.map_append,List.append_assoc]
 rfl
def zf (d:PD)(m:Nat):Bm:=⟨⟨(j5 (dL d) (cG d m)).map fun r=>⟨r,false⟩,false⟩,⟨(cG d m).map (nO d),false⟩⟩
theorem tY (d:PD)(m:Nat):(zf d m).plain=jn d m:=by
 have e:((j5 (dL d) (cG d m)).map fun r=>(⟨r,false⟩:Rw Int)).map (·.l)=j5 (dL d) (cG d m):=by
  rw[List.map_map]
  exact List.map_id _
 simp only[zf,Bm.plain,cS,jn,e]
theorem EH (d:PD)(m:Nat):AV.rd (dsM (j5 (dL d) (cG d m))).length ((dsM (j5 (dL d) (cG d m))).map fun d=>AV.rd d.2.1 d.2.2 false) false=(zf d m).next.mv Rw.iv:=by
 have e:((j5 (dL d) (cG d m)).map fun r=>((1,r.length,r.map (AV.int .i64)):Nat×Nat×List AV)).map (fun d=>AV.rd d.2.1 d.2.2 false)=((j5 (dL d) (cG d m)).map fun r=>(⟨r,false⟩:Rw Int)).map Rw.iv:=by
  rw[List.map_map,List.map_map]
  rfl
 show AV.rd _ (((j5 (dL d) (cG d m)).map fun r=>((1,r.length,r.map (AV.int .i64)):Nat×Nat×List AV)).map _) false=_
 rw[e]
 show AV.rd _ _ false=AV.rd (List.length (List.map _ _)) _ false
 unfold dsM
 rw[List.length_map,List.length_map]
 rfl
theorem Ic {d:PD}(h:d.Ok){m:Nat}(hle:(cG d m).length≤m):OkB (zf d m).plain:=by
 rw[tY]
 have hn:(jn d m).n=(cG d m).length:=by simp[jn,PD.n]
 refine⟨?_,?_,fun r hr=>?_,fun t ht=>?_⟩
 ·rw[hn];exact rh (dL d) ((0,[]):RSt) m
 ·rw[hn];simp[jn,j5]
 ·rw[hn]
  exact wl (row:=dL d) (s0:=((0,[]):RSt)) (m:=m) (p:=256) hle (fun a=>by simp[dL]) r hr
 ·obtain⟨s,hs⟩:=List.getElem?_of_mem ht
  have hlt:=lt_of_getElem? hs
  have e:(jn d m).tag s=t:=by
   show(jn d m).tags.getD (s:Int).toNat (-1)=t
   rw[Int.toNat_natCast,List.getD_eq_getElem?_getD,hs]
   rfl
  rw[← e]
  refine ze h ⟨by omega,?_⟩
  rw[← hn]
  show(s:Int)<(((jn d m).tags.length:Nat):Int)
  omega
theorem FQ {d:PD}(h:∀ t∈d.tags,I32 t)(a:RSt):I32 (nO d a):=by
 unfold nO
 split
 ·unfold I32;omega
 ·unfold PD.tag
  rcases lX (l:=d.tags) (i:=a.1.toNat) (d := -1) with e|e
  ·rw[e];unfold I32;omega
  ·exact h _ e
theorem EG {d:PD}(h:∀ t∈d.tags,I32 t)(m:Nat):∀ t∈(zf d m).tags.l,I32 t:=fun t ht=>by
 obtain⟨a,_,rfl⟩:=List.mem_map.1 ht
 exact FQ h a
theorem tX {d:PD}(h:d.Ok)(hn:d.n≤100)(hs:(d.parts.map List.length).sum≤100)(m:Nat):(cG d m).length≤340100:=by
 have h1:=wt h (K:=3400) (fun i hi=>Nat.le_trans (rE d.parts (d.row i) h.norm) (by omega)) m
 have h2:d.n*3400≤100*3400:=Nat.mul_le_mul_right _ hn
 omega
theorem xL {d:PD}(h:d.Ok)(hs:(d.parts.map List.length).sum≤100)(m:Nat):∀ a∈cG d m,OkR d a:=by
 refine ri (xK h hs h.zero) (fun a b ha hb=>?_) m
 obtain⟨c,_,hc⟩:=n8 hb
 exact uc h hs ha hc
theorem GC {d:PD}(h:d.Ok)(hs:(d.parts.map List.length).sum≤100){m:Nat}{a:RSt}(ha:a∈cG d m)(c:Nat):∀ b∈cL (cG d m) ((dL d a).take c),OkR d b:=by
 intro b hb
 rcases nU hb with hb|hb
 ·exact xL h hs m b hb
 ·obtain⟨c,_,hc⟩:=n8 (List.mem_of_mem_take hb)
  exact uc h hs (xL h hs m a ha) hc
end
end Go.Proofs.YtlnobeojgifojaaGreatDoor
