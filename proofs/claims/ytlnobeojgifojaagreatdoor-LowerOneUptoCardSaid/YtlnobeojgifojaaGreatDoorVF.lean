/- (*lower.maker).step. Plain: states of ways, all of which are good; rows as they are written. Plain: states one after another, rows as they are written: begin, end, and what is whole. -/
import Derived.Test.YtlnobeojgifojaaGreatDoorVE
set_option linter.unusedVariables false
set_option linter.unusedSimpArgs false
namespace Go.Proofs.YtlnobeojgifojaaGreatDoor
section
open Go
set_option maxHeartbeats 4000000
theorem p7 (a b:List Way)(c:Int):dy (a++b) c=dy a c++dy b c:=by
 unfold dy
 rw[List.filterMap_append]
theorem tV {ws:List Way}{k:Nat}{w:Way}(h:ws[k]?=some w)(c:Int):dy (ws.take (k+1)) c=dy (ws.take k) c++dy [w] c:=by
 rw[aX h,p7]
theorem Dp {p:Int×Int}{r:il}{t c:Int}(h:¬ (p.1≤c∧c≤p.2)):dy [(p::r,t)] c=[]:=by
 simp[dy,h]
theorem zz {p:Int×Int}{r:il}{t c:Int}(h:p.1≤c∧c≤p.2):dy [(p::r,t)] c=[(r,t)]:=by
 simp[dy,h]
theorem CY {ws:List Way}{k:Nat}{p:Int×Int}{t c:Int}(hn:∀ v∈dy (ws.take k) c,v.1≠[])(hw:ws[k]?=some ([p],t))(hp:p.1≤c∧c≤p.2):kR ws c = .own t:=by
 have hk:=(List.getElem?_eq_some_iff.1 hw)
 have e:dy ws c=dy (ws.take k) c++([],t)::dy (ws.drop (k+1)) c:=by
  conv=>lhs;rw[← List.take_append_drop (k+1) ws,p7,tV hw,zz hp,List.append_assoc]
  rfl
 have hf:(dy (ws.take k) c).find? (fun w=>w.1.isEmpty)=none:=by
  rw[List.find?_eq_none]
  intro v hv e
  exact hn v hv (by simpa using e)
 unfold kR
 rw[e,List.find?_append,hf]
 rfl
theorem Ap {ws:List Way}{c:Int}(hn:∀ v∈dy ws c,v.1≠[]):kR ws c=if dy ws c=[] then .none else .amid (dy ws c):=by
 have hf:(dy ws c).find? (fun w=>w.1.isEmpty)=none:=by
  rw[List.find?_eq_none]
  intro v hv e
  exact hn v hv (by simpa using e)
 unfold kR
 rw[hf]
theorem B3 (r:il):(r.flatMap gQ).length=r.length*2:=iS gQ 2 (fun _=>rfl) r
theorem uL {F:bR}{r:List bA}{Q:Env→aa→Prop}{env:Env}{h:aa}{d:Nat}{x y:bl}{p:Int×Int}{rest:il}{kk:IntKind}(hx:ev env x=li (p::rest))(hy:ev env y = .int kk 1)(k:aj F r Q (env.put d (li rest)) h):aj F (⟨some d,.slice 2 x (some y) none none,none⟩::r) Q env h:=by
 refine dV rfl (v:=li rest) ?_ k
 have hl:=B3 rest
 have e1:(p::rest).flatMap gQ=gQ p++rest.flatMap gQ:=rfl
 simp only[aF,hx,d4,hy,Option.bind_some,e1]
 rw[if_pos ⟨by omega,by rw[List.length_cons];omega,by omega,trivial,by rw[List.length_append,hl];show 2+_=(rest.length+1)*2;omega⟩]
 simp only[List.length_cons,Option.isSome_none,Bool.false_or,Bool.false_and]
 rw[show((rest.length+1:Nat):Int)-1=rest.length by omega,Int.toNat_natCast,show(1:Int).toNat*2=(gQ p).length from rfl,List.drop_left,← hl,List.take_length]
attribute [local irreducible] aj bc bj dn bz cn dz bL wop cq aU
set_option maxRecDepth 100000 in
theorem CX {Φ:Lib}(L:em Φ)(L3:cZ Φ){h:aa}{cc:cC}{iM imN imO:Nat}{x:Dfa}{vR vN vT vW:AV}{ws:List AV}{D:List (List Int)}{d:PD}{A:List RSt}(hd:d.Ok)(hx:x.plain=d)(hS:Sep h (chA cc iM imN imO x (d.parts.map cO) vR vN vT vW ws D d A))(hA:∀ a∈A,OkR d a)(hD:D.length=A.length)(hAl:A.length≤1073741824)(hws:∀ w∈ws,qg w){s:Nat}{a:RSt}(ha:A[s]?=some a){c:Nat}(hc:c<256)(hto:∀ b,cW d a c=some b→OkR d b) :
  aU Φ 269 [.ptr iM 0 0,.int .i64 s,.int .u8 c] h (fun r h'=>r = .int .i64 (fS (cv A (cW d a c)) (cW d a c))∧∃ (vN' vT' vW':AV) (ws':List AV),(∀ w∈ws',qg w)∧Sep h' (chA cc iM imN imO x (d.parts.map cO) vR vN' vT' vW' ws' (jl D A.length (cv A (cW d a c)).length) d (cv A (cW d a c)))):=by
 have hM:h.get iM=some (.cells 0 (mkM x vR vN vT vW imN imO)):=hS.get (i:=2) rfl
 have hvW:aA h vW 1 (A.map (eK d)).length _:=hS.get (i:=5) rfl
 have hWl:(A.map (eK d)).length=A.length:=List.length_map _
 have hs1:=lt_of_getElem? ha
 have hWs:(A.map (eK d))[s]?=some (eK d a):=by rw[List.getElem?_map,ha];rfl
 have hok:=hA a (List.mem_of_getElem? ha)
 obtain⟨wy,hwy⟩:∃ wy,wy=eK d a:=⟨_,rfl⟩
 have hlen:=hok.len
 have hwb:=hok.wb
 have hwto:=oB hd hok.inr
 have hstep:cW d a c=(match kR wy c with
  | .none=>none
  | .own i=>some (i,[])
  | .amid l=>some (-1,l)):=by rw[hwy];rfl
 rw[← hwy]at hlen hwb hWs hwto
 have hnW:=hvW.notTup
 refine bb (fun o=>o == some 58||o == some 27) rfl L.f269 ?_
 repeat' first|apply ad|(apply gw;first|refine ai rx_ ?_|(apply gq2;first|refine aC rx_ ?_|refine dP (g:=_) rfl hg_ hWs eq_ ?_|refine ak rfl hg_ HU b_ pv_ ?_)|(apply gq5;first|refine aO rx_ ?_|refine aS rx_ ?_|(refine cM rx_ (by assumption) rfl HT HT ?_;intro ir gr hvr hgr hgp;have hner:=aa.ne_of hgr;have hner2:=aa.ne_of2 hgr))|(apply gq6;first|refine bM rx_ ?_|refine aD rfl ?_)|(apply gq4;first|refine aG rx_ ?_|refine aq rfl (Nat.zero_add _) ?_)|refine bi rfl ?_)|(apply gx;first|apply af|refine ae rfl ?_|apply au)|apply ac
 refine cl wy.length (fun k env h'=>∃ v,Sep h' (chA cc iM imN imO x (d.parts.map cO) vR vN vT vW ws D d A++[cP v 2 (dy (wy.take k) c).length ((dy (wy.take k) c).flatMap mf)])∧(∀ v∈dy (wy.take k) c,v.1≠[])∧env.has [(0,.ptr iM 0 0),(2,.int .u8 c),(7,v),(17,tx wy),(18,.int .i64 wy.length),(19,.int .i64 k)]) ⟨_,hS.nil 2,fun v hv=>by simp[dy]at hv,hh_⟩ ?_
 clear hS hM hvW hnW hvr hgr hgp hner hner2
 rintro k env h' hk ⟨v,hS,hne,he⟩
 obtain⟨env,rfl⟩:=he.ex
 clear he
 have hM:h'.get iM=some (.cells 0 (mkM x vR vN vT vW imN imO)):=hS.get (i:=2) rfl
 have hv:aA h' v 2 _ _:=hS.get (i:=8) rfl
 have hnt:=hv.notTup
 have hrl:(dy (wy.take k) c).length≤wy.length:=by
  unfold dy
  exact Nat.le_trans (List.length_filterMap_le _ _) (by rw[List.length_take];omega)
 by_cases hk2:k<wy.length
 ·obtain⟨w,hw⟩:=aK hk2
  obtain⟨hwB,hwne⟩:=hwb w (List.mem_of_getElem? hw)
  obtain⟨row,to⟩:=w
  cases row with
  | nil=>exact absurd rfl hwne
  | cons p rest =>
  have hp:(p::rest)[0]?=some p:=rfl
  have hpr:=hwB.rng p HU
  have hsn:=tV hw (c:Int)
  have hw4:=hwB.len
  simp only[List.length_cons]at hw4
  repeat' first|apply ad|(apply gw;first|(apply gq2;first|refine aC rx_ ?_|refine iH rfl (by first|rfl|(simp[*];done)|fail) ?_|refine ak rfl hg_ HU b_ pv_ ?_)|(apply gq3;first|refine az rx_ ?_|refine aN rx_ ?_|(refine aB rfl rfl rfl ?_ ?_<;>(intro hc;try omega)))|(apply gq5;first|refine aO rx_ ?_|refine aS rx_ ?_|refine fR rfl fl_ rfl hw HT rfl ?_|refine fR rfl fl_ rfl hp HT rfl ?_)|(apply iA;first|refine bg rx_ ?_|refine bf rx_ ?_|refine cy (cs':=[AV.int _ _,AV.int _ _]) rfl rfl rfl rfl b_ rfl ?_|refine aY (v:=AV.agg _) rfl rfl hg_ rfl rfl b_ sv_ ?_)|(apply gq4;first|refine aG rx_ ?_|refine aq rfl (Nat.zero_add _) ?_)|(refine cd ?_;intro id hid;try simp only[aa.set_none]at hid))|(apply gx;first|apply af|refine ae rfl ?_|apply ay|apply au|refine al rfl ?_)|apply ac
  rename_i i9 hi9
  rw[aa.set_set]
  obtain⟨i10,rfl⟩:∃ y,y=id:=⟨_,rfl⟩
  have hS1:=(hS.new (id:=i9) (o := .cells 0 [li (p::rest),.int .i64 to]) hi9).new (id:=i10) (o := .cells 0 [.int .u8 p.1,.int .u8 p.2]) (by rw[aa.get_set_ne _ _ hid.1];exact hid.2.2)
  generalize (h'.set i9 (.cells 0 [li (p::rest),.int .i64 to])).set i10 (.cells 0 [.int .u8 p.1,.int .u8 p.2])=h2 at hS1 ⊢
  have h9:h2.get i9=some (.cells 0 [li (p::rest),.int .i64 to]):=hS1.get (i:=9) rfl
  have h10:h2.get i10=some (.cells 0 [.int .u8 p.1,.int .u8 p.2]):=hS1.get (i:=10) rfl
  have hS2:Sep h2 (chA cc iM imN imO x (d.parts.map cO) vR vN vT vW ws D d A++[cP v 2 (dy (wy.take k) c).length ((dy (wy.take k) c).flatMap mf)]):=(hS1.drop 10 rfl (fun _ _=>rfl)).drop 9 rfl (fun _ _=>rfl)
  clear hS hid hi9 hM hv
  have hv:aA h2 v 2 _ _:=hS2.get (i:=8) rfl
  refine m9 rfl ?_
  by_cases hcp:p.1≤(c:Int)∧(c:Int)≤p.2
  ·have hcp1:=hcp.1
   have hcp2:=hcp.2
   rw[zz hcp]at hsn
   cases rest with
   | nil =>
    have hl1:([p]:il).length=1:=rfl
    have hst:=CY hne hw hcp
    rw[hst]at hstep
    have hstep:cW d a c=some (to,[]):=hstep
    have hR:=hto _ hstep
    rw[hstep]
    repeat' first|apply ad|(apply gw;first|refine ai rx_ ?_|(apply gq2;first|refine aC rx_ ?_|refine ak rfl hg_ HU b_ pv_ ?_)|(apply gq3;first|refine az rx_ ?_|refine aN rx_ ?_|((first|refine aB rfl rfl rfl ?_ ?_|refine dS rfl rfl rfl ?_ ?_|refine dD rfl rfl rfl ?_ ?_)<;>(intro hc;try omega)))|(apply gq6;first|refine bM rx_ ?_|refine aD rfl ?_)|(apply gq4;first|refine aG rx_ ?_|refine aq rfl (Nat.zero_add _) ?_)|refine cD rfl ?_|refine bh rfl rfl ?_|refine aL rfl nt_ ?_)|(apply gx;first|apply af|refine ae rfl ?_|apply ay|refine al rfl ?_|refine ah rfl ?_)|apply ac
    refine bS (tI L hd hx (hS2.weak (List.sublist_append_left _ _)) hA hD hAl hws to (hwto _ (List.mem_of_getElem? hw)) hR) ?_
    rintro _ h3 ⟨rfl,vN2,vT2,vW2,ws2,hws2,hS3⟩
    repeat' first|apply ad|refine ai rx_ ?_|apply aM|apply ac|apply cz|apply jB|apply kD
    exact aH rfl ⟨rfl,vN2,vT2,vW2,ws2,hws2,hS3⟩
   | cons p2 rest =>
    have hl1:(p::p2::rest).length=rest.length+2:=rfl
    repeat' first|apply ad|(apply gw;first|refine ai rx_ ?_|(apply gq2;first|refine aC rx_ ?_|refine ak rfl hg_ HU b_ pv_ ?_)|(apply gq3;first|refine az rx_ ?_|refine aN rx_ ?_|((first|refine aB rfl rfl rfl ?_ ?_|refine dS rfl rfl rfl ?_ ?_|refine dD rfl rfl rfl ?_ ?_)<;>(intro hc;try omega)))|(apply gq6;first|refine bM rx_ ?_|refine aD rfl ?_)|(apply gq4;first|refine aG rx_ ?_|refine aq rfl (Nat.zero_add _) ?_)|refine cD rfl ?_|refine bh rfl rfl ?_)|(apply gx;first|apply af|refine ae rfl ?_|apply ay|refine ah rfl ?_)|apply ac
    refine uL (p:=p) (rest:=p2::rest) rfl rfl ?_
    repeat' first|apply ad|(apply gw;first|refine ai rx_ ?_|(apply gq2;first|refine aC rx_ ?_|refine ak rfl hg_ HU b_ pv_ ?_)|(apply gq3;first|refine az rx_ ?_|refine a8 rfl rfl rfl HT HT ?_)|(apply lE;first|refine bX rx_ ?_|refine bW rx_ ?_|(refine br (m:=1) rx_ ir_ rfl rfl HT ?_;intro va hpa hra hka hria))|(apply gq4;first|refine aG rx_ ?_|refine aq rfl (Nat.zero_add _) ?_)|refine dE rfl ?_|refine bF rfl rfl ?_)|refine ae rfl ?_|apply ac|apply aJ
    have hS3:=hS2.upd 8 (cP va 2 ((dy (wy.take k) c).length+1) ((dy (wy.take k) c).flatMap mf++mf (p2::rest,to))) rfl hra hka hria
    refine aW hk2 ⟨va,?_,?_,hh_⟩
    ·rw[hsn,List.length_append,List.flatMap_append]
     simpa using hS3
    ·rw[hsn]
     intro y hy
     rcases List.mem_append.1 hy with hy|hy
     ·exact hne y hy
     ·simp only[List.mem_singleton]at hy;subst hy;simp
  ·rw[Dp hcp,List.append_nil]at hsn
   repeat' first|apply ad|(apply gw;first|refine ai rx_ ?_|(apply gq2;first|refine aC rx_ ?_|refine ak rfl hg_ HU b_ pv_ ?_)|(apply gq3;first|refine az rx_ ?_|refine aN rx_ ?_|refine a8 rfl rfl rfl HT HT ?_|((first|refine aB rfl rfl rfl ?_ ?_|refine dS rfl rfl rfl ?_ ?_)<;>(intro hc;try omega)))|(apply gq4;first|refine aG rx_ ?_|refine aq rfl (Nat.zero_add _) ?_)|(apply gq1;first|refine cI rfl ?_|refine cD rfl ?_)|(apply gq7;first|refine bU rfl rfl ?_|refine bh rfl rfl ?_))|(apply gx;first|refine ae rfl ?_|apply aP|refine al rfl ?_)|apply ac|apply aQ|apply aR
   all_goals first
    | (refine aW hk2 ⟨v,?_,?_,hh_⟩<;>rw[hsn]<;>assumption)
    | skip
 ·rw[List.take_of_length_le HT]at hS hne hv hrl
  have hend:=Ap hne
  repeat' first|apply ad|(apply gw;first|refine ai rx_ ?_|(apply gq3;first|refine az rx_ ?_|refine aN rx_ ?_|((first|refine aB rfl rfl rfl ?_ ?_|refine dD rfl rfl rfl ?_ ?_)<;>(intro hc;try omega)))|(apply gq6;first|refine bM rx_ ?_|refine eP rx_ (by assumption) ?_))|(apply gx;first|apply af|refine ae rfl ?_|apply ay|apply aM|apply aP|refine al rfl ?_|refine ah rfl ?_)|apply ac|apply cz|apply aQ|apply aR|apply ba
  ·have hnil:dy wy c=[]:=List.eq_nil_of_length_eq_zero HT
   rw[hend,if_pos hnil]at hstep
   have hstep:cW d a c=none:=hstep
   refine aH rfl ⟨by rw[hstep];rfl,vN,vT,vW,ws,hws,?_⟩
   rw[hstep]
   show Sep h' (chA cc iM imN imO x (d.parts.map cO) vR vN vT vW ws (jl D A.length A.length) d A)
   rw[jl,Nat.sub_self,List.replicate_zero,List.append_nil]
   exact hS.weak (List.sublist_append_left _ _)
  ·have hnil:dy wy c≠[]:=fun e=>hc (by rw[e];rfl)
   rw[hend,if_neg hnil]at hstep
   have hstep:cW d a c=some (-1,dy wy c):=hstep
   have hR:=hto _ hstep
   rw[hstep]
   refine jn 7 (v:=v) rfl rfl hv ?_
   intro h2 hk2
   have hS2:=hS.drop 8 (h':=h2) rfl hk2
   clear hS hM hv hnt hk2
   repeat' first|(apply gw;first|refine ai rx_ ?_|refine aL rfl nt_ ?_)
   refine bS (EG L L3 hS2 hA hD hAl hws (dy wy c) hR) ?_
   rintro _ h3 ⟨rfl,vN2,vT2,vW2,ws2,hws2,hS3⟩
   repeat' first|apply ad|refine ai rx_ ?_|apply aM|apply ac
   exact aH rfl ⟨rfl,vN2,vT2,vW2,ws2,hws2,hS3⟩
end
section
open Go
theorem uj {r:Int}(h:0≤r∧r≤1114111):∀ c∈bG r,0≤c∧c≤255:=by
 unfold bG
 split
 ·intro c hc;simp only[List.mem_singleton]at hc;omega
 ·split
  ·intro c hc;simp only[List.mem_cons,List.not_mem_nil,or_false]at hc;rcases hc with rfl|rfl<;>omega
  ·split
   ·intro c hc;simp only[List.mem_cons,List.not_mem_nil,or_false]at hc;rcases hc with rfl|rfl|rfl<;>omega
   ·intro c hc;simp only[List.mem_cons,List.not_mem_nil,or_false]at hc;rcases hc with rfl|rfl|rfl|rfl<;>omega
theorem yq {s:am}(h:OneSize s):dh s≠[]∧∀ p∈dh s,(0≤p.1∧p.1≤255)∧(0≤p.2∧p.2≤255):=by
 have h1:=h.lo
 have h2:=h.le
 have h3:=h.hi
 constructor
 ·intro e
  have e1:=congrArg List.length e
  unfold dh at e1
  rw[List.length_zip,dI,dI,List.length_nil]at e1
  have q1:∀ r,1≤bq r:=fun r=>by unfold bq;split;omega;split;omega;split<;>omega
  have:=q1 s.lo
  have:=q1 s.hi
  omega
 ·intro p hp
  obtain⟨a,b⟩:=p
  obtain⟨m1,m2⟩:=List.of_mem_zip hp
  exact⟨uj ⟨h1,by omega⟩ a m1,uj ⟨by omega,h3⟩ b m2⟩
theorem wH (s:am):(cJ s).length≤4:=by
 unfold cJ
 exact Nat.le_trans (List.length_filterMap_le _ _) (by simp[ii])
theorem Cn {l:List am}:(d5 l).length≤28*(aZ l).length:=by
 unfold d5
 have h1:=(mU (l:=(aZ l).flatMap cJ) fun q hq=>by
  obtain⟨s,hs,hq⟩:=List.mem_flatMap.1 hq
  exact kp hq).2
 have h2:∀ m:List am,(m.flatMap cJ).length≤4*m.length:=fun m=>by
  induction m with
  | nil=>simp
  | cons s m ih =>
   rw[List.flatMap_cons,List.length_append,List.length_cons]
   have:=wH s
   omega
 have:=h2 (aZ l)
 omega
theorem wi:∀ (parts:List (List am)) (next:List Int),(∀ p∈parts,aZ p=p)→(dO parts next).length≤28*(parts.map List.length).sum
 | [],_,_=>by simp[dO]
 | _::_,[],_=>by simp[dO]
 | p::parts,t::next,h=>by
  have ih:=wi parts next fun q hq=>h q (by simp[hq])
  have e:dO (p::parts) (t::next)=ml (p,t)++dO parts next:=by simp[wk]
  rw[e,List.length_append,List.map_cons,List.sum_cons]
  have h1:=Cn (l:=p)
  rw[h p HU]at h1
  have h2:(ml (p,t)).length≤(d5 p).length:=by
   unfold ml
   split
   ·simp
   ·simp[cO]
  omega
theorem xY {parts:List (List am)}{next:List Int}{n:Nat}(hn:n≤2000)(hto:∀ w∈dO parts next,In n w.2):∀ w∈dO parts next,zn w∧w.1≠[]:=by
 intro w hw
 have h1:=hto w hw
 have h2:=Ai w hw
 obtain⟨k,p,_,_,_,hr⟩:=iN.1 hw
 obtain⟨s,hs,hsr⟩:=List.mem_map.1 hr
 have ho:OneSize s:=by
  unfold d5 at hs
  obtain⟨q,hq,hs⟩:=List.mem_flatMap.1 hs
  obtain⟨s0,_,hq⟩:=List.mem_flatMap.1 hq
  exact((j6 q (kp hq)).1 s hs).toOneSize
 obtain⟨g1,g2⟩:=yq ho
 rw[hsr]at g1 g2
 have q1:=h1.1
 have q2:=h1.2
 exact⟨⟨g2,h2,q1,by omega⟩,g1⟩
theorem vh {d:PD}(h:d.Ok)(hs:(d.parts.map List.length).sum≤100){i:Int}(hi:In d.n i):OkR d (i,[]):=by
 have e:eK d (i,[])=dO d.parts (d.row i):=by unfold eK;rw[if_neg (by have:=hi.1;simp only;omega)]
 refine⟨.inl ⟨hi,rfl⟩,?_,?_⟩
 ·rw[e]
  exact xY h.n2 (uD h hi)
 ·rw[e]
  have:=wi d.parts (d.row i) h.norm
  omega
theorem rU {d:PD}(h:d.Ok)(hs:(d.parts.map List.length).sum≤100){a b:RSt}(ha:OkR d a){c:Int}(hb:cW d a c=some b):OkR d b:=by
 have hin:=DO h ha.inr hb
 unfold cW at hb
 split at hb
 ·cases hb
 ·rename_i i hi
  cases hb
  exact vh h hs (uJ (oB h ha.inr) hi)
 ·rename_i l hl
  cases hb
  have e:eK d (-1,l)=l:=by unfold eK;rw[if_pos (by simp only;omega)]
  have g1:=pu hl
  obtain⟨_,g2⟩:=oH hl
  refine⟨hin,?_,?_⟩
  ·rw[e]
   intro w hw
   refine⟨?_,g2 w hw⟩
   rw[g1]at hw
   obtain⟨p,hp,_⟩:=gX.1 hw
   obtain⟨hB,_⟩:=ha.wb _ hp
   have hl4:=hB.len
   simp only[List.length_cons]at hl4
   exact⟨fun q hq=>hB.rng q (by simp only[List.mem_cons];exact .inr hq),by omega,hB.to⟩
  ·rw[e,g1]
   exact Nat.le_trans (by unfold dy;exact List.length_filterMap_le _ _) ha.len
def me (d:PD)(A:List RSt)(s:Nat):List (List Int):=(A.take s).map fun a=>(dg d a).map (fS A)
def oc (d:PD)(A:List RSt)(a:RSt)(s c:Nat):List (List Int):=me d A s++(((dg d a).take c).map (fS A)++List.replicate (256-c) (-1))::List.replicate (A.length-(s+1)) (List.replicate 256 (-1))
theorem rz (d:PD)(a:RSt){c:Nat}(hc:c<256):(dg d a)[c]?=some (cW d a c):=by
 unfold dg
 rw[List.getElem?_map,List.getElem?_range hc]
 rfl
theorem Cr {d:PD}{A B:List RSt}{s:Nat}(hp:A <+: B)(hs:s≤A.length)(hd:∀ a∈A.take s,∀ b,some b∈dg d a→b∈A):me d B s=me d A s:=by
 obtain⟨t,rfl⟩:=hp
 unfold me
 rw[List.take_append_of_le_length hs]
 refine List.map_congr_left fun a ha=>List.map_congr_left fun to hto=>?_
 exact rQ (List.prefix_append _ _) fun b e=>hd a ha b (by rw[← e];exact hto)
theorem Cb {d:PD}{A0 A:List RSt}{a:RSt}{s c:Nat}(hs:s<A.length)(hc:c<256)(hA:A=cB A0 ((dg d a).take c))(hd:∀ x∈A.take s,∀ b,some b∈dg d x→b∈A) :
  cB A0 ((dg d a).take (c+1))=cv A (cW d a c)∧(jl (oc d A a s c) A.length (cv A (cW d a c)).length).set s (((dg d a).take c).map (fS (cv A (cW d a c)))++fS (cv A (cW d a c)) (cW d a c)::List.replicate (256-(c+1)) (-1))=oc d (cv A (cW d a c)) a s (c+1):=by
 have hx:=rz d a hc
 have hpre:=nV A (cW d a c)
 have hle:=hpre.length_le
 refine⟨by rw[aX hx,uF,← hA],?_⟩
 have hdl:(me d A s).length=s:=by unfold me;rw[List.length_map,List.length_take];omega
 unfold oc jl
 rw[Cr hpre HT hd,List.append_assoc,List.set_append_right _ _ HT,hdl,Nat.sub_self,List.cons_append,List.set_cons_zero,List.replicate_append_replicate,aX hx,List.map_append,List.append_assoc]
 congr 3
 congr 1
 omega
end
section
open Go
theorem Er (P:List (List am)):(fh P).length=(P.map List.length).sum:=by
 unfold fh
 rw[List.length_flatMap]
 rfl
theorem oC {α:Type}[DecidableEq α](L:List α)(tos:List (Option α))(c:Nat):cB L (tos.take c) <+: cB L tos:=by
 have e:cB L tos=cB (cB L (tos.take c)) (tos.drop c):=by
  unfold cB
  rw[← List.foldl_append,List.take_append_drop]
 rw[e]
 exact kP _ _
theorem zm {α:Type}[DecidableEq α]{row:α→List (Option α)}{s0:α}{s:Nat}:∀ x∈(ee row s0 s).take s,∀ b,some b∈row x→b∈ee row s0 s:=by
 intro x hx b hb
 obtain⟨i,hi⟩:=List.getElem?_of_mem hx
 have hlt:=lt_of_getElem? hi
 rw[List.length_take]at hlt
 rw[List.getElem?_take,if_pos HT]at hi
 have h4:=nC row s0 (show i≤s by omega)
 have h5:(ee row s0 i)[i]?=some x:=by
  by_cases h5:i<(ee row s0 i).length
  ·obtain⟨t,e⟩:=h4
   rw[← e,List.getElem?_append_left h5]at hi
   exact hi
  ·have h6:=nB row s0 (i:=i) HT (show i≤s by omega)
   rw[h6]at hi
   exact hi
 exact xR h5 HT hb
theorem CC {α:Type}[DecidableEq α]{row:α→List (Option α)}{s0:α}{s:Nat}{a:α}(ha:(ee row s0 s)[s]?=some a):ee row s0 (s+1)=cB (ee row s0 s) (row a):=by rw[ee,ha]
theorem oL (d:PD)(a:RSt):(dg d a).length=256:=by simp[dg]
def qk (d:PD)(A:List RSt)(s:Nat):List (List Int):=me d A s++List.replicate (A.length-s) (List.replicate 256 (-1))
theorem DD {d:PD}{A:List RSt}{a:RSt}{s c:Nat}(h:s<A.length):(oc d A a s c).length=A.length:=by
 unfold oc me
 rw[List.length_append,List.length_map,List.length_take,List.length_cons,List.length_replicate]
 omega
theorem B8 (D:List (List Int))(n m:Nat):(jl D n m).length=D.length+(m-n):=by
 unfold jl
 rw[List.length_append,List.length_replicate]
theorem yF {d:PD}{A:List RSt}(a:RSt){s:Nat}(h:s<A.length):qk d A s=oc d A a s 0:=by
 unfold qk oc
 rw[List.take_zero,List.map_nil,List.nil_append,Nat.sub_zero,show A.length-s=(A.length-(s+1))+1 by omega,List.replicate_succ]
theorem DF {d:PD}{A:List RSt}{a:RSt}{s:Nat}(h:A[s]?=some a):oc d A a s 256=qk d A (s+1):=by
 unfold qk oc me
 rw[aX h,List.map_append,List.map_singleton,List.take_of_length_le (l:=dg d a) (i:=256) (by rw[oL];exact Nat.le_refl _),Nat.sub_self,List.replicate_zero,List.append_nil,List.append_assoc,List.singleton_append]
theorem Cp {d:PD}{A:List RSt}{s:Nat}(h:s=A.length):qk d A s=ja (dg d) A:=by
 subst h
 unfold qk me ja
 rw[Nat.sub_self,List.replicate_zero,List.append_nil,List.take_length]
def sV (d:PD)(B:List RSt)(a:RSt)(c:Nat):List Int:=((dg d a).take c).map (fS B)++List.replicate (256-c) (-1)
theorem oO {d:PD}{B:List RSt}{a:RSt}{c:Nat}(h:c≤256):(sV d B a c).length=256:=by
 unfold sV
 rw[List.length_append,List.length_map,List.length_take,oL,List.length_replicate]
 omega
theorem DE {d:PD}{B:List RSt}{a:RSt}{s c m:Nat}(h:s<B.length):(jl (oc d B a s c) B.length m)[s]?=some (sV d B a c):=by
 have hdl:(me d B s).length=s:=by unfold me;rw[List.length_map,List.length_take];omega
 unfold jl oc
 rw[List.append_assoc,List.getElem?_append_right HT,hdl,Nat.sub_self]
 rfl
theorem Dm {d:PD}{A B:List RSt}{a:RSt}{c:Nat}(hc:c<256)(hB:B=cB A ((dg d a).take c)):((sV d B a c).map (AV.int .i64)).set ((c:Int).toNat*1) (AV.int .i64 (fS (cv B (cW d a c)) (cW d a c)))=(sV d (cv B (cW d a c)) a (c+1)).map (AV.int .i64):=by
 have hx:=rz d a hc
 have e1:((dg d a).take c).map (fS (cv B (cW d a c)))=((dg d a).take c).map (fS B):=List.map_congr_left fun to hto=>rQ (nV B _) fun b e=>by
  rw[hB];exact pV (by rw[← e];exact hto)
 rw[Int.toNat_natCast,Nat.mul_one]
 unfold sV
 rw[aX hx,List.map_append (f:=fS _),e1,List.map_append,List.map_append,List.map_replicate,jP (by rw[List.length_map,List.length_map,List.length_take,oL];omega) hc,List.map_append,List.map_replicate]
 rfl
theorem FC {D:List (List Int)}{s:Nat}{r:List Int}(h:D[s]?=some r)(hl:r.length=256):(dsM D)[s]?=some (1,256,r.map (AV.int .i64)):=by
 unfold dsM
 rw[List.getElem?_map,h,← hl]
 rfl
theorem FB {D:List (List Int)}{s:Nat}{r:List Int}(hl:r.length=256):(dsM D).set s (1,256,r.map (AV.int .i64))=dsM (D.set s r):=by
 unfold dsM
 rw[List.map_set,hl]
theorem yY {d:PD}{A0 B:List RSt}{a:RSt}{s c:Nat}(hs:s<B.length)(hc:c<256)(hB:B=cB A0 ((dg d a).take c))(hd:∀ x∈B.take s,∀ b,some b∈dg d x→b∈B):cB A0 ((dg d a).take (c+1))=cv B (cW d a c)∧(jl (oc d B a s c) B.length (cv B (cW d a c)).length).set s (sV d (cv B (cW d a c)) a (c+1))=oc d (cv B (cW d a c)) a s (c+1):=by
 obtain⟨h1,h2⟩:=Cb hs hc hB hd
 refine⟨h1,?_⟩
 rw[← h2]
 unfold sV
 rw[aX (rz d a hc),List.map_append,List.append_assoc]
 rfl
def wN (d:PD)(m:Nat):Bm:=⟨⟨(ja (dg d) (cK d m)).map fun r=>⟨r,false⟩,false⟩,⟨(cK d m).map (oE d),false⟩⟩
theorem rJ (d:PD)(m:Nat):(wN d m).plain=iz d m:=by
 have e:((ja (dg d) (cK d m)).map fun r=>(⟨r,false⟩:Rw Int)).map (·.l)=ja (dg d) (cK d m):=by
  rw[List.map_map]
  exact List.map_id _
 simp only[wN,Bm.plain,cR,iz,e]
theorem BL (d:PD)(m:Nat):AV.rd (dsM (ja (dg d) (cK d m))).length ((dsM (ja (dg d) (cK d m))).map fun d=>AV.rd d.2.1 d.2.2 false) false=(wN d m).next.mv Rw.iv:=by
 have e:((ja (dg d) (cK d m)).map fun r=>((1,r.length,r.map (AV.int .i64)):Nat×Nat×List AV)).map (fun d=>AV.rd d.2.1 d.2.2 false)=((ja (dg d) (cK d m)).map fun r=>(⟨r,false⟩:Rw Int)).map Rw.iv:=by
  rw[List.map_map,List.map_map]
  rfl
 show AV.rd _ (((ja (dg d) (cK d m)).map fun r=>((1,r.length,r.map (AV.int .i64)):Nat×Nat×List AV)).map _) false=_
 rw[e]
 show AV.rd _ _ false=AV.rd (List.length (List.map _ _)) _ false
 unfold dsM
 rw[List.length_map,List.length_map]
 rfl
theorem Fc {d:PD}(h:d.Ok){m:Nat}(hle:(cK d m).length≤m):OkB (wN d m).plain:=by
 rw[rJ]
 have hn:(iz d m).n=(cK d m).length:=by simp[iz,PD.n]
 refine⟨?_,?_,fun r hr=>?_,fun t ht=>?_⟩
 ·rw[hn];exact sG (dg d) ((0,[]):RSt) m
 ·rw[hn];simp[iz,ja]
 ·rw[hn]
  exact tS (row:=dg d) (s0:=((0,[]):RSt)) (m:=m) (p:=256) hle (fun a=>by simp[dg]) r hr
 ·obtain⟨s,hs⟩:=List.getElem?_of_mem ht
  have hlt:=lt_of_getElem? hs
  have e:(iz d m).tag s=t:=by
   show(iz d m).tags.getD (s:Int).toNat (-1)=t
   rw[Int.toNat_natCast,List.getD_eq_getElem?_getD,hs]
   rfl
  rw[← e]
  refine wM h ⟨by omega,?_⟩
  rw[← hn]
  show(s:Int)<(((iz d m).tags.length:Nat):Int)
  omega
theorem CT {d:PD}(h:∀ t∈d.tags,I32 t)(a:RSt):I32 (oE d a):=by
 unfold oE
 split
 ·unfold I32;omega
 ·unfold PD.tag
  rcases kF (l:=d.tags) (i:=a.1.toNat) (d := -1) with e|e
  ·rw[e];unfold I32;omega
  ·exact h _ e
theorem BK {d:PD}(h:∀ t∈d.tags,I32 t)(m:Nat):∀ t∈(wN d m).tags.l,I32 t:=fun t ht=>by
 obtain⟨a,_,rfl⟩:=List.mem_map.1 ht
 exact CT h a
theorem rI {d:PD}(h:d.Ok)(hn:d.n≤100)(hs:(d.parts.map List.length).sum≤100)(m:Nat):(cK d m).length≤340100:=by
 have h1:=tY h (K:=3400) (fun i hi=>Nat.le_trans (pE d.parts (d.row i) h.norm) HT) m
 have h2:d.n*3400≤100*3400:=Nat.mul_le_mul_right _ hn
 omega
theorem vj {d:PD}(h:d.Ok)(hs:(d.parts.map List.length).sum≤100)(m:Nat):∀ a∈cK d m,OkR d a:=by
 refine sH (vh h hs h.zero) (fun a b ha hb=>?_) m
 obtain⟨c,_,hc⟩:=oN hb
 exact rU h hs ha hc
theorem Dw {d:PD}(h:d.Ok)(hs:(d.parts.map List.length).sum≤100){m:Nat}{a:RSt}(ha:a∈cK d m)(c:Nat):∀ b∈cB (cK d m) ((dg d a).take c),OkR d b:=by
 intro b hb
 rcases mo hb with hb|hb
 ·exact vj h hs m b hb
 ·obtain⟨c,_,hc⟩:=oN (List.mem_of_mem_take hb)
  exact rU h hs (vj h hs m a ha) hc
end
end Go.Proofs.YtlnobeojgifojaaGreatDoor
