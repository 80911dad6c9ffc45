/- (*lower.maker).step. -/
import Derived.Test.YtlnobeojgifojaaGreatDoorVE
set_option linter.unusedVariables false
set_option linter.unusedSimpArgs false
namespace Go.Proofs.YtlnobeojgifojaaGreatDoor
section
open Go
set_option maxHeartbeats 4000000
theorem si (a b:List Way)(c:Int):dS (a++b) c=dS a c++dS b c:=by
 unfold dS
 rw[List.filterMap_append]
theorem wA {ws:List Way}{k:Nat}{w:Way}(h:ws[k]?=some w)(c:Int):dS (ws.take (k+1)) c=dS (ws.take k) c++dS [w] c:=by
 rw[aV h,si]
theorem GI {p:Int×Int}{r:jx}{t c:Int}(h:¬ (p.1≤c∧c≤p.2)):dS [(p::r,t)] c=[]:=by
 simp[dS,h]
theorem Cl {p:Int×Int}{r:jx}{t c:Int}(h:p.1≤c∧c≤p.2):dS [(p::r,t)] c=[(r,t)]:=by
 simp[dS,h]
theorem F7 {ws:List Way}{k:Nat}{p:Int×Int}{t c:Int}(hn:∀ v∈dS (ws.take k) c,v.1≠[])(hw:ws[k]?=some ([p],t))(hp:p.1≤c∧c≤p.2):jb ws c = .own t:=by
 have hk:=(List.getElem?_eq_some_iff.1 hw)
 have e:dS ws c=dS (ws.take k) c++([],t)::dS (ws.drop (k+1)) c:=by
  conv=>lhs;rw[← List.take_append_drop (k+1) ws,si,wA hw,Cl hp,List.append_assoc]
  rfl
 have hf:(dS (ws.take k) c).find? (fun w=>w.1.isEmpty)=none:=by
  rw[List.find?_eq_none]
  intro v hv e
  exact hn v hv (by simpa using e)
 unfold jb
 rw[e,List.find?_append,hf]
 rfl
theorem Df {ws:List Way}{c:Int}(hn:∀ v∈dS ws c,v.1≠[]):jb ws c=if dS ws c=[] then .none else .amid (dS ws c):=by
 have hf:(dS ws c).find? (fun w=>w.1.isEmpty)=none:=by
  rw[List.find?_eq_none]
  intro v hv e
  exact hn v hv (by simpa using e)
 unfold jb
 rw[hf]
theorem E4 (r:jx):(r.flatMap je).length=r.length*2:=jv je 2 (fun _=>rfl) r
theorem xw {F:bZ}{r:List bK}{Q:Env→ad→Prop}{env:Env}{h:ad}{d:Nat}{x y:bA}{p:Int×Int}{rest:jx}{kk:IntKind}(hx:ev env x=mK (p::rest))(hy:ev env y = .int kk 1)(k:az F r Q (env.put d (mK rest)) h):az F (⟨some d,.slice 2 x (some y) none none,none⟩::r) Q env h:=by
 refine eU rfl (v:=mK rest) ?_ k
 have hl:=E4 rest
 have e1:(p::rest).flatMap je=je p++rest.flatMap je:=rfl
 simp only[a8,hx,eY,hy,Option.bind_some,e1]
 rw[if_pos ⟨by omega,by rw[List.length_cons];omega,by omega,trivial,by rw[List.length_append,hl];show 2+_=(rest.length+1)*2;omega⟩]
 simp only[List.length_cons,Option.isSome_none,Bool.false_or,Bool.false_and]
 rw[show((rest.length+1:Nat):Int)-1=rest.length by omega,Int.toNat_natCast,show(1:Int).toNat*2=(je p).length from rfl,List.drop_left,← hl,List.take_length]
attribute [local irreducible] az bf bm de bz cw dH bJ wop cz bc
set_option maxRecDepth 100000 in
theorem F6 {Φ:Lib}(L:fh Φ)(L3:cJ Φ){h:ad}{cc:cT}{iM imN imO:Nat}{x:Dfa}{vR vN vT vW:AV}{ws:List AV}{D:List (List Int)}{d:PD}{A:List RSt}(hd:d.Ok)(hx:x.plain=d)(hS:Sep h (chA cc iM imN imO x (d.parts.map dp) vR vN vT vW ws D d A))(hA:∀ a∈A,OkR d a)(hD:D.length=A.length)(hAl:A.length≤1073741824)(hws:∀ w∈ws,ss w){s:Nat}{a:RSt}(ha:A[s]?=some a){c:Nat}(hc:c<256)(hto:∀ b,cX d a c=some b→OkR d b) :
  bc Φ 269 [.ptr iM 0 0,.int .i64 s,.int .u8 c] h (fun r h'=>r = .int .i64 (gR (cE A (cX d a c)) (cX d a c))∧∃ (vN' vT' vW':AV) (ws':List AV),(∀ w∈ws',ss w)∧Sep h' (chA cc iM imN imO x (d.parts.map dp) vR vN' vT' vW' ws' (ky D A.length (cE A (cX d a c)).length) d (cE A (cX d a c)))):=by
 have hM:h.get iM=some (.cells 0 (mkM x vR vN vT vW imN imO)):=hS.get (i:=2) rfl
 have hvW:aD h vW 1 (A.map (eu d)).length _:=hS.get (i:=5) rfl
 have hWl:(A.map (eu d)).length=A.length:=List.length_map _
 have hs1:=lt_of_getElem? ha
 have hWs:(A.map (eu d))[s]?=some (eu d a):=by rw[List.getElem?_map,ha];rfl
 have hok:=hA a (List.mem_of_getElem? ha)
 obtain⟨wy,hwy⟩:∃ wy,wy=eu d a:=⟨_,rfl⟩
 have hlen:=hok.len
 have hwb:=hok.wb
 have hwto:=nZ hd hok.inr
 have hstep:cX d a c=(match jb wy c with
  | .none=>none
  | .own i=>some (i,[])
  | .amid l=>some (-1,l)):=by rw[hwy];rfl
 rw[← hwy]at hlen hwb hWs hwto
 have hnW:=hvW.notTup
 refine ba (fun o=>o == some 58||o == some 27) rfl L.f269 ?_
 repeat' first|apply ac|(apply gw;first|refine au rx_ ?_|(apply gq2;first|refine aF rx_ ?_|refine eH (g:=_) rfl hg_ hWs eq_ ?_|refine am rfl hg_ Lm b_ pv_ ?_)|(apply gq5;first|refine aS rx_ ?_|refine aU rx_ ?_|(refine cY rx_ (by assumption) rfl Ll Ll ?_;intro ir gr hvr hgr hgp;have hner:=ad.ne_of hgr;have hner2:=ad.ne_of2 hgr))|(apply gq6;first|refine bk rx_ ?_|refine aw rfl ?_)|(apply gq4;first|refine aL rx_ ?_|refine ar rfl (Nat.zero_add _) ?_)|refine br rfl ?_)|(apply gx;first|apply af|refine ae rfl ?_|apply al)|apply aa
 refine bD wy.length (fun k env h'=>∃ v,Sep h' (chA cc iM imN imO x (d.parts.map dp) vR vN vT vW ws D d A++[cA v 2 (dS (wy.take k) c).length ((dS (wy.take k) c).flatMap nT)])∧(∀ v∈dS (wy.take k) c,v.1≠[])∧env.has [(0,.ptr iM 0 0),(2,.int .u8 c),(7,v),(17,vZ wy),(18,.int .i64 wy.length),(19,.int .i64 k)]) ⟨_,hS.nil 2,fun v hv=>by simp[dS]at hv,hh_⟩ ?_
 clear hS hM hvW hnW hvr hgr hgp hner hner2
 rintro k env h' hk ⟨v,hS,hne,he⟩
 obtain⟨env,rfl⟩:=he.ex
 clear he
 have hM:h'.get iM=some (.cells 0 (mkM x vR vN vT vW imN imO)):=hS.get (i:=2) rfl
 have hv:aD h' v 2 _ _:=hS.get (i:=8) rfl
 have hnt:=hv.notTup
 have hrl:(dS (wy.take k) c).length≤wy.length:=by
  unfold dS
  exact Nat.le_trans (List.length_filterMap_le _ _) (by rw[List.length_take];omega)
 by_cases hk2:k<wy.length
 ·obtain⟨w,hw⟩:=aK hk2
  obtain⟨hwB,hwne⟩:=hwb w (List.mem_of_getElem? hw)
  obtain⟨row,to⟩:=w
  cases row with
  | nil=>exact absurd rfl hwne
  | cons p rest =>
  have hp:(p::rest)[0]?=some p:=rfl
  have hpr:=hwB.rng p Lm
  have hsn:=wA hw (c:Int)
  have hw4:=hwB.len
  simp only[List.length_cons]at hw4
  repeat' first|apply ac|(apply gw;first|(apply gq2;first|refine aF rx_ ?_|refine jl rfl (by first|rfl|(simp[*];done)|fail) ?_|refine am rfl hg_ Lm b_ pv_ ?_)|(apply gq3;first|refine aC rx_ ?_|refine aQ rx_ ?_|(refine aA rfl rfl rfl ?_ ?_<;>(intro hc;try omega)))|(apply gq5;first|refine aS rx_ ?_|refine aU rx_ ?_|refine cM rfl fl_ rfl hw Ll rfl ?_|refine cM rfl fl_ rfl hp Ll rfl ?_)|(apply jI;first|refine bq rx_ ?_|refine bp rx_ ?_|refine cC (cs':=[AV.int _ _,AV.int _ _]) rfl rfl rfl rfl b_ rfl ?_|refine bh (v:=AV.agg _) rfl rfl hg_ rfl rfl b_ sv_ ?_)|(apply gq4;first|refine aL rx_ ?_|refine ar rfl (Nat.zero_add _) ?_)|(refine bV ?_;intro id hid;try simp only[ad.set_none]at hid))|(apply gx;first|apply af|refine ae rfl ?_|apply ay|apply al|refine ak rfl ?_)|apply aa
  rename_i i9 hi9
  rw[ad.set_set]
  obtain⟨i10,rfl⟩:∃ y,y=id:=⟨_,rfl⟩
  have hS1:=(hS.new (id:=i9) (o := .cells 0 [mK (p::rest),.int .i64 to]) hi9).new (id:=i10) (o := .cells 0 [.int .u8 p.1,.int .u8 p.2]) (by rw[ad.get_set_ne _ _ hid.1];exact hid.2.2)
  generalize (h'.set i9 (.cells 0 [mK (p::rest),.int .i64 to])).set i10 (.cells 0 [.int .u8 p.1,.int .u8 p.2])=h2 at hS1 ⊢
  have h9:h2.get i9=some (.cells 0 [mK (p::rest),.int .i64 to]):=hS1.get (i:=9) rfl
  have h10:h2.get i10=some (.cells 0 [.int .u8 p.1,.int .u8 p.2]):=hS1.get (i:=10) rfl
  have hS2:Sep h2 (chA cc iM imN imO x (d.parts.map dp) vR vN vT vW ws D d A++[cA v 2 (dS (wy.take k) c).length ((dS (wy.take k) c).flatMap nT)]):=(hS1.drop 10 rfl (fun _ _=>rfl)).drop 9 rfl (fun _ _=>rfl)
  clear hS hid hi9 hM hv
  have hv:aD h2 v 2 _ _:=hS2.get (i:=8) rfl
  refine jN rfl ?_
  by_cases hcp:p.1≤(c:Int)∧(c:Int)≤p.2
  ·have hcp1:=hcp.1
   have hcp2:=hcp.2
   rw[Cl hcp]at hsn
   cases rest with
   | nil =>
    have hl1:([p]:jx).length=1:=rfl
    have hst:=F7 hne hw hcp
    rw[hst]at hstep
    have hstep:cX d a c=some (to,[]):=hstep
    have hR:=hto _ hstep
    rw[hstep]
    repeat' first|apply ac|(apply gw;first|refine au rx_ ?_|(apply gq2;first|refine aF rx_ ?_|refine am rfl hg_ Lm b_ pv_ ?_)|(apply gq3;first|refine aC rx_ ?_|refine aQ rx_ ?_|((first|refine aA rfl rfl rfl ?_ ?_|refine cN rfl rfl rfl ?_ ?_|refine dd rfl rfl rfl ?_ ?_)<;>(intro hc;try omega)))|(apply gq6;first|refine bk rx_ ?_|refine aw rfl ?_)|(apply gq4;first|refine aL rx_ ?_|refine ar rfl (Nat.zero_add _) ?_)|refine cj rfl ?_|refine bb rfl rfl ?_|refine aH rfl nt_ ?_)|(apply gx;first|apply af|refine ae rfl ?_|apply ay|refine ak rfl ?_|refine ai rfl ?_)|apply aa
    refine ci (wl L hd hx (hS2.weak (List.sublist_append_left _ _)) hA hD hAl hws to (hwto _ (List.mem_of_getElem? hw)) hR) ?_
    rintro _ h3 ⟨rfl,vN2,vT2,vW2,ws2,hws2,hS3⟩
    repeat' first|apply ac|refine au rx_ ?_|apply aM|apply aa|apply cp|apply gH|apply iX
    exact aJ rfl ⟨rfl,vN2,vT2,vW2,ws2,hws2,hS3⟩
   | cons p2 rest =>
    have hl1:(p::p2::rest).length=rest.length+2:=rfl
    repeat' first|apply ac|(apply gw;first|refine au rx_ ?_|(apply gq2;first|refine aF rx_ ?_|refine am rfl hg_ Lm b_ pv_ ?_)|(apply gq3;first|refine aC rx_ ?_|refine aQ rx_ ?_|((first|refine aA rfl rfl rfl ?_ ?_|refine cN rfl rfl rfl ?_ ?_|refine dd rfl rfl rfl ?_ ?_)<;>(intro hc;try omega)))|(apply gq6;first|refine bk rx_ ?_|refine aw rfl ?_)|(apply gq4;first|refine aL rx_ ?_|refine ar rfl (Nat.zero_add _) ?_)|refine cj rfl ?_|refine bb rfl rfl ?_)|(apply gx;first|apply af|refine ae rfl ?_|apply ay|refine ai rfl ?_)|apply aa
    refine xw (p:=p) (rest:=p2::rest) rfl rfl ?_
    repeat' first|apply ac|(apply gw;first|refine au rx_ ?_|(apply gq2;first|refine aF rx_ ?_|refine am rfl hg_ Lm b_ pv_ ?_)|(apply gq3;first|refine aC rx_ ?_|refine aT rfl rfl rfl Ll Ll ?_)|(apply lp;first|refine cn rx_ ?_|refine cm rx_ ?_|(refine aY (m:=1) rx_ ir_ rfl rfl Ll ?_;intro va hpa hra hka hria))|(apply gq4;first|refine aL rx_ ?_|refine ar rfl (Nat.zero_add _) ?_)|refine cO rfl ?_|refine bj rfl rfl ?_)|refine ae rfl ?_|apply aa|apply aI
    have hS3:=hS2.upd 8 (cA va 2 ((dS (wy.take k) c).length+1) ((dS (wy.take k) c).flatMap nT++nT (p2::rest,to))) rfl hra hka hria
    refine aR hk2 ⟨va,?_,?_,hh_⟩
    ·rw[hsn,List.length_append,List.flatMap_append]
     simpa using hS3
    ·rw[hsn]
     intro y hy
     rcases List.mem_append.1 hy with hy|hy
     ·exact hne y hy
     ·simp only[List.mem_singleton]at hy;subst hy;simp
  ·rw[GI hcp,List.append_nil]at hsn
   repeat' first|apply ac|(apply gw;first|refine au rx_ ?_|(apply gq2;first|refine aF rx_ ?_|refine am rfl hg_ Lm b_ pv_ ?_)|(apply gq3;first|refine aC rx_ ?_|refine aQ rx_ ?_|refine aT rfl rfl rfl Ll Ll ?_|((first|refine aA rfl rfl rfl ?_ ?_|refine cN rfl rfl rfl ?_ ?_)<;>(intro hc;try omega)))|(apply gq4;first|refine aL rx_ ?_|refine ar rfl (Nat.zero_add _) ?_)|(apply gq1;first|refine cf rfl ?_|refine cj rfl ?_)|(apply gq7;first|refine bi rfl rfl ?_|refine bb rfl rfl ?_))|(apply gx;first|refine ae rfl ?_|apply aN|refine ak rfl ?_)|apply aa|apply aO|apply aP
   all_goals first
    | (refine aR hk2 ⟨v,?_,?_,hh_⟩<;>rw[hsn]<;>assumption)
    | skip
 ·rw[List.take_of_length_le Ll]at hS hne hv hrl
  have hend:=Df hne
  repeat' first|apply ac|(apply gw;first|refine au rx_ ?_|(apply gq3;first|refine aC rx_ ?_|refine aQ rx_ ?_|((first|refine aA rfl rfl rfl ?_ ?_|refine dd rfl rfl rfl ?_ ?_)<;>(intro hc;try omega)))|(apply gq6;first|refine bk rx_ ?_|refine eR rx_ (by assumption) ?_))|(apply gx;first|apply af|refine ae rfl ?_|apply ay|apply aM|apply aN|refine ak rfl ?_|refine ai rfl ?_)|apply aa|apply cp|apply aO|apply aP|apply aX
  ·have hnil:dS wy c=[]:=List.eq_nil_of_length_eq_zero Ll
   rw[hend,if_pos hnil]at hstep
   have hstep:cX d a c=none:=hstep
   refine aJ rfl ⟨by rw[hstep];rfl,vN,vT,vW,ws,hws,?_⟩
   rw[hstep]
   show Sep h' (chA cc iM imN imO x (d.parts.map dp) vR vN vT vW ws (ky D A.length A.length) d A)
   rw[ky,Nat.sub_self,List.replicate_zero,List.append_nil]
   exact hS.weak (List.sublist_append_left _ _)
  ·have hnil:dS wy c≠[]:=fun e=>hc (by rw[e];rfl)
   rw[hend,if_neg hnil]at hstep
   have hstep:cX d a c=some (-1,dS wy c):=hstep
   have hR:=hto _ hstep
   rw[hstep]
   refine fk 7 (v:=v) rfl rfl hv ?_
   intro h2 hk2
   have hS2:=hS.drop 8 (h':=h2) rfl hk2
   clear hS hM hv hnt hk2
   repeat' first|(apply gw;first|refine au rx_ ?_|refine aH rfl nt_ ?_)
   refine ci (HW L L3 hS2 hA hD hAl hws (dS wy c) hR) ?_
   rintro _ h3 ⟨rfl,vN2,vT2,vW2,ws2,hws2,hS3⟩
   repeat' first|apply ac|refine au rx_ ?_|apply aM|apply aa
   exact aJ rfl ⟨rfl,vN2,vT2,vW2,ws2,hws2,hS3⟩
end
section
open Go
theorem wX {r:Int}(h:0≤r∧r≤1114111):∀ c∈bt r,0≤c∧c≤255:=by
 unfold bt
 split
 ·intro c hc;simp only[List.mem_singleton]at hc;omega
 ·split
  ·intro c hc;simp only[List.mem_cons,List.not_mem_nil,or_false]at hc;rcases hc with rfl|rfl<;>omega
  ·split
   ·intro c hc;simp only[List.mem_cons,List.not_mem_nil,or_false]at hc;rcases hc with rfl|rfl|rfl<;>omega
   ·intro c hc;simp only[List.mem_cons,List.not_mem_nil,or_false]at hc;rcases hc with rfl|rfl|rfl|rfl<;>omega
theorem A4 {s:aj}(h:OneSize s):d5 s≠[]∧∀ p∈d5 s,(0≤p.1∧p.1≤255)∧(0≤p.2∧p.2≤255):=by
 have h1:=h.lo
 have h2:=h.le
 have h3:=h.hi
 constructor
 ·intro e
  have e1:=congrArg List.length e
  unfold d5 at e1
  rw[List.length_zip,dq,dq,List.length_nil]at e1
  have q1:∀ r,1≤bF r:=fun r=>by unfold bF;split;omega;split;omega;split<;>omega
  have:=q1 s.lo
  have:=q1 s.hi
  omega
 ·intro p hp
  obtain⟨a,b⟩:=p
  obtain⟨m1,m2⟩:=List.of_mem_zip hp
  exact⟨wX ⟨h1,by omega⟩ a m1,wX ⟨by omega,h3⟩ b m2⟩
theorem zj (s:aj):(dm s).length≤4:=by
 unfold dm
 exact Nat.le_trans (List.length_filterMap_le _ _) (by simp[jz])
theorem Fs {l:List aj}:(eZ l).length≤28*(bd l).length:=by
 unfold eZ
 have h1:=(oJ (l:=(bd l).flatMap dm) fun q hq=>by
  obtain⟨s,hs,hq⟩:=List.mem_flatMap.1 hq
  exact lT hq).2
 have h2:∀ m:List aj,(m.flatMap dm).length≤4*m.length:=fun m=>by
  induction m with
  | nil=>simp
  | cons s m ih =>
   rw[List.flatMap_cons,List.length_append,List.length_cons]
   have:=zj s
   omega
 have:=h2 (bd l)
 omega
theorem yP:∀ (parts:List (List aj)) (next:List Int),(∀ p∈parts,bd p=p)→(cL parts next).length≤28*(parts.map List.length).sum
 | [],_,_=>by simp[cL]
 | _::_,[],_=>by simp[cL]
 | p::parts,t::next,h=>by
  have ih:=yP parts next fun q hq=>h q (by simp[hq])
  have e:cL (p::parts) (t::next)=n0 (p,t)++cL parts next:=by simp[yR]
  rw[e,List.length_append,List.map_cons,List.sum_cons]
  have h1:=Fs (l:=p)
  rw[h p Lm]at h1
  have h2:(n0 (p,t)).length≤(eZ p).length:=by
   unfold n0
   split
   ·simp
   ·simp[dp]
  omega
theorem AJ {parts:List (List aj)}{next:List Int}{n:Nat}(hn:n≤2000)(hto:∀ w∈cL parts next,In n w.2):∀ w∈cL parts next,B5 w∧w.1≠[]:=by
 intro w hw
 have h1:=hto w hw
 have h2:=C5 w hw
 obtain⟨k,p,_,_,_,hr⟩:=fI.1 hw
 obtain⟨s,hs,hsr⟩:=List.mem_map.1 hr
 have ho:OneSize s:=by
  unfold eZ at hs
  obtain⟨q,hq,hs⟩:=List.mem_flatMap.1 hs
  obtain⟨s0,_,hq⟩:=List.mem_flatMap.1 hq
  exact((lI q (lT hq)).1 s hs).toOneSize
 obtain⟨g1,g2⟩:=A4 ho
 rw[hsr]at g1 g2
 have q1:=h1.1
 have q2:=h1.2
 exact⟨⟨g2,h2,q1,by omega⟩,g1⟩
theorem xW {d:PD}(h:d.Ok)(hs:(d.parts.map List.length).sum≤100){i:Int}(hi:In d.n i):OkR d (i,[]):=by
 have e:eu d (i,[])=cL d.parts (d.row i):=by unfold eu;rw[if_neg (by have:=hi.1;simp only;omega)]
 refine⟨.inl ⟨hi,rfl⟩,?_,?_⟩
 ·rw[e]
  exact AJ h.n2 (xm h hi)
 ·rw[e]
  have:=yP d.parts (d.row i) h.norm
  omega
theorem uj {d:PD}(h:d.Ok)(hs:(d.parts.map List.length).sum≤100){a b:RSt}(ha:OkR d a){c:Int}(hb:cX d a c=some b):OkR d b:=by
 have hin:=z6 h ha.inr hb
 unfold cX at hb
 split at hb
 ·cases hb
 ·rename_i i hi
  cases hb
  exact xW h hs (sX (nZ h ha.inr) hi)
 ·rename_i l hl
  cases hb
  have e:eu d (-1,l)=l:=by unfold eu;rw[if_pos (by simp only;omega)]
  have g1:=rB hl
  obtain⟨_,g2⟩:=qB hl
  refine⟨hin,?_,?_⟩
  ·rw[e]
   intro w hw
   refine⟨?_,g2 w hw⟩
   rw[g1]at hw
   obtain⟨p,hp,_⟩:=eP.1 hw
   obtain⟨hB,_⟩:=ha.wb _ hp
   have hl4:=hB.len
   simp only[List.length_cons]at hl4
   exact⟨fun q hq=>hB.rng q (by simp only[List.mem_cons];exact .inr hq),by omega,hB.to⟩
  ·rw[e,g1]
   exact Nat.le_trans (by unfold dS;exact List.length_filterMap_le _ _) ha.len
def nS (d:PD)(A:List RSt)(s:Nat):List (List Int):=(A.take s).map fun a=>(dO d a).map (gR A)
def qd (d:PD)(A:List RSt)(a:RSt)(s c:Nat):List (List Int):=nS d A s++(((dO d a).take c).map (gR A)++List.replicate (256-c) (-1))::List.replicate (A.length-(s+1)) (List.replicate 256 (-1))
theorem tU (d:PD)(a:RSt){c:Nat}(hc:c<256):(dO d a)[c]?=some (cX d a c):=by
 unfold dO
 rw[List.getElem?_map,List.getElem?_range hc]
 rfl
theorem Fx {d:PD}{A B:List RSt}{s:Nat}(hp:A <+: B)(hs:s≤A.length)(hd:∀ a∈A.take s,∀ b,some b∈dO d a→b∈A):nS d B s=nS d A s:=by
 obtain⟨t,rfl⟩:=hp
 unfold nS
 rw[List.take_append_of_le_length hs]
 refine List.map_congr_left fun a ha=>List.map_congr_left fun to hto=>?_
 exact uf (List.prefix_append _ _) fun b e=>hd a ha b (by rw[← e];exact hto)
theorem Fb {d:PD}{A0 A:List RSt}{a:RSt}{s c:Nat}(hs:s<A.length)(hc:c<256)(hA:A=cR A0 ((dO d a).take c))(hd:∀ x∈A.take s,∀ b,some b∈dO d x→b∈A) :
  cR A0 ((dO d a).take (c+1))=cE A (cX d a c)∧(ky (qd d A a s c) A.length (cE A (cX d a c)).length).set s (((dO d a).take c).map (gR (cE A (cX d a c)))++gR (cE A (cX d a c)) (cX d a c)::List.replicate (256-(c+1)) (-1))=qd d (cE A (cX d a c)) a s (c+1):=by
 have hx:=tU d a hc
 have hpre:=pR A (cX d a c)
 have hle:=hpre.length_le
 refine⟨by rw[aV hx,xo,← hA],?_⟩
 have hdl:(nS d A s).length=s:=by unfold nS;rw[List.length_map,List.length_take];omega
 unfold qd ky
 rw[Fx hpre Ll hd,List.append_assoc,List.set_append_right _ _ Ll,hdl,Nat.sub_self,List.cons_append,List.set_cons_zero,List.replicate_append_replicate,aV hx,List.map_append,List.append_assoc]
 congr 3
 congr 1
 omega
end
section
open Go
theorem HI (P:List (List aj)):(fW P).length=(P.map List.length).sum:=by
 unfold fW
 rw[List.length_flatMap]
 rfl
theorem qx {α:Type}[DecidableEq α](L:List α)(tos:List (Option α))(c:Nat):cR L (tos.take c) <+: cR L tos:=by
 have e:cR L tos=cR (cR L (tos.take c)) (tos.drop c):=by
  unfold cR
  rw[← List.foldl_append,List.take_append_drop]
 rw[e]
 exact mp _ _
theorem B3 {α:Type}[DecidableEq α]{row:α→List (Option α)}{s0:α}{s:Nat}:∀ x∈(fg row s0 s).take s,∀ b,some b∈row x→b∈fg row s0 s:=by
 intro x hx b hb
 obtain⟨i,hi⟩:=List.getElem?_of_mem hx
 have hlt:=lt_of_getElem? hi
 rw[List.length_take]at hlt
 rw[List.getElem?_take,if_pos Ll]at hi
 have h4:=nr row s0 (show i≤s by omega)
 have h5:(fg row s0 i)[i]?=some x:=by
  by_cases h5:i<(fg row s0 i).length
  ·obtain⟨t,e⟩:=h4
   rw[← e,List.getElem?_append_left h5]at hi
   exact hi
  ·have h6:=pw row s0 (i:=i) Ll (show i≤s by omega)
   rw[h6]at hi
   exact hi
 exact AC h5 Ll hb
theorem FH {α:Type}[DecidableEq α]{row:α→List (Option α)}{s0:α}{s:Nat}{a:α}(ha:(fg row s0 s)[s]?=some a):fg row s0 (s+1)=cR (fg row s0 s) (row a):=by rw[fg,ha]
theorem qI (d:PD)(a:RSt):(dO d a).length=256:=by simp[dO]
def sy (d:PD)(A:List RSt)(s:Nat):List (List Int):=nS d A s++List.replicate (A.length-s) (List.replicate 256 (-1))
theorem GW {d:PD}{A:List RSt}{a:RSt}{s c:Nat}(h:s<A.length):(qd d A a s c).length=A.length:=by
 unfold qd nS
 rw[List.length_append,List.length_map,List.length_take,List.length_cons,List.length_replicate]
 omega
theorem E9 (D:List (List Int))(n m:Nat):(ky D n m).length=D.length+(m-n):=by
 unfold ky
 rw[List.length_append,List.length_replicate]
theorem Bg {d:PD}{A:List RSt}(a:RSt){s:Nat}(h:s<A.length):sy d A s=qd d A a s 0:=by
 unfold sy qd
 rw[List.take_zero,List.map_nil,List.nil_append,Nat.sub_zero,show A.length-s=(A.length-(s+1))+1 by omega,List.replicate_succ]
theorem GY {d:PD}{A:List RSt}{a:RSt}{s:Nat}(h:A[s]?=some a):qd d A a s 256=sy d A (s+1):=by
 unfold sy qd nS
 rw[aV h,List.map_append,List.map_singleton,List.take_of_length_le (l:=dO d a) (i:=256) (by rw[qI];exact Nat.le_refl _),Nat.sub_self,List.replicate_zero,List.append_nil,List.append_assoc,List.singleton_append]
theorem Fu {d:PD}{A:List RSt}{s:Nat}(h:s=A.length):sy d A s=j9 (dO d) A:=by
 subst h
 unfold sy nS j9
 rw[Nat.sub_self,List.replicate_zero,List.append_nil,List.take_length]
def vw (d:PD)(B:List RSt)(a:RSt)(c:Nat):List Int:=((dO d a).take c).map (gR B)++List.replicate (256-c) (-1)
theorem qJ {d:PD}{B:List RSt}{a:RSt}{c:Nat}(h:c≤256):(vw d B a c).length=256:=by
 unfold vw
 rw[List.length_append,List.length_map,List.length_take,qI,List.length_replicate]
 omega
theorem GX {d:PD}{B:List RSt}{a:RSt}{s c m:Nat}(h:s<B.length):(ky (qd d B a s c) B.length m)[s]?=some (vw d B a c):=by
 have hdl:(nS d B s).length=s:=by unfold nS;rw[List.length_map,List.length_take];omega
 unfold ky qd
 rw[List.append_assoc,List.getElem?_append_right Ll,hdl,Nat.sub_self]
 rfl
theorem GD {d:PD}{A B:List RSt}{a:RSt}{c:Nat}(hc:c<256)(hB:B=cR A ((dO d a).take c)):((vw d B a c).map (AV.int .i64)).set ((c:Int).toNat*1) (AV.int .i64 (gR (cE B (cX d a c)) (cX d a c)))=(vw d (cE B (cX d a c)) a (c+1)).map (AV.int .i64):=by
 have hx:=tU d a hc
 have e1:((dO d a).take c).map (gR (cE B (cX d a c)))=((dO d a).take c).map (gR B):=List.map_congr_left fun to hto=>uf (pR B _) fun b e=>by
  rw[hB];exact sb (by rw[← e];exact hto)
 rw[Int.toNat_natCast,Nat.mul_one]
 unfold vw
 rw[aV hx,List.map_append (f:=gR _),e1,List.map_append,List.map_append,List.map_replicate,lg (by rw[List.length_map,List.length_map,List.length_take,qI];omega) hc,List.map_append,List.map_replicate]
 rfl
theorem IZ {D:List (List Int)}{s:Nat}{r:List Int}(h:D[s]?=some r)(hl:r.length=256):(dsM D)[s]?=some (1,256,r.map (AV.int .i64)):=by
 unfold dsM
 rw[List.getElem?_map,h,← hl]
 rfl
theorem IY {D:List (List Int)}{s:Nat}{r:List Int}(hl:r.length=256):(dsM D).set s (1,256,r.map (AV.int .i64))=dsM (D.set s r):=by
 unfold dsM
 rw[List.map_set,hl]
theorem BF {d:PD}{A0 B:List RSt}{a:RSt}{s c:Nat}(hs:s<B.length)(hc:c<256)(hB:B=cR A0 ((dO d a).take c))(hd:∀ x∈B.take s,∀ b,some b∈dO d x→b∈B):cR A0 ((dO d a).take (c+1))=cE B (cX d a c)∧(ky (qd d B a s c) B.length (cE B (cX d a c)).length).set s (vw d (cE B (cX d a c)) a (c+1))=qd d (cE B (cX d a c)) a s (c+1):=by
 obtain⟨h1,h2⟩:=Fb hs hc hB hd
 refine⟨h1,?_⟩
 rw[← h2]
 unfold vw
 rw[aV (tU d a hc),List.map_append,List.append_assoc]
 rfl
def zq (d:PD)(m:Nat):Bm:=⟨⟨(j9 (dO d) (cH d m)).map fun r=>⟨r,false⟩,false⟩,⟨(cH d m).map (nV d),false⟩⟩
theorem t8 (d:PD)(m:Nat):(zq d m).plain=jp d m:=by
 have e:((j9 (dO d) (cH d m)).map fun r=>(⟨r,false⟩:Rw Int)).map (·.l)=j9 (dO d) (cH d m):=by
  rw[List.map_map]
  exact List.map_id _
 simp only[zq,Bm.plain,cG,jp,e]
theorem EP (d:PD)(m:Nat):AV.rd (dsM (j9 (dO d) (cH d m))).length ((dsM (j9 (dO d) (cH d m))).map fun d=>AV.rd d.2.1 d.2.2 false) false=(zq d m).next.mv Rw.iv:=by
 have e:((j9 (dO d) (cH d m)).map fun r=>((1,r.length,r.map (AV.int .i64)):Nat×Nat×List AV)).map (fun d=>AV.rd d.2.1 d.2.2 false)=((j9 (dO d) (cH d m)).map fun r=>(⟨r,false⟩:Rw Int)).map Rw.iv:=by
  rw[List.map_map,List.map_map]
  rfl
 show AV.rd _ (((j9 (dO d) (cH d m)).map fun r=>((1,r.length,r.map (AV.int .i64)):Nat×Nat×List AV)).map _) false=_
 rw[e]
 show AV.rd _ _ false=AV.rd (List.length (List.map _ _)) _ false
 unfold dsM
 rw[List.length_map,List.length_map]
 rfl
theorem Is {d:PD}(h:d.Ok){m:Nat}(hle:(cH d m).length≤m):OkB (zq d m).plain:=by
 rw[t8]
 have hn:(jp d m).n=(cH d m).length:=by simp[jp,PD.n]
 refine⟨?_,?_,fun r hr=>?_,fun t ht=>?_⟩
 ·rw[hn];exact ro (dO d) ((0,[]):RSt) m
 ·rw[hn];simp[jp,j9]
 ·rw[hn]
  exact wv (row:=dO d) (s0:=((0,[]):RSt)) (m:=m) (p:=256) hle (fun a=>by simp[dO]) r hr
 ·obtain⟨s,hs⟩:=List.getElem?_of_mem ht
  have hlt:=lt_of_getElem? hs
  have e:(jp d m).tag s=t:=by
   show(jp d m).tags.getD (s:Int).toNat (-1)=t
   rw[Int.toNat_natCast,List.getD_eq_getElem?_getD,hs]
   rfl
  rw[← e]
  refine zp h ⟨by omega,?_⟩
  rw[← hn]
  show(s:Int)<(((jp d m).tags.length:Nat):Int)
  omega
theorem F1 {d:PD}(h:∀ t∈d.tags,I32 t)(a:RSt):I32 (nV d a):=by
 unfold nV
 split
 ·unfold I32;omega
 ·unfold PD.tag
  rcases l9 (l:=d.tags) (i:=a.1.toNat) (d := -1) with e|e
  ·rw[e];unfold I32;omega
  ·exact h _ e
theorem EO {d:PD}(h:∀ t∈d.tags,I32 t)(m:Nat):∀ t∈(zq d m).tags.l,I32 t:=fun t ht=>by
 obtain⟨a,_,rfl⟩:=List.mem_map.1 ht
 exact F1 h a
theorem t7 {d:PD}(h:d.Ok)(hn:d.n≤100)(hs:(d.parts.map List.length).sum≤100)(m:Nat):(cH d m).length≤340100:=by
 have h1:=wD h (K:=3400) (fun i hi=>Nat.le_trans (rM d.parts (d.row i) h.norm) Ll) m
 have h2:d.n*3400≤100*3400:=Nat.mul_le_mul_right _ hn
 omega
theorem xX {d:PD}(h:d.Ok)(hs:(d.parts.map List.length).sum≤100)(m:Nat):∀ a∈cH d m,OkR d a:=by
 refine rq (xW h hs h.zero) (fun a b ha hb=>?_) m
 obtain⟨c,_,hc⟩:=og hb
 exact uj h hs ha hc
theorem GP {d:PD}(h:d.Ok)(hs:(d.parts.map List.length).sum≤100){m:Nat}{a:RSt}(ha:a∈cH d m)(c:Nat):∀ b∈cR (cH d m) ((dO d a).take c),OkR d b:=by
 intro b hb
 rcases n5 hb with hb|hb
 ·exact xX h hs m b hb
 ·obtain⟨c,_,hc⟩:=og (List.mem_of_mem_take hb)
  exact uj h hs (xX h hs m a ha) hc
end
end Go.Proofs.YtlnobeojgifojaaGreatDoor
