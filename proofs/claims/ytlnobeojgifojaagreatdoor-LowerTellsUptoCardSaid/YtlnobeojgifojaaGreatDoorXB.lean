/- The statements' machine made, with at most nine states. -/
import Derived.Test.YtlnobeojgifojaaGreatDoorXA
import Derived.Test.YtlnobeojgifojaaGreatDoorF4
set_option linter.unusedVariables false
set_option linter.unusedSimpArgs false
namespace Go.Proofs.YtlnobeojgifojaaGreatDoor
section
open Go
set_option maxHeartbeats 4000000
attribute [local irreducible] az bf bm de bz cw dH bJ wop cz bc
set_option maxRecDepth 100000 in
theorem G1 {Φ:Lib}(L:cJ Φ)(L2:jM Φ)(c:Rw (Rw Int))(k:Int)(next tags:Rw Int)(hm:B6 c k next tags) :
  bc Φ 156 [c.mv li,.int .u8 k,lc next,lc tags] ad.empty (fun v _=>∃ d:Dfa,H1 d∧d.tags.l.length≤9∧v = .agg d.av):=by
 have hcl:=hm.cl
 have hk1:=hm.k.1
 have hk2:=hm.k.2
 have hnl:=hm.nl
 have htl:=hm.tl
 refine ba (fun o=>o == some 10||o == some 43||o == some 93) rfl L.f156 ?_
 repeat' first|apply ac|(apply gw;first|refine aG rfl ?_|(refine bV ?_;intro id hid;try simp only[ad.set_none]at hid))|(apply gx;first|apply af|refine ae rfl ?_)|apply aa
 obtain⟨i8,rfl⟩:∃ x,x=id:=⟨_,rfl⟩
 have hS0:Sep (ad.empty.set i8 mN) [j4 ad.empty,bU i8 mN]:=(Sep.old ad.empty).new hid
 have hS0:Sep (ad.empty.set i8 mN) [bU i8 mN]:=hS0.weak Lm
 generalize ad.empty.set i8 mN=h0 at *
 refine oW (fun e h2=>∃ (v:AV) (Ls:List (Rw aj)),Ls.length≤4∧(∀ s∈Ls,s.l.length≤64∧∀ x∈s.l,0≤x.hi)∧Sep h2 [bU i8 mN,cA v 1 Ls.length (Ls.map Rw.sv)]∧e.has [(1,.int .u8 k),(2,lc next),(3,lc tags),(8,.ptr i8 0 0),(9,v)]) ?_ ?_
 ·apply af
  refine jN rfl ?_
  repeat' first|apply ac|refine aq rfl ?_|apply al|apply aa
  refine bD c.l.length (fun i env h'=>∃ (v:AV) (Ls:List (Rw aj)),Ls.length≤i∧(∀ s∈Ls,s.l.length≤64∧∀ x∈s.l,0≤x.hi)∧i≤4∧Sep h' [bU i8 mN,cA v 1 Ls.length (Ls.map Rw.sv)]∧env.has [(0,c.mv li),(1,.int .u8 k),(2,lc next),(3,lc tags),(8,.ptr i8 0 0),(9,v),(10,.int .i64 i)]) ⟨_,[],by simp,by simp,by omega,hS0.nil 1,hh_⟩ ?_
  rintro i env h' hi ⟨v,Ls,hl1,hls,hi4,hS,he⟩
  have hrow:aD h' v 1 Ls.length _:=hS.get (i:=1) rfl
  obtain⟨env,rfl⟩:=he.ex
  clear he
  by_cases hi2:i<c.l.length
  ·by_cases hi3:i<4
   ·obtain⟨r,hr⟩:=aK hi2
    obtain⟨hrl,hrx⟩:=hm.cs r (List.mem_of_getElem? hr)
    by_cases hr8:r.l.length<8
    ·repeat' first|apply ac|(apply gw;first|(apply gq0;first|refine aq rfl ?_|refine bl rfl ?_|refine aG rfl ?_|refine au rv_ ?_)|refine cj rfl ?_|refine aB rfl b_ pv_ ?_|(refine aA rfl rfl rfl ?_ ?_<;>(intro hc;try omega))|refine ah rfl rfl hr Ll rfl ?_|refine aw rfl ?_|refine bi rfl rfl ?_|refine aH rfl nt_ ?_)|(apply gx;first|apply af|refine ae rfl ?_|apply ay|apply al|refine ak rfl ?_)|apply aa
     refine lK (G2 L2 r.l r.fl hrl hrx) (by simp[AV.frozenL,AV.frozen]) (by rintro _ ⟨s,rfl,_⟩;simp[AV.frozen]) ?_
     rintro _ ⟨s,rfl,hs1,hs2⟩
     repeat' first|apply ac|(apply gw;first|(apply gq0;first|refine aq rfl ?_|refine au rv_ ?_)|refine aT rfl rfl rfl Ll Ll ?_|(refine aY (m:=1) rv_ ir_ rfl rfl Ll ?_;intro va hpa hra hka hria)|refine bj (cs:=[AV.rd _ _ _]) rfl rfl ?_)|refine ae rfl ?_|apply aa|apply aI
     have hS2:=hS.upd 1 (cA va 1 (Ls.length+1) (Ls.map Rw.sv++[.rd s.length (s.flatMap aj.av) false])) rfl hra hka hria
     refine aR hi2 ⟨va,Ls++[⟨s,false⟩],by simp;omega,fun q hq=>?_,by omega,?_,hh_⟩
     ·rcases List.mem_append.1 hq with hq|hq
      ·exact hls q hq
      ·simp at hq;subst hq;exact⟨by show s.length≤64;omega,hs2⟩
     ·rw[List.length_append,List.map_append]
      exact hS2
    ·repeat' first|apply ac|(apply gw;first|(apply gq0;first|refine aq rfl ?_|refine bl rfl ?_|refine aG rfl ?_)|refine cj rfl ?_|refine aB rfl b_ pv_ ?_|(apply gq3;first|refine aT rfl rfl rfl Ll Ll ?_|(refine aA rfl rfl rfl ?_ ?_<;>(intro hc;try omega)))|refine ah rfl rfl hr Ll rfl ?_|refine aw rfl ?_|refine bi rfl rfl ?_)|(apply gx;first|apply af|refine ae rfl ?_|apply ay|apply al|refine ak rfl ?_|refine ai rfl ?_)|apply aa|apply aI
     exact aR hi2 ⟨v,Ls,by omega,hls,by omega,hS,hh_⟩
   ·repeat' first|apply ac|(apply gw;first|(apply gq0;first|refine aq rfl ?_|refine bl rfl ?_|refine aG rfl ?_)|refine cj rfl ?_|(refine aA rfl rfl rfl ?_ ?_<;>(intro hc;try omega))|refine aw rfl ?_|refine bi rfl rfl ?_)|(apply gx;first|apply af|refine ae rfl ?_|apply aN|refine ai rfl ?_)|apply aa|apply aO|apply aP|apply aX
    exact⟨v,Ls,by omega,hls,hS,hh_⟩
  ·repeat' first|apply ac|(apply gw;first|(apply gq0;first|refine aq rfl ?_|refine bl rfl ?_|refine aG rfl ?_)|refine cf rfl ?_|(refine aA rfl rfl rfl ?_ ?_<;>(intro hc;try omega))|refine aw rfl ?_|refine bb rfl rfl ?_)|(apply gx;first|apply af|refine ae rfl ?_|apply aN|refine ai rfl ?_)|apply aa|apply aO|apply aP|apply aX
   exact⟨v,Ls,by omega,hls,hS,hh_⟩
 ·rintro env h' ⟨v,Ls,hl4,hls,hS,he⟩
  have hrow:aD h' v 1 Ls.length _:=hS.get (i:=1) rfl
  obtain⟨env,rfl⟩:=he.ex
  clear he
  repeat' first|apply af
  refine fk 9 (v:=v) rfl rfl hrow ?_
  intro h1 hkk
  have hS1:Sep h1 [bU i8 mN]:=hS.drop 1 (h':=h1) rfl hkk
  clear hrow hS hkk
  have hcat:=I4 Ls fun s hs=>(hls s hs).1
  have q1:=Iz L L2 ⟨Ls,false⟩ (by show Ls.length≤_;omega) (fun s hs=>⟨by have:=(hls s hs).1;omega,fun x hx=>by have:=(hls s hs).2 x hx;omega⟩) (by show(cV Ls).length≤_;omega)
  have hat:Ats Ls (ofR Ls).l:=(ri Ls).ats.sub (pX _)
  have hPc:=hat.cat
  have hPl:=hat.count
  rw[mP]at hPc
  have hPc:(cV (ofR Ls).l).length≤514:=by omega
  have hPl:(ofR Ls).l.length≤514:=by omega
  simp only at q1
  generalize ofR Ls=P at *
  repeat' first|apply ac|(apply gw;first|(apply gq0;first|refine aq rfl ?_|refine aG rfl ?_)|(apply gq3;first|refine aT rfl rfl rfl Ll Ll ?_|refine ny rfl rfl rfl Ll Ll ?_)|refine aH rfl nt_ ?_|(refine bV ?_;intro id hid;try simp only[ad.set_none]at hid)|refine cC (cs':=[AV.rd _ _ _,AV.rd _ _ _,AV.rd _ _ _]) rfl rfl rfl rfl b_ rfl ?_|refine cO (cs:=[AV.rd _ _ _,AV.rd _ _ _,AV.rd _ _ _]) rfl ?_|refine nA rfl Ll Ll ?_)|(apply gx;first|apply af|refine ae rfl ?_|apply al)|apply aa|refine aW (by assumption) fz_ fz_ ?_
  obtain⟨i11,rfl⟩:∃ x,x=id:=⟨_,rfl⟩
  have hS2:=((hS1.new (o := .cells 0 [P.mv Rw.sv,.rd 0 [] true,.rd 0 [] true]) hid).nil 1).nil 1
  have hN1:(1+k%9).toNat≤9:=by omega
  have hN2:1≤(1+k%9).toNat:=by omega
  have hN3:(((1+k%9).toNat:Nat):Int)=1+k%9:=by omega
  refine bD (1+k%9).toNat (fun i env h'=>∃ (a:Nat) (vn vt:AV) (rows:List (List Int)) (ts:List Int),rows.length=i∧ts.length=i∧a≤i*514∧(∀ r∈rows,r.length=P.l.length∧∀ x∈r,x = -1∨In (1+k%9).toNat x)∧(∀ t∈ts,-1≤t∧t≤3)∧Sep h' [bU i8 mN,bU i11 (.cells 0 [P.mv Rw.sv,vn,vt]),cA vn 1 i (rows.map gK),cA vt 1 i (ts.map (.int .i64))]∧env.has [(2,lc next),(3,lc tags),(8,.ptr i8 0 0),(11,.ptr i11 0 0),(12,.int .i64 (1+k%9)),(13,.int .i64 a),(14,.int .i64 i)]) ⟨0,_,_,[],[],rfl,rfl,by omega,by simp,by simp,hS2,hh_⟩ ?_
  clear hS2 hS1 hS0 hid
  rintro i env h' hi ⟨a,vn,vt,rows,ts,hrl,htsl,ha,hrows,hts,hS,he⟩
  have h11:h'.get i11=some (.cells 0 [P.mv Rw.sv,vn,vt]):=hS.get (i:=1) rfl
  have h8:h'.get i8=some mN:=hS.get (i:=0) rfl
  have hrn:aD h' vn 1 i _:=hS.get (i:=2) rfl
  have hrt:aD h' vt 1 i _:=hS.get (i:=3) rfl
  have hnn:=hrn.notTup
  have hnt:=hrt.notTup
  obtain⟨env,rfl⟩:=he.ex
  clear he
  by_cases hi2:i<(1+k%9).toNat
  ·repeat' first|apply ac|(apply gw;first|(apply gq0;first|refine aq rfl ?_|refine aG rfl ?_)|(refine aA rfl rfl rfl ?_ ?_<;>(intro hc;try omega)))|(apply gx;first|apply af|refine ae rfl ?_|apply ay|apply al|refine ak rfl ?_)|apply aa
   refine bD P.l.length (fun j env h'=>∃ (a:Nat) (vr:AV) (xs:List Int),xs.length=j∧a≤i*514+j∧(∀ x∈xs,x = -1∨In (1+k%9).toNat x)∧Sep h' [bU i8 mN,bU i11 (.cells 0 [P.mv Rw.sv,vn,vt]),cA vn 1 i (rows.map gK),cA vt 1 i (ts.map (.int .i64)),cA vr 1 j (xs.map (.int .i64))]∧env.has [(2,lc next),(3,lc tags),(8,.ptr i8 0 0),(11,.ptr i11 0 0),(12,.int .i64 (1+k%9)),(13,.int .i64 a),(14,.int .i64 i),(15,vr),(16,.int .i64 j)]) ⟨a,_,[],rfl,by omega,by simp,hS.nil 1,hh_⟩ ?_
   clear hS h11 h8 hrn hrt ha
   rintro j env h' hj ⟨a,vr,xs,hxl,ha,hxs,hS,he⟩
   have h11:h'.get i11=some (.cells 0 [P.mv Rw.sv,vn,vt]):=hS.get (i:=1) rfl
   have h8:h'.get i8=some mN:=hS.get (i:=0) rfl
   have hrr:aD h' vr 1 j _:=hS.get (i:=4) rfl
   obtain⟨env,rfl⟩:=he.ex
   clear he
   by_cases hj2:j<P.l.length
   ·by_cases hn0:0<next.l.length
    ·have hmod:a%next.l.length<next.l.length:=Nat.mod_lt _ hn0
     obtain⟨x,hx⟩:=aK hmod
     have hmi:((a%next.l.length:Nat):Int)=(a:Int)%(next.l.length:Int):=Int.natCast_emod _ _
     have hxr:=hm.ns x (List.mem_of_getElem? hx)
     have htm:=Int.tmod_lt_of_pos x (show 0<1+k%9 by omega)
     repeat' first|apply ac|(apply gw;first|(apply gq0;first|refine aq rfl ?_|refine aG rfl ?_|refine au rv_ ?_)|(apply gq2;first|refine aB rfl b_ pv_ ?_|refine am rfl hg_ Lm b_ pv_ ?_)|(apply gq3;first|refine aT rfl rfl rfl Ll Ll ?_|((first|refine aA rfl rfl rfl ?_ ?_|refine cN rfl rfl rfl ?_ ?_)<;>(intro hc;try omega))|refine ny rfl rfl rfl Ll Ll ?_|refine Ce rfl rfl rfl Ll ?_)|refine ar rfl (Nat.zero_add _) ?_|refine ah rfl rfl hx Ll rfl ?_|refine aw rfl ?_|(refine aY (m:=1) rv_ ir_ rfl rfl Ll ?_;intro va hpa hra hka hria)|refine bj (cs:=[AV.int _ _]) rfl rfl ?_|refine y9 rfl rfl rfl ?_|refine nA rfl Ll Ll ?_)|(apply gx;first|apply af|refine ae rfl ?_|apply ay|apply al|refine ak rfl ?_)|apply aa|apply aI
     have hS2:=hS.upd 4 (cA va 1 (j+1) (xs.map (.int .i64)++[.int .i64 (max (x.tmod (1+k%9)) (-1))])) rfl hra hka hria
     refine aR hj2 ⟨a+1,va,xs++[(max (x.tmod (1+k%9)) (-1))],by simp[hxl],by omega,fun y hy=>?_,?_,hh_⟩
     ·rcases List.mem_append.1 hy with hy|hy
      ·exact hxs y hy
      ·simp only[List.mem_singleton]at hy;subst hy
       unfold In;omega
     ·rw[List.map_append]
      exact hS2
    ·repeat' first|apply ac|(apply gw;first|(apply gq0;first|refine aq rfl ?_|refine aG rfl ?_|refine au rv_ ?_)|refine am rfl hg_ Lm b_ pv_ ?_|(apply gq3;first|refine aT rfl rfl rfl Ll Ll ?_|((first|refine aA rfl rfl rfl ?_ ?_|refine cN rfl rfl rfl ?_ ?_)<;>(intro hc;try omega)))|refine ar rfl (Nat.zero_add _) ?_|refine aw rfl ?_|(refine aY (m:=1) rv_ ir_ rfl rfl Ll ?_;intro va hpa hra hka hria)|refine bj (cs:=[AV.int _ _]) rfl rfl ?_)|(apply gx;first|apply af|refine ae rfl ?_|apply ay|apply al|refine ak rfl ?_|refine ai rfl ?_)|apply aa|apply aI
     have hS2:=hS.upd 4 (cA va 1 (j+1) (xs.map (.int .i64)++[.int .i64 0])) rfl hra hka hria
     refine aR hj2 ⟨a+1,va,xs++[0],by simp[hxl],by omega,fun y hy=>?_,?_,hh_⟩
     ·rcases List.mem_append.1 hy with hy|hy
      ·exact hxs y hy
      ·simp only[List.mem_singleton]at hy;subst hy
       unfold In;omega
     ·rw[List.map_append]
      exact hS2
   ·have hxl2:xs.length=P.l.length:=by omega
    have hj3:j=P.l.length:=by omega
    subst hj3
    by_cases hti:i<tags.l.length
    ·obtain⟨tg,htg⟩:=aK hti
     have htr:=hm.ts tg (List.mem_of_getElem? htg)
     have htm:=Int.tmod_lt_of_pos tg (show(0:Int)<4 by omega)
     repeat' first|apply ac|(apply gw;first|(apply gq0;first|refine aq rfl ?_|refine aG rfl ?_)|(apply gq2;first|refine aB rfl b_ pv_ ?_|refine am rfl hg_ Lm b_ pv_ ?_)|(apply gq3;first|(refine aA rfl rfl rfl ?_ ?_<;>(intro hc;try omega))|refine Ce rfl rfl rfl Ll ?_)|refine ar rfl (Nat.zero_add _) ?_|refine ah rfl rfl htg Ll rfl ?_|refine aw rfl ?_|refine y9 rfl rfl rfl ?_|refine nA rfl Ll Ll ?_)|(apply gx;first|apply af|refine ae rfl ?_|apply aN|refine ak rfl ?_|refine ai rfl ?_)|apply aa|apply aO|apply aP|apply aX
     refine fk 15 (v:=vr) rfl rfl hrr ?_
     intro h3 hk3
     have hS2:=hS.drop 4 (h':=h3) rfl hk3
     clear hS h11 h8 hrr hk3
     have h11:h3.get i11=some (.cells 0 [P.mv Rw.sv,vn,vt]):=hS2.get (i:=1) rfl
     have hrn2:aD h3 vn 1 i _:=hS2.get (i:=2) rfl
     repeat' first|(apply gw;first|refine aG rfl ?_|refine am rfl hg_ Lm b_ pv_ ?_|refine ar rfl (Nat.zero_add _) ?_|(refine aY (m:=1) rv_ ir_ rfl rfl Ll ?_;intro va hpa hra hka hria)|refine bj (cs:=[AV.rd _ _ _]) rfl rfl ?_)
     have hS3:=hS2.upd 2 (cA va 1 (i+1) (rows.map gK++[.rd P.l.length (xs.map (.int .i64)) false])) rfl hra hka hria
     have h11b:hpa.get i11=some (.cells 0 [P.mv Rw.sv,vn,vt]):=hS3.get (i:=1) rfl
     refine ck (v:=va) (cs':=[P.mv Rw.sv,va,vt]) rfl rfl hra h11b Lm rfl ?_
     have hS4:=hS3.put 1 (.cells 0 [P.mv Rw.sv,va,vt]) rfl
     have h11c:(hpa.set i11 (.cells 0 [P.mv Rw.sv,va,vt])).get i11=some (.cells 0 [P.mv Rw.sv,va,vt]):=hS4.get (i:=1) rfl
     have hrt4:aD (hpa.set i11 (.cells 0 [P.mv Rw.sv,va,vt])) vt 1 i _:=hS4.get (i:=3) rfl
     have hnn2:=hra.notTup
     clear hS2 hS3 h11 h11b hrn2 hra hka hria
     obtain⟨vn2,rfl⟩:∃ x,x=va:=⟨_,rfl⟩
     repeat' first|apply ac|(apply gw;first|refine aq rfl ?_|refine am rfl hg_ Lm b_ pv_ ?_|refine ar rfl (Nat.zero_add _) ?_|(refine aY (m:=1) rv_ ir_ rfl rfl Ll ?_;intro va hpa hra hka hria)|refine bj (cs:=[AV.int _ _]) rfl rfl ?_)|refine ae rfl ?_|apply aa
     have hS5:=hS4.upd 3 (cA va 1 (i+1) (ts.map (.int .i64)++[.int .i64 (max (tg.tmod 4) (-1))])) rfl hra hka hria
     have h11d:hpa.get i11=some (.cells 0 [P.mv Rw.sv,vn2,vt]):=hS5.get (i:=1) rfl
     refine ck (v:=va) (cs':=[P.mv Rw.sv,vn2,va]) rfl rfl hra h11d Lm rfl ?_
     have hS6:=hS5.put 1 (.cells 0 [P.mv Rw.sv,vn2,va]) rfl
     repeat' first|apply ac|(apply gw;first|refine aq rfl ?_|refine aT rfl rfl rfl Ll Ll ?_)|refine ae rfl ?_|apply aa|apply aI
     refine aR hi2 ⟨a,vn2,va,rows++[xs],ts++[(max (tg.tmod 4) (-1))],by simp[hrl],by simp[htsl],by omega,fun r hr=>?_,fun t ht=>?_,?_,hh_⟩
     ·rcases List.mem_append.1 hr with hr|hr
      ·exact hrows r hr
      ·simp at hr;subst hr;exact⟨by omega,hxs⟩
     ·rcases List.mem_append.1 ht with ht|ht
      ·exact hts t ht
      ·simp only[List.mem_singleton]at ht;subst ht;omega
     ·rw[List.map_append,List.map_append,List.map_singleton,List.map_singleton,show gK xs = .rd P.l.length (xs.map (.int .i64)) false by rw[← hxl2]]
      exact hS6
    ·repeat' first|apply ac|(apply gw;first|(apply gq0;first|refine aq rfl ?_|refine aG rfl ?_)|refine am rfl hg_ Lm b_ pv_ ?_|(refine aA rfl rfl rfl ?_ ?_<;>(intro hc;try omega))|refine ar rfl (Nat.zero_add _) ?_|refine aw rfl ?_)|(apply gx;first|apply af|refine ae rfl ?_|apply ay|apply aN|refine ai rfl ?_)|apply aa|apply aO|apply aP|apply aX
     refine fk 15 (v:=vr) rfl rfl hrr ?_
     intro h3 hk3
     have hS2:=hS.drop 4 (h':=h3) rfl hk3
     clear hS h11 h8 hrr hk3
     have h11:h3.get i11=some (.cells 0 [P.mv Rw.sv,vn,vt]):=hS2.get (i:=1) rfl
     have hrn2:aD h3 vn 1 i _:=hS2.get (i:=2) rfl
     repeat' first|(apply gw;first|refine aG rfl ?_|refine am rfl hg_ Lm b_ pv_ ?_|refine ar rfl (Nat.zero_add _) ?_|(refine aY (m:=1) rv_ ir_ rfl rfl Ll ?_;intro va hpa hra hka hria)|refine bj (cs:=[AV.rd _ _ _]) rfl rfl ?_)
     have hS3:=hS2.upd 2 (cA va 1 (i+1) (rows.map gK++[.rd P.l.length (xs.map (.int .i64)) false])) rfl hra hka hria
     have h11b:hpa.get i11=some (.cells 0 [P.mv Rw.sv,vn,vt]):=hS3.get (i:=1) rfl
     refine ck (v:=va) (cs':=[P.mv Rw.sv,va,vt]) rfl rfl hra h11b Lm rfl ?_
     have hS4:=hS3.put 1 (.cells 0 [P.mv Rw.sv,va,vt]) rfl
     have h11c:(hpa.set i11 (.cells 0 [P.mv Rw.sv,va,vt])).get i11=some (.cells 0 [P.mv Rw.sv,va,vt]):=hS4.get (i:=1) rfl
     have hrt4:aD (hpa.set i11 (.cells 0 [P.mv Rw.sv,va,vt])) vt 1 i _:=hS4.get (i:=3) rfl
     have hnn2:=hra.notTup
     clear hS2 hS3 h11 h11b hrn2 hra hka hria
     obtain⟨vn2,rfl⟩:∃ x,x=va:=⟨_,rfl⟩
     repeat' first|apply ac|(apply gw;first|refine aq rfl ?_|refine am rfl hg_ Lm b_ pv_ ?_|refine ar rfl (Nat.zero_add _) ?_|(refine aY (m:=1) rv_ ir_ rfl rfl Ll ?_;intro va hpa hra hka hria)|refine bj (cs:=[AV.int _ _]) rfl rfl ?_)|refine ae rfl ?_|apply aa
     have hS5:=hS4.upd 3 (cA va 1 (i+1) (ts.map (.int .i64)++[.int .i64 (-1)])) rfl hra hka hria
     have h11d:hpa.get i11=some (.cells 0 [P.mv Rw.sv,vn2,vt]):=hS5.get (i:=1) rfl
     refine ck (v:=va) (cs':=[P.mv Rw.sv,vn2,va]) rfl rfl hra h11d Lm rfl ?_
     have hS6:=hS5.put 1 (.cells 0 [P.mv Rw.sv,vn2,va]) rfl
     repeat' first|apply ac|(apply gw;first|refine aq rfl ?_|refine aT rfl rfl rfl Ll Ll ?_)|refine ae rfl ?_|apply aa|apply aI
     refine aR hi2 ⟨a,vn2,va,rows++[xs],ts++[(-1)],by simp[hrl],by simp[htsl],by omega,fun r hr=>?_,fun t ht=>?_,?_,hh_⟩
     ·rcases List.mem_append.1 hr with hr|hr
      ·exact hrows r hr
      ·simp at hr;subst hr;exact⟨by omega,hxs⟩
     ·rcases List.mem_append.1 ht with ht|ht
      ·exact hts t ht
      ·simp only[List.mem_singleton]at ht;subst ht;omega
     ·rw[List.map_append,List.map_append,List.map_singleton,List.map_singleton,show gK xs = .rd P.l.length (xs.map (.int .i64)) false by rw[← hxl2]]
      exact hS6
  ·have hi3:i=(1+k%9).toNat:=by omega
   repeat' first|apply ac|(apply gw;first|refine aq rfl ?_|refine am rfl hg_ Lm b_ pv_ ?_|(refine aA rfl rfl rfl ?_ ?_<;>(intro hc;try omega))|refine bh (v:=AV.agg _) rfl rfl hg_ rfl rfl b_ sv_ ?_)|(apply gx;first|apply af|refine ae rfl ?_|apply aM|apply aN|refine ai rfl ?_)|apply aa|apply aO|apply aP|apply aX
   have f1:=(hrn.set_ne (id:=i8) (o := .cells 0 [P.mv Rw.sv,vn,vt]) fun e=>hS.disj (i:=0) (j:=2) rfl rfl (by decide) i8 rfl e).fz (fun k=>vn.rowId=some k∨vt.rowId=some k) (fun _ h => .inl h) (FzL.same _)
   have f2:=(hrt.set_ne (id:=i8) (o := .cells 0 [P.mv Rw.sv,vn,vt]) fun e=>hS.disj (i:=0) (j:=3) rfl rfl (by decide) i8 rfl e).fz (fun k=>vn.rowId=some k∨vt.rowId=some k) (fun _ h => .inr h) (FzL.same _)
   refine fP (fun k=>vn.rowId=some k∨vt.rowId=some k) (mY rfl (ad.get_set_self _ _ _) rfl) (.agg (.cons (.same _) (.cons f1 (.cons f2 .nil)))) ?_
   have hok:(Dfa.mk P ⟨rows.map fun r=>⟨r,false⟩,false⟩ ⟨ts,false⟩).plain.Ok:=IH hat Ll Ll Ll Ll (fun r hr=>by have:=hrows r hr;rw[htsl,hi3];exact this) (fun t ht=>(hts t ht).1)
   refine⟨_,⟨hok,Cb hok ?_,fun t ht=>hts t ht⟩,by show ts.length≤9;omega,?_⟩
   ·have:fW (Dfa.mk P ⟨rows.map fun r=>⟨r,false⟩,false⟩ ⟨ts,false⟩).plain.parts=cV P.l:=(mc P.l).symm
    rw[this];omega
   ·simp only[Dfa.av,Rw.mv,Rw.iv,Rw.av,List.map_map,List.length_map,hrl,htsl]
    rfl
theorem Bk {Φ:Lib}(L:cJ Φ)(L2:jM Φ){c:Rw (Rw Int)}{k:Int}{next tags:Rw Int}(hm:B6 c k next tags){m:Nat}{h:ad}{Q:AV→ad→Prop}(kk:∀ d:Dfa,H1 d→d.tags.l.length≤9→Q (.agg d.av) h):bJ (bc Φ) m 156 [c.mv li,.int .u8 k,lc next,lc tags] h Q:=by
 refine lK (G1 L L2 c k next tags hm) (Hg _ _ _ _) ?_ ?_
 ·rintro _ ⟨d,_,_,rfl⟩
  simp[AV.frozen]
 ·rintro _ ⟨d,hd,h9,rfl⟩
  exact kk d hd h9
end
end Go.Proofs.YtlnobeojgifojaaGreatDoor
