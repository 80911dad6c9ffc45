/- Rows of rows that grow. -/
import Derived.Test.YtlnobeojgifojaaGreatDoorE2
import Derived.Test.YtlnobeojgifojaaGreatDoorB2
import Derived.Test.YtlnobeojgifojaaGreatDoorA7
import Derived.Test.YtlnobeojgifojaaGreatDoorP2
set_option linter.unusedVariables false
set_option linter.unusedSimpArgs false
namespace Go.Proofs.YtlnobeojgifojaaGreatDoor
section
open Go
structure eG (h:ad)(id:Nat)(ws:List AV)(rows:List (List AV)):Prop where
 at_:h.get id=some (.cells 1 ws)
 fam:Fam h ws (rows.map fun r=>(1,r.length,r))
 apart:∀ w∈ws,∀ k,w.rowId=some k→k≠id
def fX (id:Nat)(ws:List AV)(k:Nat):Prop:=k=id∨∃ w∈ws,w.rowId=some k
theorem eG.len {h:ad}{id:Nat}{ws:List AV}{rows:List (List AV)}(hG:eG h id ws rows):ws.length=rows.length:=by
 have:=hG.fam.len
 simpa using this
theorem eG.there {h:ad}{id:Nat}{ws:List AV}{rows:List (List AV)}(hG:eG h id ws rows){k:Nat}(hk:fX id ws k):h.get k≠none:=by
 rcases hk with rfl|⟨w,hw,hk⟩
 ·rw[hG.at_];simp
 ·exact hG.fam.there hw hk
theorem eG.keep {h h':ad}{id:Nat}{ws:List AV}{rows:List (List AV)}(hG:eG h id ws rows)(hk:∀ k,fX id ws k→h'.get k=h.get k):eG h' id ws rows :=
 ⟨(hk id (.inl rfl)).trans hG.at_,hG.fam.keep fun w hw k hid=>hk k (.inr ⟨w,hw,hid⟩),hG.apart⟩
theorem eG.row {h:ad}{id:Nat}{ws:List AV}{rows:List (List AV)}(hG:eG h id ws rows){j:Nat}{w:AV}{r:List AV}(hw:ws[j]?=some w)(hr:rows[j]?=some r):aD h w 1 r.length r :=
 hG.fam.row j w _ hw (by rw[List.getElem?_map,hr];rfl)
theorem jn (n:Nat)(v:AV):(List.replicate n [v]).flatten=List.replicate n v:=by
 induction n with
 | zero=>rfl
 | succ n ih=>rw[List.replicate_succ,List.flatten_cons,ih,List.replicate_succ];rfl
theorem eG.begin {h:ad}{id n:Nat}(hg:h.get id=some (.cells 1 (List.replicate n (.rd 0 [] true)))):eG h id (List.replicate n (.rd 0 [] true)) (List.replicate n []):=by
 have hf:=Fam.nils h (List.replicate n 1)
 rw[List.length_replicate]at hf
 refine⟨hg,?_,fun w hw k hk=>?_⟩
 ·have e:(List.replicate n ([]:List AV)).map (fun r=>((1:Nat),r.length,r))=(List.replicate n 1).map fun e=>(e,0,([]:List AV)):=by simp
  rw[e];exact hf
 ·rw[List.mem_replicate]at hw
  rw[hw.2]at hk;cases hk
theorem eG.put {h hpa:ad}{id:Nat}{ws:List AV}{rows:List (List AV)}(hG:eG h id ws rows){j:Nat}{w va:AV}{r:List AV}(hw:ws[j]?=some w)
  (hrow:aD hpa va 1 r.length r) (hka:∀ k,h.get k≠none→w.rowId≠some k→hpa.get k=h.get k) (hria:∀ k,va.rowId=some k→w.rowId=some k∨h.get k=none) :
  eG (hpa.set id (.cells 1 (ws.set j va))) id (ws.set j va) (rows.set j r)∧(∀ k,fX id (ws.set j va) k→fX id ws k∨h.get k=none):=by
 have hwm:=List.mem_of_getElem? hw
 have hF:=hG.fam.upd (j:=j) (w:=w) (v':=va) (d':=(1,r.length,r)) hw hrow hka hria
 have e1:(rows.map fun r=>((1:Nat),r.length,r)).set j (1,r.length,r)=(rows.set j r).map fun r=>((1:Nat),r.length,r):=by rw[List.map_set]
 rw[e1]at hF
 have hap:∀ x∈ws.set j va,∀ k,x.rowId=some k→k≠id:=fun x hx k hk=>by
  rcases List.mem_or_eq_of_mem_set hx with hx|rfl
  ·exact hG.apart x hx k hk
  ·rcases hria k hk with h1|h1
   ·exact hG.apart w hwm k h1
   ·rintro rfl
    rw[hG.at_]at h1;cases h1
 refine⟨⟨ad.get_set_self _ _ _,hF.keep fun x hx k hk=>ad.get_set_ne _ _ (hap x hx k hk),hap⟩,fun k hk=>?_⟩
 rcases hk with rfl|⟨x,hx,hk⟩
 ·exact .inl (.inl rfl)
 ·rcases List.mem_or_eq_of_mem_set hx with hx|rfl
  ·exact .inl (.inr ⟨x,hx,hk⟩)
  ·rcases hria k hk with h1|h1
   ·exact .inl (.inr ⟨w,hwm,h1⟩)
   ·exact .inr h1
theorem Fam.fz2 {h:ad}{S:Nat→Prop}:∀ {ws:List AV} {ds:List (Nat×Nat×List AV)},ws.length=ds.length→(∀ (j:Nat) w d,ws[j]?=some w→ds[j]?=some d→aD h w d.1 d.2.1 d.2.2)→(∀ w∈ws,∀ id,w.rowId=some id→S id)→FzL h S ws (ds.map fun d => .rd d.2.1 d.2.2 false)
 | [],[],_,_,_ => .nil
 | w::ws,d::ds,hl,hr,hS => .cons ((hr 0 w d rfl rfl).fz S (fun id hid=>hS w Lm id hid) (FzL.same _)) (Fam.fz2 (by simpa using hl) (fun j w d hw hd=>hr (j+1) w d hw hd) fun x hx=>hS x (by simp[hx]))
theorem eG.fz {h:ad}{id:Nat}{ws:List AV}{rows:List (List AV)}(hG:eG h id ws rows){S:Nat→Prop}(hS:∀ k,fX id ws k→S k){lim:Option Nat}:FzV h S (.own id 1 1 0 rows.length lim) (.rd rows.length (rows.map fun r => .rd r.length r false) false):=by
 have hl:=hG.len
 refine .own (hS id (.inl rfl)) hG.at_ Ll ?_
 rw[Nat.zero_mul,List.drop_zero,List.take_of_length_le Ll]
 have:=Fam.fz2 (h:=h) (S:=S) (ws:=ws) (ds:=rows.map fun r=>(1,r.length,r)) (by simpa using hl) (fun j w d hw hd=>hG.fam.row j w d hw hd) fun w hw k hk=>hS k (.inr ⟨w,hw,hk⟩)
 rw[List.map_map]at this
 exact this
theorem AN {Φ:Lib}{Z:Option Nat→Bool}{l:List bK}{K:Ex→Env→ad→Prop}{env:Env}{h:ad}(t:Nat){id:Nat}{ws:List AV}{rows:List (List AV)}(hz:Z (ng l)=true)(ht:env t = .own id 1 1 0 rows.length none)(hG:eG h id ws rows)
  (k:∀ h',(∀ j,¬ fX id ws j→h'.get j=h.get j)→az (bc Φ) l (K .norm) (env.put t (.rd rows.length (rows.map fun r => .rd r.length r false) false)) h'):bf (bc Φ) Z (.ops l) K env h:=by
 rw[oS,if_pos hz]
 refine .inr ⟨fX id ws,env.put t (.rd rows.length (rows.map fun r => .rd r.length r false) false),fun i=>?_,k _ fun j hj=>?_⟩
 ·by_cases hi:i=t
  ·subst hi
   rw[ht,Env.put_apply,if_pos rfl]
   exact hG.fz fun _ h=>h
  ·rw[Env.put_apply,if_neg hi]
   exact .same _
 ·simp only[ad.drop,hj,if_false]
end
section
open Go
set_option maxHeartbeats 4000000
attribute [local irreducible] az bf bm de bz cw dH bJ wop cz bc
structure fV (Φ:Lib):Prop where
 spans:Φ 128=some (.ext (qZ 2))
theorem IU {Φ:Lib}(G:fV Φ){h:ad}{n:Nat}(hn:n≤268435456):bc Φ 128 [.rd 0 [] true,.int .i64 n] h (fun v h'=>aD h' v 2 0 []∧(∀ k,h.get k≠none→h'.get k=h.get k)∧∀ k,v.rowId=some k→h.get k=none):=by
 refine bc.ext rfl G.spans ⟨by omega,by omega,fun _=>⟨aD.nil _ _,fun _ _=>rfl,fun k hk=>by cases hk⟩,fun _ id hid=>⟨.inr ⟨id,1,rfl,ad.get_set_self _ _ _,Nat.le_refl _,rfl⟩,fun k hk=>ad.get_set_ne _ _ (fun e=>hk (e ▸ hid)),fun k hk=>by cases hk;exact hid⟩⟩
def cV (P:List (Rw aj)):List aj:=P.flatMap (·.l)
theorem jC (P:List (Rw aj))(i:Nat):(cV (P.take i)).length≤(cV P).length:=by
 have:cV P=cV (P.take i)++cV (P.drop i):=by
  unfold cV
  rw[← List.flatMap_append,List.take_append_drop]
 rw[this,List.length_append]
 omega
theorem j0 {P:List (Rw aj)}{i:Nat}{p:Rw aj}(h:P[i]?=some p):cV (P.take (i+1))=cV (P.take i)++p.l:=by
 unfold cV
 rw[aV h,List.flatMap_append]
 simp
theorem Fy {Φ:Lib}(L:cJ Φ)(G:fV Φ)(P:List (Rw aj))(f:Bool)(hl:P.length≤134217728)(hb:(cV P).length≤134217728):eQ Φ 125 [.rd P.length (P.map Rw.sv) f] (.rd (cV P).length ((cV P).flatMap aj.av) false):=by
 refine ba (fun o=>o == some 31) rfl L.f125 ?_
 repeat' first|apply ac|(apply gw;first|(apply gq0;first|refine aq rfl ?_|refine aG rfl ?_)|refine aw rfl ?_)|(apply gx;first|apply af|refine ae rfl ?_|apply al)|apply aa
 refine bD P.length (fun i env h'=>env.has [(0,.rd P.length (P.map Rw.sv) f),(3,.int .i64 (cV (P.take i)).length),(9,.rd P.length (P.map Rw.sv) f),(10,.int .i64 P.length),(11,.int .i64 i)]) hh_ ?_
 rintro i env h' hi he
 obtain⟨env,rfl⟩:=he.ex
 clear he
 have hle:=jC P i
 by_cases hi2:i<P.length
 ·obtain⟨p,hp⟩:=aK hi2
  have hsn:=j0 hp
  have hle2:=jC P (i+1)
  have hl2:(cV (P.take (i+1))).length=(cV (P.take i)).length+p.l.length:=by rw[hsn,List.length_append]
  repeat' first|apply ac|(apply gw;first|(apply gq0;first|refine aq rfl ?_|refine aG rfl ?_)|refine aB rfl b_ pv_ ?_|(apply gq3;first|refine aT rfl rfl rfl Ll Ll ?_|(refine aA rfl rfl rfl ?_ ?_<;>(intro hc;try omega)))|refine ah rfl rfl hp Ll rfl ?_|refine aw rfl ?_)|(apply gx;first|apply af|refine ae rfl ?_|apply ay|apply al|refine ak rfl ?_|refine ai rfl ?_)|apply aa|apply aI
  refine aR hi2 ?_
  rw[hl2]
  exact hh_
 ·rw[List.take_of_length_le Ll]
  repeat' first|apply ac|(apply gw;first|refine aq rfl ?_|(refine aA rfl rfl rfl ?_ ?_<;>(intro hc;try omega))|refine aH rfl nt_ ?_)|(apply gx;first|apply af|refine ae rfl ?_|apply aN|refine ai rfl ?_)|apply aa|apply aO|apply aP|apply aX
  refine ci (IU G Ll) ?_
  rintro v h2 ⟨hv,_,_⟩
  have hnt:=hv.notTup
  repeat' first|apply ac|(apply gw;first|(apply gq0;first|refine aq rfl ?_|refine aG rfl ?_|refine au rv_ ?_)|refine aw rfl ?_)|(apply gx;first|apply af|refine ae rfl ?_|apply al)|apply aa
  refine bD P.length (fun i env h'=>∃ v,aD h' v 2 (cV (P.take i)).length ((cV (P.take i)).flatMap aj.av)∧env.has [(6,v),(25,.rd P.length (P.map Rw.sv) f),(26,.int .i64 P.length),(27,.int .i64 i)]) ⟨v,hv,hh_⟩ ?_
  clear hv hnt
  rintro i env h' hi ⟨v,hv,he⟩
  obtain⟨env,rfl⟩:=he.ex
  clear he
  have hnt:=hv.notTup
  have hle:=jC P i
  by_cases hi2:i<P.length
  ·obtain⟨p,hp⟩:=aK hi2
   have hsn:=j0 hp
   have hle2:=jC P (i+1)
   have hl2:(cV (P.take (i+1))).length=(cV (P.take i)).length+p.l.length:=by rw[hsn,List.length_append]
   repeat' first|apply ac|(apply gw;first|refine aG rfl ?_|refine aB rfl b_ pv_ ?_|(refine aA rfl rfl rfl ?_ ?_<;>(intro hc;try omega))|refine ah rfl rfl hp Ll rfl ?_)|(apply gx;first|apply af|refine ae rfl ?_|apply ay|apply al|refine ak rfl ?_)|apply aa
   refine jN rfl ?_
   refine au (v:=v) rfl ?_
   refine au (v:=p.sv) rfl ?_
   refine aY (v:=v) rfl hv rfl (jv aj.av 2 aj.av_length _) Ll ?_
   intro va h3 hra hka hria
   repeat' first|apply ac|(apply gw;first|(apply gq0;first|refine aq rfl ?_|refine au rv_ ?_)|refine aT rfl rfl rfl Ll Ll ?_)|refine ae rfl ?_|apply aa|apply aI
   refine aR hi2 ⟨va,?_,hh_⟩
   rw[hl2,hsn,List.flatMap_append]
   exact hra
  ·rw[List.take_of_length_le Ll]at hv
   repeat' first|apply ac|(apply gw;first|refine au rv_ ?_|(refine aA rfl rfl rfl ?_ ?_<;>(intro hc;try omega)))|(apply gx;first|apply af|refine ae rfl ?_|apply aM|apply aN|refine ai rfl ?_)|apply aa|apply aO|apply aP|apply aX
   exact fq rfl hv (fun _=>rfl)
theorem yV {Φ:Lib}(L:cJ Φ)(L1:il Φ)(S:fv Φ)(G:fV Φ)(P:List (Rw aj))(f:Bool)(hl:P.length≤134217728)(hb:(cV P).length≤1048576):eQ Φ 119 [.rd P.length (P.map Rw.sv) f] (.rd (bd (cV P)).length ((bd (cV P)).flatMap aj.av) false):=by
 have h1:=Fy L G P f hl Ll
 have h2:=s8 L1 S (cV P) hb false
 refine ba (fun _=>false) rfl L.f119 ?_
 repeat' first|apply ac|(apply gw;first|refine aG rfl ?_|refine aH rfl nt_ ?_)|(apply gx;first|apply af|refine ae rfl ?_|apply aM)|apply aa|refine aW (by assumption) fz_ fz_ ?_|refine aJ (v:=AV.rd _ _ _) rfl ?_
 rfl
theorem ot {l:List aj}{s:aj}(hs:s∈bd l):0≤s.lo∧s.lo≤s.hi∧s.hi≤1114111:=by
 obtain⟨b1,b2⟩:=jq l
 have h1:=b1.2 s hs
 have h2:=(b2 s.hi).1 ⟨s,hs,h1,Int.le_refl _⟩
 have h3:=(b2 s.lo).1 ⟨s,hs,Int.le_refl _,h1⟩
 simp only[iY,Bool.and_eq_true]at h2 h3
 have:=cx.1 h2.1
 have:=cx.1 h3.1
 omega
theorem oc {l:List aj}(h:∀ s∈l,0≤s.lo∧s.lo≤s.hi∧s.hi≤1114111):0≤gI l∧gI l≤l.length*1114112:=by
 refine n9 (P:=fun l=>(∀ s∈l,0≤s.lo∧s.lo≤s.hi∧s.hi≤1114111)→0≤gI l∧gI l≤l.length*1114112) ?_ ?_ l h
 ·intro _;simp[gI]
 ·intro l s ih h
  have h1:=ih fun x hx=>h x (by simp[hx])
  have h2:=h s Lm
  rw[tP,List.length_append]
  simp only[List.length_cons,List.length_nil]
  omega
theorem Ch {Φ:Lib}(L:cJ Φ)(L1:il Φ)(S:fv Φ)(l:List aj)(hl:l.length≤1048576)(fl:Bool):eQ Φ 122 [.rd l.length (l.flatMap aj.av) fl] (.int .i64 (gI (bd l))):=by
 have h1:=s8 L1 S l hl fl
 have hlen:=lF l
 have hr:=fun s hs=>ot (l:=l) (s:=s) hs
 refine ba (fun _=>false) rfl L.f122 ?_
 repeat' first|apply ac|(apply gw;first|(apply gq0;first|refine aq rfl ?_|refine aG rfl ?_)|refine aw rfl ?_|refine aH rfl nt_ ?_)|(apply gx;first|apply af|refine ae rfl ?_|apply al)|apply aa|refine aW (by assumption) fz_ fz_ ?_
 generalize bd l=m at hlen hr
 refine bD m.length (fun i env h'=>env.has [(3,.int .i64 (gI (m.take i))),(7,.rd m.length (m.flatMap aj.av) false),(8,.int .i64 m.length),(9,.int .i64 i)]) hh_ ?_
 rintro i env h' hi he
 obtain⟨env,rfl⟩:=he.ex
 clear he
 have hsz:=oc (l:=m.take i) fun s hs=>hr s (List.mem_of_mem_take hs)
 rw[List.length_take]at hsz
 by_cases hi2:i<m.length
 ·obtain⟨s,hs⟩:=aK hi2
  have hsr:=hr s (List.mem_of_getElem? hs)
  repeat' first|apply ac|(apply gw;first|refine aq rfl ?_|(apply gq2;first|refine jl rfl (by first|rfl|(simp[*];done)|fail) ?_|refine am rfl hg_ Lm b_ pv_ ?_)|(apply gq3;first|refine aT rfl rfl rfl Ll Ll ?_|refine jj rfl rfl rfl Ll Ll ?_|(refine aA rfl rfl rfl ?_ ?_<;>(intro hc;try omega)))|refine ar rfl (Nat.zero_add _) ?_|refine cM rfl fl_ rfl hs Ll rfl ?_|(refine bV ?_;intro id hid;try simp only[ad.set_none]at hid)|refine cC (cs':=[AV.int _ _,AV.int _ _]) rfl rfl rfl rfl b_ rfl ?_)|(apply gx;first|apply af|refine ae rfl ?_|apply ay|apply al|refine ak rfl ?_)|apply aa|apply aI
  refine aR hi2 ?_
  rw[aV hs,tP]
  exact hh_
 ·rw[List.take_of_length_le Ll]
  repeat' first|apply ac|(apply gw;first|refine aq rfl ?_|(refine aA rfl rfl rfl ?_ ?_<;>(intro hc;try omega)))|(apply gx;first|apply af|refine ae rfl ?_|apply aM|apply aN|refine ai rfl ?_)|apply aa|apply aO|apply aP|apply aX|refine aJ (v:=AV.int _ _) rfl ?_
  rfl
end
section
open Go
set_option maxHeartbeats 4000000
attribute [local irreducible] az bf bm de bz cw dH bJ wop cz bc
def cu (P:List (Rw aj)):List (List aj):=P.map (·.l)
def cG (P:List (Rw Int)):List (List Int):=P.map (·.l)
def Dfa.plain (d:Dfa):PD:=⟨cu d.parts.l,cG d.next.l,d.tags.l⟩
theorem mc (P:List (Rw aj)):cV P=fW (cu P):=by
 unfold cV fW cu
 rw[List.flatMap_map]
 rfl
noncomputable def BN (p:Prop):Bool:=@decide p (Classical.propDecidable p)
theorem uK {p:Prop}:BN p=true↔p:=by unfold BN;exact @decide_eq_true_iff p (Classical.propDecidable p)
theorem BL {p:Prop}(h:p):BN p=true:=uK.2 h
theorem BM {p:Prop}(h:¬ p):BN p=false:=by
 rw[Bool.eq_false_iff]
 exact fun e=>h (uK.1 e)
noncomputable def yE (P:List (List aj)):Bool:=BN ((∀ p∈P,bd p=p)∧qv P)
theorem Aw {P:List (List aj)}(h:∀ p∈P,bd p=p)(h2:qv P):yE P=true:=BL ⟨h,h2⟩
theorem Ax {P:List (List aj)}(h:¬ ((∀ p∈P,bd p=p)∧qv P)):yE P=false:=BM h
theorem pq {P:List (Rw aj)}{i:Nat}{p:Rw aj}(h:P[i]?=some p):p.l.length≤(cV P).length:=by
 have h1:=j0 h
 have h2:=jC P (i+1)
 rw[h1,List.length_append]at h2
 omega
theorem xJ {P:List (List aj)}(h:∀ p∈P,bd p=p)(hn:∀ p∈P,p.length≤1048576):0≤kF P∧kF P≤P.length*1168231104512:=by
 refine n9 (P:=fun P=>(∀ p∈P,bd p=p)→(∀ p∈P,p.length≤1048576)→0≤kF P∧kF P≤P.length*1168231104512) ?_ ?_ P h hn
 ·intro _ _;simp[kF]
 ·intro P p ih h hn
  have h1:=ih (fun x hx=>h x (by simp[hx])) fun x hx=>hn x (by simp[hx])
  have h2:=hn p Lm
  have h3:=oc (l:=p) fun s hs=>by
   rw[← h p Lm]at hs
   exact ot hs
  rw[oa,List.length_append]
  simp only[List.length_cons,List.length_nil]
  omega
theorem HV {Φ:Lib}(L:cJ Φ)(L1:il Φ)(S:fv Φ)(G:fV Φ)(P:List (Rw aj))(f:Bool)(hl:P.length≤1048576)(hb:(cV P).length≤524288):eQ Φ 113 [.rd P.length (P.map Rw.sv) f] (.bool (yE (cu P))):=by
 have hu:=yV L L1 S G P f Ll Ll
 have hul:=lF (cV P)
 refine ba (fun _=>false) rfl L.f113 ?_
 repeat' first|apply ac|(apply gw;first|(apply gq0;first|refine aq rfl ?_|refine bl rfl ?_|refine aG rfl ?_)|refine aw rfl ?_)|(apply gx;first|apply af|refine ae rfl ?_|apply al)|apply aa
 refine bD P.length (fun i env h'=>(∀ p∈cu (P.take i),bd p=p)∧env.has [(0,.rd P.length (P.map Rw.sv) f),(3,.int .i64 (kF (cu (P.take i)))),(6,.rd P.length (P.map Rw.sv) f),(7,.int .i64 P.length),(8,.int .i64 i)]) ⟨by simp[cu],hh_⟩ ?_
 rintro i env h' hi ⟨hn,he⟩
 obtain⟨env,rfl⟩:=he.ex
 clear he
 have hsz:=xJ hn fun p hp=>by
  obtain⟨q,hq,rfl⟩:=List.mem_map.1 hp
  obtain⟨j,hj,rfl⟩:=List.getElem_of_mem (List.mem_of_mem_take hq)
  exact Nat.le_trans (pq (List.getElem?_eq_getElem hj)) Ll
 rw[show(cu (P.take i)).length=min i P.length by simp[cu]]at hsz
 by_cases hi2:i<P.length
 ·obtain⟨p,hp⟩:=aK hi2
  have hpl:=pq hp
  have k1:=s8 L1 S p.l Ll p.fl
  have k2:=Hp L1 (bd p.l) p.l false p.fl (by have:=lF p.l;omega)
  have k3:=Ch L L1 S p.l Ll p.fl
  have hsn:cu (P.take (i+1))=cu (P.take i)++[p.l]:=by rw[aV hp];simp[cu]
  have hpm:p.l∈cu P:=List.mem_map.2 ⟨p,List.mem_of_getElem? hp,rfl⟩
  by_cases hpn:bd p.l=p.l
  ·have hz:gI (bd p.l)=gI p.l:=by rw[hpn]
   rw[decide_eq_true hpn]at k2
   rw[hz]at k3
   have hsz2:=oc (l:=p.l) fun s hs=>by
    rw[← hpn]at hs
    exact ot hs
   repeat' first|apply ac|(apply gw;first|(apply gq0;first|refine aq rfl ?_|refine aG rfl ?_)|refine aB rfl b_ pv_ ?_|(apply gq3;first|refine aT rfl rfl rfl Ll Ll ?_|(refine aA rfl rfl rfl ?_ ?_<;>(intro hc;try omega)))|refine ah rfl rfl hp Ll rfl ?_|refine aH rfl nt_ ?_|refine dh (b:=true) rfl ?_)|(apply gx;first|apply af|refine ae rfl ?_|apply ay|apply al|refine ak rfl ?_|refine ai rfl ?_)|apply aa|apply aI|refine aW (by assumption) fz_ fz_ ?_
   refine aR hi2 ⟨fun q hq=>?_,?_⟩
   ·rw[hsn]at hq
    rcases List.mem_append.1 hq with hq|hq
    ·exact hn q hq
    ·simp at hq;subst hq;exact hpn
   ·rw[hsn,oa]
    exact hh_
  ·rw[decide_eq_false hpn]at k2
   repeat' first|apply ac|(apply gw;first|(apply gq0;first|refine bl rfl ?_|refine aG rfl ?_)|refine aB rfl b_ pv_ ?_|(refine aA rfl rfl rfl ?_ ?_<;>(intro hc;try omega))|refine ah rfl rfl hp Ll rfl ?_|refine aH rfl nt_ ?_|refine dh (b:=false) rfl ?_)|(apply gx;first|apply af|refine ae rfl ?_|apply ay|apply al|apply aM|refine ak rfl ?_)|apply aa|apply cp|apply gH|apply iX|refine aW (by assumption) fz_ fz_ ?_|refine aJ (v:=AV.bool _) rfl ?_
   rw[Ax]
   exact fun h=>hpn (h.1 p.l hpm)
 ·rw[List.take_of_length_le Ll]at hn ⊢
  have k4:=Ch L L1 S (bd (cV P)) Ll false
  rw[nE]at k4
  obtain⟨s1,s2⟩:=zi (cu P) hn
  rw[← mc]at s1 s2
  repeat' first|apply ac|(apply gw;first|(apply gq0;first|refine aq rfl ?_|refine bl rfl ?_|refine aG rfl ?_)|(apply gq3;first|((first|refine aA rfl rfl rfl ?_ ?_|refine dd rfl rfl rfl ?_ ?_)<;>(intro hc;try omega)))|refine aH rfl nt_ ?_)|(apply gx;first|apply af|refine ae rfl ?_|apply aM|apply aN|refine ai rfl ?_)|apply aa|apply aO|apply aP|apply aX|refine aW (by assumption) fz_ fz_ ?_|refine aJ (v:=AV.bool _) rfl ?_
  ·rw[Aw hn (s2.1 ‹_›)]
  ·rw[Ax]
   exact fun h=>absurd (s2.2 h.2) ‹_›
theorem JL {Φ:Lib}(L:cJ Φ)(to:Int)(k:Nat)(id:Nat)(h:ad)(hr:h.get id=some (.cells 0 [.int .i64 k])) :
  bc Φ 114 [.int .i64 to,.ptr id 0 0] h (fun v h'=>v = .bool (decide (to < -1)||decide ((k:Int)≤to))∧h.Ext h'):=by
 refine ba (fun _=>false) rfl L.f114 ?_
 repeat' first|apply ac|(apply gw;first|(apply gq0;first|refine aq rfl ?_|refine bl rfl ?_)|(apply gq1;first|refine cf rfl ?_|refine cj rfl ?_)|refine am rfl hg_ Lm b_ pv_ ?_|(apply gq3;first|((first|refine aA rfl rfl rfl ?_ ?_|refine iy rfl rfl rfl ?_ ?_)<;>(intro hc;try omega)))|(apply gq7;first|refine bi rfl rfl ?_|refine bb rfl rfl ?_))|(apply gx;first|apply af|refine ae rfl ?_|apply aM)|apply aa|refine aJ (v:=AV.bool _) rfl ?_
 all_goals refine⟨?_,ad.Ext.refl _⟩
 all_goals simp[*]
 all_goals omega
structure Dfa.Fits (d:Dfa):Prop where
 cat:(cV d.parts.l).length≤524288
 parts:d.parts.l.length≤1048576
 next:d.next.l.length≤1048576
 rows:∀ r∈d.next.l,r.l.length≤1048576
 tags:d.tags.l.length≤1048576
noncomputable def rD (d:Dfa):Bool:=BN d.plain.Ok
theorem mU {d:Dfa}(h:d.plain.Ok):rD d=true:=BL h
theorem iH {d:Dfa}(h:¬ d.plain.Ok):rD d=false:=BM h
theorem ti {r:List Int}{k:Nat}:(r.any fun to=>decide (to < -1)||decide ((k:Int)≤to))=false↔∀ x∈r,x = -1∨In k x:=by
 rw[List.any_eq_false]
 constructor
 ·intro h x hx
  have:=h x hx
  simp only[Bool.or_eq_true,decide_eq_true_eq]at this
  unfold In;omega
 ·intro h x hx
  have:=h x hx
  unfold In at this
  simp only[Bool.or_eq_true,decide_eq_true_eq]
  omega
theorem Fw {Φ:Lib}(L:cJ Φ)(L1:il Φ)(S:fv Φ)(G:fV Φ)(d:Dfa)(hf:d.Fits):eQ Φ 100 [.agg d.av] (.bool (rD d)):=by
 have hfp:=hf.parts
 have hfn:=hf.next
 have hft:=hf.tags
 have hap:=HV L L1 S G d.parts.l d.parts.fl Ll hf.cat
 have hpl:d.plain.p=d.parts.l.length:=by simp[Dfa.plain,cu,PD.p]
 have hnl:d.plain.n=d.tags.l.length:=by simp[Dfa.plain,PD.n]
 have hxl:d.plain.next.length=d.next.l.length:=by simp[Dfa.plain,cG]
 have hrow:∀ {i:Nat} {r:Rw Int},d.next.l[i]?=some r→r.l∈d.plain.next:=fun hr=>List.mem_map.2 ⟨_,List.mem_of_getElem? hr,rfl⟩
 refine ba (fun _=>false) rfl L.f100 ?_
 cases hA:yE (cu d.parts.l)
 all_goals rw[hA]at hap
 ·have hno:¬ d.plain.Ok:=fun h=>by
   have:=Aw (P:=cu d.parts.l) h.norm h.apart
   rw[this]at hA;cases hA
  rw[iH hno]
  repeat' first|apply ac|(apply gw;first|refine bl rfl ?_|(apply gq1;first|refine cf rfl ?_|refine cj rfl ?_)|refine am rfl hg_ Lm b_ pv_ ?_|(apply gq3;first|((first|refine cN rfl rfl rfl ?_ ?_|refine dd rfl rfl rfl ?_ ?_|refine eK rfl rfl rfl ?_ ?_)<;>(intro hc;try omega)))|refine ar rfl (Nat.zero_add _) ?_|refine aw rfl ?_|(apply gq7;first|refine bi rfl rfl ?_|refine bb rfl rfl ?_)|refine aH rfl nt_ ?_|(refine bV ?_;intro id hid;try simp only[ad.set_none]at hid)|(refine gQ (v:=AV.agg _) rfl rfl ?_;intro id hid;try simp only[ad.set_none]at hid)|refine cC (cs':=[AV.int _ _]) rfl rfl rfl rfl b_ rfl ?_|refine dh (b:=false) rfl ?_)|(apply gx;first|apply af|refine ae rfl ?_|apply aM|refine ak rfl ?_)|apply aa|apply cp|refine aW (by assumption) fz_ fz_ ?_|refine aJ (v:=AV.bool _) rfl ?_
  all_goals rfl
 ·have hA2:=uK.1 hA
  repeat' first|apply ac|(apply gw;first|(apply gq0;first|refine aq rfl ?_|refine bl rfl ?_|refine au (v:=AV.fn _ _) rfl ?_)|(apply gq1;first|refine cf rfl ?_|refine cj rfl ?_)|refine am rfl hg_ Lm b_ pv_ ?_|(apply gq3;first|((first|refine cN rfl rfl rfl ?_ ?_|refine dd rfl rfl rfl ?_ ?_|refine eK rfl rfl rfl ?_ ?_)<;>(intro hc;try omega)))|refine ar rfl (Nat.zero_add _) ?_|refine aw rfl ?_|(apply gq7;first|refine bi rfl rfl ?_|refine bb rfl rfl ?_)|refine aH rfl nt_ ?_|(refine bV ?_;intro id hid;try simp only[ad.set_none]at hid)|(refine gQ (v:=AV.agg _) rfl rfl ?_;intro id hid;try simp only[ad.set_none]at hid)|refine cC (cs':=[AV.int _ _]) rfl rfl rfl rfl b_ rfl ?_|refine dh (b:=true) rfl ?_|refine qC (vs:=[AV.ptr _ _ _]) rfl rfl ?_)|(apply gx;first|apply af|refine ae rfl ?_|apply ay|apply al|apply aM|refine ak rfl ?_|refine ai rfl ?_)|apply aa|apply cp|refine aW (by assumption) fz_ fz_ ?_|refine aJ (v:=AV.bool _) rfl ?_
  all_goals first
   | (rw[iH (fun h=>by have:=h.p1;have:=h.n1;have:=h.n2;have:=h.nl;omega)];done)
   | skip
  rename_i ib hib _ _ _
  refine bD d.next.l.length (fun i env h'=>(∀ r∈d.next.l.take i,r.l.length=d.parts.l.length∧∀ x∈r.l,x = -1∨In d.tags.l.length x)∧(∀ t∈d.tags.l.take i,-1≤t)∧h'.get ib=some (.cells 0 d.av)∧h'.get id=some (.cells 0 [.int .i64 d.tags.l.length])∧env.has [(1,.ptr ib 0 0),(4,.fn 114 [.ptr id 0 0]),(37,d.next.mv Rw.iv),(38,.int .i64 d.next.l.length),(39,.int .i64 i)]) ⟨by simp,by simp,hg_,hg_,hh_⟩ ?_
  rintro i env h' hi ⟨hrs,hts,hb1,hb2,he⟩
  obtain⟨env,rfl⟩:=he.ex
  clear he
  by_cases hi2:i<d.next.l.length
  ·obtain⟨r,hr⟩:=aK hi2
   obtain⟨t,ht⟩:=aK (l:=d.tags.l) (show i<d.tags.l.length by omega)
   have hrl:=hf.rows r (List.mem_of_getElem? hr)
   have hrm:=hrow hr
   have htm:t∈d.plain.tags:=List.mem_of_getElem? ht
   repeat' first|apply ac|(apply gw;first|(apply gq0;first|refine aq rfl ?_|refine bl rfl ?_|refine aG rfl ?_|refine au (v:=AV.fn _ _) rfl ?_)|(apply gq1;first|refine cf rfl ?_|refine cj rfl ?_)|(apply gq2;first|refine aB rfl b_ pv_ ?_|refine am rfl hg_ Lm b_ pv_ ?_)|(apply gq3;first|((first|refine aA rfl rfl rfl ?_ ?_|refine eK rfl rfl rfl ?_ ?_)<;>(intro hc;try omega)))|refine ar rfl (Nat.zero_add _) ?_|(apply gq5;first|refine ah rfl rfl hr Ll rfl ?_|refine ah rfl rfl ht Ll rfl ?_)|refine aw rfl ?_|(apply gq7;first|refine bi rfl rfl ?_|refine bb rfl rfl ?_)|refine aH rfl nt_ ?_)|(apply gx;first|apply af|refine ae rfl ?_|apply ay|apply al|apply aM|refine ak rfl ?_)|apply aa|apply cp|apply gH|apply iX|refine aJ (v:=AV.bool _) rfl ?_
   all_goals first
    | (rw[iH (fun h=>by have h1:=(h.rows _ hrm).1;have h2:=h.tags _ htm;rw[hpl]at h1;omega)];done)
    | skip
   refine ci (nj L1 r.l r.fl 114 [.ptr id 0 0] _ h' Ll fun x _=>JL L x d.tags.l.length id h' hb2) ?_
   rintro _ h2 ⟨rfl,rfl⟩
   cases ho:(r.l.any fun to=>decide (to < -1)||decide ((d.tags.l.length:Int)≤to))
   ·repeat' first|apply ac|(apply gw;first|refine aq rfl ?_|refine aT rfl rfl rfl Ll Ll ?_|refine bb rfl rfl ?_)|(apply gx;first|refine ae rfl ?_|apply ay|refine ai rfl ?_)|apply aa|apply aI
    refine aR hi2 ⟨fun q hq=>?_,fun q hq=>?_,hb1,hb2,hh_⟩
    ·rw[aV hr]at hq
     rcases List.mem_append.1 hq with hq|hq
     ·exact hrs q hq
     ·simp at hq;subst hq
      exact⟨by omega,ti.1 ho⟩
    ·rw[aV ht]at hq
     rcases List.mem_append.1 hq with hq|hq
     ·exact hts q hq
     ·simp at hq;subst hq
      omega
   ·repeat' first|apply ac|(apply gw;first|refine bl rfl ?_|refine bb rfl rfl ?_)|(apply gx;first|apply af|refine ae rfl ?_|apply aM|refine ak rfl ?_)|apply aa|apply cp|apply gH|apply iX|refine aJ (v:=AV.bool _) rfl ?_
    rw[iH]
    intro h
    have h1:=ti.2 (h.rows _ hrm).2
    rw[hnl,ho]at h1
    cases h1
  ·rw[List.take_of_length_le Ll]at hrs
   rw[List.take_of_length_le Ll]at hts
   repeat' first|apply ac|(apply gw;first|refine bl rfl ?_|(refine aA rfl rfl rfl ?_ ?_<;>(intro hc;try omega)))|(apply gx;first|apply af|refine ae rfl ?_|apply aM|apply aN|refine ai rfl ?_)|apply aa|apply aO|apply aP|apply aX|refine aJ (v:=AV.bool _) rfl ?_
   rw[mU]
   refine⟨by omega,by omega,by omega,by omega,hA2.1,hA2.2,fun r hr=>?_,hts⟩
   obtain⟨q,hq,rfl⟩:=List.mem_map.1 hr
   rw[hpl,hnl]
   exact hrs q hq
end
end Go.Proofs.YtlnobeojgifojaaGreatDoor
