/- Rows of rows that grow. slices.Concat, set.Union, set.Size. dfa.Sound. -/
import Derived.Test.YtlnobeojgifojaaGreatDoorE2
import Derived.Test.YtlnobeojgifojaaGreatDoorB2
import Derived.Test.YtlnobeojgifojaaGreatDoorA7
import Derived.Test.YtlnobeojgifojaaGreatDoorP2
set_option linter.unusedVariables false
set_option linter.unusedSimpArgs false
namespace Go.Proofs.YtlnobeojgifojaaGreatDoor
section
open Go
structure eD (h:ac)(id:Nat)(ws:List AV)(rows:List (List AV)):Prop where
 at_:h.get id=some (.cells 1 ws)
 fam:Fam h ws (rows.map fun r=>(1,r.length,r))
 apart:∀ w∈ws,∀ k,w.rowId=some k→k≠id
def fX (id:Nat)(ws:List AV)(k:Nat):Prop:=k=id∨∃ w∈ws,w.rowId=some k
theorem eD.len {h:ac}{id:Nat}{ws:List AV}{rows:List (List AV)}(hG:eD h id ws rows):ws.length=rows.length:=by
 have:=hG.fam.len
 simpa using this
theorem eD.there {h:ac}{id:Nat}{ws:List AV}{rows:List (List AV)}(hG:eD h id ws rows){k:Nat}(hk:fX id ws k):h.get k≠none:=by
 rcases hk with rfl|⟨w,hw,hk⟩
 ·rw[hG.at_];simp
 ·exact hG.fam.there hw hk
theorem eD.keep {h h':ac}{id:Nat}{ws:List AV}{rows:List (List AV)}(hG:eD h id ws rows)(hk:∀ k,fX id ws k→h'.get k=h.get k):eD h' id ws rows :=
 ⟨(hk id (.inl rfl)).trans hG.at_,hG.fam.keep fun w hw k hid=>hk k (.inr ⟨w,hw,hid⟩),hG.apart⟩
theorem eD.row {h:ac}{id:Nat}{ws:List AV}{rows:List (List AV)}(hG:eD h id ws rows){j:Nat}{w:AV}{r:List AV}(hw:ws[j]?=some w)(hr:rows[j]?=some r):aC h w 1 r.length r :=
 hG.fam.row j w _ hw (by rw[List.getElem?_map,hr];rfl)
theorem jl (n:Nat)(v:AV):(List.replicate n [v]).flatten=List.replicate n v:=by
 induction n with
 | zero=>rfl
 | succ n ih=>rw[List.replicate_succ,List.flatten_cons,ih,List.replicate_succ];rfl
theorem eD.begin {h:ac}{id n:Nat}(hg:h.get id=some (.cells 1 (List.replicate n (.rd 0 [] true)))):eD h id (List.replicate n (.rd 0 [] true)) (List.replicate n []):=by
 have hf:=Fam.nils h (List.replicate n 1)
 rw[List.length_replicate]at hf
 refine⟨hg,?_,fun w hw k hk=>?_⟩
 ·have e:(List.replicate n ([]:List AV)).map (fun r=>((1:Nat),r.length,r))=(List.replicate n 1).map fun e=>(e,0,([]:List AV)):=by simp
  rw[e];exact hf
 ·rw[List.mem_replicate]at hw
  rw[hw.2]at hk;cases hk
theorem eD.put {h hpa:ac}{id:Nat}{ws:List AV}{rows:List (List AV)}(hG:eD h id ws rows){j:Nat}{w va:AV}{r:List AV}(hw:ws[j]?=some w)
  (hrow:aC hpa va 1 r.length r) (hka:∀ k,h.get k≠none→w.rowId≠some k→hpa.get k=h.get k) (hria:∀ k,va.rowId=some k→w.rowId=some k∨h.get k=none) :
  eD (hpa.set id (.cells 1 (ws.set j va))) id (ws.set j va) (rows.set j r)∧(∀ k,fX id (ws.set j va) k→fX id ws k∨h.get k=none):=by
 have hwm:=List.mem_of_getElem? hw
 have hF:=hG.fam.upd (j:=j) (w:=w) (v':=va) (d':=(1,r.length,r)) hw hrow hka hria
 have e1:(rows.map fun r=>((1:Nat),r.length,r)).set j (1,r.length,r)=(rows.set j r).map fun r=>((1:Nat),r.length,r):=by rw[List.map_set]
 rw[e1]at hF
 have hap:∀ x∈ws.set j va,∀ k,x.rowId=some k→k≠id:=fun x hx k hk=>by
  rcases List.mem_or_eq_of_mem_set hx with hx|rfl
  ·exact hG.apart x hx k hk
  ·rcases hria k hk with h1|h1
   ·exact hG.apart w hwm k h1
   ·rintro rfl
    rw[hG.at_]at h1;cases h1
 refine⟨⟨ac.get_set_self _ _ _,hF.keep fun x hx k hk=>ac.get_set_ne _ _ (hap x hx k hk),hap⟩,fun k hk=>?_⟩
 rcases hk with rfl|⟨x,hx,hk⟩
 ·exact .inl (.inl rfl)
 ·rcases List.mem_or_eq_of_mem_set hx with hx|rfl
  ·exact .inl (.inr ⟨x,hx,hk⟩)
  ·rcases hria k hk with h1|h1
   ·exact .inl (.inr ⟨w,hwm,h1⟩)
   ·exact .inr h1
theorem Fam.fz2 {h:ac}{S:Nat→Prop}:∀ {ws:List AV} {ds:List (Nat×Nat×List AV)},ws.length=ds.length→(∀ (j:Nat) w d,ws[j]?=some w→ds[j]?=some d→aC h w d.1 d.2.1 d.2.2)→(∀ w∈ws,∀ id,w.rowId=some id→S id)→FzL h S ws (ds.map fun d => .rd d.2.1 d.2.2 false)
 | [],[],_,_,_ => .nil
 | w::ws,d::ds,hl,hr,hS => .cons ((hr 0 w d rfl rfl).fz S (fun id hid=>hS w (by simp) id hid) (FzL.same _)) (Fam.fz2 (by simpa using hl) (fun j w d hw hd=>hr (j+1) w d hw hd) fun x hx=>hS x (by simp[hx]))
theorem eD.fz {h:ac}{id:Nat}{ws:List AV}{rows:List (List AV)}(hG:eD h id ws rows){S:Nat→Prop}(hS:∀ k,fX id ws k→S k){lim:Option Nat}:FzV h S (.own id 1 1 0 rows.length lim) (.rd rows.length (rows.map fun r => .rd r.length r false) false):=by
 have hl:=hG.len
 refine .own (hS id (.inl rfl)) hG.at_ (by omega) ?_
 rw[Nat.zero_mul,List.drop_zero,List.take_of_length_le (by omega)]
 have:=Fam.fz2 (h:=h) (S:=S) (ws:=ws) (ds:=rows.map fun r=>(1,r.length,r)) (by simpa using hl) (fun j w d hw hd=>hG.fam.row j w d hw hd) fun w hw k hk=>hS k (.inr ⟨w,hw,hk⟩)
 rw[List.map_map]at this
 exact this
theorem AB {Φ:Lib}{Z:Option Nat→Bool}{l:List bF}{K:Ex→Env→ac→Prop}{env:Env}{h:ac}(t:Nat){id:Nat}{ws:List AV}{rows:List (List AV)}(hz:Z (mZ l)=true)(ht:env t = .own id 1 1 0 rows.length none)(hG:eD h id ws rows)
  (k:∀ h',(∀ j,¬ fX id ws j→h'.get j=h.get j)→aw (a8 Φ) l (K .norm) (env.put t (.rd rows.length (rows.map fun r => .rd r.length r false) false)) h'):bg (a8 Φ) Z (.ops l) K env h:=by
 rw[oJ,if_pos hz]
 refine .inr ⟨fX id ws,env.put t (.rd rows.length (rows.map fun r => .rd r.length r false) false),fun i=>?_,k _ fun j hj=>?_⟩
 ·by_cases hi:i=t
  ·subst hi
   rw[ht,Env.put_apply,if_pos rfl]
   exact hG.fz fun _ h=>h
  ·rw[Env.put_apply,if_neg hi]
   exact .same _
 ·simp only[ac.drop,hj,if_false]
end
section
open Go
set_option maxHeartbeats 4000000
attribute [local irreducible] aw bg bm dg bz cw dO bH wop cz a8
structure fV (Φ:Lib):Prop where
 spans:Φ 128=some (.ext (qU 2))
theorem IE {Φ:Lib}(G:fV Φ){h:ac}{n:Nat}(hn:n≤268435456):a8 Φ 128 [.rd 0 [] true,.int .i64 n] h (fun v h'=>aC h' v 2 0 []∧(∀ k,h.get k≠none→h'.get k=h.get k)∧∀ k,v.rowId=some k→h.get k=none):=by
 refine a8.ext rfl G.spans ⟨by omega,by omega,fun _=>⟨aC.nil _ _,fun _ _=>rfl,fun k hk=>by cases hk⟩,fun _ id hid=>⟨.inr ⟨id,1,rfl,ac.get_set_self _ _ _,Nat.le_refl _,rfl⟩,fun k hk=>ac.get_set_ne _ _ (fun e=>hk (e ▸ hid)),fun k hk=>by cases hk;exact hid⟩⟩
def cT (P:List (Rw ai)):List ai:=P.flatMap (·.l)
theorem jy (P:List (Rw ai))(i:Nat):(cT (P.take i)).length≤(cT P).length:=by
 have:cT P=cT (P.take i)++cT (P.drop i):=by
  unfold cT
  rw[← List.flatMap_append,List.take_append_drop]
 rw[this,List.length_append]
 omega
theorem jX {P:List (Rw ai)}{i:Nat}{p:Rw ai}(h:P[i]?=some p):cT (P.take (i+1))=cT (P.take i)++p.l:=by
 unfold cT
 rw[aS h,List.flatMap_append]
 simp
theorem Fp {Φ:Lib}(L:cP Φ)(G:fV Φ)(P:List (Rw ai))(f:Bool)(hl:P.length≤134217728)(hb:(cT P).length≤134217728):fg Φ 125 [.rd P.length (P.map Rw.sv) f] (.rd (cT P).length ((cT P).flatMap ai.av) false):=by
 refine aY (fun o=>o == some 31) rfl L.f125 ?_
 repeat' first|apply ad|(apply gw;first|(apply gq0;first|refine am rfl ?_|refine aG rfl ?_)|refine az rfl ?_)|(apply gx;first|apply af|refine ae rfl ?_|apply al)|apply aa
 refine bG P.length (fun i env h'=>env.has [(0,.rd P.length (P.map Rw.sv) f),(3,.int .i64 (cT (P.take i)).length),(9,.rd P.length (P.map Rw.sv) f),(10,.int .i64 P.length),(11,.int .i64 i)]) hh_ ?_
 rintro i env h' hi he
 obtain⟨env,rfl⟩:=he.ex
 clear he
 have hle:=jy P i
 by_cases hi2:i<P.length
 ·obtain⟨p,hp⟩:=aK hi2
  have hsn:=jX hp
  have hle2:=jy P (i+1)
  have hl2:(cT (P.take (i+1))).length=(cT (P.take i)).length+p.l.length:=by rw[hsn,List.length_append]
  repeat' first|apply ad|(apply gw;first|(apply gq0;first|refine am rfl ?_|refine aG rfl ?_)|refine aB rfl b_ pv_ ?_|(apply gq3;first|refine aQ rfl rfl rfl (by omega) (by omega) ?_|(refine aA rfl rfl rfl ?_ ?_<;>(intro hc;try (exfalso;omega))))|refine aj rfl rfl hp (by omega) rfl ?_|refine az rfl ?_)|(apply gx;first|apply af|refine ae rfl ?_|apply ay|apply al|refine ak rfl ?_|refine ah rfl ?_)|apply aa|apply aF
  refine aP hi2 ?_
  rw[hl2]
  exact hh_
 ·rw[List.take_of_length_le (by omega)]
  repeat' first|apply ad|(apply gw;first|refine am rfl ?_|(refine aA rfl rfl rfl ?_ ?_<;>(intro hc;try (exfalso;omega)))|refine aI rfl nt_ ?_)|(apply gx;first|apply af|refine ae rfl ?_|apply aL|refine ah rfl ?_)|apply aa|apply aM|apply aN|apply aR
  refine cd (IE G (by omega)) ?_
  rintro v h2 ⟨hv,_,_⟩
  have hnt:=hv.notTup
  repeat' first|apply ad|(apply gw;first|(apply gq0;first|refine am rfl ?_|refine aG rfl ?_|refine aq rv_ ?_)|refine az rfl ?_)|(apply gx;first|apply af|refine ae rfl ?_|apply al)|apply aa
  refine bG P.length (fun i env h'=>∃ v,aC h' v 2 (cT (P.take i)).length ((cT (P.take i)).flatMap ai.av)∧env.has [(6,v),(25,.rd P.length (P.map Rw.sv) f),(26,.int .i64 P.length),(27,.int .i64 i)]) ⟨v,hv,hh_⟩ ?_
  clear hv hnt
  rintro i env h' hi ⟨v,hv,he⟩
  obtain⟨env,rfl⟩:=he.ex
  clear he
  have hnt:=hv.notTup
  have hle:=jy P i
  by_cases hi2:i<P.length
  ·obtain⟨p,hp⟩:=aK hi2
   have hsn:=jX hp
   have hle2:=jy P (i+1)
   have hl2:(cT (P.take (i+1))).length=(cT (P.take i)).length+p.l.length:=by rw[hsn,List.length_append]
   repeat' first|apply ad|(apply gw;first|refine aG rfl ?_|refine aB rfl b_ pv_ ?_|(refine aA rfl rfl rfl ?_ ?_<;>(intro hc;try (exfalso;omega)))|refine aj rfl rfl hp (by omega) rfl ?_)|(apply gx;first|apply af|refine ae rfl ?_|apply ay|apply al|refine ak rfl ?_)|apply aa
   refine jJ rfl ?_
   refine aq (v:=v) rfl ?_
   refine aq (v:=p.sv) rfl ?_
   refine aX (v:=v) rfl hv rfl (js ai.av 2 ai.av_length _) (by omega) ?_
   intro va h3 hra hka hria
   repeat' first|apply ad|(apply gw;first|(apply gq0;first|refine am rfl ?_|refine aq rv_ ?_)|refine aQ rfl rfl rfl (by omega) (by omega) ?_)|refine ae rfl ?_|apply aa|apply aF
   refine aP hi2 ⟨va,?_,hh_⟩
   rw[hl2,hsn,List.flatMap_append]
   exact hra
  ·rw[List.take_of_length_le (by omega)]at hv
   repeat' first|apply ad|(apply gw;first|refine aq rv_ ?_|(refine aA rfl rfl rfl ?_ ?_<;>(intro hc;try (exfalso;omega))))|(apply gx;first|apply af|refine ae rfl ?_|apply aJ|apply aL|refine ah rfl ?_)|apply aa|apply aM|apply aN|apply aR
   exact fj rfl hv (fun _=>rfl)
theorem yI {Φ:Lib}(L:cP Φ)(L1:ii Φ)(S:fo Φ)(G:fV Φ)(P:List (Rw ai))(f:Bool)(hl:P.length≤134217728)(hb:(cT P).length≤1048576):fg Φ 119 [.rd P.length (P.map Rw.sv) f] (.rd (bi (cT P)).length ((bi (cT P)).flatMap ai.av) false):=by
 have h1:=Fp L G P f hl (by omega)
 have h2:=sV L1 S (cT P) hb false
 refine aY (fun _=>false) rfl L.f119 ?_
 repeat' first|apply ad|(apply gw;first|refine aG rfl ?_|refine aI rfl nt_ ?_)|(apply gx;first|apply af|refine ae rfl ?_|apply aJ)|apply aa|refine aU (by assumption) fz_ fz_ ?_|refine aH (v:=AV.rd _ _ _) rfl ?_
 rfl
theorem oh {l:List ai}{s:ai}(hs:s∈bi l):0≤s.lo∧s.lo≤s.hi∧s.hi≤1114111:=by
 obtain⟨b1,b2⟩:=jE l
 have h1:=b1.2 s hs
 have h2:=(b2 s.hi).1 ⟨s,hs,h1,Int.le_refl _⟩
 have h3:=(b2 s.lo).1 ⟨s,hs,Int.le_refl _,h1⟩
 simp only[jO,Bool.and_eq_true]at h2 h3
 have:=cx.1 h2.1
 have:=cx.1 h3.1
 omega
theorem n0 {l:List ai}(h:∀ s∈l,0≤s.lo∧s.lo≤s.hi∧s.hi≤1114111):0≤gI l∧gI l≤l.length*1114112:=by
 refine nY (P:=fun l=>(∀ s∈l,0≤s.lo∧s.lo≤s.hi∧s.hi≤1114111)→0≤gI l∧gI l≤l.length*1114112) ?_ ?_ l h
 ·intro _;simp[gI]
 ·intro l s ih h
  have h1:=ih fun x hx=>h x (by simp[hx])
  have h2:=h s (by simp)
  rw[tI,List.length_append]
  simp only[List.length_cons,List.length_nil]
  omega
theorem BZ {Φ:Lib}(L:cP Φ)(L1:ii Φ)(S:fo Φ)(l:List ai)(hl:l.length≤1048576)(fl:Bool):fg Φ 122 [.rd l.length (l.flatMap ai.av) fl] (.int .i64 (gI (bi l))):=by
 have h1:=sV L1 S l hl fl
 have hlen:=nx l
 have hr:=fun s hs=>oh (l:=l) (s:=s) hs
 refine aY (fun _=>false) rfl L.f122 ?_
 repeat' first|apply ad|(apply gw;first|(apply gq0;first|refine am rfl ?_|refine aG rfl ?_)|refine az rfl ?_|refine aI rfl nt_ ?_)|(apply gx;first|apply af|refine ae rfl ?_|apply al)|apply aa|refine aU (by assumption) fz_ fz_ ?_
 generalize bi l=m at hlen hr
 refine bG m.length (fun i env h'=>env.has [(3,.int .i64 (gI (m.take i))),(7,.rd m.length (m.flatMap ai.av) false),(8,.int .i64 m.length),(9,.int .i64 i)]) hh_ ?_
 rintro i env h' hi he
 obtain⟨env,rfl⟩:=he.ex
 clear he
 have hsz:=n0 (l:=m.take i) fun s hs=>hr s (List.mem_of_mem_take hs)
 rw[List.length_take]at hsz
 by_cases hi2:i<m.length
 ·obtain⟨s,hs⟩:=aK hi2
  have hsr:=hr s (List.mem_of_getElem? hs)
  repeat' first|apply ad|(apply gw;first|refine am rfl ?_|(apply gq2;first|refine jM rfl (by first|rfl|(simp[*];done)|fail) ?_|refine ar rfl hg_ (by simp) b_ pv_ ?_)|(apply gq3;first|refine aQ rfl rfl rfl (by omega) (by omega) ?_|refine eS rfl rfl rfl (by omega) (by omega) ?_|(refine aA rfl rfl rfl ?_ ?_<;>(intro hc;try (exfalso;omega))))|refine au rfl (Nat.zero_add _) ?_|refine dF rfl fl_ rfl hs (by omega) rfl ?_|(refine bZ ?_;intro id hid;try simp only[ac.set_none]at hid)|refine cD (cs':=[AV.int _ _,AV.int _ _]) rfl rfl rfl rfl b_ rfl ?_)|(apply gx;first|apply af|refine ae rfl ?_|apply ay|apply al|refine ak rfl ?_)|apply aa|apply aF
  refine aP hi2 ?_
  rw[aS hs,tI]
  exact hh_
 ·rw[List.take_of_length_le (by omega)]
  repeat' first|apply ad|(apply gw;first|refine am rfl ?_|(refine aA rfl rfl rfl ?_ ?_<;>(intro hc;try (exfalso;omega))))|(apply gx;first|apply af|refine ae rfl ?_|apply aJ|apply aL|refine ah rfl ?_)|apply aa|apply aM|apply aN|apply aR|refine aH (v:=AV.int _ _) rfl ?_
  rfl
end
section
open Go
set_option maxHeartbeats 4000000
attribute [local irreducible] aw bg bm dg bz cw dO bH wop cz a8
def dm (P:List (Rw ai)):List (List ai):=P.map (·.l)
def cS (P:List (Rw Int)):List (List Int):=P.map (·.l)
def Dfa.plain (d:Dfa):PD:=⟨dm d.parts.l,cS d.next.l,d.tags.l⟩
theorem l4 (P:List (Rw ai)):cT P=fW (dm P):=by
 unfold cT fW dm
 rw[List.flatMap_map]
 rfl
noncomputable def By (p:Prop):Bool:=@decide p (Classical.propDecidable p)
theorem uD {p:Prop}:By p=true↔p:=by unfold By;exact @decide_eq_true_iff p (Classical.propDecidable p)
theorem Bw {p:Prop}(h:p):By p=true:=uD.2 h
theorem Bx {p:Prop}(h:¬ p):By p=false:=by
 rw[Bool.eq_false_iff]
 exact fun e=>h (uD.1 e)
noncomputable def yo (P:List (List ai)):Bool:=By ((∀ p∈P,bi p=p)∧qm P)
theorem Al {P:List (List ai)}(h:∀ p∈P,bi p=p)(h2:qm P):yo P=true:=Bw ⟨h,h2⟩
theorem Am {P:List (List ai)}(h:¬ ((∀ p∈P,bi p=p)∧qm P)):yo P=false:=Bx h
theorem pf {P:List (Rw ai)}{i:Nat}{p:Rw ai}(h:P[i]?=some p):p.l.length≤(cT P).length:=by
 have h1:=jX h
 have h2:=jy P (i+1)
 rw[h1,List.length_append]at h2
 omega
theorem xy {P:List (List ai)}(h:∀ p∈P,bi p=p)(hn:∀ p∈P,p.length≤1048576):0≤kA P∧kA P≤P.length*1168231104512:=by
 refine nY (P:=fun P=>(∀ p∈P,bi p=p)→(∀ p∈P,p.length≤1048576)→0≤kA P∧kA P≤P.length*1168231104512) ?_ ?_ P h hn
 ·intro _ _;simp[kA]
 ·intro P p ih h hn
  have h1:=ih (fun x hx=>h x (by simp[hx])) fun x hx=>hn x (by simp[hx])
  have h2:=hn p (by simp)
  have h3:=n0 (l:=p) fun s hs=>by
   rw[← h p (by simp)]at hs
   exact oh hs
  rw[nZ,List.length_append]
  simp only[List.length_cons,List.length_nil]
  omega
theorem HH {Φ:Lib}(L:cP Φ)(L1:ii Φ)(S:fo Φ)(G:fV Φ)(P:List (Rw ai))(f:Bool)(hl:P.length≤1048576)(hb:(cT P).length≤524288):fg Φ 113 [.rd P.length (P.map Rw.sv) f] (.bool (yo (dm P))):=by
 have hu:=yI L L1 S G P f (by omega) (by omega)
 have hul:=nx (cT P)
 refine aY (fun _=>false) rfl L.f113 ?_
 repeat' first|apply ad|(apply gw;first|(apply gq0;first|refine am rfl ?_|refine bj rfl ?_|refine aG rfl ?_)|refine az rfl ?_)|(apply gx;first|apply af|refine ae rfl ?_|apply al)|apply aa
 refine bG P.length (fun i env h'=>(∀ p∈dm (P.take i),bi p=p)∧env.has [(0,.rd P.length (P.map Rw.sv) f),(3,.int .i64 (kA (dm (P.take i)))),(6,.rd P.length (P.map Rw.sv) f),(7,.int .i64 P.length),(8,.int .i64 i)]) ⟨by simp[dm],hh_⟩ ?_
 rintro i env h' hi ⟨hn,he⟩
 obtain⟨env,rfl⟩:=he.ex
 clear he
 have hsz:=xy hn fun p hp=>by
  obtain⟨q,hq,rfl⟩:=List.mem_map.1 hp
  obtain⟨j,hj,rfl⟩:=List.getElem_of_mem (List.mem_of_mem_take hq)
  exact Nat.le_trans (pf (List.getElem?_eq_getElem hj)) (by omega)
 rw[show(dm (P.take i)).length=min i P.length by simp[dm]]at hsz
 by_cases hi2:i<P.length
 ·obtain⟨p,hp⟩:=aK hi2
  have hpl:=pf hp
  have k1:=sV L1 S p.l (by omega) p.fl
  have k2:=He L1 (bi p.l) p.l false p.fl (by have:=nx p.l;omega)
  have k3:=BZ L L1 S p.l (by omega) p.fl
  have hsn:dm (P.take (i+1))=dm (P.take i)++[p.l]:=by rw[aS hp];simp[dm]
  have hpm:p.l∈dm P:=List.mem_map.2 ⟨p,List.mem_of_getElem? hp,rfl⟩
  by_cases hpn:bi p.l=p.l
  ·have hz:gI (bi p.l)=gI p.l:=by rw[hpn]
   rw[decide_eq_true hpn]at k2
   rw[hz]at k3
   have hsz2:=n0 (l:=p.l) fun s hs=>by
    rw[← hpn]at hs
    exact oh hs
   repeat' first|apply ad|(apply gw;first|(apply gq0;first|refine am rfl ?_|refine aG rfl ?_)|refine aB rfl b_ pv_ ?_|(apply gq3;first|refine aQ rfl rfl rfl (by omega) (by omega) ?_|(refine aA rfl rfl rfl ?_ ?_<;>(intro hc;try (exfalso;omega))))|refine aj rfl rfl hp (by omega) rfl ?_|refine aI rfl nt_ ?_|refine dp (b:=true) rfl ?_)|(apply gx;first|apply af|refine ae rfl ?_|apply ay|apply al|refine ak rfl ?_|refine ah rfl ?_)|apply aa|apply aF|refine aU (by assumption) fz_ fz_ ?_
   refine aP hi2 ⟨fun q hq=>?_,?_⟩
   ·rw[hsn]at hq
    rcases List.mem_append.1 hq with hq|hq
    ·exact hn q hq
    ·simp at hq;subst hq;exact hpn
   ·rw[hsn,nZ]
    exact hh_
  ·rw[decide_eq_false hpn]at k2
   repeat' first|apply ad|(apply gw;first|(apply gq0;first|refine bj rfl ?_|refine aG rfl ?_)|refine aB rfl b_ pv_ ?_|(refine aA rfl rfl rfl ?_ ?_<;>(intro hc;try (exfalso;omega)))|refine aj rfl rfl hp (by omega) rfl ?_|refine aI rfl nt_ ?_|refine dp (b:=false) rfl ?_)|(apply gx;first|apply af|refine ae rfl ?_|apply ay|apply al|apply aJ|refine ak rfl ?_)|apply aa|apply cu|apply fT|apply ld|refine aU (by assumption) fz_ fz_ ?_|refine aH (v:=AV.bool _) rfl ?_
   rw[Am]
   exact fun h=>hpn (h.1 p.l hpm)
 ·rw[List.take_of_length_le (by omega)]at hn ⊢
  have k4:=BZ L L1 S (bi (cT P)) (by omega) false
  rw[nw]at k4
  obtain⟨s1,s2⟩:=y0 (dm P) hn
  rw[← l4]at s1 s2
  repeat' first|apply ad|(apply gw;first|(apply gq0;first|refine am rfl ?_|refine bj rfl ?_|refine aG rfl ?_)|(apply gq3;first|(refine aA rfl rfl rfl ?_ ?_<;>(intro hc;try (exfalso;omega)))|(refine cq rfl rfl rfl ?_ ?_<;>(intro hc;try (exfalso;omega))))|refine aI rfl nt_ ?_)|(apply gx;first|apply af|refine ae rfl ?_|apply aJ|apply aL|refine ah rfl ?_)|apply aa|apply aM|apply aN|apply aR|refine aU (by assumption) fz_ fz_ ?_|refine aH (v:=AV.bool _) rfl ?_
  ·rw[Al hn (s2.1 ‹_›)]
  ·rw[Am]
   exact fun h=>absurd (s2.2 h.2) ‹_›
theorem Jy {Φ:Lib}(L:cP Φ)(to:Int)(k:Nat)(id:Nat)(h:ac)(hr:h.get id=some (.cells 0 [.int .i64 k])) :
  a8 Φ 114 [.int .i64 to,.ptr id 0 0] h (fun v h'=>v = .bool (decide (to < -1)||decide ((k:Int)≤to))∧h.Ext h'):=by
 refine aY (fun _=>false) rfl L.f114 ?_
 repeat' first|apply ad|(apply gw;first|(apply gq0;first|refine am rfl ?_|refine bj rfl ?_)|(apply gq1;first|refine cr rfl ?_|refine bP rfl ?_)|refine ar rfl hg_ (by simp) b_ pv_ ?_|(apply gq3;first|(refine aA rfl rfl rfl ?_ ?_<;>(intro hc;try (exfalso;omega)))|(refine fp rfl rfl rfl ?_ ?_<;>(intro hc;try (exfalso;omega))))|(apply gq7;first|refine aZ rfl rfl ?_|refine bc rfl rfl ?_))|(apply gx;first|apply af|refine ae rfl ?_|apply aJ)|apply aa|refine aH (v:=AV.bool _) rfl ?_
 all_goals refine⟨?_,ac.Ext.refl _⟩
 all_goals simp[*]
 all_goals omega
structure Dfa.Fits (d:Dfa):Prop where
 cat:(cT d.parts.l).length≤524288
 parts:d.parts.l.length≤1048576
 next:d.next.l.length≤1048576
 rows:∀ r∈d.next.l,r.l.length≤1048576
 tags:d.tags.l.length≤1048576
noncomputable def AL (d:Dfa):Bool:=By d.plain.Ok
theorem yX {d:Dfa}(h:d.plain.Ok):AL d=true:=Bw h
theorem nX {d:Dfa}(h:¬ d.plain.Ok):AL d=false:=Bx h
theorem s9 {r:List Int}{k:Nat}:(r.any fun to=>decide (to < -1)||decide ((k:Int)≤to))=false↔∀ x∈r,x = -1∨In k x:=by
 rw[List.any_eq_false]
 constructor
 ·intro h x hx
  have:=h x hx
  simp only[Bool.or_eq_true,decide_eq_true_eq]at this
  unfold In;omega
 ·intro h x hx
  have:=h x hx
  unfold In at this
  simp only[Bool.or_eq_true,decide_eq_true_eq]
  omega
theorem Fn {Φ:Lib}(L:cP Φ)(L1:ii Φ)(S:fo Φ)(G:fV Φ)(d:Dfa)(hf:d.Fits):fg Φ 100 [.agg d.av] (.bool (AL d)):=by
 have hfp:=hf.parts
 have hfn:=hf.next
 have hft:=hf.tags
 have hap:=HH L L1 S G d.parts.l d.parts.fl (by omega) hf.cat
 have hpl:d.plain.p=d.parts.l.length:=by simp[Dfa.plain,dm,PD.p]
 have hnl:d.plain.n=d.tags.l.length:=by simp[Dfa.plain,PD.n]
 have hxl:d.plain.next.length=d.next.l.length:=by simp[Dfa.plain,cS]
 have hrow:∀ {i:Nat} {r:Rw Int},d.next.l[i]?=some r→r.l∈d.plain.next:=fun hr=>List.mem_map.2 ⟨_,List.mem_of_getElem? hr,rfl⟩
 refine aY (fun _=>false) rfl L.f100 ?_
 cases hA:yo (dm d.parts.l)
 all_goals rw[hA]at hap
 ·have hno:¬ d.plain.Ok:=fun h=>by
   have:=Al (P:=dm d.parts.l) h.norm h.apart
   rw[this]at hA;cases hA
  rw[nX hno]
  repeat' first|apply ad|(apply gw;first|refine bj rfl ?_|(apply gq1;first|refine cr rfl ?_|refine bP rfl ?_)|refine ar rfl hg_ (by simp) b_ pv_ ?_|(apply gq3;first|(refine cY rfl rfl rfl ?_ ?_<;>(intro hc;try (exfalso;omega)))|(refine cq rfl rfl rfl ?_ ?_<;>(intro hc;try (exfalso;omega)))|(refine fw rfl rfl rfl ?_ ?_<;>(intro hc;try (exfalso;omega))))|refine au rfl (Nat.zero_add _) ?_|refine az rfl ?_|(apply gq7;first|refine aZ rfl rfl ?_|refine bc rfl rfl ?_)|refine aI rfl nt_ ?_|(refine bZ ?_;intro id hid;try simp only[ac.set_none]at hid)|(refine iV (v:=AV.agg _) rfl rfl ?_;intro id hid;try simp only[ac.set_none]at hid)|refine cD (cs':=[AV.int _ _]) rfl rfl rfl rfl b_ rfl ?_|refine dp (b:=false) rfl ?_)|(apply gx;first|apply af|refine ae rfl ?_|apply aJ|refine ak rfl ?_)|apply aa|apply cu|refine aU (by assumption) fz_ fz_ ?_|refine aH (v:=AV.bool _) rfl ?_
  all_goals rfl
 ·have hA2:=uD.1 hA
  repeat' first|apply ad|(apply gw;first|(apply gq0;first|refine am rfl ?_|refine bj rfl ?_|refine aq (v:=AV.fn _ _) rfl ?_)|(apply gq1;first|refine cr rfl ?_|refine bP rfl ?_)|refine ar rfl hg_ (by simp) b_ pv_ ?_|(apply gq3;first|(refine cY rfl rfl rfl ?_ ?_<;>(intro hc;try (exfalso;omega)))|(refine cq rfl rfl rfl ?_ ?_<;>(intro hc;try (exfalso;omega)))|(refine fw rfl rfl rfl ?_ ?_<;>(intro hc;try (exfalso;omega))))|refine au rfl (Nat.zero_add _) ?_|refine az rfl ?_|(apply gq7;first|refine aZ rfl rfl ?_|refine bc rfl rfl ?_)|refine aI rfl nt_ ?_|(refine bZ ?_;intro id hid;try simp only[ac.set_none]at hid)|(refine iV (v:=AV.agg _) rfl rfl ?_;intro id hid;try simp only[ac.set_none]at hid)|refine cD (cs':=[AV.int _ _]) rfl rfl rfl rfl b_ rfl ?_|refine dp (b:=true) rfl ?_|refine qu (vs:=[AV.ptr _ _ _]) rfl rfl ?_)|(apply gx;first|apply af|refine ae rfl ?_|apply ay|apply al|apply aJ|refine ak rfl ?_|refine ah rfl ?_)|apply aa|apply cu|refine aU (by assumption) fz_ fz_ ?_|refine aH (v:=AV.bool _) rfl ?_
  all_goals first
   | (rw[nX (fun h=>by have:=h.p1;have:=h.n1;have:=h.n2;have:=h.nl;omega)];done)
   | skip
  rename_i ib hib _ _ _
  refine bG d.next.l.length (fun i env h'=>(∀ r∈d.next.l.take i,r.l.length=d.parts.l.length∧∀ x∈r.l,x = -1∨In d.tags.l.length x)∧(∀ t∈d.tags.l.take i,-1≤t)∧h'.get ib=some (.cells 0 d.av)∧h'.get id=some (.cells 0 [.int .i64 d.tags.l.length])∧env.has [(1,.ptr ib 0 0),(4,.fn 114 [.ptr id 0 0]),(37,d.next.mv Rw.iv),(38,.int .i64 d.next.l.length),(39,.int .i64 i)]) ⟨by simp,by simp,hg_,hg_,hh_⟩ ?_
  rintro i env h' hi ⟨hrs,hts,hb1,hb2,he⟩
  obtain⟨env,rfl⟩:=he.ex
  clear he
  by_cases hi2:i<d.next.l.length
  ·obtain⟨r,hr⟩:=aK hi2
   obtain⟨t,ht⟩:=aK (l:=d.tags.l) (show i<d.tags.l.length by omega)
   have hrl:=hf.rows r (List.mem_of_getElem? hr)
   have hrm:=hrow hr
   have htm:t∈d.plain.tags:=List.mem_of_getElem? ht
   repeat' first|apply ad|(apply gw;first|(apply gq0;first|refine am rfl ?_|refine bj rfl ?_|refine aG rfl ?_|refine aq (v:=AV.fn _ _) rfl ?_)|(apply gq1;first|refine cr rfl ?_|refine bP rfl ?_)|(apply gq2;first|refine aB rfl b_ pv_ ?_|refine ar rfl hg_ (by simp) b_ pv_ ?_)|(apply gq3;first|(refine aA rfl rfl rfl ?_ ?_<;>(intro hc;try (exfalso;omega)))|(refine fw rfl rfl rfl ?_ ?_<;>(intro hc;try (exfalso;omega))))|refine au rfl (Nat.zero_add _) ?_|(apply gq5;first|refine aj rfl rfl hr (by omega) rfl ?_|refine aj rfl rfl ht (by omega) rfl ?_)|refine az rfl ?_|(apply gq7;first|refine aZ rfl rfl ?_|refine bc rfl rfl ?_)|refine aI rfl nt_ ?_)|(apply gx;first|apply af|refine ae rfl ?_|apply ay|apply al|apply aJ|refine ak rfl ?_)|apply aa|apply cu|apply fT|apply ld|refine aH (v:=AV.bool _) rfl ?_
   all_goals first
    | (rw[nX (fun h=>by have h1:=(h.rows _ hrm).1;have h2:=h.tags _ htm;rw[hpl]at h1;omega)];done)
    | skip
   refine cd (m7 L1 r.l r.fl 114 [.ptr id 0 0] _ h' (by omega) fun x _=>Jy L x d.tags.l.length id h' hb2) ?_
   rintro _ h2 ⟨rfl,rfl⟩
   cases ho:(r.l.any fun to=>decide (to < -1)||decide ((d.tags.l.length:Int)≤to))
   ·repeat' first|apply ad|(apply gw;first|refine am rfl ?_|refine aQ rfl rfl rfl (by omega) (by omega) ?_|refine bc rfl rfl ?_)|(apply gx;first|refine ae rfl ?_|apply ay|refine ah rfl ?_)|apply aa|apply aF
    refine aP hi2 ⟨fun q hq=>?_,fun q hq=>?_,hb1,hb2,hh_⟩
    ·rw[aS hr]at hq
     rcases List.mem_append.1 hq with hq|hq
     ·exact hrs q hq
     ·simp at hq;subst hq
      exact⟨by omega,s9.1 ho⟩
    ·rw[aS ht]at hq
     rcases List.mem_append.1 hq with hq|hq
     ·exact hts q hq
     ·simp at hq;subst hq
      omega
   ·repeat' first|apply ad|(apply gw;first|refine bj rfl ?_|refine bc rfl rfl ?_)|(apply gx;first|apply af|refine ae rfl ?_|apply aJ|refine ak rfl ?_)|apply aa|apply cu|apply fT|apply ld|refine aH (v:=AV.bool _) rfl ?_
    rw[nX]
    intro h
    have h1:=s9.2 (h.rows _ hrm).2
    rw[hnl,ho]at h1
    cases h1
  ·rw[List.take_of_length_le (by omega)]at hrs
   rw[List.take_of_length_le (by omega)]at hts
   repeat' first|apply ad|(apply gw;first|refine bj rfl ?_|(refine aA rfl rfl rfl ?_ ?_<;>(intro hc;try (exfalso;omega))))|(apply gx;first|apply af|refine ae rfl ?_|apply aJ|apply aL|refine ah rfl ?_)|apply aa|apply aM|apply aN|apply aR|refine aH (v:=AV.bool _) rfl ?_
   rw[yX]
   refine⟨by omega,by omega,by omega,by omega,hA2.1,hA2.2,fun r hr=>?_,hts⟩
   obtain⟨q,hq,rfl⟩:=List.mem_map.1 hr
   rw[hpl,hnl]
   exact hrs q hq
end
end Go.Proofs.YtlnobeojgifojaaGreatDoor
