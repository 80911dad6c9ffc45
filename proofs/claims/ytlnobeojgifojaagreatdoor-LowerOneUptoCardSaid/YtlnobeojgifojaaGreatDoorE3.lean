/- Rows of rows that grow. slices.Concat, set.Union, set.Size. dfa.Sound. -/
import Derived.Test.YtlnobeojgifojaaGreatDoorE2
import Derived.Test.YtlnobeojgifojaaGreatDoorB2
import Derived.Test.YtlnobeojgifojaaGreatDoorA7
import Derived.Test.YtlnobeojgifojaaGreatDoorP2
set_option linter.unusedVariables false
set_option linter.unusedSimpArgs false
namespace Go.Proofs.YtlnobeojgifojaaGreatDoor
section
open Go
structure dN (h:aa)(id:Nat)(ws:List AV)(rows:List (List AV)):Prop where
 at_:h.get id=some (.cells 1 ws)
 fam:Fam h ws (rows.map fun r=>(1,r.length,r))
 apart:∀ w∈ws,∀ k,w.rowId=some k→k≠id
def eX (id:Nat)(ws:List AV)(k:Nat):Prop:=k=id∨∃ w∈ws,w.rowId=some k
theorem dN.len {h:aa}{id:Nat}{ws:List AV}{rows:List (List AV)}(hG:dN h id ws rows):ws.length=rows.length:=by
 have:=hG.fam.len
 simpa using this
theorem dN.there {h:aa}{id:Nat}{ws:List AV}{rows:List (List AV)}(hG:dN h id ws rows){k:Nat}(hk:eX id ws k):h.get k≠none:=by
 rcases hk with rfl|⟨w,hw,hk⟩
 ·rw[hG.at_];simp
 ·exact hG.fam.there hw hk
theorem dN.keep {h h':aa}{id:Nat}{ws:List AV}{rows:List (List AV)}(hG:dN h id ws rows)(hk:∀ k,eX id ws k→h'.get k=h.get k):dN h' id ws rows :=
 ⟨(hk id (.inl rfl)).trans hG.at_,hG.fam.keep fun w hw k hid=>hk k (.inr ⟨w,hw,hid⟩),hG.apart⟩
theorem dN.row {h:aa}{id:Nat}{ws:List AV}{rows:List (List AV)}(hG:dN h id ws rows){j:Nat}{w:AV}{r:List AV}(hw:ws[j]?=some w)(hr:rows[j]?=some r):aA h w 1 r.length r :=
 hG.fam.row j w _ hw (by rw[List.getElem?_map,hr];rfl)
theorem gW (n:Nat)(v:AV):(List.replicate n [v]).flatten=List.replicate n v:=by
 induction n with
 | zero=>rfl
 | succ n ih=>rw[List.replicate_succ,List.flatten_cons,ih,List.replicate_succ];rfl
theorem dN.begin {h:aa}{id n:Nat}(hg:h.get id=some (.cells 1 (List.replicate n (.rd 0 [] true)))):dN h id (List.replicate n (.rd 0 [] true)) (List.replicate n []):=by
 have hf:=Fam.nils h (List.replicate n 1)
 rw[List.length_replicate]at hf
 refine⟨hg,?_,fun w hw k hk=>?_⟩
 ·have e:(List.replicate n ([]:List AV)).map (fun r=>((1:Nat),r.length,r))=(List.replicate n 1).map fun e=>(e,0,([]:List AV)):=by simp
  rw[e];exact hf
 ·rw[List.mem_replicate]at hw
  rw[hw.2]at hk;cases hk
theorem dN.put {h hpa:aa}{id:Nat}{ws:List AV}{rows:List (List AV)}(hG:dN h id ws rows){j:Nat}{w va:AV}{r:List AV}(hw:ws[j]?=some w)
  (hrow:aA hpa va 1 r.length r) (hka:∀ k,h.get k≠none→w.rowId≠some k→hpa.get k=h.get k) (hria:∀ k,va.rowId=some k→w.rowId=some k∨h.get k=none) :
  dN (hpa.set id (.cells 1 (ws.set j va))) id (ws.set j va) (rows.set j r)∧(∀ k,eX id (ws.set j va) k→eX id ws k∨h.get k=none):=by
 have hwm:=List.mem_of_getElem? hw
 have hF:=hG.fam.upd (j:=j) (w:=w) (v':=va) (d':=(1,r.length,r)) hw hrow hka hria
 have e1:(rows.map fun r=>((1:Nat),r.length,r)).set j (1,r.length,r)=(rows.set j r).map fun r=>((1:Nat),r.length,r):=by rw[List.map_set]
 rw[e1]at hF
 have hap:∀ x∈ws.set j va,∀ k,x.rowId=some k→k≠id:=fun x hx k hk=>by
  rcases List.mem_or_eq_of_mem_set hx with hx|rfl
  ·exact hG.apart x hx k hk
  ·rcases hria k hk with h1|h1
   ·exact hG.apart w hwm k h1
   ·rintro rfl
    rw[hG.at_]at h1;cases h1
 refine⟨⟨aa.get_set_self _ _ _,hF.keep fun x hx k hk=>aa.get_set_ne _ _ (hap x hx k hk),hap⟩,fun k hk=>?_⟩
 rcases hk with rfl|⟨x,hx,hk⟩
 ·exact .inl (.inl rfl)
 ·rcases List.mem_or_eq_of_mem_set hx with hx|rfl
  ·exact .inl (.inr ⟨x,hx,hk⟩)
  ·rcases hria k hk with h1|h1
   ·exact .inl (.inr ⟨w,hwm,h1⟩)
   ·exact .inr h1
theorem Fam.fz2 {h:aa}{S:Nat→Prop}:∀ {ws:List AV} {ds:List (Nat×Nat×List AV)},ws.length=ds.length→(∀ (j:Nat) w d,ws[j]?=some w→ds[j]?=some d→aA h w d.1 d.2.1 d.2.2)→(∀ w∈ws,∀ id,w.rowId=some id→S id)→FzL h S ws (ds.map fun d => .rd d.2.1 d.2.2 false)
 | [],[],_,_,_ => .nil
 | w::ws,d::ds,hl,hr,hS => .cons ((hr 0 w d rfl rfl).fz S (fun id hid=>hS w HU id hid) (FzL.same _)) (Fam.fz2 (by simpa using hl) (fun j w d hw hd=>hr (j+1) w d hw hd) fun x hx=>hS x (by simp[hx]))
theorem dN.fz {h:aa}{id:Nat}{ws:List AV}{rows:List (List AV)}(hG:dN h id ws rows){S:Nat→Prop}(hS:∀ k,eX id ws k→S k){lim:Option Nat}:FzV h S (.own id 1 1 0 rows.length lim) (.rd rows.length (rows.map fun r => .rd r.length r false) false):=by
 have hl:=hG.len
 refine .own (hS id (.inl rfl)) hG.at_ HT ?_
 rw[Nat.zero_mul,List.drop_zero,List.take_of_length_le HT]
 have:=Fam.fz2 (h:=h) (S:=S) (ws:=ws) (ds:=rows.map fun r=>(1,r.length,r)) (by simpa using hl) (fun j w d hw hd=>hG.fam.row j w d hw hd) fun w hw k hk=>hS k (.inr ⟨w,hw,hk⟩)
 rw[List.map_map]at this
 exact this
theorem ya {Φ:Lib}{Z:Option Nat→Bool}{l:List bA}{K:Ex→Env→aa→Prop}{env:Env}{h:aa}(t:Nat){id:Nat}{ws:List AV}{rows:List (List AV)}(hz:Z (lG l)=true)(ht:env t = .own id 1 1 0 rows.length none)(hG:dN h id ws rows)
  (k:∀ h',(∀ j,¬ eX id ws j→h'.get j=h.get j)→aj (aU Φ) l (K .norm) (env.put t (.rd rows.length (rows.map fun r => .rd r.length r false) false)) h'):bc (aU Φ) Z (.ops l) K env h:=by
 rw[m5,if_pos hz]
 refine .inr ⟨eX id ws,env.put t (.rd rows.length (rows.map fun r => .rd r.length r false) false),fun i=>?_,k _ fun j hj=>?_⟩
 ·by_cases hi:i=t
  ·subst hi
   rw[ht,Env.put_apply,if_pos rfl]
   exact hG.fz fun _ h=>h
  ·rw[Env.put_apply,if_neg hi]
   exact .same _
 ·simp only[aa.drop,hj,if_false]
end
section
open Go
set_option maxHeartbeats 4000000
attribute [local irreducible] aj bc bj dn bz cn dz bL wop cq aU
structure fq (Φ:Lib):Prop where
 spans:Φ 128=some (.ext (o8 2))
theorem Fy {Φ:Lib}(G:fq Φ){h:aa}{n:Nat}(hn:n≤268435456):aU Φ 128 [.rd 0 [] true,.int .i64 n] h (fun v h'=>aA h' v 2 0 []∧(∀ k,h.get k≠none→h'.get k=h.get k)∧∀ k,v.rowId=some k→h.get k=none):=by
 refine aU.ext rfl G.spans ⟨by omega,by omega,fun _=>⟨aA.nil _ _,fun _ _=>rfl,fun k hk=>by cases hk⟩,fun _ id hid=>⟨.inr ⟨id,1,rfl,aa.get_set_self _ _ _,Nat.le_refl _,rfl⟩,fun k hk=>aa.get_set_ne _ _ (fun e=>hk (e ▸ hid)),fun k hk=>by cases hk;exact hid⟩⟩
def dA (P:List (Rw am)):List am:=P.flatMap (·.l)
theorem ij (P:List (Rw am))(i:Nat):(dA (P.take i)).length≤(dA P).length:=by
 have:dA P=dA (P.take i)++dA (P.drop i):=by
  unfold dA
  rw[← List.flatMap_append,List.take_append_drop]
 rw[this,List.length_append]
 omega
theorem iU {P:List (Rw am)}{i:Nat}{p:Rw am}(h:P[i]?=some p):dA (P.take (i+1))=dA (P.take i)++p.l:=by
 unfold dA
 rw[aX h,List.flatMap_append]
 simp
theorem Cs {Φ:Lib}(L:cZ Φ)(G:fq Φ)(P:List (Rw am))(f:Bool)(hl:P.length≤134217728)(hb:(dA P).length≤134217728):ia Φ 125 [.rd P.length (P.map Rw.sv) f] (.rd (dA P).length ((dA P).flatMap am.av) false):=by
 refine bb (fun o=>o == some 31) rfl L.f125 ?_
 repeat' first|apply ad|(apply gw;first|(apply gq0;first|refine aw rfl ?_|refine bm rfl ?_)|refine aD rfl ?_)|(apply gx;first|apply af|refine ae rfl ?_|apply au)|apply ac
 refine cl P.length (fun i env h'=>env.has [(0,.rd P.length (P.map Rw.sv) f),(3,.int .i64 (dA (P.take i)).length),(9,.rd P.length (P.map Rw.sv) f),(10,.int .i64 P.length),(11,.int .i64 i)]) hh_ ?_
 rintro i env h' hi he
 obtain⟨env,rfl⟩:=he.ex
 clear he
 have hle:=ij P i
 by_cases hi2:i<P.length
 ·obtain⟨p,hp⟩:=aK hi2
  have hsn:=iU hp
  have hle2:=ij P (i+1)
  have hl2:(dA (P.take (i+1))).length=(dA (P.take i)).length+p.l.length:=by rw[hsn,List.length_append]
  repeat' first|apply ad|(apply gw;first|(apply gq0;first|refine aw rfl ?_|refine bm rfl ?_)|refine aI rfl b_ pv_ ?_|(apply gq3;first|refine a8 rfl rfl rfl HT HT ?_|(refine aB rfl rfl rfl ?_ ?_<;>(intro hc;try omega)))|refine ar rfl rfl hp HT rfl ?_|refine aD rfl ?_)|(apply gx;first|apply af|refine ae rfl ?_|apply ay|apply au|refine al rfl ?_|refine ah rfl ?_)|apply ac|apply aJ
  refine aW hi2 ?_
  rw[hl2]
  exact hh_
 ·rw[List.take_of_length_le HT]
  repeat' first|apply ad|(apply gw;first|refine aw rfl ?_|(refine aB rfl rfl rfl ?_ ?_<;>(intro hc;try omega))|refine aL rfl nt_ ?_)|(apply gx;first|apply af|refine ae rfl ?_|apply aP|refine ah rfl ?_)|apply ac|apply aQ|apply aR|apply ba
  refine bS (Fy G HT) ?_
  rintro v h2 ⟨hv,_,_⟩
  have hnt:=hv.notTup
  repeat' first|apply ad|(apply gw;first|(apply gq0;first|refine aw rfl ?_|refine bm rfl ?_|refine ai rv_ ?_)|refine aD rfl ?_)|(apply gx;first|apply af|refine ae rfl ?_|apply au)|apply ac
  refine cl P.length (fun i env h'=>∃ v,aA h' v 2 (dA (P.take i)).length ((dA (P.take i)).flatMap am.av)∧env.has [(6,v),(25,.rd P.length (P.map Rw.sv) f),(26,.int .i64 P.length),(27,.int .i64 i)]) ⟨v,hv,hh_⟩ ?_
  clear hv hnt
  rintro i env h' hi ⟨v,hv,he⟩
  obtain⟨env,rfl⟩:=he.ex
  clear he
  have hnt:=hv.notTup
  have hle:=ij P i
  by_cases hi2:i<P.length
  ·obtain⟨p,hp⟩:=aK hi2
   have hsn:=iU hp
   have hle2:=ij P (i+1)
   have hl2:(dA (P.take (i+1))).length=(dA (P.take i)).length+p.l.length:=by rw[hsn,List.length_append]
   repeat' first|apply ad|(apply gw;first|refine bm rfl ?_|refine aI rfl b_ pv_ ?_|(refine aB rfl rfl rfl ?_ ?_<;>(intro hc;try omega))|refine ar rfl rfl hp HT rfl ?_)|(apply gx;first|apply af|refine ae rfl ?_|apply ay|apply au|refine al rfl ?_)|apply ac
   refine m9 rfl ?_
   refine ai (v:=v) rfl ?_
   refine ai (v:=p.sv) rfl ?_
   refine br (v:=v) rfl hv rfl (iS am.av 2 am.av_length _) HT ?_
   intro va h3 hra hka hria
   repeat' first|apply ad|(apply gw;first|(apply gq0;first|refine aw rfl ?_|refine ai rv_ ?_)|refine a8 rfl rfl rfl HT HT ?_)|refine ae rfl ?_|apply ac|apply aJ
   refine aW hi2 ⟨va,?_,hh_⟩
   rw[hl2,hsn,List.flatMap_append]
   exact hra
  ·rw[List.take_of_length_le HT]at hv
   repeat' first|apply ad|(apply gw;first|refine ai rv_ ?_|(refine aB rfl rfl rfl ?_ ?_<;>(intro hc;try omega)))|(apply gx;first|apply af|refine ae rfl ?_|apply aM|apply aP|refine ah rfl ?_)|apply ac|apply aQ|apply aR|apply ba
   exact iF rfl hv (fun _=>rfl)
theorem wo {Φ:Lib}(L:cZ Φ)(L1:gC Φ)(S:eG Φ)(G:fq Φ)(P:List (Rw am))(f:Bool)(hl:P.length≤134217728)(hb:(dA P).length≤1048576):ia Φ 119 [.rd P.length (P.map Rw.sv) f] (.rd (aZ (dA P)).length ((aZ (dA P)).flatMap am.av) false):=by
 have h1:=Cs L G P f hl HT
 have h2:=qF L1 S (dA P) hb false
 refine bb (fun _=>false) rfl L.f119 ?_
 repeat' first|apply ad|(apply gw;first|refine bm rfl ?_|refine aL rfl nt_ ?_)|(apply gx;first|apply af|refine ae rfl ?_|apply aM)|apply ac|refine bu (by assumption) fz_ fz_ ?_|refine aH (v:=AV.rd _ _ _) rfl ?_
 rfl
theorem mG {l:List am}{s:am}(hs:s∈aZ l):0≤s.lo∧s.lo≤s.hi∧s.hi≤1114111:=by
 obtain⟨b1,b2⟩:=jb l
 have h1:=b1.2 s hs
 have h2:=(b2 s.hi).1 ⟨s,hs,h1,Int.le_refl _⟩
 have h3:=(b2 s.lo).1 ⟨s,hs,Int.le_refl _,h1⟩
 simp only[yT,Bool.and_eq_true]at h2 h3
 have:=er.1 h2.1
 have:=er.1 h3.1
 omega
theorem mw {l:List am}(h:∀ s∈l,0≤s.lo∧s.lo≤s.hi∧s.hi≤1114111):0≤fK l∧fK l≤l.length*1114112:=by
 refine mt (P:=fun l=>(∀ s∈l,0≤s.lo∧s.lo≤s.hi∧s.hi≤1114111)→0≤fK l∧fK l≤l.length*1114112) ?_ ?_ l h
 ·intro _;simp[fK]
 ·intro l s ih h
  have h1:=ih fun x hx=>h x (by simp[hx])
  have h2:=h s HU
  rw[rr,List.length_append]
  simp only[List.length_cons,List.length_nil]
  omega
theorem zv {Φ:Lib}(L:cZ Φ)(L1:gC Φ)(S:eG Φ)(l:List am)(hl:l.length≤1048576)(fl:Bool):ia Φ 122 [.rd l.length (l.flatMap am.av) fl] (.int .i64 (fK (aZ l))):=by
 have h1:=qF L1 S l hl fl
 have hlen:=lX l
 have hr:=fun s hs=>mG (l:=l) (s:=s) hs
 refine bb (fun _=>false) rfl L.f122 ?_
 repeat' first|apply ad|(apply gw;first|(apply gq0;first|refine aw rfl ?_|refine bm rfl ?_)|refine aD rfl ?_|refine aL rfl nt_ ?_)|(apply gx;first|apply af|refine ae rfl ?_|apply au)|apply ac|refine bu (by assumption) fz_ fz_ ?_
 generalize aZ l=m at hlen hr
 refine cl m.length (fun i env h'=>env.has [(3,.int .i64 (fK (m.take i))),(7,.rd m.length (m.flatMap am.av) false),(8,.int .i64 m.length),(9,.int .i64 i)]) hh_ ?_
 rintro i env h' hi he
 obtain⟨env,rfl⟩:=he.ex
 clear he
 have hsz:=mw (l:=m.take i) fun s hs=>hr s (List.mem_of_mem_take hs)
 rw[List.length_take]at hsz
 by_cases hi2:i<m.length
 ·obtain⟨s,hs⟩:=aK hi2
  have hsr:=hr s (List.mem_of_getElem? hs)
  repeat' first|apply ad|(apply gw;first|refine aw rfl ?_|(apply gq2;first|refine iH rfl (by first|rfl|(simp[*];done)|fail) ?_|refine ak rfl hg_ HU b_ pv_ ?_)|(apply gq3;first|refine a8 rfl rfl rfl HT HT ?_|refine iq rfl rfl rfl HT HT ?_|(refine aB rfl rfl rfl ?_ ?_<;>(intro hc;try omega)))|refine aq rfl (Nat.zero_add _) ?_|refine fR rfl fl_ rfl hs HT rfl ?_|(refine cd ?_;intro id hid;try simp only[aa.set_none]at hid)|refine cy (cs':=[AV.int _ _,AV.int _ _]) rfl rfl rfl rfl b_ rfl ?_)|(apply gx;first|apply af|refine ae rfl ?_|apply ay|apply au|refine al rfl ?_)|apply ac|apply aJ
  refine aW hi2 ?_
  rw[aX hs,rr]
  exact hh_
 ·rw[List.take_of_length_le HT]
  repeat' first|apply ad|(apply gw;first|refine aw rfl ?_|(refine aB rfl rfl rfl ?_ ?_<;>(intro hc;try omega)))|(apply gx;first|apply af|refine ae rfl ?_|apply aM|apply aP|refine ah rfl ?_)|apply ac|apply aQ|apply aR|apply ba|refine aH (v:=AV.int _ _) rfl ?_
  rfl
end
section
open Go
set_option maxHeartbeats 4000000
attribute [local irreducible] aj bc bj dn bz cn dz bL wop cq aU
def dF (P:List (Rw am)):List (List am):=P.map (·.l)
def cR (P:List (Rw Int)):List (List Int):=P.map (·.l)
def Dfa.plain (d:Dfa):PD:=⟨dF d.parts.l,cR d.next.l,d.tags.l⟩
theorem l6 (P:List (Rw am)):dA P=fh (dF P):=by
 unfold dA fh dF
 rw[List.flatMap_map]
 rfl
noncomputable def zc (p:Prop):Bool:=@decide p (Classical.propDecidable p)
theorem sn {p:Prop}:zc p=true↔p:=by unfold zc;exact @decide_eq_true_iff p (Classical.propDecidable p)
theorem za {p:Prop}(h:p):zc p=true:=sn.2 h
theorem zb {p:Prop}(h:¬ p):zc p=false:=by
 rw[Bool.eq_false_iff]
 exact fun e=>h (sn.1 e)
noncomputable def vY (P:List (List am)):Bool:=zc ((∀ p∈P,aZ p=p)∧oz P)
theorem xN {P:List (List am)}(h:∀ p∈P,aZ p=p)(h2:oz P):vY P=true:=za ⟨h,h2⟩
theorem xO {P:List (List am)}(h:¬ ((∀ p∈P,aZ p=p)∧oz P)):vY P=false:=zb h
theorem nz {P:List (Rw am)}{i:Nat}{p:Rw am}(h:P[i]?=some p):p.l.length≤(dA P).length:=by
 have h1:=iU h
 have h2:=ij P (i+1)
 rw[h1,List.length_append]at h2
 omega
theorem uW {P:List (List am)}(h:∀ p∈P,aZ p=p)(hn:∀ p∈P,p.length≤1048576):0≤jr P∧jr P≤P.length*1168231104512:=by
 refine mt (P:=fun P=>(∀ p∈P,aZ p=p)→(∀ p∈P,p.length≤1048576)→0≤jr P∧jr P≤P.length*1168231104512) ?_ ?_ P h hn
 ·intro _ _;simp[jr]
 ·intro P p ih h hn
  have h1:=ih (fun x hx=>h x (by simp[hx])) fun x hx=>hn x (by simp[hx])
  have h2:=hn p HU
  have h3:=mw (l:=p) fun s hs=>by
   rw[← h p HU]at hs
   exact mG hs
  rw[mu,List.length_append]
  simp only[List.length_cons,List.length_nil]
  omega
theorem EF {Φ:Lib}(L:cZ Φ)(L1:gC Φ)(S:eG Φ)(G:fq Φ)(P:List (Rw am))(f:Bool)(hl:P.length≤1048576)(hb:(dA P).length≤524288):ia Φ 113 [.rd P.length (P.map Rw.sv) f] (.bool (vY (dF P))):=by
 have hu:=wo L L1 S G P f HT HT
 have hul:=lX (dA P)
 refine bb (fun _=>false) rfl L.f113 ?_
 repeat' first|apply ad|(apply gw;first|(apply gq0;first|refine aw rfl ?_|refine bV rfl ?_|refine bm rfl ?_)|refine aD rfl ?_)|(apply gx;first|apply af|refine ae rfl ?_|apply au)|apply ac
 refine cl P.length (fun i env h'=>(∀ p∈dF (P.take i),aZ p=p)∧env.has [(0,.rd P.length (P.map Rw.sv) f),(3,.int .i64 (jr (dF (P.take i)))),(6,.rd P.length (P.map Rw.sv) f),(7,.int .i64 P.length),(8,.int .i64 i)]) ⟨by simp[dF],hh_⟩ ?_
 rintro i env h' hi ⟨hn,he⟩
 obtain⟨env,rfl⟩:=he.ex
 clear he
 have hsz:=uW hn fun p hp=>by
  obtain⟨q,hq,rfl⟩:=List.mem_map.1 hp
  obtain⟨j,hj,rfl⟩:=List.getElem_of_mem (List.mem_of_mem_take hq)
  exact Nat.le_trans (nz (List.getElem?_eq_getElem hj)) HT
 rw[show(dF (P.take i)).length=min i P.length by simp[dF]]at hsz
 by_cases hi2:i<P.length
 ·obtain⟨p,hp⟩:=aK hi2
  have hpl:=nz hp
  have k1:=qF L1 S p.l HT p.fl
  have k2:=D4 L1 (aZ p.l) p.l false p.fl (by have:=lX p.l;omega)
  have k3:=zv L L1 S p.l HT p.fl
  have hsn:dF (P.take (i+1))=dF (P.take i)++[p.l]:=by rw[aX hp];simp[dF]
  have hpm:p.l∈dF P:=List.mem_map.2 ⟨p,List.mem_of_getElem? hp,rfl⟩
  by_cases hpn:aZ p.l=p.l
  ·have hz:fK (aZ p.l)=fK p.l:=by rw[hpn]
   rw[decide_eq_true hpn]at k2
   rw[hz]at k3
   have hsz2:=mw (l:=p.l) fun s hs=>by
    rw[← hpn]at hs
    exact mG hs
   repeat' first|apply ad|(apply gw;first|(apply gq0;first|refine aw rfl ?_|refine bm rfl ?_)|refine aI rfl b_ pv_ ?_|(apply gq3;first|refine a8 rfl rfl rfl HT HT ?_|(refine aB rfl rfl rfl ?_ ?_<;>(intro hc;try omega)))|refine ar rfl rfl hp HT rfl ?_|refine aL rfl nt_ ?_|refine dm (b:=true) rfl ?_)|(apply gx;first|apply af|refine ae rfl ?_|apply ay|apply au|refine al rfl ?_|refine ah rfl ?_)|apply ac|apply aJ|refine bu (by assumption) fz_ fz_ ?_
   refine aW hi2 ⟨fun q hq=>?_,?_⟩
   ·rw[hsn]at hq
    rcases List.mem_append.1 hq with hq|hq
    ·exact hn q hq
    ·simp at hq;subst hq;exact hpn
   ·rw[hsn,mu]
    exact hh_
  ·rw[decide_eq_false hpn]at k2
   repeat' first|apply ad|(apply gw;first|(apply gq0;first|refine bV rfl ?_|refine bm rfl ?_)|refine aI rfl b_ pv_ ?_|(refine aB rfl rfl rfl ?_ ?_<;>(intro hc;try omega))|refine ar rfl rfl hp HT rfl ?_|refine aL rfl nt_ ?_|refine dm (b:=false) rfl ?_)|(apply gx;first|apply af|refine ae rfl ?_|apply ay|apply au|apply aM|refine al rfl ?_)|apply ac|apply cz|apply jB|apply kD|refine bu (by assumption) fz_ fz_ ?_|refine aH (v:=AV.bool _) rfl ?_
   rw[xO]
   exact fun h=>hpn (h.1 p.l hpm)
 ·rw[List.take_of_length_le HT]at hn ⊢
  have k4:=zv L L1 S (aZ (dA P)) HT false
  rw[lW]at k4
  obtain⟨s1,s2⟩:=wG (dF P) hn
  rw[← l6]at s1 s2
  repeat' first|apply ad|(apply gw;first|(apply gq0;first|refine aw rfl ?_|refine bV rfl ?_|refine bm rfl ?_)|(apply gq3;first|((first|refine aB rfl rfl rfl ?_ ?_|refine dD rfl rfl rfl ?_ ?_)<;>(intro hc;try omega)))|refine aL rfl nt_ ?_)|(apply gx;first|apply af|refine ae rfl ?_|apply aM|apply aP|refine ah rfl ?_)|apply ac|apply aQ|apply aR|apply ba|refine bu (by assumption) fz_ fz_ ?_|refine aH (v:=AV.bool _) rfl ?_
  ·rw[xN hn (s2.1 ‹_›)]
  ·rw[xO]
   exact fun h=>absurd (s2.2 h.2) ‹_›
theorem Gm {Φ:Lib}(L:cZ Φ)(to:Int)(k:Nat)(id:Nat)(h:aa)(hr:h.get id=some (.cells 0 [.int .i64 k])) :
  aU Φ 114 [.int .i64 to,.ptr id 0 0] h (fun v h'=>v = .bool (decide (to < -1)||decide ((k:Int)≤to))∧h.Ext h'):=by
 refine bb (fun _=>false) rfl L.f114 ?_
 repeat' first|apply ad|(apply gw;first|(apply gq0;first|refine aw rfl ?_|refine bV rfl ?_)|(apply gq1;first|refine cI rfl ?_|refine cD rfl ?_)|refine ak rfl hg_ HU b_ pv_ ?_|(apply gq3;first|((first|refine aB rfl rfl rfl ?_ ?_|refine jq rfl rfl rfl ?_ ?_)<;>(intro hc;try omega)))|(apply gq7;first|refine bU rfl rfl ?_|refine bh rfl rfl ?_))|(apply gx;first|apply af|refine ae rfl ?_|apply aM)|apply ac|refine aH (v:=AV.bool _) rfl ?_
 all_goals refine⟨?_,aa.Ext.refl _⟩
 all_goals simp[*]
 all_goals omega
structure Dfa.Fits (d:Dfa):Prop where
 cat:(dA d.parts.l).length≤524288
 parts:d.parts.l.length≤1048576
 next:d.next.l.length≤1048576
 rows:∀ r∈d.next.l,r.l.length≤1048576
 tags:d.tags.l.length≤1048576
noncomputable def yl (d:Dfa):Bool:=zc d.plain.Ok
theorem wE {d:Dfa}(h:d.plain.Ok):yl d=true:=za h
theorem mr {d:Dfa}(h:¬ d.plain.Ok):yl d=false:=zb h
theorem qM {r:List Int}{k:Nat}:(r.any fun to=>decide (to < -1)||decide ((k:Int)≤to))=false↔∀ x∈r,x = -1∨In k x:=by
 rw[List.any_eq_false]
 constructor
 ·intro h x hx
  have:=h x hx
  simp only[Bool.or_eq_true,decide_eq_true_eq]at this
  unfold In;omega
 ·intro h x hx
  have:=h x hx
  unfold In at this
  simp only[Bool.or_eq_true,decide_eq_true_eq]
  omega
theorem Cq {Φ:Lib}(L:cZ Φ)(L1:gC Φ)(S:eG Φ)(G:fq Φ)(d:Dfa)(hf:d.Fits):ia Φ 100 [.agg d.av] (.bool (yl d)):=by
 have hfp:=hf.parts
 have hfn:=hf.next
 have hft:=hf.tags
 have hap:=EF L L1 S G d.parts.l d.parts.fl HT hf.cat
 have hpl:d.plain.p=d.parts.l.length:=by simp[Dfa.plain,dF,PD.p]
 have hnl:d.plain.n=d.tags.l.length:=by simp[Dfa.plain,PD.n]
 have hxl:d.plain.next.length=d.next.l.length:=by simp[Dfa.plain,cR]
 have hrow:∀ {i:Nat} {r:Rw Int},d.next.l[i]?=some r→r.l∈d.plain.next:=fun hr=>List.mem_map.2 ⟨_,List.mem_of_getElem? hr,rfl⟩
 refine bb (fun _=>false) rfl L.f100 ?_
 cases hA:vY (dF d.parts.l)
 all_goals rw[hA]at hap
 ·have hno:¬ d.plain.Ok:=fun h=>by
   have:=xN (P:=dF d.parts.l) h.norm h.apart
   rw[this]at hA;cases hA
  rw[mr hno]
  repeat' first|apply ad|(apply gw;first|refine bV rfl ?_|(apply gq1;first|refine cI rfl ?_|refine cD rfl ?_)|refine ak rfl hg_ HU b_ pv_ ?_|(apply gq3;first|((first|refine dS rfl rfl rfl ?_ ?_|refine dD rfl rfl rfl ?_ ?_|refine eM rfl rfl rfl ?_ ?_)<;>(intro hc;try omega)))|refine aq rfl (Nat.zero_add _) ?_|refine aD rfl ?_|(apply gq7;first|refine bU rfl rfl ?_|refine bh rfl rfl ?_)|refine aL rfl nt_ ?_|(refine cd ?_;intro id hid;try simp only[aa.set_none]at hid)|(refine gJ (v:=AV.agg _) rfl rfl ?_;intro id hid;try simp only[aa.set_none]at hid)|refine cy (cs':=[AV.int _ _]) rfl rfl rfl rfl b_ rfl ?_|refine dm (b:=false) rfl ?_)|(apply gx;first|apply af|refine ae rfl ?_|apply aM|refine al rfl ?_)|apply ac|apply cz|refine bu (by assumption) fz_ fz_ ?_|refine aH (v:=AV.bool _) rfl ?_
  all_goals rfl
 ·have hA2:=sn.1 hA
  repeat' first|apply ad|(apply gw;first|(apply gq0;first|refine aw rfl ?_|refine bV rfl ?_|refine ai (v:=AV.fn _ _) rfl ?_)|(apply gq1;first|refine cI rfl ?_|refine cD rfl ?_)|refine ak rfl hg_ HU b_ pv_ ?_|(apply gq3;first|((first|refine dS rfl rfl rfl ?_ ?_|refine dD rfl rfl rfl ?_ ?_|refine eM rfl rfl rfl ?_ ?_)<;>(intro hc;try omega)))|refine aq rfl (Nat.zero_add _) ?_|refine aD rfl ?_|(apply gq7;first|refine bU rfl rfl ?_|refine bh rfl rfl ?_)|refine aL rfl nt_ ?_|(refine cd ?_;intro id hid;try simp only[aa.set_none]at hid)|(refine gJ (v:=AV.agg _) rfl rfl ?_;intro id hid;try simp only[aa.set_none]at hid)|refine cy (cs':=[AV.int _ _]) rfl rfl rfl rfl b_ rfl ?_|refine dm (b:=true) rfl ?_|refine oI (vs:=[AV.ptr _ _ _]) rfl rfl ?_)|(apply gx;first|apply af|refine ae rfl ?_|apply ay|apply au|apply aM|refine al rfl ?_|refine ah rfl ?_)|apply ac|apply cz|refine bu (by assumption) fz_ fz_ ?_|refine aH (v:=AV.bool _) rfl ?_
  all_goals first
   | (rw[mr (fun h=>by have:=h.p1;have:=h.n1;have:=h.n2;have:=h.nl;omega)];done)
   | skip
  rename_i ib hib _ _ _
  refine cl d.next.l.length (fun i env h'=>(∀ r∈d.next.l.take i,r.l.length=d.parts.l.length∧∀ x∈r.l,x = -1∨In d.tags.l.length x)∧(∀ t∈d.tags.l.take i,-1≤t)∧h'.get ib=some (.cells 0 d.av)∧h'.get id=some (.cells 0 [.int .i64 d.tags.l.length])∧env.has [(1,.ptr ib 0 0),(4,.fn 114 [.ptr id 0 0]),(37,d.next.mv Rw.iv),(38,.int .i64 d.next.l.length),(39,.int .i64 i)]) ⟨by simp,by simp,hg_,hg_,hh_⟩ ?_
  rintro i env h' hi ⟨hrs,hts,hb1,hb2,he⟩
  obtain⟨env,rfl⟩:=he.ex
  clear he
  by_cases hi2:i<d.next.l.length
  ·obtain⟨r,hr⟩:=aK hi2
   obtain⟨t,ht⟩:=aK (l:=d.tags.l) (show i<d.tags.l.length by omega)
   have hrl:=hf.rows r (List.mem_of_getElem? hr)
   have hrm:=hrow hr
   have htm:t∈d.plain.tags:=List.mem_of_getElem? ht
   repeat' first|apply ad|(apply gw;first|(apply gq0;first|refine aw rfl ?_|refine bV rfl ?_|refine bm rfl ?_|refine ai (v:=AV.fn _ _) rfl ?_)|(apply gq1;first|refine cI rfl ?_|refine cD rfl ?_)|(apply gq2;first|refine aI rfl b_ pv_ ?_|refine ak rfl hg_ HU b_ pv_ ?_)|(apply gq3;first|((first|refine aB rfl rfl rfl ?_ ?_|refine eM rfl rfl rfl ?_ ?_)<;>(intro hc;try omega)))|refine aq rfl (Nat.zero_add _) ?_|(apply gq5;first|refine ar rfl rfl hr HT rfl ?_|refine ar rfl rfl ht HT rfl ?_)|refine aD rfl ?_|(apply gq7;first|refine bU rfl rfl ?_|refine bh rfl rfl ?_)|refine aL rfl nt_ ?_)|(apply gx;first|apply af|refine ae rfl ?_|apply ay|apply au|apply aM|refine al rfl ?_)|apply ac|apply cz|apply jB|apply kD|refine aH (v:=AV.bool _) rfl ?_
   all_goals first
    | (rw[mr (fun h=>by have h1:=(h.rows _ hrm).1;have h2:=h.tags _ htm;rw[hpl]at h1;omega)];done)
    | skip
   refine bS (lJ L1 r.l r.fl 114 [.ptr id 0 0] _ h' HT fun x _=>Gm L x d.tags.l.length id h' hb2) ?_
   rintro _ h2 ⟨rfl,rfl⟩
   cases ho:(r.l.any fun to=>decide (to < -1)||decide ((d.tags.l.length:Int)≤to))
   ·repeat' first|apply ad|(apply gw;first|refine aw rfl ?_|refine a8 rfl rfl rfl HT HT ?_|refine bh rfl rfl ?_)|(apply gx;first|refine ae rfl ?_|apply ay|refine ah rfl ?_)|apply ac|apply aJ
    refine aW hi2 ⟨fun q hq=>?_,fun q hq=>?_,hb1,hb2,hh_⟩
    ·rw[aX hr]at hq
     rcases List.mem_append.1 hq with hq|hq
     ·exact hrs q hq
     ·simp at hq;subst hq
      exact⟨by omega,qM.1 ho⟩
    ·rw[aX ht]at hq
     rcases List.mem_append.1 hq with hq|hq
     ·exact hts q hq
     ·simp at hq;subst hq
      omega
   ·repeat' first|apply ad|(apply gw;first|refine bV rfl ?_|refine bh rfl rfl ?_)|(apply gx;first|apply af|refine ae rfl ?_|apply aM|refine al rfl ?_)|apply ac|apply cz|apply jB|apply kD|refine aH (v:=AV.bool _) rfl ?_
    rw[mr]
    intro h
    have h1:=qM.2 (h.rows _ hrm).2
    rw[hnl,ho]at h1
    cases h1
  ·rw[List.take_of_length_le HT]at hrs
   rw[List.take_of_length_le HT]at hts
   repeat' first|apply ad|(apply gw;first|refine bV rfl ?_|(refine aB rfl rfl rfl ?_ ?_<;>(intro hc;try omega)))|(apply gx;first|apply af|refine ae rfl ?_|apply aM|apply aP|refine ah rfl ?_)|apply ac|apply aQ|apply aR|apply ba|refine aH (v:=AV.bool _) rfl ?_
   rw[wE]
   refine⟨by omega,by omega,by omega,by omega,hA2.1,hA2.2,fun r hr=>?_,hts⟩
   obtain⟨q,hq,rfl⟩:=List.mem_map.1 hr
   rw[hpl,hnl]
   exact hrs q hq
end
end Go.Proofs.YtlnobeojgifojaaGreatDoor
