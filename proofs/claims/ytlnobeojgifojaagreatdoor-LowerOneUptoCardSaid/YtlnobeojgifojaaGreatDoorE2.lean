/- Rounds. Copies; rounds till nothing changes. Rounds till nothing changes. What is come to. -/
import Derived.Test.YtlnobeojgifojaaGreatDoorE1
import Derived.Test.YtlnobeojgifojaaGreatDoorP1
import Derived.Test.YtlnobeojgifojaaGreatDoorD6
import Derived.Test.YtlnobeojgifojaaGreatDoorP2
set_option linter.unusedVariables false
set_option linter.unusedSimpArgs false
namespace Go.Proofs.YtlnobeojgifojaaGreatDoor
section
open Go
set_option maxHeartbeats 4000000
attribute [local irreducible] aj bc bj dn bz cn dz bL wop cq aU
def eL (N:List (Rw Int))(K:List Int)(s:Nat):List UInt8:=cX (K.getD s 0)++bZ ((N.getD s ⟨[],false⟩).l.map (bt K))
def gI (N:List (Rw Int))(K:List Int):List (List UInt8):=(List.range K.length).map (eL N K)
theorem gE (N:List (Rw Int))(K:List Int):(gI N K).length=K.length:=by simp[gI]
theorem lR {N:List (Rw Int)}{K:List Int}{s:Nat}(h:s<K.length):(gI N K)[s]?=some (eL N K s):=by
 simp[gI,h]
theorem nc:∀ a b:List UInt8,AV.str a=AV.str b→a=b:=fun _ _ e=>by injection e
theorem jP {α:Type}{a:List α}{z v:α}{n i:Nat}(ha:a.length=i)(hi:i<n):(a++List.replicate (n-i) z).set i v=(a++[v])++List.replicate (n-(i+1)) z:=by
 subst ha
 rw[List.set_append_right _ _ (Nat.le_refl _),Nat.sub_self,show n-a.length=(n-(a.length+1))+1 by omega,List.replicate_succ,List.set_cons_zero,List.append_assoc]
 rfl
def fu (q:Nat):AV := .int .i64 q
theorem BH {Φ:Lib}(L:cZ Φ){h:aa}{iw:Nat}{d:Dfa}{K:Rw Int}(hw:WAt h iw d K)(hf:d.Fit K) :
  aU Φ 117 [.ptr iw 0 0] h (fun v h'=>v = .int .i64 (bB (gI d.next.l K.l)).length∧WAt h' iw d ⟨(fZ (gI d.next.l K.l)).map Int.ofNat,false⟩∧∀ k,k≠iw→h.get k≠none→h'.get k=h.get k):=by
 have hw':h.get iw=some (.cells 0 [d.parts.mv Rw.sv,d.next.mv Rw.iv,d.tags.iv,K.iv]):=hw
 have hiw:h.get iw≠none:=by rw[hw'];simp
 have hkl:=hf.kl
 have hn2:=hf.n2
 refine bb (fun o=>o == some 45) rfl L.f117 ?_
 repeat' first|apply ad|(apply gw;first|(apply gq0;first|refine aw rfl ?_|refine ai (v:=AV.ptr _ _ _) rfl ?_|refine ai (v:=AV.own _ _ _ _ _ _) rfl ?_|refine ai (v:=AV.map _) rfl ?_)|refine ak rfl hg_ HU b_ pv_ ?_|refine aq rfl (Nat.zero_add _) ?_|refine aD rfl ?_|refine bi rfl ?_|(refine gb rfl rfl HT HT ?_;intro id hid;try simp only[aa.set_none]at hid)|(refine ki ?_;intro id hid;try simp only[aa.set_none]at hid))|(apply gx;first|apply af|refine ae rfl ?_|apply au)|apply ac
 rename_i im him
 have hix:=hid
 clear hid
 generalize hT:gI d.next.l K.l=T
 have hTl:T.length=K.l.length:=by rw[← hT];exact gE _ _
 have hfm:∀ k,h.get k≠none→k≠im:=fun k hk e=>hk (e ▸ him)
 have hfx:∀ k,h.get k≠none→k≠id:=fun k hk e=>hk (e ▸ hix.2)
 refine cl K.l.length (fun i env h'=>h'.get im=some (.map none (bJ AV.str 0 (bB (T.take i))))∧h'.get id=some (.cells 1 ((fZ (T.take i)).map fu++List.replicate (K.l.length-i) (.int .i64 0)))∧(∀ k,h.get k≠none→h'.get k=h.get k)∧env.has [(0,.ptr iw 0 0),(3,.map im),(4,.own id 1 1 0 K.l.length none),(20,.int .i64 K.l.length),(21,.int .i64 i)]) ⟨?_,?_,?_,hh_⟩ ?_
 ·rw[aa.get_set_ne _ _ hix.1.symm,aa.get_set_self];rfl
 ·rw[aa.get_set_self]
  congr 2
  simp[fZ]
 ·intro k hk
  rw[aa.get_set_ne _ _ (hfx k hk),aa.get_set_ne _ _ (hfm k hk)]
 rintro i env h' hi ⟨hm,hx,hold,he⟩
 obtain⟨env,rfl⟩:=he.ex
 clear he
 have hw1:=(hold iw hiw).trans hw'
 by_cases hi2:i<K.l.length
 ·obtain⟨k,hk⟩:=aK hi2
  obtain⟨row,hr⟩:=aK (l:=d.next.l) (show i<d.next.l.length by omega)
  have ht:T[i]?=some (cX k++bZ (row.l.map (bt K.l))):=by
   rw[← hT,lR hi2]
   simp[eL,List.getD_eq_getElem?_getD,hk,hr]
  repeat' first|apply ad|(apply gw;first|(apply gq0;first|refine aw rfl ?_|refine ai (v:=AV.ptr _ _ _) rfl ?_)|(refine aB rfl rfl rfl ?_ ?_<;>(intro hc;try omega))|refine aL rfl nt_ ?_)|(apply gx;first|apply af|refine ae rfl ?_|apply ay|apply au|refine al rfl ?_)|apply ac
  refine jz HT (EU L (K:=K) hw1 hf hk hr) ?_
  generalize cX k++bZ (row.l.map (bt K.l))=t at ht
  have hfl:=iB (T.take i)
  have hsn:T.take (i+1)=T.take i++[t]:=by rw[List.take_add_one,ht];rfl
  have hnl:=fm (T.take i)
  rw[List.length_take]at hnl hfl
  have hmi:id≠im:=hix.1
  repeat' first|apply ad|(apply gq0;first|refine ai (v:=AV.str _) rfl ?_|refine ai (v:=AV.map _) rfl ?_)|(apply gx;first|apply af|refine ae rfl ?_)|apply ac
  refine gV (key:=AV.str t) rfl rfl rfl hm ?_
  rw[iK nc]
  by_cases hmem:t∈bB (T.take i)
  ·have hfe:bB (T.take (i+1))=bB (T.take i):=by rw[hsn,iT,eF,if_pos hmem]
   have hne:fZ (T.take (i+1))=fZ (T.take i)++[cH (bB (T.take i)) t]:=by rw[hsn,ns,← hsn,hfe]
   rw[if_pos hmem]
   repeat' first|apply ad|(apply gw;first|(apply gq0;first|refine aw rfl ?_|refine bV rfl ?_|refine ai (v:=AV.own _ _ _ _ _ _) rfl ?_|refine ai (v:=AV.tup _) rfl ?_)|refine a8 rfl rfl rfl HT HT ?_|refine bk rfl rfl HT HT ?_|refine aY (v:=AV.int _ _) rfl rfl hg_ rfl rfl b_ sv_ ?_|refine dm (b:=true) rfl ?_|refine bY rfl rfl ?_)|(apply gx;first|apply af|refine ae rfl ?_|apply ay|refine ah rfl ?_)|apply ac|apply aJ
   rw[Nat.zero_add]
   refine aW hi2 ⟨?_,?_,fun k hk=>(aa.get_set_ne _ _ (hfx k hk)).trans (hold k hk),hh_⟩
   ·rw[aa.get_set_ne _ _ hmi.symm,hm,hfe]
   ·rw[aa.get_set_self,hne]
    simp only[AV.cells,putCells,Nat.zero_add,Nat.mul_one,Int.toNat_natCast]
    rw[jP (by rw[List.length_map,hnl];omega) hi2]
    simp[fu]
  ·have hfe:bB (T.take (i+1))=bB (T.take i)++[t]:=by rw[hsn,iT,eF,if_neg hmem]
   have hne:fZ (T.take (i+1))=fZ (T.take i)++[(bB (T.take i)).length]:=by
    rw[hsn,ns,← hsn,hfe,oR hmem]
   rw[if_neg hmem]
   repeat' first|apply ad|(apply gw;first|(apply gq0;first|refine aw rfl ?_|refine bV rfl ?_|refine ai (v:=AV.tup _) rfl ?_|refine ai (v:=AV.map _) rfl ?_)|refine dm (b:=false) rfl ?_|refine bY rfl rfl ?_)|(apply gx;first|apply af|refine ae rfl ?_|refine al rfl ?_)|apply ac
   refine kn rfl hm ?_
   rw[fj]
   repeat' first|apply ad|(apply gq0;first|refine aw rfl ?_|refine ai (v:=AV.str _) rfl ?_|refine ai (v:=AV.map _) rfl ?_)|refine ae rfl ?_|apply ac
   refine fQ (key:=AV.str t) (v:=AV.int _ _) rfl rfl rfl rfl rfl hm ?_
   have he2:=jC nc t (bB (T.take i)) 0 hmem
   rw[Nat.zero_add]at he2
   rw[he2,← hfe]
   have hx2:(h'.set im (.map none (bJ AV.str 0 (bB (T.take (i+1)))))).get id=some (.cells 1 ((fZ (T.take i)).map fu++List.replicate (K.l.length-i) (.int .i64 0))):=(aa.get_set_ne _ _ hmi).trans hx
   repeat' first|apply ad|(apply gw;first|(apply gq0;first|refine aw rfl ?_|refine ai (v:=AV.own _ _ _ _ _ _) rfl ?_)|refine a8 rfl rfl rfl HT HT ?_|refine bk rfl rfl HT HT ?_|refine aY (v:=AV.int _ _) rfl rfl hg_ rfl rfl b_ sv_ ?_)|refine ae rfl ?_|apply ac|apply aJ
   refine aW hi2 ⟨?_,?_,fun k hk=>(aa.get_set_ne _ _ (hfx k hk)).trans ((aa.get_set_ne _ _ (hfm k hk)).trans (hold k hk)),hh_⟩
   ·rw[aa.get_set_ne _ _ hmi.symm,aa.get_set_self]
   ·rw[aa.get_set_self,hne]
    simp only[AV.cells,putCells,Nat.zero_add,Nat.mul_one,Int.toNat_natCast]
    rw[jP (by rw[List.length_map,hnl];omega) hi2]
    simp[fu]
 ·have hii:i=K.l.length:=by omega
  rw[List.take_of_length_le HT]at hm hx
  rw[show K.l.length-i=0 by omega,List.replicate_zero,List.append_nil]at hx
  have hnl:=fm T
  have hrow:aA h' (.own id 1 1 0 K.l.length none) 1 K.l.length ((fZ T).map fu) := .inr ⟨id,1,rfl,hx,Nat.le_refl _,by simp[hnl,hTl]⟩
  repeat' first|apply ad|(refine aB rfl rfl rfl ?_ ?_<;>(intro hc;try omega))|(apply gx;first|apply af|refine ae rfl ?_|apply aP|refine ah rfl ?_)|apply ac|apply aQ|apply aR|apply ba
  refine jn 4 (v := .own id 1 1 0 K.l.length none) rfl rfl hrow ?_
  intro h2 hk2
  have hw2:h2.get iw=_:=(hk2 iw (by simpa[AV.rowId] using fun e=>hfx iw hiw e.symm)).trans hw1
  have hm2:h2.get im=_:=(hk2 im (by simpa[AV.rowId] using hix.1)).trans hm
  repeat' first|apply ad|(apply gw;first|(apply gq0;first|refine bm rfl ?_|refine ai (v:=AV.ptr _ _ _) rfl ?_|refine ai (v:=AV.map _) rfl ?_)|refine aq rfl (Nat.zero_add _) ?_|refine bi rfl ?_|refine aY (v:=AV.rd _ _ _) rfl rfl hg_ rfl rfl b_ sv_ ?_)|(apply gx;first|apply af|refine ae rfl ?_)|apply ac
  refine kn rfl ((aa.get_set_ne _ _ (hfm iw hiw).symm).trans hm2) ?_
  rw[fj]
  repeat' first|apply ad|refine aw rfl ?_|apply aM|apply ac
  refine aH rfl ⟨rfl,?_,fun k hk hk0=>?_⟩
  ·unfold WAt
   rw[aa.get_set_self]
   simp[Rw.iv,Rw.mv,hnl,hTl,fu,Function.comp_def]
  ·rw[aa.get_set_ne _ _ hk,hk2 k (by simpa[AV.rowId] using fun e=>hfx k hk0 e.symm),hold k hk0]
end
section
open Go
set_option maxHeartbeats 4000000
attribute [local irreducible] aj bc bj dn bz cn dz bL wop cq aU
theorem uO {F:bR}{r:List bA}{Q:Env→aa→Prop}{env:Env}{h:aa}{d:Nat}{x:bl}{v:AV}{e n:Nat}{cs:List AV}{neg:Bool}(hx:ev env x=v)(hs:bn h e v=some (n,cs))(hns:v.isStr=false)
  (k1:aj F r Q (env.put d (.bool neg)) h) (k2:n=0→aj F r Q (env.put d (.bool !neg)) h):aj F (⟨some d,.eqN neg x,none⟩::r) Q env h:=by
 simp only[bE,EQ,cL,hx,bv]
 cases v with
 | rd m c f =>
  simp only[bn]at hs
  split at hs
  ·injection hs with hs
   injection hs with e1 e2
   subst e1
   dsimp only
   by_cases h0:m=0
   ·rw[if_pos h0]
    intro b
    cases b<;>cases neg<;>first|exact k1|exact k2 h0
   ·rw[if_neg h0]
    exact k1
  ·cases hs
 | own id g e2 off len lim =>
  have:len=n:=by
   simp only[bn]at hs
   split at hs
   ·split at hs
    ·injection hs with hs;injection hs
    ·cases hs
   ·cases hs
  subst this
  dsimp only
  by_cases h0:len=0
  ·rw[if_pos h0]
   intro b
   cases b<;>cases neg<;>first|exact k1|exact k2 h0
  ·rw[if_neg h0]
   exact k1
 | str s=>cases hns
 | _=>simp[bn]at hs
theorem Ek {Φ:Lib}(L:cZ Φ){h:aa}{v:AV}{n:Nat}{cs:List AV}(hs:bn h 1 v=some (n,cs))(hl:cs.length=n*1)(hns:v.isStr=false)(hnt:v.isTup=false)(hn:n≤4294967296) :
  aU Φ 116 [v] h (fun v' h'=>aA h' v' 1 n cs∧(∀ k,h.get k≠none→h'.get k=h.get k)∧∀ k,v'.rowId=some k→h.get k=none):=by
 refine bb (fun _=>false) rfl L.f116 ?_
 repeat' first|apply ad|(apply gq0;first|refine bm rfl ?_|refine ai rv_ ?_)|(apply gx;first|apply af|refine ae rfl ?_)|apply ac
 refine uO rfl hs hns ?_ ?_
 ·repeat' first|apply ad|(apply gw;first|refine ai rv_ ?_|refine bF rfl rfl ?_)|(apply gx;first|apply af|refine ae rfl ?_|apply ay|refine ah rfl ?_)|apply ac
  refine gF (n:=0) rfl (aA.nil _ _) rfl hs hl HT ?_
  intro v' h' hr hk hi
  rw[Nat.zero_add,List.nil_append]at hr
  repeat' first|apply ad|refine ai rv_ ?_|apply aM|apply ac
  exact aH rfl ⟨hr,fun k hk0=>hk k hk0 (by simp[AV.rowId]),fun k hk0=>(hi k hk0).resolve_left (by simp[AV.rowId])⟩
 ·rintro rfl
  have:cs=[]:=List.eq_nil_of_length_eq_zero HT
  subst this
  repeat' first|apply ad|refine bm rfl ?_|(apply gx;first|apply af|refine ae rfl ?_|apply aM|refine al rfl ?_)|apply ac|apply cz
  exact aH rfl ⟨aA.nil _ _,fun k _=>rfl,fun k hk=>by simp[AV.rowId]at hk⟩
theorem Cu {Φ:Lib}(L:cZ Φ){h:aa}{v:AV}{n:Nat}{cs:List AV}(hs:bn h 2 v=some (n,cs))(hl:cs.length=n*2)(hns:v.isStr=false)(hnt:v.isTup=false)(hn:n≤4294967296) :
  aU Φ 106 [v] h (fun v' h'=>aA h' v' 2 n cs∧(∀ k,h.get k≠none→h'.get k=h.get k)∧∀ k,v'.rowId=some k→h.get k=none):=by
 refine bb (fun _=>false) rfl L.f106 ?_
 repeat' first|apply ad|(apply gq0;first|refine bm rfl ?_|refine ai rv_ ?_)|(apply gx;first|apply af|refine ae rfl ?_)|apply ac
 refine uO rfl hs hns ?_ ?_
 ·repeat' first|apply ad|(apply gw;first|refine ai rv_ ?_|refine bF rfl rfl ?_)|(apply gx;first|apply af|refine ae rfl ?_|apply ay|refine ah rfl ?_)|apply ac
  refine gF (n:=0) rfl (aA.nil _ _) rfl hs hl HT ?_
  intro v' h' hr hk hi
  rw[Nat.zero_add,List.nil_append]at hr
  repeat' first|apply ad|refine ai rv_ ?_|apply aM|apply ac
  exact aH rfl ⟨hr,fun k hk0=>hk k hk0 (by simp[AV.rowId]),fun k hk0=>(hi k hk0).resolve_left (by simp[AV.rowId])⟩
 ·rintro rfl
  have:cs=[]:=List.eq_nil_of_length_eq_zero HT
  subst this
  repeat' first|apply ad|refine bm rfl ?_|(apply gx;first|apply af|refine ae rfl ?_|apply aM|refine al rfl ?_)|apply ac|apply cz
  exact aH rfl ⟨aA.nil _ _,fun k _=>rfl,fun k hk=>by simp[AV.rowId]at hk⟩
theorem up {Φ:Lib}(L:cZ Φ)(r:Rw Int)(hn:r.l.length≤4294967296):ia Φ 116 [r.iv] (.rd r.l.length (r.l.map (.int .i64)) false):=by
 refine bb (fun _=>false) rfl L.f116 ?_
 have hs:∀ h:aa,bn h 1 r.iv=some (r.l.length,r.l.map (.int .i64)):=fun h=>by simp[bn]
 repeat' first|apply ad|refine bm rfl ?_|(apply gx;first|apply af|refine ae rfl ?_)|apply ac
 refine uO rfl (hs _) rfl ?_ ?_
 ·repeat' first|apply ad|(apply gw;first|(apply gq0;first|refine bm rfl ?_|refine ai rv_ ?_)|(refine br rv_ ir_ rfl HU (by first|omega|(simp;omega)) ?_;intro va hpa hra hka hria)|refine bF rfl rfl ?_)|(apply gx;first|apply af|refine ae rfl ?_|apply ay|apply aM|refine ah rfl ?_)|apply ac
  rw[Nat.zero_add,List.nil_append]at hra
  exact iF rfl hra (fun _=>rfl)
 ·intro h0
  have h1:r.l=[]:=List.eq_nil_of_length_eq_zero h0
  repeat' first|apply ad|refine bm rfl ?_|(apply gx;first|apply af|refine ae rfl ?_|apply aM|refine al rfl ?_)|apply ac|apply cz
  exact iF rfl (aA.nil _ 1) (fun _=>by simp[h1])
end
section
open Go
set_option maxHeartbeats 4000000
attribute [local irreducible] aj bc bj dn bz cn dz bL wop cq aU
def gc (N:List (Rw Int))(K:List Int):List Int:=(fZ (gI N K)).map Int.ofNat
def pf (N:List (Rw Int))(K:List Int):Nat:=(bB (gI N K)).length
def itK (N:List (Rw Int))(T:List Int):Nat→List Int
 | 0=>T
 | r+1=>gc N (itK N T r)
theorem lj (N:List (Rw Int))(K:List Int):(gc N K).length=K.length:=by simp[gc,fm,gE]
theorem fv (N:List (Rw Int))(T:List Int):∀ r,(itK N T r).length=T.length
 | 0=>rfl
 | r+1=>by rw[itK,lj,fv N T r]
theorem FG (N:List (Rw Int))(K:List Int):pf N K≤K.length:=by
 have:=iB (gI N K)
 rw[gE]at this
 exact this
theorem ra {N:List (Rw Int)}{K:List Int}{s t:Nat}:eL N K s=eL N K t↔K.getD s 0=K.getD t 0∧(N.getD s ⟨[],false⟩).l.map (bt K)=(N.getD t ⟨[],false⟩).l.map (bt K):=by
 constructor
 ·exact fun e=>An e
 ·rintro⟨e1,e2⟩
  unfold eL
  rw[e1,e2]
theorem ng {N:List (Rw Int)}{K:List Int}{s t:Nat}(hs:s<K.length)(ht:t<K.length):(gc N K).getD s 0=(gc N K).getD t 0↔eL N K s=eL N K t:=by
 have h1:=zJ (lR (N:=N) hs) (lR (N:=N) ht)
 rw[← h1]
 unfold gc
 rw[List.getD_eq_getElem?_getD,List.getD_eq_getElem?_getD,List.getElem?_map,List.getElem?_map]
 have l1:s<(fZ (gI N K)).length:=by rw[fm,gE];exact hs
 have l2:t<(fZ (gI N K)).length:=by rw[fm,gE];exact ht
 rw[List.getElem?_eq_getElem l1,List.getElem?_eq_getElem l2]
 simp only[Option.map_some,Option.getD_some,Option.some.injEq]
 constructor
 ·exact fun e=>Int.ofNat.inj e
 ·rintro e;rw[e]
theorem rB {N:List (Rw Int)}{K:List Int}{s t:Nat}(hs:s<K.length)(ht:t<K.length)(e:eL N (gc N K) s=eL N (gc N K) t):eL N K s=eL N K t :=
 (ng hs ht).1 (ra.1 e).1
theorem uo (N:List (Rw Int))(K:List Int):pf N K≤pf N (gc N K)∧(pf N K=pf N (gc N K)→∀ s<K.length,∀ t<K.length,eL N K s=eL N K t→eL N (gc N K) s=eL N (gc N K) t):=by
 have h:=Eh ((List.range K.length).map fun s=>(eL N K s,eL N (gc N K) s)) (by
  intro a ha b hb e
  obtain⟨s,hs,rfl⟩:=List.mem_map.1 ha
  obtain⟨t,ht,rfl⟩:=List.mem_map.1 hb
  exact rB (List.mem_range.1 hs) (List.mem_range.1 ht) e)
 rw[List.map_map,List.map_map]at h
 have e1:(List.range K.length).map ((fun x:List UInt8×List UInt8=>x.1)∘fun s=>(eL N K s,eL N (gc N K) s))=gI N K:=rfl
 have e2:(List.range K.length).map ((fun x:List UInt8×List UInt8=>x.2)∘fun s=>(eL N K s,eL N (gc N K) s))=gI N (gc N K):=by
  unfold gI
  rw[lj]
  rfl
 rw[e1,e2]at h
 refine⟨h.1,fun e s hs t ht est=>?_⟩
 exact h.2 e (_,_) (List.mem_map.2 ⟨s,List.mem_range.2 hs,rfl⟩) (_,_) (List.mem_map.2 ⟨t,List.mem_range.2 ht,rfl⟩) est
theorem oQ (N:List (Rw Int)){K:List Int}(hK:K.length≤2000):∀ x∈gc N K,0≤x∧x≤2000:=by
 intro x hx
 unfold gc at hx
 obtain⟨q,hq,rfl⟩:=List.mem_map.1 hx
 have h1:=zI hq
 have h2:=iB (gI N K)
 rw[gE]at h2
 simp only[Int.ofNat_eq_natCast]
 omega
theorem Dfa.Fit.round {d:Dfa}{K:Rw Int}(hf:d.Fit K)(f:Bool):d.Fit ⟨gc d.next.l K.l,f⟩ where
 kl:=by rw[lj];exact hf.kl
 tl:=hf.tl
 n1:=hf.n1
 n2:=hf.n2
 p2:=hf.p2
 rows:=hf.rows
 to:=hf.to
 kr:=fun x hx=>by
  have:=oQ d.next.l (by rw[hf.kl];exact hf.n2) x hx
  omega
theorem Dfa.Fit.it {d:Dfa}(hf:d.Fit d.tags):∀ q,d.Fit ⟨itK d.next.l d.tags.l q,false⟩
 | 0=>⟨hf.kl,hf.tl,hf.n1,hf.n2,hf.p2,hf.rows,hf.to,hf.kr⟩
 | q+1=>(Dfa.Fit.it hf q).round false
def uc (N:List (Rw Int))(T:List Int):Nat→Nat
 | 0=>0
 | q+1=>pf N (itK N T q)
theorem Ej {N:List (Rw Int)}{K:List Int}(h:1≤K.length):1≤pf N K:=by
 have:eL N K 0∈bB (gI N K):=gZ.2 (List.mem_of_getElem? (lR h))
 exact List.length_pos_of_mem this
theorem BJ {Φ:Lib}(L:cZ Φ){h:aa}{iw:Nat}{d:Dfa}{K:Rw Int}(hw:WAt h iw d K)(hf:d.Fit d.tags) :
  aU Φ 103 [.ptr iw 0 0] h (fun v h'=>(∃ r,WAt h' iw d ⟨itK d.next.l d.tags.l (r+2),false⟩∧pf d.next.l (itK d.next.l d.tags.l r)=pf d.next.l (itK d.next.l d.tags.l (r+1)))∧∀ k,k≠iw→h.get k≠none→h'.get k=h.get k):=by
 have hw':h.get iw=some (.cells 0 [d.parts.mv Rw.sv,d.next.mv Rw.iv,d.tags.iv,K.iv]):=hw
 have hiw:h.get iw≠none:=by rw[hw'];simp
 have hn2:=hf.n2
 have hn1:=hf.n1
 have htl:=hf.tl
 have hcl:=up L d.tags HT
 refine bb (fun o=>false) rfl L.f103 ?_
 repeat' first|apply ad|(apply gw;first|(apply gq0;first|refine aw rfl ?_|refine ai (v:=AV.ptr _ _ _) rfl ?_)|refine ak rfl hg_ HU b_ pv_ ?_|refine aq rfl (Nat.zero_add _) ?_|refine bi rfl ?_|refine aL rfl nt_ ?_|refine aY (v:=AV.rd _ _ _) rfl rfl hg_ rfl rfl b_ sv_ ?_)|(apply gx;first|apply af|refine ae rfl ?_|apply ay|apply au)|apply ac|refine bu (by assumption) fz_ fz_ ?_
 refine ic (fun m env h'=>∃ q,m=d.next.l.length-uc d.next.l d.tags.l q∧WAt h' iw d ⟨itK d.next.l d.tags.l q,false⟩∧(∀ k,k≠iw→h.get k≠none→h'.get k=h.get k)∧env.has [(0,.ptr iw 0 0),(2,.int .i64 (uc d.next.l d.tags.l q))]) d.next.l.length ⟨0,rfl,aa.get_set_self _ _ _,fun k hk _=>aa.get_set_ne _ _ hk,hh_⟩ ?_
 rintro m env h' ⟨q,rfl,hw1,hold,he⟩
 obtain⟨env,rfl⟩:=he.ex
 clear he
 repeat' first|(apply gw;first|refine ai (v:=AV.ptr _ _ _) rfl ?_|refine aL rfl nt_ ?_)|(apply gx;first|apply af|refine ae rfl ?_|apply au)
 refine bS (BH L hw1 (hf.it q)) ?_
 rintro _ h2 ⟨rfl,hw2,hk2⟩
 have hlen:(itK d.next.l d.tags.l q).length=d.next.l.length:=by rw[fv];exact htl
 have hpos:=Ej (N:=d.next.l) (K:=itK d.next.l d.tags.l q) HT
 have hle:=FG d.next.l (itK d.next.l d.tags.l q)
 have hlast:uc d.next.l d.tags.l q≤pf d.next.l (itK d.next.l d.tags.l q):=by
  cases q with
  | zero=>exact Nat.zero_le _
  | succ q=>exact(uo _ _).1
 have hold2:∀ k,k≠iw→h.get k≠none→h2.get k=h.get k:=fun k hk h0=>(hk2 k hk (by rw[hold k hk h0];exact h0)).trans (hold k hk h0)
 have hc2:uc d.next.l d.tags.l (q+1)=pf d.next.l (itK d.next.l d.tags.l q):=rfl
 rw[show(bB (gI d.next.l (itK d.next.l d.tags.l q))).length=pf d.next.l (itK d.next.l d.tags.l q) from rfl]
 repeat' first|apply ad|(apply gw;first|refine aw rfl ?_|(refine dD rfl rfl rfl ?_ ?_<;>(intro hc;try omega)))|(apply gx;first|apply af|refine ae rfl ?_|apply ay|apply aP|refine al rfl ?_|refine ah rfl ?_)|apply ac|apply aQ|apply aJ|apply aR|refine sB rfl ?_|apply ba
 ·cases q with
  | zero=>exfalso;simp only[uc]at hc;omega
  | succ q =>
   refine lH rfl ⟨⟨q,hw2,?_⟩,hold2⟩
   simp only[uc]at hc
   omega
 ·exact fo _ HT ⟨q+1,rfl,hw2,hold2,hh_⟩
end
section
open Go
set_option maxHeartbeats 4000000
def dx (h:aa)(v:AV)(e n:Nat)(cs:List AV):Prop :=
 (v = .rd n cs true∧cs.length=n*e)∨∃ id g,v = .own id g e 0 n none∧h.get id=some (.cells g cs)∧1≤g∧cs.length=n*e
theorem aA.app {h v e n cs}(hr:aA h v e n cs):dx h v e n cs:=by
 rcases hr with⟨rfl,rfl,rfl⟩|h1
 ·exact .inl ⟨rfl,by simp⟩
 ·exact .inr h1
theorem dx.lit {h:aa}{e n cs}(hl:cs.length=n*e):dx h (.rd n cs true) e n cs := .inl ⟨rfl,hl⟩
theorem dx.length {h v e n cs}(hr:dx h v e n cs):cs.length=n*e:=by
 rcases hr with⟨_,h⟩|⟨_,_,_,_,_,h⟩<;>exact h
theorem dx.keep {h h':aa}{v e n cs}(hr:dx h v e n cs)(hk:∀ id,v.rowId=some id→h'.get id=h.get id):dx h' v e n cs:=by
 rcases hr with h1|⟨id,g,rfl,h2,h3,h4⟩
 ·exact .inl h1
 ·exact .inr ⟨id,g,rfl,(hk id rfl).trans h2,h3,h4⟩
theorem dx.there {h:aa}{v e n cs}(hr:dx h v e n cs){id:Nat}(hi:v.rowId=some id):h.get id≠none:=by
 rcases hr with⟨rfl,_⟩|⟨id',g,rfl,h2,_⟩
 ·cases hi
 ·cases hi
  rw[h2];simp
theorem dx.notTup {h:aa}{v e n cs}(hr:dx h v e n cs):v.isTup=false:=by
 rcases hr with⟨rfl,_⟩|⟨id',g,rfl,_⟩<;>rfl
theorem dx.notStr {h:aa}{v e n cs}(hr:dx h v e n cs):v.isStr=false:=by
 rcases hr with⟨rfl,_⟩|⟨id',g,rfl,_⟩<;>rfl
theorem dx.new {h:aa}{v e n cs}(hr:dx h v e n cs){id:Nat}{o:gB}(hid:h.get id=none):dx (h.set id o) v e n cs :=
 hr.keep fun k hk=>aa.get_set_ne _ _ (fun e=>hr.there hk (e ▸ hid))
theorem dx.set_ne {h:aa}{v e n cs}(hr:dx h v e n cs){id:Nat}{o:gB}(hid:v.rowId≠some id):dx (h.set id o) v e n cs :=
 hr.keep fun k hk=>aa.get_set_ne _ _ (fun e=>hid (e ▸ hk))
theorem dx.fz {h:aa}{v e n cs cs'}(hr:dx h v e n cs)(S:Nat→Prop)(hS:∀ id,v.rowId=some id→S id)(hc:FzL h S cs cs'):FzV h S v (.rd n cs' false):=by
 rcases hr with⟨rfl,h1⟩|h1
 ·exact .rd hc (fun h=>by cases h)
 ·exact aA.fz (.inr h1) S hS hc
def F5 (h:aa)(p a:AV):Prop:=p = .rp [a]∨∃ id g o cs,p = .ptr id g o∧h.get id=some (.cells g cs)∧cs[o]?=some a
section
variable {F:bR} {r:List bA} {Q:Env→aa→Prop} {env:Env} {h:aa} {d:Nat} {x y z c:bl}
theorem nN {e n m:Nat}{v w:AV}{cs new:List AV}(hx:ev env x=v)(hrow:dx h v e n cs)(hy:ev env y=w)(hs:bn h e w=some (m,new))(hm:new.length=m*e)(hle:n+m≤4294967296)
  (k:∀ v' h',dx h' v' e (n+m) (cs++new)→(∀ id,h.get id≠none→v.rowId≠some id→h'.get id=h.get id)→(∀ id,v'.rowId=some id→v.rowId=some id∨h.get id=none)→aj F r Q (env.put d v') h'):aj F (⟨some d,.append e x y,none⟩::r) Q env h:=by
 have hmax:jv=4294967296:=rfl
 rcases hrow with⟨rfl,hl⟩|hrow
 ·simp only[bE,jm,cL,hx,hy,hs,Option.bind_some,bv]
  rw[if_pos ⟨hl,by omega⟩]
  by_cases h0:m=0
  ·subst h0
   have:new=[]:=List.eq_nil_of_length_eq_zero (by simpa using hm)
   subst this
   simp only[if_true,oA]
   exact k _ _ (.inl ⟨by simp,by simpa using hl⟩) (fun _ _ _=>rfl) (fun _ h=>by cases h)
  ·rw[if_neg h0]
   simp only[if_true,we]
   intro id hid
   exact k _ _ (.inr ⟨id,1,rfl,aa.get_set_self _ _ _,Nat.le_refl _,by rw[List.length_append,hl,hm,Nat.add_mul]⟩) (fun j hj _=>aa.get_set_ne _ _ (fun e=>hj (e ▸ hid))) (fun j hj=>by cases hj;exact .inr hid)
 ·exact gF hx (.inr hrow) hy hs hm hle fun v' h' k1 k2 k3=>k v' h' k1.app k2 k3
theorem jp {h0:aa}{v e n cs}(hx:ev env x=v)(hrow:dx h0 v e n cs)(k:aj F r Q (env.put d (.int .i64 n)) h):aj F (⟨some d,.len 0 x,none⟩::r) Q env h:=by
 rcases hrow with⟨rfl,h1⟩|⟨id,g,rfl,_⟩
 ·exact aD hx k
 ·exact dW hx k
theorem lS {v:AV}{n:Nat}{cs:List AV}{k:IntKind}{j:Int}{m:Nat}{a:AV}(hx:ev env x=v)(hrow:dx h v 1 n cs)(hy:ev env y = .int k j)(hj:j=(m:Int))(ha:cs[m]?=some a)(k1:∀ p,F5 h p a→aj F r Q (env.put d p) h):aj F (⟨some d,.indexAddr 1 x y,none⟩::r) Q env h:=by
 have hm:=lt_of_getElem? ha
 have hl:=hrow.length
 subst hj
 rcases hrow with⟨rfl,_⟩|⟨id,g,rfl,h1,h2,h3⟩
 ·refine mq hx hy HT HT (cs':=[a]) ?_ (k1 _ (.inl rfl))
  obtain⟨h4,rfl⟩:=List.getElem?_eq_some_iff.1 ha
  rw[Int.toNat_natCast,Nat.mul_one,List.drop_eq_getElem_cons h4]
  rfl
 ·exact bk hx hy HT HT (k1 _ (.inr ⟨id,g,_,cs,rfl,h1,by simpa using ha⟩))
theorem nX {p a:AV}(hx:ev env x=p)(hp:F5 h p a)(k:aj F r Q (env.put d a) h):aj F (⟨some d,.load false 1 false x,none⟩::r) Q env h:=by
 rcases hp with rfl|⟨id,g,o,cs,rfl,h1,h2⟩
 ·exact aI hx HU rfl k
 ·have:=lt_of_getElem? h2
  exact ak hx h1 HU HT (by simp[part,List.getD_eq_getElem?_getD,h2]) k
end
theorem zO {rs:List tn}{Q:AV→aa→Prop}{env:Env}{h:aa}{v:AV}{e n:Nat}{cs:List AV}(hv:ef env h rs=some v)(hr:dx h v e n cs)(k:∀ h',(∀ j,v.rowId≠some j→h'.get j=h.get j)→Q (.rd n cs false) h'):dz rs Q .ret env h:=by
 refine fA (fun j=>v.rowId=some j) hv (hr.fz _ (fun _ h=>h) (FzL.same _)) (k _ fun j hj=>?_)
 simp only[aa.drop,hj,if_false]
attribute [local irreducible] aj bc bj dn bz cn dz bL wop cq aU
def kz (N:List (Rw Int))(s:Int):List Int:=(N.getD s.toNat ⟨[],false⟩).l
theorem oP {N:List (Rw Int)}{s:Int}{m:Nat}{r:Rw Int}(hs:s=(m:Int))(h:N[m]?=some r):kz N s=r.l:=by
 subst hs
 simp[kz,List.getD_eq_getElem?_getD,h]
theorem Dfa.Fit.tab {d:Dfa}{K:Rw Int}(hf:d.Fit K):Tab d.next.l.length d.parts.l.length (kz d.next.l):=by
 have key:∀ s,In d.next.l.length s→∃ r∈d.next.l,kz d.next.l s=r.l:=fun s hs=>by
  have h1:s.toNat<d.next.l.length:=by unfold In at hs;omega
  exact⟨d.next.l[s.toNat],List.getElem_mem h1,by simp[kz,List.getD_eq_getElem?_getD,h1]⟩
 refine⟨fun s hs=>?_,fun s hs x hx=>?_⟩
 ·obtain⟨r,hr,e⟩:=key s hs
  rw[e];exact hf.rows r hr
 ·obtain⟨r,hr,e⟩:=key s hs
  rw[e]at hx
  rcases hf.to r hr x hx with h|h
  ·exact .inl h
  ·right;unfold In;omega
theorem tq {Φ:Lib}(L:cZ Φ){h:aa}{iw:Nat}{d:Dfa}{K:Rw Int}(hw:WAt h iw d K)(hf:d.Fit K) :
  aU Φ 105 [.ptr iw 0 0] h (fun v h'=>v=kK (ez d.next.l.length (bt K.l) (kz d.next.l) 0)∧∀ k,h.get k≠none→h'.get k=h.get k):=by
 have hw':h.get iw=some (.cells 0 [d.parts.mv Rw.sv,d.next.mv Rw.iv,d.tags.iv,K.iv]):=hw
 have hiw:h.get iw≠none:=by rw[hw'];simp
 have hn2:=hf.n2
 have hn1:=hf.n1
 have hkl:=hf.kl
 have h0:In d.next.l.length 0:=⟨Int.le_refl _,by omega⟩
 obtain⟨k0,hk0⟩:=aK (l:=K.l) (show 0<K.l.length by omega)
 have hfe:∀ a b:Int,AV.int .i64 a=AV.int .i64 b→a=b:=fun _ _ e=>by injection e
 generalize hκ:bt K.l=κ
 have hkin:∀ {s:Int} {q:Nat} {x:Int},s=(q:Int)→K.l[q]?=some x→κ s=x:=fun {s q x} e hx=>by
  rw[← hκ,bt,if_neg HT,e,Int.toNat_natCast,List.getD_eq_getElem?_getD,hx];rfl
 refine bb (fun _=>false) rfl L.f105 ?_
 repeat' first|apply ad|(apply gw;first|(apply gq0;first|refine bm rfl ?_|refine ai (v:=AV.ptr _ _ _) rfl ?_)|(apply gq2;first|refine aI rfl b_ pv_ ?_|refine ak rfl hg_ HU b_ pv_ ?_)|refine aq rfl (Nat.zero_add _) ?_|refine ig rfl rfl rfl (by assumption) rfl ?_|refine bi rfl ?_|refine bF (cs:=[AV.int _ _]) rfl rfl ?_|(refine ki ?_;intro id hid;try simp only[aa.set_none]at hid))|(apply gx;first|apply af|refine ae rfl ?_)|apply ac
 refine fQ (key:=AV.int .i64 k0) (v:=AV.int .i64 0) rfl rfl rfl rfl rfl (aa.get_set_self _ _ _) ?_
 have ek0:κ 0=k0:=hkin (q:=0) rfl hk0
 have hkind:∀ {h':aa} {x:Int},h'.get iw=h.get iw→x = -1∨In d.next.l.length x→aU Φ 107 [.ptr iw 0 0,.int .i64 x] h' (fun v h2=>v = .int .i64 (κ x)∧h'.Ext h2):=fun {h' x} he hx=>by
  rw[← hκ]
  refine qH L (K:=K) (hw.keep he) x ?_
  rcases hx with h1|h1
  ·exact .inl h1
  ·right;unfold In at h1;omega
 have hne:∀ {k},h.get k≠none→k≠id:=fun hk e=>hk (e ▸ hid)
 have hT:=hf.tab
 repeat' first|apply ad|(apply gq0;first|refine aw rfl ?_|refine ai (v:=AV.map _) rfl ?_)|(apply gx;first|apply af|refine ae rfl ?_|apply au)|apply ac
 refine cl d.next.l.length (fun i env h'=>∃ v,dx h' v 1 (cp κ (kz d.next.l) 0 i).length ((cp κ (kz d.next.l) 0 i).map (.int .i64))∧h'.get id=some (.map (some .i64) (bJ (AV.int .i64) 0 ((cp κ (kz d.next.l) 0 i).map κ)))∧(∀ k,h.get k≠none→h'.get k=h.get k)∧(∀ k,v.rowId=some k→h.get k=none)∧env.has [(0,.ptr iw 0 0),(3,v),(4,.map id),(5,.int .i64 i)]) ⟨_,dx.lit rfl,?_,?_,fun k hk=>by simp[AV.rowId]at hk,hh_⟩ ?_
 ·rw[aa.get_set_self]
  simp[cp,bJ,kH,ek0]
 ·intro k hk
  rw[aa.get_set_ne _ _ (hne hk),aa.get_set_ne _ _ (hne hk)]
 rintro i env h' hi ⟨v,hv,hm,hold,hown,he⟩
 obtain⟨env,rfl⟩:=he.ex
 clear he
 obtain⟨hcome,hdone⟩:=iL (κ:=κ) hT h0 i
 have hmost:=hcome.most
 have hnx:∀ s,(cp κ (kz d.next.l) 0 i)[i]?=some s→cp κ (kz d.next.l) 0 (i+1)=visits κ (cp κ (kz d.next.l) 0 i) (kz d.next.l s):=fun s hs=>by rw[cp,hs]
 have hstop:(cp κ (kz d.next.l) 0 i).length≤i→cp κ (kz d.next.l) 0 i=ez d.next.l.length κ (kz d.next.l) 0:=tX hT h0
 generalize hacc:cp κ (kz d.next.l) 0 i=acc at hv hm hcome hdone hmost hnx hstop
 have hnt:=hv.notTup
 by_cases hi2:i<acc.length
 ·obtain⟨s,hs⟩:=aK hi2
  have hsin:=hcome.inn s (List.mem_of_getElem? hs)
  obtain⟨row,hrow⟩:=aK (l:=d.next.l) (i:=s.toNat) (by unfold In at hsin;omega)
  have hrk:kz d.next.l s=row.l:=oP (m:=s.toNat) (by unfold In at hsin;omega) hrow
  have hs0:s=(s.toNat:Int):=by unfold In at hsin;omega
  have hrl:=hf.rows row (List.mem_of_getElem? hrow)
  have hp2:=hf.p2
  have hw1:=(hold iw hiw).trans hw'
  have hsm:(acc.map (AV.int .i64))[i]?=some (.int .i64 s):=by rw[List.getElem?_map,hs];rfl
  repeat' first|apply ad|(apply gw;first|(apply gq0;first|refine aw rfl ?_|refine ai (v:=AV.ptr _ _ _) rfl ?_|refine ai rv_ ?_)|refine ak rfl hg_ HU b_ pv_ ?_|(refine aB rfl rfl rfl ?_ ?_<;>(intro hc;try omega))|refine aq rfl (Nat.zero_add _) ?_|refine bi rfl ?_|refine jp rv_ (by assumption) ?_)|(apply gx;first|apply af|refine ae rfl ?_|apply ay|apply au|refine al rfl ?_)|apply ac
  refine lS rfl hv rfl rfl hsm ?_
  intro p hp
  refine nX rfl hp ?_
  repeat' first|apply ad|(apply gw;first|refine aw rfl ?_|refine aI rfl b_ pv_ ?_|refine ar rfl rfl hrow HT rfl ?_|refine aD rfl ?_)|apply au|apply ac
  refine cl row.l.length (fun j env h'=>∃ v acc',visits κ acc (row.l.take j)=acc'∧dx h' v 1 acc'.length (acc'.map (.int .i64))∧h'.get id=some (.map (some .i64) (bJ (AV.int .i64) 0 (acc'.map κ)))∧(∀ k,h.get k≠none→h'.get k=h.get k)∧(∀ k,v.rowId=some k→h.get k=none)∧env.has [(0,.ptr iw 0 0),(3,v),(4,.map id),(5,.int .i64 i),(35,row.iv),(36,.int .i64 row.l.length),(37,.int .i64 j)]) ⟨v,acc,by simp[visits],hv,hm,hold,hown,hh_⟩ ?_
  clear hm hold hown hv hnt hp hw1
  rintro j env h' hj ⟨v,acc',hacc',hv,hm,hold,hown,he⟩
  obtain⟨env,rfl⟩:=he.ex
  clear he
  have hw1:=(hold iw hiw).trans hw'
  have hnt:=hv.notTup
  have hto:∀ x∈row.l,x = -1∨In d.next.l.length x:=by rw[← hrk];exact hT.to s hsin
  have hmost':acc'.length≤d.next.l.length:=by
   rw[← hacc']
   exact(hcome.visits (row:=row.l.take j) (fun x hx=>hto x (List.mem_of_mem_take hx)) fun x hx=>⟨s,List.mem_of_getElem? hs,by rw[hrk];exact List.mem_of_mem_take hx⟩).1.most
  by_cases hj2:j<row.l.length
  ·obtain⟨x,hx⟩:=aK hj2
   have hxo:=hto x (List.mem_of_getElem? hx)
   have hnx2:visits κ acc (row.l.take (j+1))=visit κ acc' x:=by
    rw[aX hx,visits,List.foldl_append,← hacc']
    rfl
   repeat' first|apply ad|(apply gw;first|(apply gq0;first|refine aw rfl ?_|refine ai (v:=AV.ptr _ _ _) rfl ?_|refine ai (v:=AV.map _) rfl ?_)|refine aI rfl b_ pv_ ?_|(refine aB rfl rfl rfl ?_ ?_<;>(intro hc;try omega))|refine ar rfl rfl hx HT rfl ?_|refine aL rfl nt_ ?_)|(apply gx;first|apply af|refine ae rfl ?_|apply ay|apply au|refine al rfl ?_)|apply ac
   refine jz HT (hkind (hold iw hiw) hxo) ?_
   skip
   refine gV (key:=AV.int .i64 (κ x)) rfl rfl rfl hm ?_
   rw[iK hfe]
   by_cases hmem:κ x∈acc'.map κ
   ·rw[if_pos hmem]
    have hv2:visit κ acc' x=acc':=by rw[visit,if_pos (.inr hmem)]
    repeat' first|apply ad|(apply gw;first|(apply gq0;first|refine aw rfl ?_|refine bV rfl ?_|refine ai (v:=AV.tup _) rfl ?_)|(apply gq1;first|refine cI rfl ?_|refine cD rfl ?_)|(apply gq3;first|refine a8 rfl rfl rfl HT HT ?_|(refine eM rfl rfl rfl ?_ ?_<;>(intro hc;try omega)))|(apply gq7;first|refine bU rfl rfl ?_|refine bh rfl rfl ?_)|refine dm (b:=true) rfl ?_|refine bY rfl rfl ?_)|(apply gx;first|apply af|refine ae rfl ?_|apply ay|refine ah rfl ?_)|apply ac|apply aJ
    all_goals exact aW hj2 ⟨v,acc',by rw[hnx2,hv2],hv,hm,hold,hown,hh_⟩
   ·rw[if_neg hmem]
    by_cases hx1:x = -1
    ·subst hx1
     have hv2:visit κ acc' (-1)=acc':=by rw[visit,if_pos (.inl rfl)]
     repeat' first|apply ad|(apply gw;first|(apply gq0;first|refine aw rfl ?_|refine bV rfl ?_|refine ai (v:=AV.tup _) rfl ?_)|refine cI rfl ?_|(apply gq3;first|refine a8 rfl rfl rfl HT HT ?_|(refine eM rfl rfl rfl ?_ ?_<;>(intro hc;try omega)))|refine bh rfl rfl ?_|refine bY rfl rfl ?_)|(apply gx;first|apply af|refine ae rfl ?_|apply ay|refine ah rfl ?_)|apply ac|apply aJ
     exact aW hj2 ⟨v,acc',by rw[hnx2,hv2],hv,hm,hold,hown,hh_⟩
    ·have hxi:=hxo.resolve_left hx1
     obtain⟨kx,hkx⟩:=aK (l:=K.l) (i:=x.toNat) (by unfold In at hxi;omega)
     have ekx:κ x=kx:=hkin (q:=x.toNat) (by unfold In at hxi;omega) hkx
     have hx0:x=(x.toNat:Int):=by unfold In at hxi;omega
     have hv2:visit κ acc' x=acc'++[x]:=by rw[visit,if_neg (fun e=>e.elim hx1 hmem)]
     repeat' first|apply ad|(apply gw;first|(apply gq0;first|refine aw rfl ?_|refine bV rfl ?_|refine ai (v:=AV.ptr _ _ _) rfl ?_|refine ai (v:=AV.tup _) rfl ?_|refine ai (v:=AV.map _) rfl ?_|refine ai rv_ ?_)|refine cD rfl ?_|(apply gq2;first|refine aI rfl b_ pv_ ?_|refine ak rfl hg_ HU b_ pv_ ?_)|(refine eM rfl rfl rfl ?_ ?_<;>(intro hc;try omega))|refine aq rfl (Nat.zero_add _) ?_|refine ar rfl rfl hkx HT rfl ?_|refine bU rfl rfl ?_|refine bi rfl ?_|refine dm (b:=false) rfl ?_|refine bY rfl rfl ?_|refine jp rv_ (by assumption) ?_)|(apply gx;first|apply af|refine ae rfl ?_|refine al rfl ?_)|apply ac
     refine fQ (key:=AV.int .i64 kx) (v:=AV.int .i64 acc'.length) rfl rfl rfl rfl rfl hm ?_
     have he2:=jC hfe (κ x) (acc'.map κ) 0 hmem
     rw[Nat.zero_add,List.length_map,ekx]at he2
     rw[he2]
     have hvid:v.rowId≠some id:=fun e=>by
      rcases hv with⟨rfl,_⟩|⟨id',g,rfl,h2,_⟩
      ·cases e
      ·injection e with e
       subst e
       rw[hm]at h2;cases h2
     have hv3:=hv.set_ne (o := .map (some .i64) (bJ (AV.int .i64) 0 (acc'.map κ++[kx]))) hvid
     repeat' first|apply ad|(apply gw;first|(apply gq0;first|refine aw rfl ?_|refine ai rv_ ?_)|refine a8 rfl rfl rfl HT HT ?_|refine bF (cs:=[AV.int _ _]) rfl rfl ?_|(refine nN (m:=1) rv_ (by first|assumption|exact dx.new (by assumption) (by assumption)|fail) rfl (by exact rfl) rfl HT ?_;intro va hpa hra hka hria))|refine ae rfl ?_|apply ac|apply aJ
     refine aW hj2 ⟨va,acc'++[x],by rw[hnx2,hv2],?_,?_,fun k hk=>?_,fun k hk=>?_,hh_⟩
     ·rw[List.length_append,List.map_append]
      exact hra
     ·rw[hka id (by rw[aa.get_set_self];simp) hvid,aa.get_set_self,List.map_append,← ekx]
      rfl
     ·have h1:(h'.set id (.map (some .i64) (bJ (AV.int .i64) 0 (acc'.map κ++[kx])))).get k=h'.get k:=aa.get_set_ne _ _ (hne hk)
      rw[hka k (by rw[h1,hold k hk];exact hk) (fun e=>hk (hown k e)),h1,hold k hk]
     ·rcases hria k hk with h1|h1
      ·exact hown k h1
      ·rw[aa.set_none]at h1
       apply Classical.byContradiction
       intro hn
       rw[hold k hn]at h1
       exact hn h1.2
  ·repeat' first|apply ad|(apply gw;first|refine aw rfl ?_|(apply gq3;first|refine a8 rfl rfl rfl HT HT ?_|(refine aB rfl rfl rfl ?_ ?_<;>(intro hc;try omega))))|(apply gx;first|apply af|refine ae rfl ?_|apply aP|refine ah rfl ?_)|apply ac|apply aQ|apply aJ|apply aR|apply ba
   rw[List.take_of_length_le HT]at hacc'
   have hnxs:=hnx s hs
   rw[hrk,hacc']at hnxs
   refine aW HT ⟨v,by rw[hnxs];exact hv,by rw[hnxs];exact hm,hold,hown,hh_⟩
 ·repeat' first|apply ad|(apply gw;first|(apply gq0;first|refine aw rfl ?_|refine ai rv_ ?_)|(refine aB rfl rfl rfl ?_ ?_<;>(intro hc;try omega))|refine jp rv_ (by assumption) ?_)|(apply gx;first|apply af|refine ae rfl ?_|apply aM|apply aP|refine ah rfl ?_)|apply ac|apply aQ|apply aR|apply ba
  have e:=hstop HT
  rw[← e]
  refine zO rfl hv fun h2 hk=>⟨?_,fun k hk0=>(hk k fun e=>hk0 (hown k e)).trans (hold k hk0)⟩
  simp[kK]
end
end Go.Proofs.YtlnobeojgifojaaGreatDoor
