/- Rounds. -/
import Derived.Test.YtlnobeojgifojaaGreatDoorE1
import Derived.Test.YtlnobeojgifojaaGreatDoorP1
import Derived.Test.YtlnobeojgifojaaGreatDoorD6
import Derived.Test.YtlnobeojgifojaaGreatDoorP2
set_option linter.unusedVariables false
set_option linter.unusedSimpArgs false
namespace Go.Proofs.YtlnobeojgifojaaGreatDoor
section
open Go
set_option maxHeartbeats 4000000
attribute [local irreducible] az bf bm de bz cw dH bJ wop cz bc
def fK (N:List (Rw Int))(K:List Int)(s:Nat):List UInt8:=dP (K.getD s 0)++cq ((N.getD s ⟨[],false⟩).l.map (bG K))
def iV (N:List (Rw Int))(K:List Int):List (List UInt8):=(List.range K.length).map (fK N K)
theorem iS (N:List (Rw Int))(K:List Int):(iV N K).length=K.length:=by simp[iV]
theorem nx {N:List (Rw Int)}{K:List Int}{s:Nat}(h:s<K.length):(iV N K)[s]?=some (fK N K s):=by
 simp[iV,h]
theorem oX:∀ a b:List UInt8,AV.str a=AV.str b→a=b:=fun _ _ e=>by injection e
theorem lg {α:Type}{a:List α}{z v:α}{n i:Nat}(ha:a.length=i)(hi:i<n):(a++List.replicate (n-i) z).set i v=(a++[v])++List.replicate (n-(i+1)) z:=by
 subst ha
 rw[List.set_append_right _ _ (Nat.le_refl _),Nat.sub_self,show n-a.length=(n-(a.length+1))+1 by omega,List.replicate_succ,List.set_cons_zero,List.append_assoc]
 rfl
def gm (q:Nat):AV := .int .i64 q
theorem EK {Φ:Lib}(L:cJ Φ){h:ad}{iw:Nat}{d:Dfa}{K:Rw Int}(hw:WAt h iw d K)(hf:d.Fit K) :
  bc Φ 117 [.ptr iw 0 0] h (fun v h'=>v = .int .i64 (bP (iV d.next.l K.l)).length∧WAt h' iw d ⟨(hZ (iV d.next.l K.l)).map Int.ofNat,false⟩∧∀ k,k≠iw→h.get k≠none→h'.get k=h.get k):=by
 have hw':h.get iw=some (.cells 0 [d.parts.mv Rw.sv,d.next.mv Rw.iv,d.tags.iv,K.iv]):=hw
 have hiw:h.get iw≠none:=by rw[hw'];simp
 have hkl:=hf.kl
 have hn2:=hf.n2
 refine ba (fun o=>o == some 45) rfl L.f117 ?_
 repeat' first|apply ac|(apply gw;first|(apply gq0;first|refine aq rfl ?_|refine au (v:=AV.ptr _ _ _) rfl ?_|refine au (v:=AV.own _ _ _ _ _ _) rfl ?_|refine au (v:=AV.map _) rfl ?_)|refine am rfl hg_ Lm b_ pv_ ?_|refine ar rfl (Nat.zero_add _) ?_|refine aw rfl ?_|refine br rfl ?_|(refine ix rfl rfl Ll Ll ?_;intro id hid;try simp only[ad.set_none]at hid)|(refine lQ ?_;intro id hid;try simp only[ad.set_none]at hid))|(apply gx;first|apply af|refine ae rfl ?_|apply al)|apply aa
 rename_i im him
 have hix:=hid
 clear hid
 generalize hT:iV d.next.l K.l=T
 have hTl:T.length=K.l.length:=by rw[← hT];exact iS _ _
 have hfm:∀ k,h.get k≠none→k≠im:=fun k hk e=>hk (e ▸ him)
 have hfx:∀ k,h.get k≠none→k≠id:=fun k hk e=>hk (e ▸ hix.2)
 refine bD K.l.length (fun i env h'=>h'.get im=some (.map none (bS AV.str 0 (bP (T.take i))))∧h'.get id=some (.cells 1 ((hZ (T.take i)).map gm++List.replicate (K.l.length-i) (.int .i64 0)))∧(∀ k,h.get k≠none→h'.get k=h.get k)∧env.has [(0,.ptr iw 0 0),(3,.map im),(4,.own id 1 1 0 K.l.length none),(20,.int .i64 K.l.length),(21,.int .i64 i)]) ⟨?_,?_,?_,hh_⟩ ?_
 ·rw[ad.get_set_ne _ _ hix.1.symm,ad.get_set_self];rfl
 ·rw[ad.get_set_self]
  congr 2
  simp[hZ]
 ·intro k hk
  rw[ad.get_set_ne _ _ (hfx k hk),ad.get_set_ne _ _ (hfm k hk)]
 rintro i env h' hi ⟨hm,hx,hold,he⟩
 obtain⟨env,rfl⟩:=he.ex
 clear he
 have hw1:=(hold iw hiw).trans hw'
 by_cases hi2:i<K.l.length
 ·obtain⟨k,hk⟩:=aK hi2
  obtain⟨row,hr⟩:=aK (l:=d.next.l) (show i<d.next.l.length by omega)
  have ht:T[i]?=some (dP k++cq (row.l.map (bG K.l))):=by
   rw[← hT,nx hi2]
   simp[fK,List.getD_eq_getElem?_getD,hk,hr]
  repeat' first|apply ac|(apply gw;first|(apply gq0;first|refine aq rfl ?_|refine au (v:=AV.ptr _ _ _) rfl ?_)|(refine aA rfl rfl rfl ?_ ?_<;>(intro hc;try omega))|refine aH rfl nt_ ?_)|(apply gx;first|apply af|refine ae rfl ?_|apply ay|apply al|refine ak rfl ?_)|apply aa
  refine kL Ll (Ia L (K:=K) hw1 hf hk hr) ?_
  generalize dP k++cq (row.l.map (bG K.l))=t at ht
  have hfl:=jJ (T.take i)
  have hsn:T.take (i+1)=T.take i++[t]:=by rw[List.take_add_one,ht];rfl
  have hnl:=gg (T.take i)
  rw[List.length_take]at hnl hfl
  have hmi:id≠im:=hix.1
  repeat' first|apply ac|(apply gq0;first|refine au (v:=AV.str _) rfl ?_|refine au (v:=AV.map _) rfl ?_)|(apply gx;first|apply af|refine ae rfl ?_)|apply aa
  refine jk (key:=AV.str t) rfl rfl rfl hm ?_
  rw[jT oX]
  by_cases hmem:t∈bP (T.take i)
  ·have hfe:bP (T.take (i+1))=bP (T.take i):=by rw[hsn,jZ,fG,if_pos hmem]
   have hne:hZ (T.take (i+1))=hZ (T.take i)++[dg (bP (T.take i)) t]:=by rw[hsn,ph,← hsn,hfe]
   rw[if_pos hmem]
   repeat' first|apply ac|(apply gw;first|(apply gq0;first|refine aq rfl ?_|refine bl rfl ?_|refine au (v:=AV.own _ _ _ _ _ _) rfl ?_|refine au (v:=AV.tup _) rfl ?_)|refine aT rfl rfl rfl Ll Ll ?_|refine bv rfl rfl Ll Ll ?_|refine bh (v:=AV.int _ _) rfl rfl hg_ rfl rfl b_ sv_ ?_|refine dh (b:=true) rfl ?_|refine ce rfl rfl ?_)|(apply gx;first|apply af|refine ae rfl ?_|apply ay|refine ai rfl ?_)|apply aa|apply aI
   rw[Nat.zero_add]
   refine aR hi2 ⟨?_,?_,fun k hk=>(ad.get_set_ne _ _ (hfx k hk)).trans (hold k hk),hh_⟩
   ·rw[ad.get_set_ne _ _ hmi.symm,hm,hfe]
   ·rw[ad.get_set_self,hne]
    simp only[AV.cells,putCells,Nat.zero_add,Nat.mul_one,Int.toNat_natCast]
    rw[lg (by rw[List.length_map,hnl];omega) hi2]
    simp[gm]
  ·have hfe:bP (T.take (i+1))=bP (T.take i)++[t]:=by rw[hsn,jZ,fG,if_neg hmem]
   have hne:hZ (T.take (i+1))=hZ (T.take i)++[(bP (T.take i)).length]:=by
    rw[hsn,ph,← hsn,hfe,qM hmem]
   rw[if_neg hmem]
   repeat' first|apply ac|(apply gw;first|(apply gq0;first|refine aq rfl ?_|refine bl rfl ?_|refine au (v:=AV.tup _) rfl ?_|refine au (v:=AV.map _) rfl ?_)|refine dh (b:=false) rfl ?_|refine ce rfl rfl ?_)|(apply gx;first|apply af|refine ae rfl ?_|refine ak rfl ?_)|apply aa
   refine lR rfl hm ?_
   rw[gc]
   repeat' first|apply ac|(apply gq0;first|refine aq rfl ?_|refine au (v:=AV.str _) rfl ?_|refine au (v:=AV.map _) rfl ?_)|refine ae rfl ?_|apply aa
   refine gP (key:=AV.str t) (v:=AV.int _ _) rfl rfl rfl rfl rfl hm ?_
   have he2:=kN oX t (bP (T.take i)) 0 hmem
   rw[Nat.zero_add]at he2
   rw[he2,← hfe]
   have hx2:(h'.set im (.map none (bS AV.str 0 (bP (T.take (i+1)))))).get id=some (.cells 1 ((hZ (T.take i)).map gm++List.replicate (K.l.length-i) (.int .i64 0))):=(ad.get_set_ne _ _ hmi).trans hx
   repeat' first|apply ac|(apply gw;first|(apply gq0;first|refine aq rfl ?_|refine au (v:=AV.own _ _ _ _ _ _) rfl ?_)|refine aT rfl rfl rfl Ll Ll ?_|refine bv rfl rfl Ll Ll ?_|refine bh (v:=AV.int _ _) rfl rfl hg_ rfl rfl b_ sv_ ?_)|refine ae rfl ?_|apply aa|apply aI
   refine aR hi2 ⟨?_,?_,fun k hk=>(ad.get_set_ne _ _ (hfx k hk)).trans ((ad.get_set_ne _ _ (hfm k hk)).trans (hold k hk)),hh_⟩
   ·rw[ad.get_set_ne _ _ hmi.symm,ad.get_set_self]
   ·rw[ad.get_set_self,hne]
    simp only[AV.cells,putCells,Nat.zero_add,Nat.mul_one,Int.toNat_natCast]
    rw[lg (by rw[List.length_map,hnl];omega) hi2]
    simp[gm]
 ·have hii:i=K.l.length:=by omega
  rw[List.take_of_length_le Ll]at hm hx
  rw[show K.l.length-i=0 by omega,List.replicate_zero,List.append_nil]at hx
  have hnl:=gg T
  have hrow:aD h' (.own id 1 1 0 K.l.length none) 1 K.l.length ((hZ T).map gm) := .inr ⟨id,1,rfl,hx,Nat.le_refl _,by simp[hnl,hTl]⟩
  repeat' first|apply ac|(refine aA rfl rfl rfl ?_ ?_<;>(intro hc;try omega))|(apply gx;first|apply af|refine ae rfl ?_|apply aN|refine ai rfl ?_)|apply aa|apply aO|apply aP|apply aX
  refine fk 4 (v := .own id 1 1 0 K.l.length none) rfl rfl hrow ?_
  intro h2 hk2
  have hw2:h2.get iw=_:=(hk2 iw (by simpa[AV.rowId] using fun e=>hfx iw hiw e.symm)).trans hw1
  have hm2:h2.get im=_:=(hk2 im (by simpa[AV.rowId] using hix.1)).trans hm
  repeat' first|apply ac|(apply gw;first|(apply gq0;first|refine aG rfl ?_|refine au (v:=AV.ptr _ _ _) rfl ?_|refine au (v:=AV.map _) rfl ?_)|refine ar rfl (Nat.zero_add _) ?_|refine br rfl ?_|refine bh (v:=AV.rd _ _ _) rfl rfl hg_ rfl rfl b_ sv_ ?_)|(apply gx;first|apply af|refine ae rfl ?_)|apply aa
  refine lR rfl ((ad.get_set_ne _ _ (hfm iw hiw).symm).trans hm2) ?_
  rw[gc]
  repeat' first|apply ac|refine aq rfl ?_|apply aM|apply aa
  refine aJ rfl ⟨rfl,?_,fun k hk hk0=>?_⟩
  ·unfold WAt
   rw[ad.get_set_self]
   simp[Rw.iv,Rw.mv,hnl,hTl,gm,Function.comp_def]
  ·rw[ad.get_set_ne _ _ hk,hk2 k (by simpa[AV.rowId] using fun e=>hfx k hk0 e.symm),hold k hk0]
end
section
open Go
set_option maxHeartbeats 4000000
attribute [local irreducible] az bf bm de bz cw dH bJ wop cz bc
theorem xB {F:bZ}{r:List bK}{Q:Env→ad→Prop}{env:Env}{h:ad}{d:Nat}{x:bA}{v:AV}{e n:Nat}{cs:List AV}{neg:Bool}(hx:ev env x=v)(hs:bB h e v=some (n,cs))(hns:v.isStr=false)
  (k1:az F r Q (env.put d (.bool neg)) h) (k2:n=0→az F r Q (env.put d (.bool !neg)) h):az F (⟨some d,.eqN neg x,none⟩::r) Q env h:=by
 simp only[bO,H7,dr,hx,bH]
 cases v with
 | rd m c f =>
  simp only[bB]at hs
  split at hs
  ·injection hs with hs
   injection hs with e1 e2
   subst e1
   dsimp only
   by_cases h0:m=0
   ·rw[if_pos h0]
    intro b
    cases b<;>cases neg<;>first|exact k1|exact k2 h0
   ·rw[if_neg h0]
    exact k1
  ·cases hs
 | own id g e2 off len lim =>
  have:len=n:=by
   simp only[bB]at hs
   split at hs
   ·split at hs
    ·injection hs with hs;injection hs
    ·cases hs
   ·cases hs
  subst this
  dsimp only
  by_cases h0:len=0
  ·rw[if_pos h0]
   intro b
   cases b<;>cases neg<;>first|exact k1|exact k2 h0
  ·rw[if_neg h0]
   exact k1
 | str s=>cases hns
 | _=>simp[bB]at hs
theorem HC {Φ:Lib}(L:cJ Φ){h:ad}{v:AV}{n:Nat}{cs:List AV}(hs:bB h 1 v=some (n,cs))(hl:cs.length=n*1)(hns:v.isStr=false)(hnt:v.isTup=false)(hn:n≤4294967296) :
  bc Φ 116 [v] h (fun v' h'=>aD h' v' 1 n cs∧(∀ k,h.get k≠none→h'.get k=h.get k)∧∀ k,v'.rowId=some k→h.get k=none):=by
 refine ba (fun _=>false) rfl L.f116 ?_
 repeat' first|apply ac|(apply gq0;first|refine aG rfl ?_|refine au rv_ ?_)|(apply gx;first|apply af|refine ae rfl ?_)|apply aa
 refine xB rfl hs hns ?_ ?_
 ·repeat' first|apply ac|(apply gw;first|refine au rv_ ?_|refine bj rfl rfl ?_)|(apply gx;first|apply af|refine ae rfl ?_|apply ay|refine ai rfl ?_)|apply aa
  refine iU (n:=0) rfl (aD.nil _ _) rfl hs hl Ll ?_
  intro v' h' hr hk hi
  rw[Nat.zero_add,List.nil_append]at hr
  repeat' first|apply ac|refine au rv_ ?_|apply aM|apply aa
  exact aJ rfl ⟨hr,fun k hk0=>hk k hk0 (by simp[AV.rowId]),fun k hk0=>(hi k hk0).resolve_left (by simp[AV.rowId])⟩
 ·rintro rfl
  have:cs=[]:=List.eq_nil_of_length_eq_zero Ll
  subst this
  repeat' first|apply ac|refine aG rfl ?_|(apply gx;first|apply af|refine ae rfl ?_|apply aM|refine ak rfl ?_)|apply aa|apply cp
  exact aJ rfl ⟨aD.nil _ _,fun k _=>rfl,fun k hk=>by simp[AV.rowId]at hk⟩
theorem FA {Φ:Lib}(L:cJ Φ){h:ad}{v:AV}{n:Nat}{cs:List AV}(hs:bB h 2 v=some (n,cs))(hl:cs.length=n*2)(hns:v.isStr=false)(hnt:v.isTup=false)(hn:n≤4294967296) :
  bc Φ 106 [v] h (fun v' h'=>aD h' v' 2 n cs∧(∀ k,h.get k≠none→h'.get k=h.get k)∧∀ k,v'.rowId=some k→h.get k=none):=by
 refine ba (fun _=>false) rfl L.f106 ?_
 repeat' first|apply ac|(apply gq0;first|refine aG rfl ?_|refine au rv_ ?_)|(apply gx;first|apply af|refine ae rfl ?_)|apply aa
 refine xB rfl hs hns ?_ ?_
 ·repeat' first|apply ac|(apply gw;first|refine au rv_ ?_|refine bj rfl rfl ?_)|(apply gx;first|apply af|refine ae rfl ?_|apply ay|refine ai rfl ?_)|apply aa
  refine iU (n:=0) rfl (aD.nil _ _) rfl hs hl Ll ?_
  intro v' h' hr hk hi
  rw[Nat.zero_add,List.nil_append]at hr
  repeat' first|apply ac|refine au rv_ ?_|apply aM|apply aa
  exact aJ rfl ⟨hr,fun k hk0=>hk k hk0 (by simp[AV.rowId]),fun k hk0=>(hi k hk0).resolve_left (by simp[AV.rowId])⟩
 ·rintro rfl
  have:cs=[]:=List.eq_nil_of_length_eq_zero Ll
  subst this
  repeat' first|apply ac|refine aG rfl ?_|(apply gx;first|apply af|refine ae rfl ?_|apply aM|refine ak rfl ?_)|apply aa|apply cp
  exact aJ rfl ⟨aD.nil _ _,fun k _=>rfl,fun k hk=>by simp[AV.rowId]at hk⟩
theorem w7 {Φ:Lib}(L:cJ Φ)(r:Rw Int)(hn:r.l.length≤4294967296):eQ Φ 116 [r.iv] (.rd r.l.length (r.l.map (.int .i64)) false):=by
 refine ba (fun _=>false) rfl L.f116 ?_
 have hs:∀ h:ad,bB h 1 r.iv=some (r.l.length,r.l.map (.int .i64)):=fun h=>by simp[bB]
 repeat' first|apply ac|refine aG rfl ?_|(apply gx;first|apply af|refine ae rfl ?_)|apply aa
 refine xB rfl (hs _) rfl ?_ ?_
 ·repeat' first|apply ac|(apply gw;first|(apply gq0;first|refine aG rfl ?_|refine au rv_ ?_)|(refine aY rv_ ir_ rfl Lm (by first|omega|(simp;omega)) ?_;intro va hpa hra hka hria)|refine bj rfl rfl ?_)|(apply gx;first|apply af|refine ae rfl ?_|apply ay|apply aM|refine ai rfl ?_)|apply aa
  rw[Nat.zero_add,List.nil_append]at hra
  exact fq rfl hra (fun _=>rfl)
 ·intro h0
  have h1:r.l=[]:=List.eq_nil_of_length_eq_zero h0
  repeat' first|apply ac|refine aG rfl ?_|(apply gx;first|apply af|refine ae rfl ?_|apply aM|refine ak rfl ?_)|apply aa|apply cp
  exact fq rfl (aD.nil _ 1) (fun _=>by simp[h1])
end
section
open Go
set_option maxHeartbeats 4000000
attribute [local irreducible] az bf bm de bz cw dH bJ wop cz bc
def iz (N:List (Rw Int))(K:List Int):List Int:=(hZ (iV N K)).map Int.ofNat
def rg (N:List (Rw Int))(K:List Int):Nat:=(bP (iV N K)).length
def itK (N:List (Rw Int))(T:List Int):Nat→List Int
 | 0=>T
 | r+1=>iz N (itK N T r)
theorem mL (N:List (Rw Int))(K:List Int):(iz N K).length=K.length:=by simp[iz,gg,iS]
theorem gn (N:List (Rw Int))(T:List Int):∀ r,(itK N T r).length=T.length
 | 0=>rfl
 | r+1=>by rw[itK,mL,gn N T r]
theorem I3 (N:List (Rw Int))(K:List Int):rg N K≤K.length:=by
 have:=jJ (iV N K)
 rw[iS]at this
 exact this
theorem tB {N:List (Rw Int)}{K:List Int}{s t:Nat}:fK N K s=fK N K t↔K.getD s 0=K.getD t 0∧(N.getD s ⟨[],false⟩).l.map (bG K)=(N.getD t ⟨[],false⟩).l.map (bG K):=by
 constructor
 ·exact fun e=>Dc e
 ·rintro⟨e1,e2⟩
  unfold fK
  rw[e1,e2]
theorem oZ {N:List (Rw Int)}{K:List Int}{s t:Nat}(hs:s<K.length)(ht:t<K.length):(iz N K).getD s 0=(iz N K).getD t 0↔fK N K s=fK N K t:=by
 have h1:=Cv (nx (N:=N) hs) (nx (N:=N) ht)
 rw[← h1]
 unfold iz
 rw[List.getD_eq_getElem?_getD,List.getD_eq_getElem?_getD,List.getElem?_map,List.getElem?_map]
 have l1:s<(hZ (iV N K)).length:=by rw[gg,iS];exact hs
 have l2:t<(hZ (iV N K)).length:=by rw[gg,iS];exact ht
 rw[List.getElem?_eq_getElem l1,List.getElem?_eq_getElem l2]
 simp only[Option.map_some,Option.getD_some,Option.some.injEq]
 constructor
 ·exact fun e=>Int.ofNat.inj e
 ·rintro e;rw[e]
theorem tW {N:List (Rw Int)}{K:List Int}{s t:Nat}(hs:s<K.length)(ht:t<K.length)(e:fK N (iz N K) s=fK N (iz N K) t):fK N K s=fK N K t :=
 (oZ hs ht).1 (tB.1 e).1
theorem w6 (N:List (Rw Int))(K:List Int):rg N K≤rg N (iz N K)∧(rg N K=rg N (iz N K)→∀ s<K.length,∀ t<K.length,fK N K s=fK N K t→fK N (iz N K) s=fK N (iz N K) t):=by
 have h:=Hz ((List.range K.length).map fun s=>(fK N K s,fK N (iz N K) s)) (by
  intro a ha b hb e
  obtain⟨s,hs,rfl⟩:=List.mem_map.1 ha
  obtain⟨t,ht,rfl⟩:=List.mem_map.1 hb
  exact tW (List.mem_range.1 hs) (List.mem_range.1 ht) e)
 rw[List.map_map,List.map_map]at h
 have e1:(List.range K.length).map ((fun x:List UInt8×List UInt8=>x.1)∘fun s=>(fK N K s,fK N (iz N K) s))=iV N K:=rfl
 have e2:(List.range K.length).map ((fun x:List UInt8×List UInt8=>x.2)∘fun s=>(fK N K s,fK N (iz N K) s))=iV N (iz N K):=by
  unfold iV
  rw[mL]
  rfl
 rw[e1,e2]at h
 refine⟨h.1,fun e s hs t ht est=>?_⟩
 exact h.2 e (_,_) (List.mem_map.2 ⟨s,List.mem_range.2 hs,rfl⟩) (_,_) (List.mem_map.2 ⟨t,List.mem_range.2 ht,rfl⟩) est
theorem qL (N:List (Rw Int)){K:List Int}(hK:K.length≤2000):∀ x∈iz N K,0≤x∧x≤2000:=by
 intro x hx
 unfold iz at hx
 obtain⟨q,hq,rfl⟩:=List.mem_map.1 hx
 have h1:=Cu hq
 have h2:=jJ (iV N K)
 rw[iS]at h2
 simp only[Int.ofNat_eq_natCast]
 omega
theorem Dfa.Fit.round {d:Dfa}{K:Rw Int}(hf:d.Fit K)(f:Bool):d.Fit ⟨iz d.next.l K.l,f⟩ where
 kl:=by rw[mL];exact hf.kl
 tl:=hf.tl
 n1:=hf.n1
 n2:=hf.n2
 p2:=hf.p2
 rows:=hf.rows
 to:=hf.to
 kr:=fun x hx=>by
  have:=qL d.next.l (by rw[hf.kl];exact hf.n2) x hx
  omega
theorem Dfa.Fit.it {d:Dfa}(hf:d.Fit d.tags):∀ q,d.Fit ⟨itK d.next.l d.tags.l q,false⟩
 | 0=>⟨hf.kl,hf.tl,hf.n1,hf.n2,hf.p2,hf.rows,hf.to,hf.kr⟩
 | q+1=>(Dfa.Fit.it hf q).round false
def wP (N:List (Rw Int))(T:List Int):Nat→Nat
 | 0=>0
 | q+1=>rg N (itK N T q)
theorem HB {N:List (Rw Int)}{K:List Int}(h:1≤K.length):1≤rg N K:=by
 have:fK N K 0∈bP (iV N K):=jr.2 (List.mem_of_getElem? (nx h))
 exact List.length_pos_of_mem this
theorem EN {Φ:Lib}(L:cJ Φ){h:ad}{iw:Nat}{d:Dfa}{K:Rw Int}(hw:WAt h iw d K)(hf:d.Fit d.tags) :
  bc Φ 103 [.ptr iw 0 0] h (fun v h'=>(∃ r,WAt h' iw d ⟨itK d.next.l d.tags.l (r+2),false⟩∧rg d.next.l (itK d.next.l d.tags.l r)=rg d.next.l (itK d.next.l d.tags.l (r+1)))∧∀ k,k≠iw→h.get k≠none→h'.get k=h.get k):=by
 have hw':h.get iw=some (.cells 0 [d.parts.mv Rw.sv,d.next.mv Rw.iv,d.tags.iv,K.iv]):=hw
 have hiw:h.get iw≠none:=by rw[hw'];simp
 have hn2:=hf.n2
 have hn1:=hf.n1
 have htl:=hf.tl
 have hcl:=w7 L d.tags Ll
 refine ba (fun o=>false) rfl L.f103 ?_
 repeat' first|apply ac|(apply gw;first|(apply gq0;first|refine aq rfl ?_|refine au (v:=AV.ptr _ _ _) rfl ?_)|refine am rfl hg_ Lm b_ pv_ ?_|refine ar rfl (Nat.zero_add _) ?_|refine br rfl ?_|refine aH rfl nt_ ?_|refine bh (v:=AV.rd _ _ _) rfl rfl hg_ rfl rfl b_ sv_ ?_)|(apply gx;first|apply af|refine ae rfl ?_|apply ay|apply al)|apply aa|refine aW (by assumption) fz_ fz_ ?_
 refine gL (fun m env h'=>∃ q,m=d.next.l.length-wP d.next.l d.tags.l q∧WAt h' iw d ⟨itK d.next.l d.tags.l q,false⟩∧(∀ k,k≠iw→h.get k≠none→h'.get k=h.get k)∧env.has [(0,.ptr iw 0 0),(2,.int .i64 (wP d.next.l d.tags.l q))]) d.next.l.length ⟨0,rfl,ad.get_set_self _ _ _,fun k hk _=>ad.get_set_ne _ _ hk,hh_⟩ ?_
 rintro m env h' ⟨q,rfl,hw1,hold,he⟩
 obtain⟨env,rfl⟩:=he.ex
 clear he
 repeat' first|(apply gw;first|refine au (v:=AV.ptr _ _ _) rfl ?_|refine aH rfl nt_ ?_)|(apply gx;first|apply af|refine ae rfl ?_|apply al)
 refine ci (EK L hw1 (hf.it q)) ?_
 rintro _ h2 ⟨rfl,hw2,hk2⟩
 have hlen:(itK d.next.l d.tags.l q).length=d.next.l.length:=by rw[gn];exact htl
 have hpos:=HB (N:=d.next.l) (K:=itK d.next.l d.tags.l q) Ll
 have hle:=I3 d.next.l (itK d.next.l d.tags.l q)
 have hlast:wP d.next.l d.tags.l q≤rg d.next.l (itK d.next.l d.tags.l q):=by
  cases q with
  | zero=>exact Nat.zero_le _
  | succ q=>exact(w6 _ _).1
 have hold2:∀ k,k≠iw→h.get k≠none→h2.get k=h.get k:=fun k hk h0=>(hk2 k hk (by rw[hold k hk h0];exact h0)).trans (hold k hk h0)
 have hc2:wP d.next.l d.tags.l (q+1)=rg d.next.l (itK d.next.l d.tags.l q):=rfl
 rw[show(bP (iV d.next.l (itK d.next.l d.tags.l q))).length=rg d.next.l (itK d.next.l d.tags.l q) from rfl]
 repeat' first|apply ac|(apply gw;first|refine aq rfl ?_|(refine dd rfl rfl rfl ?_ ?_<;>(intro hc;try omega)))|(apply gx;first|apply af|refine ae rfl ?_|apply ay|apply aN|refine ak rfl ?_|refine ai rfl ?_)|apply aa|apply aO|apply aI|apply aP|refine oP rfl ?_|apply aX
 ·cases q with
  | zero=>exfalso;simp only[wP]at hc;omega
  | succ q =>
   refine nh rfl ⟨⟨q,hw2,?_⟩,hold2⟩
   simp only[wP]at hc
   omega
 ·exact fp _ Ll ⟨q+1,rfl,hw2,hold2,hh_⟩
end
section
open Go
set_option maxHeartbeats 4000000
def eo (h:ad)(v:AV)(e n:Nat)(cs:List AV):Prop :=
 (v = .rd n cs true∧cs.length=n*e)∨∃ id g,v = .own id g e 0 n none∧h.get id=some (.cells g cs)∧1≤g∧cs.length=n*e
theorem aD.app {h v e n cs}(hr:aD h v e n cs):eo h v e n cs:=by
 rcases hr with⟨rfl,rfl,rfl⟩|h1
 ·exact .inl ⟨rfl,by simp⟩
 ·exact .inr h1
theorem eo.lit {h:ad}{e n cs}(hl:cs.length=n*e):eo h (.rd n cs true) e n cs := .inl ⟨rfl,hl⟩
theorem eo.length {h v e n cs}(hr:eo h v e n cs):cs.length=n*e:=by
 rcases hr with⟨_,h⟩|⟨_,_,_,_,_,h⟩<;>exact h
theorem eo.keep {h h':ad}{v e n cs}(hr:eo h v e n cs)(hk:∀ id,v.rowId=some id→h'.get id=h.get id):eo h' v e n cs:=by
 rcases hr with h1|⟨id,g,rfl,h2,h3,h4⟩
 ·exact .inl h1
 ·exact .inr ⟨id,g,rfl,(hk id rfl).trans h2,h3,h4⟩
theorem eo.there {h:ad}{v e n cs}(hr:eo h v e n cs){id:Nat}(hi:v.rowId=some id):h.get id≠none:=by
 rcases hr with⟨rfl,_⟩|⟨id',g,rfl,h2,_⟩
 ·cases hi
 ·cases hi
  rw[h2];simp
theorem eo.notTup {h:ad}{v e n cs}(hr:eo h v e n cs):v.isTup=false:=by
 rcases hr with⟨rfl,_⟩|⟨id',g,rfl,_⟩<;>rfl
theorem eo.notStr {h:ad}{v e n cs}(hr:eo h v e n cs):v.isStr=false:=by
 rcases hr with⟨rfl,_⟩|⟨id',g,rfl,_⟩<;>rfl
theorem eo.new {h:ad}{v e n cs}(hr:eo h v e n cs){id:Nat}{o:iQ}(hid:h.get id=none):eo (h.set id o) v e n cs :=
 hr.keep fun k hk=>ad.get_set_ne _ _ (fun e=>hr.there hk (e ▸ hid))
theorem eo.set_ne {h:ad}{v e n cs}(hr:eo h v e n cs){id:Nat}{o:iQ}(hid:v.rowId≠some id):eo (h.set id o) v e n cs :=
 hr.keep fun k hk=>ad.get_set_ne _ _ (fun e=>hid (e ▸ hk))
theorem eo.fz {h:ad}{v e n cs cs'}(hr:eo h v e n cs)(S:Nat→Prop)(hS:∀ id,v.rowId=some id→S id)(hc:FzL h S cs cs'):FzV h S v (.rd n cs' false):=by
 rcases hr with⟨rfl,h1⟩|h1
 ·exact .rd hc (fun h=>by cases h)
 ·exact aD.fz (.inr h1) S hS hc
def Ju (h:ad)(p a:AV):Prop:=p = .rp [a]∨∃ id g o cs,p = .ptr id g o∧h.get id=some (.cells g cs)∧cs[o]?=some a
section
variable {F:bZ} {r:List bK} {Q:Env→ad→Prop} {env:Env} {h:ad} {d:Nat} {x y z c:bA}
theorem pI {e n m:Nat}{v w:AV}{cs new:List AV}(hx:ev env x=v)(hrow:eo h v e n cs)(hy:ev env y=w)(hs:bB h e w=some (m,new))(hm:new.length=m*e)(hle:n+m≤4294967296)
  (k:∀ v' h',eo h' v' e (n+m) (cs++new)→(∀ id,h.get id≠none→v.rowId≠some id→h'.get id=h.get id)→(∀ id,v'.rowId=some id→v.rowId=some id∨h.get id=none)→az F r Q (env.put d v') h'):az F (⟨some d,.append e x y,none⟩::r) Q env h:=by
 have hmax:kH=4294967296:=rfl
 rcases hrow with⟨rfl,hl⟩|hrow
 ·simp only[bO,kB,dr,hx,hy,hs,Option.bind_some,bH]
  rw[if_pos ⟨hl,by omega⟩]
  by_cases h0:m=0
  ·subst h0
   have:new=[]:=List.eq_nil_of_length_eq_zero (by simpa using hm)
   subst this
   simp only[if_true,qw]
   exact k _ _ (.inl ⟨by simp,by simpa using hl⟩) (fun _ _ _=>rfl) (fun _ h=>by cases h)
  ·rw[if_neg h0]
   simp only[if_true,yM]
   intro id hid
   exact k _ _ (.inr ⟨id,1,rfl,ad.get_set_self _ _ _,Nat.le_refl _,by rw[List.length_append,hl,hm,Nat.add_mul]⟩) (fun j hj _=>ad.get_set_ne _ _ (fun e=>hj (e ▸ hid))) (fun j hj=>by cases hj;exact .inr hid)
 ·exact iU hx (.inr hrow) hy hs hm hle fun v' h' k1 k2 k3=>k v' h' k1.app k2 k3
theorem kE {h0:ad}{v e n cs}(hx:ev env x=v)(hrow:eo h0 v e n cs)(k:az F r Q (env.put d (.int .i64 n)) h):az F (⟨some d,.len 0 x,none⟩::r) Q env h:=by
 rcases hrow with⟨rfl,h1⟩|⟨id,g,rfl,_⟩
 ·exact aw hx k
 ·exact eS hx k
theorem nz {v:AV}{n:Nat}{cs:List AV}{k:IntKind}{j:Int}{m:Nat}{a:AV}(hx:ev env x=v)(hrow:eo h v 1 n cs)(hy:ev env y = .int k j)(hj:j=(m:Int))(ha:cs[m]?=some a)(k1:∀ p,Ju h p a→az F r Q (env.put d p) h):az F (⟨some d,.indexAddr 1 x y,none⟩::r) Q env h:=by
 have hm:=lt_of_getElem? ha
 have hl:=hrow.length
 subst hj
 rcases hrow with⟨rfl,_⟩|⟨id,g,rfl,h1,h2,h3⟩
 ·refine mr hx hy Ll Ll (cs':=[a]) ?_ (k1 _ (.inl rfl))
  obtain⟨h4,rfl⟩:=List.getElem?_eq_some_iff.1 ha
  rw[Int.toNat_natCast,Nat.mul_one,List.drop_eq_getElem_cons h4]
  rfl
 ·exact bv hx hy Ll Ll (k1 _ (.inr ⟨id,g,_,cs,rfl,h1,by simpa using ha⟩))
theorem pT {p a:AV}(hx:ev env x=p)(hp:Ju h p a)(k:az F r Q (env.put d a) h):az F (⟨some d,.load false 1 false x,none⟩::r) Q env h:=by
 rcases hp with rfl|⟨id,g,o,cs,rfl,h1,h2⟩
 ·exact aB hx Lm rfl k
 ·have:=lt_of_getElem? h2
  exact am hx h1 Lm Ll (by simp[part,List.getD_eq_getElem?_getD,h2]) k
end
theorem CB {rs:List vP}{Q:AV→ad→Prop}{env:Env}{h:ad}{v:AV}{e n:Nat}{cs:List AV}(hv:fm env h rs=some v)(hr:eo h v e n cs)(k:∀ h',(∀ j,v.rowId≠some j→h'.get j=h.get j)→Q (.rd n cs false) h'):dH rs Q .ret env h:=by
 refine fP (fun j=>v.rowId=some j) hv (hr.fz _ (fun _ h=>h) (FzL.same _)) (k _ fun j hj=>?_)
 simp only[ad.drop,hj,if_false]
attribute [local irreducible] az bf bm de bz cw dH bJ wop cz bc
def lX (N:List (Rw Int))(s:Int):List Int:=(N.getD s.toNat ⟨[],false⟩).l
theorem qK {N:List (Rw Int)}{s:Int}{m:Nat}{r:Rw Int}(hs:s=(m:Int))(h:N[m]?=some r):lX N s=r.l:=by
 subst hs
 simp[lX,List.getD_eq_getElem?_getD,h]
theorem Dfa.Fit.tab {d:Dfa}{K:Rw Int}(hf:d.Fit K):Tab d.next.l.length d.parts.l.length (lX d.next.l):=by
 have key:∀ s,In d.next.l.length s→∃ r∈d.next.l,lX d.next.l s=r.l:=fun s hs=>by
  have h1:s.toNat<d.next.l.length:=by unfold In at hs;omega
  exact⟨d.next.l[s.toNat],List.getElem_mem h1,by simp[lX,List.getD_eq_getElem?_getD,h1]⟩
 refine⟨fun s hs=>?_,fun s hs x hx=>?_⟩
 ·obtain⟨r,hr,e⟩:=key s hs
  rw[e];exact hf.rows r hr
 ·obtain⟨r,hr,e⟩:=key s hs
  rw[e]at hx
  rcases hf.to r hr x hx with h|h
  ·exact .inl h
  ·right;unfold In;omega
theorem vS {Φ:Lib}(L:cJ Φ){h:ad}{iw:Nat}{d:Dfa}{K:Rw Int}(hw:WAt h iw d K)(hf:d.Fit K) :
  bc Φ 105 [.ptr iw 0 0] h (fun v h'=>v=gK (cU d.next.l.length (bG K.l) (lX d.next.l) 0)∧∀ k,h.get k≠none→h'.get k=h.get k):=by
 have hw':h.get iw=some (.cells 0 [d.parts.mv Rw.sv,d.next.mv Rw.iv,d.tags.iv,K.iv]):=hw
 have hiw:h.get iw≠none:=by rw[hw'];simp
 have hn2:=hf.n2
 have hn1:=hf.n1
 have hkl:=hf.kl
 have h0:In d.next.l.length 0:=⟨Int.le_refl _,by omega⟩
 obtain⟨k0,hk0⟩:=aK (l:=K.l) (show 0<K.l.length by omega)
 have hfe:∀ a b:Int,AV.int .i64 a=AV.int .i64 b→a=b:=fun _ _ e=>by injection e
 generalize hκ:bG K.l=κ
 have hkin:∀ {s:Int} {q:Nat} {x:Int},s=(q:Int)→K.l[q]?=some x→κ s=x:=fun {s q x} e hx=>by
  rw[← hκ,bG,if_neg Ll,e,Int.toNat_natCast,List.getD_eq_getElem?_getD,hx];rfl
 refine ba (fun _=>false) rfl L.f105 ?_
 repeat' first|apply ac|(apply gw;first|(apply gq0;first|refine aG rfl ?_|refine au (v:=AV.ptr _ _ _) rfl ?_)|(apply gq2;first|refine aB rfl b_ pv_ ?_|refine am rfl hg_ Lm b_ pv_ ?_)|refine ar rfl (Nat.zero_add _) ?_|refine dN rfl rfl rfl (by assumption) rfl ?_|refine br rfl ?_|refine bj (cs:=[AV.int _ _]) rfl rfl ?_|(refine lQ ?_;intro id hid;try simp only[ad.set_none]at hid))|(apply gx;first|apply af|refine ae rfl ?_)|apply aa
 refine gP (key:=AV.int .i64 k0) (v:=AV.int .i64 0) rfl rfl rfl rfl rfl (ad.get_set_self _ _ _) ?_
 have ek0:κ 0=k0:=hkin (q:=0) rfl hk0
 have hkind:∀ {h':ad} {x:Int},h'.get iw=h.get iw→x = -1∨In d.next.l.length x→bc Φ 107 [.ptr iw 0 0,.int .i64 x] h' (fun v h2=>v = .int .i64 (κ x)∧h'.Ext h2):=fun {h' x} he hx=>by
  rw[← hκ]
  refine ta L (K:=K) (hw.keep he) x ?_
  rcases hx with h1|h1
  ·exact .inl h1
  ·right;unfold In at h1;omega
 have hne:∀ {k},h.get k≠none→k≠id:=fun hk e=>hk (e ▸ hid)
 have hT:=hf.tab
 repeat' first|apply ac|(apply gq0;first|refine aq rfl ?_|refine au (v:=AV.map _) rfl ?_)|(apply gx;first|apply af|refine ae rfl ?_|apply al)|apply aa
 refine bD d.next.l.length (fun i env h'=>∃ v,eo h' v 1 (cB κ (lX d.next.l) 0 i).length ((cB κ (lX d.next.l) 0 i).map (.int .i64))∧h'.get id=some (.map (some .i64) (bS (AV.int .i64) 0 ((cB κ (lX d.next.l) 0 i).map κ)))∧(∀ k,h.get k≠none→h'.get k=h.get k)∧(∀ k,v.rowId=some k→h.get k=none)∧env.has [(0,.ptr iw 0 0),(3,v),(4,.map id),(5,.int .i64 i)]) ⟨_,eo.lit rfl,?_,?_,fun k hk=>by simp[AV.rowId]at hk,hh_⟩ ?_
 ·rw[ad.get_set_self]
  simp[cB,bS,mf,ek0]
 ·intro k hk
  rw[ad.get_set_ne _ _ (hne hk),ad.get_set_ne _ _ (hne hk)]
 rintro i env h' hi ⟨v,hv,hm,hold,hown,he⟩
 obtain⟨env,rfl⟩:=he.ex
 clear he
 obtain⟨hcome,hdone⟩:=jU (κ:=κ) hT h0 i
 have hmost:=hcome.most
 have hnx:∀ s,(cB κ (lX d.next.l) 0 i)[i]?=some s→cB κ (lX d.next.l) 0 (i+1)=visits κ (cB κ (lX d.next.l) 0 i) (lX d.next.l s):=fun s hs=>by rw[cB,hs]
 have hstop:(cB κ (lX d.next.l) 0 i).length≤i→cB κ (lX d.next.l) 0 i=cU d.next.l.length κ (lX d.next.l) 0:=wC hT h0
 generalize hacc:cB κ (lX d.next.l) 0 i=acc at hv hm hcome hdone hmost hnx hstop
 have hnt:=hv.notTup
 by_cases hi2:i<acc.length
 ·obtain⟨s,hs⟩:=aK hi2
  have hsin:=hcome.inn s (List.mem_of_getElem? hs)
  obtain⟨row,hrow⟩:=aK (l:=d.next.l) (i:=s.toNat) (by unfold In at hsin;omega)
  have hrk:lX d.next.l s=row.l:=qK (m:=s.toNat) (by unfold In at hsin;omega) hrow
  have hs0:s=(s.toNat:Int):=by unfold In at hsin;omega
  have hrl:=hf.rows row (List.mem_of_getElem? hrow)
  have hp2:=hf.p2
  have hw1:=(hold iw hiw).trans hw'
  have hsm:(acc.map (AV.int .i64))[i]?=some (.int .i64 s):=by rw[List.getElem?_map,hs];rfl
  repeat' first|apply ac|(apply gw;first|(apply gq0;first|refine aq rfl ?_|refine au (v:=AV.ptr _ _ _) rfl ?_|refine au rv_ ?_)|refine am rfl hg_ Lm b_ pv_ ?_|(refine aA rfl rfl rfl ?_ ?_<;>(intro hc;try omega))|refine ar rfl (Nat.zero_add _) ?_|refine br rfl ?_|refine kE rv_ (by assumption) ?_)|(apply gx;first|apply af|refine ae rfl ?_|apply ay|apply al|refine ak rfl ?_)|apply aa
  refine nz rfl hv rfl rfl hsm ?_
  intro p hp
  refine pT rfl hp ?_
  repeat' first|apply ac|(apply gw;first|refine aq rfl ?_|refine aB rfl b_ pv_ ?_|refine ah rfl rfl hrow Ll rfl ?_|refine aw rfl ?_)|apply al|apply aa
  refine bD row.l.length (fun j env h'=>∃ v acc',visits κ acc (row.l.take j)=acc'∧eo h' v 1 acc'.length (acc'.map (.int .i64))∧h'.get id=some (.map (some .i64) (bS (AV.int .i64) 0 (acc'.map κ)))∧(∀ k,h.get k≠none→h'.get k=h.get k)∧(∀ k,v.rowId=some k→h.get k=none)∧env.has [(0,.ptr iw 0 0),(3,v),(4,.map id),(5,.int .i64 i),(35,row.iv),(36,.int .i64 row.l.length),(37,.int .i64 j)]) ⟨v,acc,by simp[visits],hv,hm,hold,hown,hh_⟩ ?_
  clear hm hold hown hv hnt hp hw1
  rintro j env h' hj ⟨v,acc',hacc',hv,hm,hold,hown,he⟩
  obtain⟨env,rfl⟩:=he.ex
  clear he
  have hw1:=(hold iw hiw).trans hw'
  have hnt:=hv.notTup
  have hto:∀ x∈row.l,x = -1∨In d.next.l.length x:=by rw[← hrk];exact hT.to s hsin
  have hmost':acc'.length≤d.next.l.length:=by
   rw[← hacc']
   exact(hcome.visits (row:=row.l.take j) (fun x hx=>hto x (List.mem_of_mem_take hx)) fun x hx=>⟨s,List.mem_of_getElem? hs,by rw[hrk];exact List.mem_of_mem_take hx⟩).1.most
  by_cases hj2:j<row.l.length
  ·obtain⟨x,hx⟩:=aK hj2
   have hxo:=hto x (List.mem_of_getElem? hx)
   have hnx2:visits κ acc (row.l.take (j+1))=visit κ acc' x:=by
    rw[aV hx,visits,List.foldl_append,← hacc']
    rfl
   repeat' first|apply ac|(apply gw;first|(apply gq0;first|refine aq rfl ?_|refine au (v:=AV.ptr _ _ _) rfl ?_|refine au (v:=AV.map _) rfl ?_)|refine aB rfl b_ pv_ ?_|(refine aA rfl rfl rfl ?_ ?_<;>(intro hc;try omega))|refine ah rfl rfl hx Ll rfl ?_|refine aH rfl nt_ ?_)|(apply gx;first|apply af|refine ae rfl ?_|apply ay|apply al|refine ak rfl ?_)|apply aa
   refine kL Ll (hkind (hold iw hiw) hxo) ?_
   skip
   refine jk (key:=AV.int .i64 (κ x)) rfl rfl rfl hm ?_
   rw[jT hfe]
   by_cases hmem:κ x∈acc'.map κ
   ·rw[if_pos hmem]
    have hv2:visit κ acc' x=acc':=by rw[visit,if_pos (.inr hmem)]
    repeat' first|apply ac|(apply gw;first|(apply gq0;first|refine aq rfl ?_|refine bl rfl ?_|refine au (v:=AV.tup _) rfl ?_)|(apply gq1;first|refine cf rfl ?_|refine cj rfl ?_)|(apply gq3;first|refine aT rfl rfl rfl Ll Ll ?_|(refine eK rfl rfl rfl ?_ ?_<;>(intro hc;try omega)))|(apply gq7;first|refine bi rfl rfl ?_|refine bb rfl rfl ?_)|refine dh (b:=true) rfl ?_|refine ce rfl rfl ?_)|(apply gx;first|apply af|refine ae rfl ?_|apply ay|refine ai rfl ?_)|apply aa|apply aI
    all_goals exact aR hj2 ⟨v,acc',by rw[hnx2,hv2],hv,hm,hold,hown,hh_⟩
   ·rw[if_neg hmem]
    by_cases hx1:x = -1
    ·subst hx1
     have hv2:visit κ acc' (-1)=acc':=by rw[visit,if_pos (.inl rfl)]
     repeat' first|apply ac|(apply gw;first|(apply gq0;first|refine aq rfl ?_|refine bl rfl ?_|refine au (v:=AV.tup _) rfl ?_)|refine cf rfl ?_|(apply gq3;first|refine aT rfl rfl rfl Ll Ll ?_|(refine eK rfl rfl rfl ?_ ?_<;>(intro hc;try omega)))|refine bb rfl rfl ?_|refine ce rfl rfl ?_)|(apply gx;first|apply af|refine ae rfl ?_|apply ay|refine ai rfl ?_)|apply aa|apply aI
     exact aR hj2 ⟨v,acc',by rw[hnx2,hv2],hv,hm,hold,hown,hh_⟩
    ·have hxi:=hxo.resolve_left hx1
     obtain⟨kx,hkx⟩:=aK (l:=K.l) (i:=x.toNat) (by unfold In at hxi;omega)
     have ekx:κ x=kx:=hkin (q:=x.toNat) (by unfold In at hxi;omega) hkx
     have hx0:x=(x.toNat:Int):=by unfold In at hxi;omega
     have hv2:visit κ acc' x=acc'++[x]:=by rw[visit,if_neg (fun e=>e.elim hx1 hmem)]
     repeat' first|apply ac|(apply gw;first|(apply gq0;first|refine aq rfl ?_|refine bl rfl ?_|refine au (v:=AV.ptr _ _ _) rfl ?_|refine au (v:=AV.tup _) rfl ?_|refine au (v:=AV.map _) rfl ?_|refine au rv_ ?_)|refine cj rfl ?_|(apply gq2;first|refine aB rfl b_ pv_ ?_|refine am rfl hg_ Lm b_ pv_ ?_)|(refine eK rfl rfl rfl ?_ ?_<;>(intro hc;try omega))|refine ar rfl (Nat.zero_add _) ?_|refine ah rfl rfl hkx Ll rfl ?_|refine bi rfl rfl ?_|refine br rfl ?_|refine dh (b:=false) rfl ?_|refine ce rfl rfl ?_|refine kE rv_ (by assumption) ?_)|(apply gx;first|apply af|refine ae rfl ?_|refine ak rfl ?_)|apply aa
     refine gP (key:=AV.int .i64 kx) (v:=AV.int .i64 acc'.length) rfl rfl rfl rfl rfl hm ?_
     have he2:=kN hfe (κ x) (acc'.map κ) 0 hmem
     rw[Nat.zero_add,List.length_map,ekx]at he2
     rw[he2]
     have hvid:v.rowId≠some id:=fun e=>by
      rcases hv with⟨rfl,_⟩|⟨id',g,rfl,h2,_⟩
      ·cases e
      ·injection e with e
       subst e
       rw[hm]at h2;cases h2
     have hv3:=hv.set_ne (o := .map (some .i64) (bS (AV.int .i64) 0 (acc'.map κ++[kx]))) hvid
     repeat' first|apply ac|(apply gw;first|(apply gq0;first|refine aq rfl ?_|refine au rv_ ?_)|refine aT rfl rfl rfl Ll Ll ?_|refine bj (cs:=[AV.int _ _]) rfl rfl ?_|(refine pI (m:=1) rv_ (by first|assumption|exact eo.new (by assumption) (by assumption)|fail) rfl (by exact rfl) rfl Ll ?_;intro va hpa hra hka hria))|refine ae rfl ?_|apply aa|apply aI
     refine aR hj2 ⟨va,acc'++[x],by rw[hnx2,hv2],?_,?_,fun k hk=>?_,fun k hk=>?_,hh_⟩
     ·rw[List.length_append,List.map_append]
      exact hra
     ·rw[hka id (by rw[ad.get_set_self];simp) hvid,ad.get_set_self,List.map_append,← ekx]
      rfl
     ·have h1:(h'.set id (.map (some .i64) (bS (AV.int .i64) 0 (acc'.map κ++[kx])))).get k=h'.get k:=ad.get_set_ne _ _ (hne hk)
      rw[hka k (by rw[h1,hold k hk];exact hk) (fun e=>hk (hown k e)),h1,hold k hk]
     ·rcases hria k hk with h1|h1
      ·exact hown k h1
      ·rw[ad.set_none]at h1
       apply Classical.byContradiction
       intro hn
       rw[hold k hn]at h1
       exact hn h1.2
  ·repeat' first|apply ac|(apply gw;first|refine aq rfl ?_|(apply gq3;first|refine aT rfl rfl rfl Ll Ll ?_|(refine aA rfl rfl rfl ?_ ?_<;>(intro hc;try omega))))|(apply gx;first|apply af|refine ae rfl ?_|apply aN|refine ai rfl ?_)|apply aa|apply aO|apply aI|apply aP|apply aX
   rw[List.take_of_length_le Ll]at hacc'
   have hnxs:=hnx s hs
   rw[hrk,hacc']at hnxs
   refine aR Ll ⟨v,by rw[hnxs];exact hv,by rw[hnxs];exact hm,hold,hown,hh_⟩
 ·repeat' first|apply ac|(apply gw;first|(apply gq0;first|refine aq rfl ?_|refine au rv_ ?_)|(refine aA rfl rfl rfl ?_ ?_<;>(intro hc;try omega))|refine kE rv_ (by assumption) ?_)|(apply gx;first|apply af|refine ae rfl ?_|apply aM|apply aN|refine ai rfl ?_)|apply aa|apply aO|apply aP|apply aX
  have e:=hstop Ll
  rw[← e]
  refine CB rfl hv fun h2 hk=>⟨?_,fun k hk0=>(hk k fun e=>hk0 (hown k e)).trans (hold k hk0)⟩
  simp[gK]
end
end Go.Proofs.YtlnobeojgifojaaGreatDoor
