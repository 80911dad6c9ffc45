/- lower.reduced: one state of each kind, as they are come to. -/
import Derived.Test.YtlnobeojgifojaaGreatDoorVC
import Derived.Test.YtlnobeojgifojaaGreatDoorO1
set_option linter.unusedVariables false
set_option linter.unusedSimpArgs false
namespace Go.Proofs.YtlnobeojgifojaaGreatDoor
section
open Go
set_option maxHeartbeats 4000000
theorem ue {κ:Int→Int}{A t:List Int}{x:Int}(h:x = -1∨κ x∈A.map κ):cr κ (A++t) x=cr κ A x:=by
 rcases h with rfl|h
 ·rw[jy,jy]
 ·unfold cr
  rw[List.map_append,List.idxOf_append,if_pos h]
theorem EI {n:Nat}{κ:Int→Int}{R:Int→List Int}{A row:List Int}(hc:ru n κ R 0 A)(h1:∀ x∈row,x = -1∨In n x)(h2:∀ x∈row,∃ t∈A,x∈R t){j:Nat}{x:Int}(hx:row[j]?=some x){B:List Int}(hB:B=visits κ A (row.take j)) :
  visits κ A (row.take (j+1))=visit κ B x∧(row.take (j+1)).map (cr κ (visit κ B x))=(row.take j).map (cr κ B)++[cr κ (visit κ B x) x]:=by
 rw[aV hx]
 refine⟨by rw[visits,List.foldl_append,hB];rfl,?_⟩
 rw[List.map_append,List.map_singleton]
 congr 1
 refine List.map_congr_left fun y hy=>?_
 obtain⟨t,ht⟩:=nw κ B x
 rw[ht]
 refine ue ?_
 rw[hB]
 exact(hc.visits (fun z hz=>h1 z (List.mem_of_mem_take hz)) (fun z hz=>h2 z (List.mem_of_mem_take hz))).2 y hy
def sg (κ:Int→Int)(R:Int→List Int)(A:List Int)(i:Nat):List (List Int):=(A.take i).map fun s=>(R s).map (cr κ A)
theorem A3 {n p:Nat}{κ:Int→Int}{R:Int→List Int}(hT:Tab n p R)(h0:In n 0){i:Nat}{s:Int}(hs:(cB κ R 0 i)[i]?=some s):sg κ R (cB κ R 0 (i+1)) (i+1)=sg κ R (cB κ R 0 i) i++[(R s).map (cr κ (cB κ R 0 (i+1)))]:=by
 obtain⟨_,hd⟩:=jU (κ:=κ) hT h0 i
 have e:cB κ R 0 (i+1)=visits κ (cB κ R 0 i) (R s):=by rw[cB,hs]
 obtain⟨t,ht⟩:=iR κ (R s) (cB κ R 0 i)
 have hlt:=lt_of_getElem? hs
 unfold sg
 have hs2:(cB κ R 0 (i+1))[i]?=some s:=by rw[e,ht,List.getElem?_append_left hlt];exact hs
 rw[aV hs2,List.map_append,List.map_singleton]
 congr 1
 rw[e,ht,List.take_append_of_le_length Ll]
 refine List.map_congr_left fun y hy=>List.map_congr_left fun z hz=>ue ?_
 obtain⟨j,hj,rfl⟩:=List.getElem_of_mem hy
 rw[List.length_take]at hj
 refine hd j Ll _ ?_ z hz
 rw[List.getElem_take]
 exact List.getElem?_eq_getElem Ll
attribute [local irreducible] az bf bm de bz cw dH bJ wop cz bc
set_option maxRecDepth 100000 in
theorem zo {Φ:Lib}(L:fh Φ)(L3:cJ Φ)(b:Bm)(hb:OkB b.plain)(hn:b.tags.l.length≤268435456)(ht:∀ t∈b.tags.l,I32 t) :
  bc Φ 270 [.agg b.av] ad.empty (fun v _=>∃ (κ:Int→Int) (x:Bm),v = .agg x.av∧jK b.tags.l.length b.plain.row b.plain.tag κ∧x.plain=xN κ b.tags.l.length b.plain):=by
 have hk6:=Fl L L3 b hb hn ht
 have hnl:b.next.l.length=b.tags.l.length:=by have:=hb.nl;simpa[Bm.plain,cG,PD.n] using this
 have hn1:1≤b.tags.l.length:=hb.n1
 have hT:Tab b.tags.l.length 256 b.plain.row:=hb.tab
 have h0:In b.tags.l.length 0:=⟨Int.le_refl _,by omega⟩
 have hrow:∀ {i:Nat} {r:Rw Int},b.next.l[i]?=some r→b.plain.row i=r.l:=fun {i r} hr=>by simp[PD.row,Bm.plain,cG,List.getD_eq_getElem?_getD,hr]
 have htag:∀ {i:Nat} {t:Int},b.tags.l[i]?=some t→b.plain.tag i=t:=fun {i r} hr=>by simp[PD.tag,Bm.plain,cG,List.getD_eq_getElem?_getD,hr]
 have hrows:∀ r∈b.next.l,r.l.length=256∧∀ y∈r.l,y = -1∨In b.tags.l.length y:=fun r hr=>hb.rows r.l (List.mem_map.2 ⟨r,hr,rfl⟩)
 have hfe:∀ a b:Int,AV.int .i64 a=AV.int .i64 b→a=b:=fun _ _ e=>by injection e
 refine ba (fun o=>o == some 76||o == some 46) rfl L.f270 ?_
 repeat' first|apply ac|(apply gw;first|(apply gq2;first|refine aF rx_ ?_|refine am rfl hg_ Lm b_ pv_ ?_)|refine aH rfl nt_ ?_|(refine bV ?_;intro id hid;try simp only[ad.set_none]at hid)|(refine gQ (v:=AV.agg _) rfl rfl ?_;intro id hid;try simp only[ad.set_none]at hid))|(apply gx;first|apply af|refine ae rfl ?_)|apply aa
 rename_i ib hib
 obtain⟨i2,rfl⟩:∃ x,x=id:=⟨_,rfl⟩
 have hS0:=((Sep.old ad.empty).new (id:=ib) (o := .cells 0 b.av) hib).new (id:=i2) (o := .cells 0 [.rd 0 [] true,.rd 0 [] true]) (by rw[ad.get_set_ne _ _ hid.1];exact hid.2)
 refine lK hk6 (by simp[AV.frozenL,AV.frozen]) (fun v h=>by obtain⟨of,rfl,_⟩:=h;simp[AV.frozen]) ?_
 rintro _ ⟨of,rfl,hofl,hofI,hK⟩
 obtain⟨k0,hk0⟩:=aK (l:=of) (i:=0) Ll
 obtain⟨κ,hκ⟩:∃ κ,κ=ur of:=⟨_,rfl⟩
 rw[← hκ]at hK
 have hkin:∀ {s:Int} {q:Nat} {x:Int},s=(q:Int)→of[q]?=some x→κ s=x:=fun {s q x} e hx=>by
  rw[hκ,ur,if_neg Ll,e,Int.toNat_natCast,List.getD_eq_getElem?_getD,hx];rfl
 have ek0:κ 0=k0:=hkin (q:=0) rfl hk0
 obtain⟨R,hR⟩:∃ R,R=b.plain.row:=⟨_,rfl⟩
 obtain⟨tg,htg⟩:∃ tg,tg=b.plain.tag:=⟨_,rfl⟩
 rw[← hR]at hT hK hrow
 rw[← htg]at htag
 have hb1:((ad.empty.set ib (.cells 0 b.av)).set i2 (.cells 0 [.rd 0 [] true,.rd 0 [] true])).get ib=some (.cells 0 b.av):=hS0.get (i:=1) rfl
 simp only[AV.cells]at *
 generalize (ad.empty.set ib (.cells 0 b.av)).set i2 (.cells 0 [.rd 0 [] true,.rd 0 [] true])=h1 at hS0 hb1 ⊢
 clear hib hid
 repeat' first|apply ac|(apply gw;first|refine au rx_ ?_|(apply gq2;first|refine aF rx_ ?_|refine aB rfl b_ pv_ ?_)|(apply gq5;first|refine aS rx_ ?_|refine ah rfl rfl hk0 Ll rfl ?_)|refine bj (cs:=[AV.int _ _]) rfl rfl ?_|(refine lQ ?_;intro id hid;try simp only[ad.set_none]at hid))|(apply gx;first|apply af|refine ae rfl ?_)|apply aa
 obtain⟨im,rfl⟩:∃ x,x=id:=⟨_,rfl⟩
 have hS1:=hS0.new (id:=im) (o := .map (some .i64) []) hid
 refine gP (key:=AV.int .i64 k0) (v:=AV.int .i64 0) rfl rfl rfl rfl rfl (hS1.get (i:=3) rfl) ?_
 have hS2:=hS1.put 3 (.map (some .i64) (bS (AV.int .i64) 0 ([(0:Int)].map κ))) rfl
 rw[show mf ([]:List (AV×AV)) (AV.int .i64 k0) (AV.int .i64 0)=bS (AV.int .i64) 0 ([(0:Int)].map κ) by simp[bS,mf,ek0]]
 generalize (h1.set im (.map (some .i64) [])).set im (.map (some .i64) (bS (AV.int .i64) 0 ([(0:Int)].map κ)))=h2 at hS2 ⊢
 clear hS0 hS1 hb1 hid
 repeat' first|apply ac|(apply gw;first|refine au rx_ ?_|(refine bV ?_;intro id hid;try simp only[ad.set_none]at hid))|(apply gx;first|apply af|refine ae rfl ?_|apply al)|apply aa
 obtain⟨i6,rfl⟩:∃ x,x=id:=⟨_,rfl⟩
 have hS3:=(((hS2.new (id:=i6) (o := .cells 0 [.rd 0 [] true,.rd 0 [] true]) hid).add (I5 (.rd 1 [.int .i64 0] true) 1 1 [.int .i64 0]) (eo.lit rfl) (fun _ _=>rfl) (fun k hk=>by cases hk)).nil 1).nil 1
 clear hS2 hid
 refine bD b.tags.l.length (fun i env h'=>∃ (va vn vt:AV) (A:List Int),i≤A.length∧A=cB κ R 0 i∧Sep h' [j4 ad.empty,bU ib (.cells 0 b.av),bU i2 (.cells 0 [.rd 0 [] true,.rd 0 [] true]),bU im (.map (some .i64) (bS (AV.int .i64) 0 (A.map κ))),bU i6 (.cells 0 [vn,vt]),I5 va 1 A.length (A.map (.int .i64)),cA vn 1 i ((sg κ R A i).map gK),cA vt 1 i (((A.take i).map tg).map (.int .i64))]∧env.has [(1,.ptr ib 0 0),(2,.ptr i2 0 0),(3,.rd of.length (of.map (.int .i64)) false),(4,va),(5,.map im),(6,.ptr i6 0 0),(7,.int .i64 i)]) ⟨_,_,_,[0],by simp,rfl,hS3,hh_⟩ ?_
 clear hS3
 rintro i env h' hi ⟨va,vn,vt,A,hiA,hA,hS,he⟩
 obtain⟨env,rfl⟩:=he.ex
 clear he
 have hva:eo h' va 1 _ _:=hS.get (i:=5) rfl
 have hnt:=hva.notTup
 obtain⟨hcome,hdone⟩:=jU (κ:=κ) hT h0 i
 have hmost:=hcome.most
 rw[← hA]at hcome hdone hmost
 have hb1:h'.get ib=some (.cells 0 b.av):=hS.get (i:=1) rfl
 by_cases hi2:i<A.length
 ·obtain⟨s,hs⟩:=aK hi2
  have hsin:=hcome.inn s (List.mem_of_getElem? hs)
  have hs0:=hsin.1
  have hs1:=hsin.2
  obtain⟨r,hr⟩:=aK (l:=b.next.l) (i:=s.toNat) Ll
  obtain⟨t,htt⟩:=aK (l:=b.tags.l) (i:=s.toNat) Ll
  have hrk:R s=r.l:=by have:=hrow hr;rwa [Int.toNat_of_nonneg hs0]at this
  have htk:tg s=t:=by have:=htag htt;rwa [Int.toNat_of_nonneg hs0]at this
  obtain⟨hrl,hrx⟩:=hrows r (List.mem_of_getElem? hr)
  have hsm:(A.map (AV.int .i64))[i]?=some (.int .i64 s):=by rw[List.getElem?_map,hs];rfl
  have hA1:cB κ R 0 (i+1)=visits κ A r.l:=by rw[cB,← hA,hs,← hrk]
  have hrk1:=A3 (κ:=κ) hT h0 (i:=i) (s:=s) (by rw[← hA];exact hs)
  rw[← hA,hA1,hrk]at hrk1
  repeat' first|apply ac|(apply gw;first|refine au rx_ ?_|(apply gq2;first|refine aF rx_ ?_|refine am rfl hg_ Lm b_ pv_ ?_)|(apply gq3;first|refine aC rx_ ?_|refine aQ rx_ ?_|(refine aA rfl rfl rfl ?_ ?_<;>(intro hc;try omega)))|(apply gq5;first|refine aS rx_ ?_|refine aU rx_ ?_)|(apply gq6;first|refine bk rx_ ?_|refine kE rv_ (by assumption) ?_)|(apply gq4;first|refine aL rx_ ?_|refine ar rfl (Nat.zero_add _) ?_)|(refine ix rfl rfl Ll Ll ?_;intro id hid;try simp only[ad.set_none]at hid))|(apply gx;first|apply af|refine ae rfl ?_|apply ay|apply al|refine ak rfl ?_)|apply aa
  have hS1:=hS.rowF (n:=256) (rs:=List.replicate 256 (AV.int .i64 0)) hid Lm
  obtain⟨i8,rfl⟩:∃ x,x=id:=⟨_,rfl⟩
  have hva1:=hva.new (o := .cells 1 (List.replicate 256 [AV.int .i64 0]).flatten) hid
  refine nz rfl hva1 rfl rfl hsm ?_
  intro p hp
  refine pT rfl hp ?_
  repeat' first|apply ac|(apply gw;first|refine au rx_ ?_|(apply gq2;first|refine aF rx_ ?_|refine aB rfl b_ pv_ ?_)|(apply gq5;first|refine aS rx_ ?_|refine aU rx_ ?_|refine ah rfl rfl hr Ll rfl ?_)|(apply gq6;first|refine bk rx_ ?_|refine aw rfl ?_))|apply al|apply aa
  have hz8:(List.replicate ((256:Int).toNat) [AV.int .i64 0]).flatten=List.replicate 256 (AV.int .i64 0):=tk 256
  rw[hz8]
  refine bD r.l.length (fun j env h'=>∃ (va:AV) (B:List Int),B=visits κ A (r.l.take j)∧Sep h' [cA (.own i8 1 1 0 256 none) 1 256 (((r.l.take j).map (cr κ B)).map (.int .i64)++List.replicate (256-j) (AV.int .i64 0)),j4 ad.empty,bU ib (.cells 0 b.av),bU i2 (.cells 0 [.rd 0 [] true,.rd 0 [] true]),bU im (.map (some .i64) (bS (AV.int .i64) 0 (B.map κ))),bU i6 (.cells 0 [vn,vt]),I5 va 1 B.length (B.map (.int .i64)),cA vn 1 i ((sg κ R A i).map gK),cA vt 1 i (((A.take i).map tg).map (.int .i64))]∧env.has [(1,.ptr ib 0 0),(2,.ptr i2 0 0),(3,.rd of.length (of.map (.int .i64)) false),(4,va),(5,.map im),(6,.ptr i6 0 0),(7,.int .i64 i),(8,.own i8 1 1 0 256 none),(35,r.iv),(36,.int .i64 r.l.length),(37,.int .i64 j)]) ⟨va,A,by simp[visits],by simpa using hS1,hh_⟩ ?_
  clear hS hS1 hb1 hnt hva hva1 hp hid
  rintro j env h' hj ⟨va,B,hB,hS,he⟩
  obtain⟨env,rfl⟩:=he.ex
  clear he
  have hr8:aD h' (.own i8 1 1 0 256 none) 1 256 _:=hS.get (i:=0) rfl
  have hva:eo h' va 1 _ _:=hS.get (i:=6) rfl
  have hnt:=hva.notTup
  obtain⟨hg8,_⟩:=hr8.own_get
  have hx1:∀ x∈r.l,x = -1∨In b.tags.l.length x:=hrx
  have hx2:∀ x∈r.l,∃ t∈A,x∈R t:=fun x hx=>⟨s,List.mem_of_getElem? hs,by rw[hrk];exact hx⟩
  have hmostB:B.length≤b.tags.l.length:=by
   rw[hB]
   exact(hcome.visits (row:=r.l.take j) (fun x hx=>hx1 x (List.mem_of_mem_take hx)) fun x hx=>hx2 x (List.mem_of_mem_take hx)).1.most
  by_cases hj2:j<r.l.length
  ·obtain⟨x,hx⟩:=aK hj2
   have hxo:=hx1 x (List.mem_of_getElem? hx)
   obtain⟨r1,r2⟩:=EI hcome hx1 hx2 hx hB
   have hCl:(((r.l.take j).map (cr κ B)).map (AV.int .i64)).length=j:=by simp;omega
   obtain⟨C,hC⟩:∃ C,C=((r.l.take j).map (cr κ B)).map (AV.int .i64):=⟨_,rfl⟩
   rw[← hC]at hCl hg8 hS
   have hset:∀ v:AV,(C++List.replicate (256-j) (AV.int .i64 0)).set ((j:Int).toNat*1) v=(C++[v])++List.replicate (256-(j+1)) (AV.int .i64 0):=fun v=>by
    rw[Int.toNat_natCast,Nat.mul_one,lg hCl Ll]
   clear hr8
   repeat' first|apply ac|(apply gw;first|refine au rx_ ?_|(apply gq2;first|refine aF rx_ ?_|refine aB rfl b_ pv_ ?_)|(apply gq3;first|refine aC rx_ ?_|refine aQ rx_ ?_|(refine aA rfl rfl rfl ?_ ?_<;>(intro hc;try omega)))|(apply gq5;first|refine aS rx_ ?_|refine aU rx_ ?_|refine ah rfl rfl hx Ll rfl ?_|refine bv rfl rfl Ll Ll ?_)|(apply jI;first|refine bq rx_ ?_|refine bp rx_ ?_|refine bh (v:=AV.int _ _) rfl rfl hg_ rfl rfl b_ sv_ ?_))|(apply gx;first|apply af|refine ae rfl ?_|apply ay|apply al|refine ak rfl ?_)|apply aa
   refine jN rfl ?_
   rw[hset]
   have hS1:=hS.rowset 0 ((C++[AV.int .i64 x])++List.replicate (256-(j+1)) (AV.int .i64 0)) rfl rfl (Nat.le_refl _) (by simp[hCl];omega)
   generalize h'.set i8 _=h2 at hS1 ⊢
   clear hS hg8 hva
   have hr8:aD h2 (.own i8 1 1 0 256 none) 1 256 _:=hS1.get (i:=0) rfl
   obtain⟨hg8,_⟩:=hr8.own_get
   have hva:eo h2 va 1 _ _:=hS1.get (i:=6) rfl
   have hm:h2.get im=_:=hS1.get (i:=4) rfl
   have hset2:∀ v:AV,((C++[AV.int .i64 x])++List.replicate (256-(j+1)) (AV.int .i64 0)).set ((j:Int).toNat*1) v=(C++[v])++List.replicate (256-(j+1)) (AV.int .i64 0):=fun v=>by
    rw[← hset,List.set_set,hset]
   by_cases hx3:x = -1
   ·subst hx3
    have hv2:visit κ B (-1)=B:=by rw[visit,if_pos (.inl rfl)]
    rw[hv2]at r1 r2
    repeat' first|apply ac|(apply gw;first|refine au rx_ ?_|(apply gq3;first|refine aC rx_ ?_|refine aT rfl rfl rfl Ll Ll ?_|(refine dd rfl rfl rfl ?_ ?_<;>(intro hc;try omega))))|(apply gx;first|refine ae rfl ?_|apply aN|refine ak rfl ?_)|apply aa|apply aO|apply aP
    refine aR hj2 ⟨va,B,r1.symm,?_,hh_⟩
    rw[r2,List.map_append,← hC,jy]
    exact hS1
   ·have hxi:=hxo.resolve_left hx3
    have hxi0:=hxi.1
    have hxi1:=hxi.2
    obtain⟨kx,hkx⟩:=aK (l:=of) (i:=x.toNat) Ll
    have ekx:κ x=kx:=hkin (q:=x.toNat) Ll hkx
    repeat' first|apply ac|(apply gw;first|refine au rx_ ?_|(apply gq2;first|refine aF rx_ ?_|refine aB rfl b_ pv_ ?_)|(apply gq3;first|refine aC rx_ ?_|(refine dd rfl rfl rfl ?_ ?_<;>(intro hc;try omega)))|(apply gq5;first|refine aS rx_ ?_|refine aU rx_ ?_|refine ah rfl rfl hkx Ll rfl ?_))|(apply gx;first|apply af|refine ae rfl ?_|apply ay|refine ai rfl ?_)|apply aa
    refine jk (key:=AV.int .i64 kx) rfl rfl rfl hm ?_
    rw[← ekx,jT hfe]
    by_cases hmem:κ x∈B.map κ
    ·have hv2:visit κ B x=B:=by rw[visit,if_pos (.inr hmem)]
     rw[hv2]at r1 r2
     have hpl:cr κ B x=(dg (B.map κ) (κ x):Nat):=by rw[cr,if_neg hx3];rfl
     rw[if_pos hmem]
     repeat' first|apply ac|(apply gw;first|refine au rx_ ?_|(apply gq3;first|refine aC rx_ ?_|refine aT rfl rfl rfl Ll Ll ?_)|(apply gq5;first|refine aS rx_ ?_|refine aU rx_ ?_|refine bv rfl rfl Ll Ll ?_)|(apply jI;first|refine bq rx_ ?_|refine bp rx_ ?_|refine bh (v:=AV.int _ _) rfl rfl hg_ rfl rfl b_ sv_ ?_)|refine dh (b:=true) rfl ?_|refine ce rfl rfl ?_)|(apply gx;first|apply af|refine ae rfl ?_|apply ay|refine ai rfl ?_)|apply aa|apply aI
     rw[hset2,Nat.zero_add,← hpl]
     refine aR hj2 ⟨va,B,r1.symm,?_,hh_⟩
     rw[r2,List.map_append,← hC]
     exact hS1.rowset 0 ((C++[AV.int .i64 (cr κ B x)])++List.replicate (256-(j+1)) (AV.int .i64 0)) rfl rfl (Nat.le_refl _) (by simp[hCl];omega)
    ·have hv2:visit κ B x=B++[x]:=by rw[visit,if_neg (fun e=>e.elim hx3 hmem)]
     rw[hv2]at r1 r2
     have hpl:cr κ (B++[x]) x=(B.length:Nat):=by
      rw[cr,if_neg hx3,List.map_append,List.idxOf_append,if_neg hmem]
      simp
     rw[if_neg hmem]
     repeat' first|apply ac|(apply gw;first|refine au rx_ ?_|(apply gq2;first|refine aF rx_ ?_|refine aB rfl b_ pv_ ?_)|(apply gq5;first|refine aS rx_ ?_|refine aU rx_ ?_|refine ah rfl rfl hkx Ll rfl ?_)|(apply gq6;first|refine bk rx_ ?_|refine kE rv_ (by assumption) ?_)|refine dh (b:=false) rfl ?_|refine ce rfl rfl ?_)|(apply gx;first|apply af|refine ae rfl ?_|refine ak rfl ?_)|apply aa
     refine gP (key:=AV.int .i64 kx) (v:=AV.int .i64 B.length) rfl rfl rfl rfl rfl hm ?_
     have he2:=kN hfe (κ x) (B.map κ) 0 hmem
     rw[Nat.zero_add,List.length_map,ekx]at he2
     rw[he2]
     have hS2:=hS1.put 4 (.map (some .i64) (bS (AV.int .i64) 0 (B.map κ++[kx]))) rfl
     generalize h2.set im _=h3 at hS2 ⊢
     clear hS1 hm hva hg8 hr8
     have hva:eo h3 va 1 _ _:=hS2.get (i:=6) rfl
     repeat' first|apply ac|(apply gw;first|refine au rx_ ?_|(apply gq5;first|refine aS rx_ ?_|refine aU rx_ ?_|refine bv rfl rfl Ll Ll ?_)|(apply jI;first|refine bq rx_ ?_|refine bp rx_ ?_)|(apply lp;first|refine cn rx_ ?_|refine cm rx_ ?_|(refine pI (m:=1) rv_ (by first|assumption|exact eo.new (by assumption) (by assumption)|fail) rfl (by exact rfl) rfl Ll ?_;intro va hpa hra hka hria))|refine bj (cs:=[AV.int _ _]) rfl rfl ?_)|refine ae rfl ?_|apply aa
     have hS3:=hS2.upd 6 (I5 va 1 _ _) rfl hra hka hria
     rw[show B.map (AV.int .i64)++[AV.int .i64 x]=(B++[x]).map (.int .i64) by simp,show B.length+1=(B++[x]).length by simp,show B.map κ++[kx]=(B++[x]).map κ by simp[ekx]]at hS3
     clear hS2 hra hka hria hva
     have hr8:aD hpa (.own i8 1 1 0 256 none) 1 256 _:=hS3.get (i:=0) rfl
     obtain⟨hg8,_⟩:=hr8.own_get
     repeat' first|apply ac|(apply gw;first|refine au rx_ ?_|(apply gq3;first|refine aC rx_ ?_|refine aT rfl rfl rfl Ll Ll ?_)|refine bh (v:=AV.int _ _) rfl rfl hg_ rfl rfl b_ sv_ ?_)|refine ae rfl ?_|apply aa|apply aI
     rw[Nat.zero_add,hset2,← hpl]
     refine aR hj2 ⟨va,B++[x],r1.symm,?_,hh_⟩
     rw[r2,List.map_append,← hC]
     exact hS3.rowset 0 ((C++[AV.int .i64 (cr κ (B++[x]) x)])++List.replicate (256-(j+1)) (AV.int .i64 0)) rfl rfl (Nat.le_refl _) (by simp[hCl];omega)
  ·rw[List.take_of_length_le (l:=r.l) (i:=j) Ll]at hS hB hr8
   rw[show 256-j=0 by omega,List.replicate_zero,List.append_nil]at hS hr8
   clear hg8
   obtain⟨tt,hAB⟩:=iR κ r.l A
   rw[← hB]at hAB
   have hBi:B[i]?=some s:=by rw[hAB,List.getElem?_append_left hi2];exact hs
   rw[← hB]at hA1 hrk1
   repeat' first|apply ac|(apply gq3;first|refine aC rx_ ?_|refine aQ rx_ ?_|(refine aA rfl rfl rfl ?_ ?_<;>(intro hc;try omega)))|(apply gx;first|apply af|refine ae rfl ?_|apply aN|refine ai rfl ?_)|apply aa|apply aO|apply aP|apply aX
   refine fk 8 (v := .own i8 1 1 0 256 none) rfl rfl hr8 ?_
   intro h3 hk3
   have hS2:=hS.drop 0 (h':=h3) rfl hk3
   clear hS hva hr8 hk3
   have hb1:h3.get ib=_:=hS2.get (i:=1) rfl
   have h6:h3.get i6=_:=hS2.get (i:=4) rfl
   have hva:eo h3 va 1 _ _:=hS2.get (i:=5) rfl
   have hvn:aD h3 vn 1 i _:=hS2.get (i:=6) rfl
   have hnn:=hvn.notTup
   obtain⟨vq,rfl⟩:∃ y,y=va:=⟨_,rfl⟩
   repeat' first|(apply gw;first|refine au rx_ ?_|(apply gq2;first|refine aF rx_ ?_|refine am rfl hg_ Lm b_ pv_ ?_)|(apply jI;first|refine bq rx_ ?_|refine bp rx_ ?_)|(apply lp;first|refine cn rx_ ?_|refine cm rx_ ?_|(refine aY (m:=1) rx_ ir_ rfl rfl Ll ?_;intro va hpa hra hka hria))|(apply gq4;first|refine aL rx_ ?_|refine ar rfl (Nat.zero_add _) ?_)|refine bj (cs:=[AV.rd _ _ _]) rfl rfl ?_)
   have hS3:=hS2.upd 6 (cA va 1 (i+1) ((sg κ R A i).map gK++[.rd 256 ((r.l.map (cr κ B)).map (.int .i64)) false])) rfl hra hka hria
   have h6:hpa.get i6=some (.cells 0 [vn,vt]):=hS3.get (i:=4) rfl
   refine ck (v:=va) (cs':=[va,vt]) rfl rfl hra h6 Lm rfl ?_
   have hS4:=hS3.put 4 (.cells 0 [va,vt]) rfl
   clear hS2 hS3 hb1 h6 hva hvn hnn hra hka hria
   generalize hpa.set i6 (.cells 0 [va,vt])=h4 at hS4 ⊢
   obtain⟨vn2,rfl⟩:∃ y,y=va:=⟨_,rfl⟩
   have hb1:h4.get ib=_:=hS4.get (i:=1) rfl
   have h6:h4.get i6=_:=hS4.get (i:=4) rfl
   have hva:eo h4 vq 1 _ _:=hS4.get (i:=5) rfl
   have hvt:aD h4 vt 1 i _:=hS4.get (i:=7) rfl
   have hnn:=hvt.notTup
   have hBsm:(B.map (AV.int .i64))[i]?=some (.int .i64 s):=by rw[List.getElem?_map,hBi];rfl
   repeat' first|apply ac|(apply gw;first|refine au rx_ ?_|(apply gq2;first|refine aF rx_ ?_|refine am rfl hg_ Lm b_ pv_ ?_)|(apply gq5;first|refine aS rx_ ?_|refine aU rx_ ?_)|(apply gq4;first|refine aL rx_ ?_|refine ar rfl (Nat.zero_add _) ?_))|refine ae rfl ?_|apply aa
   refine nz rfl hva rfl rfl hBsm ?_
   intro p hp
   refine pT rfl hp ?_
   repeat' first|(apply gw;first|(apply gq2;first|refine aF rx_ ?_|refine aB rfl b_ pv_ ?_)|(apply gq5;first|refine aS rx_ ?_|refine aU rx_ ?_|refine ah rfl rfl htt Ll rfl ?_)|(apply jI;first|refine bq rx_ ?_|refine bp rx_ ?_)|(apply lp;first|refine cn rx_ ?_|refine cm rx_ ?_|(refine aY (m:=1) rx_ ir_ rfl rfl Ll ?_;intro va hpa hra hka hria))|(apply gq4;first|refine aL rx_ ?_|refine ar rfl (Nat.zero_add _) ?_)|refine bj (cs:=[AV.int _ _]) rfl rfl ?_)
   have hS5:=hS4.upd 7 (cA va 1 (i+1) (((A.take i).map tg).map (.int .i64)++[.int .i64 t])) rfl hra hka hria
   have h6:hpa.get i6=some (.cells 0 [vn2,vt]):=hS5.get (i:=4) rfl
   refine ck (v:=va) (cs':=[vn2,va]) rfl rfl hra h6 Lm rfl ?_
   have hS6:=hS5.put 4 (.cells 0 [vn2,va]) rfl
   clear hS4 hS5 hb1 hva hvt hra hka hria h6
   generalize hpa.set i6 (.cells 0 [vn2,va])=h5 at hS6 ⊢
   repeat' first|apply ac|(apply gw;first|refine au rx_ ?_|(apply gq3;first|refine aC rx_ ?_|refine aT rfl rfl rfl Ll Ll ?_))|refine ae rfl ?_|apply aa|apply aI
   have hln:=congrArg List.length hAB
   rw[List.length_append]at hln
   refine aR Ll ⟨vq,vn2,va,B,by omega,hA1.symm,?_,hh_⟩
   have e1:B.take (i+1)=A.take i++[s]:=by
    rw[aV hBi]
    congr 1
    rw[hAB,List.take_append_of_le_length Ll]
   rw[hrk1,e1,List.map_append,List.map_append,List.map_append,List.map_singleton,List.map_singleton,List.map_singleton,htk,show gK (r.l.map (cr κ B)) = .rd 256 ((r.l.map (cr κ B)).map (.int .i64)) false by rw[← hrl,gK,List.length_map]]
   exact hS6
 ·have hi3:i=A.length:=by omega
  have h2:h'.get i2=_:=hS.get (i:=2) rfl
  have h6:h'.get i6=_:=hS.get (i:=4) rfl
  have hvn:aD h' vn 1 i _:=hS.get (i:=6) rfl
  have hvt:aD h' vt 1 i _:=hS.get (i:=7) rfl
  repeat' first|apply ac|(apply gw;first|refine au rx_ ?_|(apply gq2;first|refine aF rx_ ?_|refine am rfl hg_ Lm b_ pv_ ?_)|(apply gq3;first|refine aC rx_ ?_|refine aQ rx_ ?_|(refine aA rfl rfl rfl ?_ ?_<;>(intro hc;try omega)))|(apply jI;first|refine bq rx_ ?_|refine bp rx_ ?_|refine bh (v:=AV.agg _) rfl rfl hg_ rfl rfl b_ sv_ ?_)|(apply gq6;first|refine bk rx_ ?_|refine kE rv_ (by assumption) ?_))|(apply gx;first|apply af|refine ae rfl ?_|apply aM|apply aN|refine ai rfl ?_)|apply aa|apply aO|apply aP|apply aX
  have hst:A=cU b.tags.l.length κ R 0:=by rw[hA];exact wC hT h0 (by rw[← hA];omega)
  have f1:=(hvn.set_ne (id:=i2) (o := .cells 0 [vn,vt]) fun e=>hS.disj (i:=2) (j:=6) rfl rfl (by decide) i2 rfl e).fz (fun k=>vn.rowId=some k∨vt.rowId=some k) (fun _ h => .inl h) (FzL.same _)
  have f2:=(hvt.set_ne (id:=i2) (o := .cells 0 [vn,vt]) fun e=>hS.disj (i:=2) (j:=7) rfl rfl (by decide) i2 rfl e).fz (fun k=>vn.rowId=some k∨vt.rowId=some k) (fun _ h => .inr h) (FzL.same _)
  refine fP (fun k=>vn.rowId=some k∨vt.rowId=some k) (mY (t:=2) rfl (ad.get_set_self _ _ _) rfl) (.agg (.cons f1 (.cons f2 .nil))) ?_
  have htk:A.take i=A:=List.take_of_length_le Ll
  have htk2:sg κ R A i=A.map fun s=>(R s).map (cr κ A):=by rw[sg,htk]
  rw[htk,htk2,hi3]
  refine⟨κ,⟨⟨(A.map fun s=>(R s).map (cr κ A)).map fun r=>⟨r,false⟩,false⟩,⟨A.map tg,false⟩⟩,?_,by rw[← hR];exact hK,?_⟩
  ·simp only[Bm.av,Rw.mv,Rw.iv,Rw.av,List.map_map,List.length_map]
   rfl
  ·show(⟨[],cG ((A.map fun s=>(R s).map (cr κ A)).map fun r=>Rw.mk r false),A.map tg⟩:PD)=xN κ b.tags.l.length b.plain
   unfold xN
   rw[← hR,← htg,← hst]
   congr 1
   simp only[cG,List.map_map]
   rfl
end
section
open Go
set_option maxHeartbeats 4000000
theorem Fam.snocRow {h:ad}{ws:List AV}{ds:List (Nat×Nat×List AV)}(hF:Fam h ws ds){w:AV}{e n:Nat}{cs:List AV}(hw:aD h w e n cs)(hd:∀ x∈ws,∀ k,x.rowId=some k→w.rowId≠some k):Fam h (ws++[w]) (ds++[(e,n,cs)]):=by
 have hget:∀ (j:Nat) x,(ws++[w])[j]?=some x→(j<ws.length∧ws[j]?=some x)∨(j=ws.length∧x=w):=fun j x hx=>by
  by_cases h1:j<ws.length
  ·rw[List.getElem?_append_left h1]at hx
   exact .inl ⟨h1,hx⟩
  ·have h2:=lt_of_getElem? hx
   rw[List.length_append,List.length_singleton]at h2
   have h3:j=ws.length:=by omega
   subst h3
   rw[List.getElem?_append_right (Nat.le_refl _),Nat.sub_self]at hx
   simp at hx
   exact .inr ⟨rfl,hx.symm⟩
 refine⟨by simp[hF.len],fun j x d hx hdd=>?_,fun i j x x' id hx hx' hid hid'=>?_⟩
 ·rcases hget j x hx with⟨h1,h2⟩|⟨rfl,rfl⟩
  ·rw[List.getElem?_append_left (by rw[← hF.len];exact h1)]at hdd
   exact hF.row j x d h2 hdd
  ·rw[List.getElem?_append_right (by rw[hF.len];exact Nat.le_refl _),hF.len,Nat.sub_self]at hdd
   simp at hdd
   subst hdd
   exact hw
 ·rcases hget i x hx with⟨h1,h2⟩|⟨rfl,rfl⟩
  ·rcases hget j x' hx' with⟨h3,h4⟩|⟨rfl,rfl⟩
   ·exact hF.dis i j x x' id h2 h4 hid hid'
   ·exact(hd x (List.mem_of_getElem? h2) id hid hid').elim
  ·rcases hget j x' hx' with⟨h3,h4⟩|⟨rfl,rfl⟩
   ·exact(hd x' (List.mem_of_getElem? h4) id hid' hid).elim
   ·rfl
theorem Sep.nmoreRow {h hpa:ad}{cs:List cT}{v va w:AV}{ws:List AV}{ds:List (Nat×Nat×List AV)}{e n:Nat}{rs:List AV}(hS:Sep h (xc v [] ws ds::cA w e n rs::cs))(hra:aD hpa va 1 (ws.length+1) (ws++[w]))
  (hka:∀ k,h.get k≠none→v.rowId≠some k→hpa.get k=h.get k) (hria:∀ k,va.rowId=some k→v.rowId=some k∨h.get k=none):Sep hpa (xc va [] (ws++[w]) (ds++[(e,n,rs)])::cs):=by
 have hN:hY h v [] ws ds:=hS.get (i:=0) rfl
 have hw:aD h w e n rs:=hS.get (i:=1) rfl
 have hap:=hS.apart
 rw[List.pairwise_cons,List.pairwise_cons]at hap
 obtain⟨p1,p2,p3⟩:=hap
 have hwN:∀ k,ln v ws k→w.rowId≠some k:=fun k hk=>p1 (cA w e n rs) Lm k hk
 have hkw:∀ k,w.rowId=some k→hpa.get k=h.get k:=fun k hk=>hka k (hw.there hk) fun e=>hwN k (.inl e) hk
 have hN2:hY hpa va [] (ws++[w]) (ds++[(e,n,rs)]):=by
  refine⟨by simpa using hra,?_,fun x hx k hk hv=>?_⟩
  ·refine(hN.fam.keep fun x hx k hk=>hka k (hN.fam.there hx hk) (hN.apart x hx k hk)).snocRow (hw.keep hkw) fun x hx k hk=>hwN k (.inr ⟨x,hx,hk⟩)
  ·rcases List.mem_append.1 hx with hx|hx
   ·rcases hria k hv with h1|h1
    ·exact hN.apart x hx k hk h1
    ·exact hN.fam.there hx hk h1
   ·simp only[List.mem_singleton]at hx;subst hx
    rcases hria k hv with h1|h1
    ·exact hwN k (.inl h1) hk
    ·exact hw.there hk h1
 have hf:∀ k,ln va (ws++[w]) k→ln v ws k∨w.rowId=some k∨h.get k=none:=fun k hk=>by
  rcases hk with hk|⟨x,hx,hk⟩
  ·rcases hria k hk with h1|h1
   ·exact .inl (.inl h1)
   ·exact .inr (.inr h1)
  ·rcases List.mem_append.1 hx with hx|hx
   ·exact .inl (.inr ⟨x,hx,hk⟩)
   ·simp only[List.mem_singleton]at hx;subst hx;exact .inr (.inl hk)
 refine⟨fun d hd=>?_,List.pairwise_cons.2 ⟨fun d hd k hk hdk=>?_,p3⟩⟩
 ·rcases List.mem_cons.1 hd with rfl|hd
  ·exact hN2
  ·have hdh:=hS.all d (by simp[hd])
   exact d.keep hdh fun k hk=>hka k (d.there hdh k hk) fun e=>p1 d (by simp[hd]) k (.inl e) hk
 ·rcases hf k hk with h1|h1|h1
  ·exact p1 d (by simp[hd]) k h1 hdk
  ·exact p2 d hd k h1 hdk
  ·exact d.there (hS.all d (by simp[hd])) k hdk h1
theorem Sep.nset {h:ad}{cs:List cT}(hS:Sep h cs)(i:Nat){v:AV}{ws:List AV}{ds:List (Nat×Nat×List AV)}(hc:cs[i]?=some (xc v [] ws ds)){j id g e n:Nat}{rs rs':List AV}(hw:ws[j]?=some (.own id g e 0 n none))(hd:ds[j]?=some (e,n,rs))(hl:rs'.length=n*e) :
  (h.get id=some (.cells g rs)∧1≤g)∧Sep (h.set id (.cells g rs')) (cs.set i (xc v [] ws (ds.set j (e,n,rs')))):=by
 have hN:hY h v [] ws ds:=hS.get hc
 have hr:=hN.fam.row j _ _ hw hd
 have hg:h.get id=some (.cells g rs)∧1≤g:=hr.own_get
 refine⟨hg,hS.upd i _ hc ?_ (fun k _ hk=>ad.get_set_ne _ _ fun e=>hk (.inr ⟨_,List.mem_of_getElem? hw,by rw[e];rfl⟩)) (fun k hk => .inl hk)⟩
 have hap:=hN.apart _ (List.mem_of_getElem? hw) id rfl
 refine⟨hN.out.keep fun k hk=>ad.get_set_ne _ _ fun e=>hap (e ▸ hk),?_,hN.apart⟩
 have hws:ws.set j (.own id g e 0 n none)=ws:=by
  obtain⟨h1,h2⟩:=List.getElem?_eq_some_iff.1 hw
  rw[← h2,List.set_getElem_self]
 have:=hN.fam.upd (j:=j) (v' := .own id g e 0 n none) (d':=(e,n,rs')) (hpa:=h.set id (.cells g rs')) hw (.inr ⟨id,g,rfl,ad.get_set_self _ _ _,hg.2,hl⟩) (fun k hk hne=>ad.get_set_ne _ _ fun e=>hne (by rw[e];rfl)) (fun k hk => .inl hk)
 rwa [hws]at this
theorem hY.fz {h:ad}{v:AV}{ws:List AV}{ds:List (Nat×Nat×List AV)}(hN:hY h v [] ws ds){S:Nat→Prop}(hS:∀ k,ln v ws k→S k):FzV h S v (.rd ds.length (ds.map fun d => .rd d.2.1 d.2.2 false) false):=by
 have h1:=hN.out
 simp only[List.length_nil,Nat.zero_add,List.nil_append]at h1
 rw[hN.fam.len]at h1
 exact h1.fz S (fun id hid=>hS id (.inl hid)) (Fam.fz2 hN.fam.len (fun j w d hw hd=>hN.fam.row j w d hw hd) fun w hw k hk=>hS k (.inr ⟨w,hw,hk⟩))
theorem HL {Φ:Lib}{f:Nat}{args args':List AV}{P:AV→Prop}{h:ad}{Q:AV→ad→Prop}(S:Nat→Prop)(hy:(f == fU)=false)(hp:bc Φ f args' ad.empty (fun v _=>P v))(hf:FzL h S args args')(ha:AV.frozenL args'=true)(hv:∀ v,P v→v.frozen=true)(k:∀ v,P v→Q v (h.drop S)):bJ (bc Φ) 0 f args h Q :=
 .inr (.inr (.inr ⟨rfl,hy,S,args',hf,ha,bc.mono Φ _ _ _ _ _ (fun v' _ e=>⟨hv v' e,k v' e⟩) hp⟩))
def ij {α:Type}(f:α→Option AV):Nat→List α→List (AV×AV)
 | _,[]=>[]
 | k,a::l=>match f a with
  | some key=>(key,.int .i64 k)::ij f (k+1) l
  | none=>ij f (k+1) l
theorem mF {α:Type}[DecidableEq α]{f:α→Option AV}{a:α}{key:AV}(ha:f a=some key):∀ (A:List α) (k:Nat),(∀ b∈A,f b=some key→b=a)→iN (ij f k A) key=if a∈A then some (.int .i64 ((k+A.idxOf a:Nat))) else none
 | [],k,_=>by simp[ij,iN]
 | b::A,k,h=>by
  have ih:=mF ha A (k+1) fun x hx=>h x (by simp[hx])
  by_cases hb:b=a
  ·subst hb
   rw[if_pos Lm]
   unfold ij
   rw[ha]
   simp[iN]
  ·have hfb:f b≠some key:=fun e=>hb (h b Lm e)
   have hm:(a∈b::A)=(a∈A):=by simp[Ne.symm hb]
   have hi:(b::A).idxOf a=A.idxOf a+1:=by rw[List.idxOf_cons,beq_false_of_ne hb];rfl
   unfold ij
   cases hf:f b with
   | none=>simp only[ih,hm,hi];rw[show k+1+A.idxOf a=k+(A.idxOf a+1) by omega]
   | some kb =>
    have hne:kb≠key:=fun e=>hfb (by rw[hf,e])
    simp only[iN,if_neg hne,ih,hm,hi]
    rw[show k+1+A.idxOf a=k+(A.idxOf a+1) by omega]
theorem qk {α:Type}(f:α→Option AV)(a:α):∀ (A:List α) (k:Nat),f a=none→ij f k (A++[a])=ij f k A
 | [],k,h=>by simp[ij,h]
 | b::A,k,h=>by
  have ih:=qk f a A (k+1) h
  show ij f k (b::(A++[a]))=_
  unfold ij
  rw[ih]
theorem qo {α:Type}{f:α→Option AV}{a:α}{key:AV}(ha:f a=some key):∀ (A:List α) (k:Nat),(∀ b∈A,f b≠some key)→mf (ij f k A) key (.int .i64 ((k+A.length:Nat)))=ij f k (A++[a])
 | [],k,_=>by simp[ij,mf,ha]
 | b::A,k,h=>by
  have ih:=qo ha A (k+1) fun x hx=>h x (by simp[hx])
  rw[show k+1+A.length=k+(b::A).length by rw[List.length_cons];omega]at ih
  show _=ij f k (b::(A++[a]))
  unfold ij
  cases hf:f b with
  | none=>exact ih
  | some kb =>
   have hne:kb≠key:=fun e=>h b Lm (by rw[hf,e])
   simp only[mf,if_neg hne,ih]
theorem sf {F:bZ}{r:List bK}{Q:Env→ad→Prop}{env:Env}{h:ad}{d:Nat}{x y:bA}{e id g off len m:Nat}{lim:Option Nat}{cs new cs':List AV}(hx:ev env x = .own id g e off len lim)(hs:bB h e (ev env y)=some (m,new))(hg:h.get id=some (.cells g cs))(hl:(off+len)*e≤cs.length)(hc:cs.take (off*e)++new.take (min m len*e)++cs.drop ((off+min m len)*e)=cs')(k:az F r Q (env.put d (.int .i64 (min m len:Nat))) (h.set id (.cells g cs'))):az F (⟨some d,.copy e x y,none⟩::r) Q env h:=by
 subst hc
 simp only[bO,FP,dr,hx,hs,hg,Option.bind_some]
 rw[if_pos ⟨trivial,trivial,hl⟩]
 exact k
attribute [local irreducible] az bf bm de bz cw dH bJ wop cz bc
theorem CC (a b:AV){N n m:Nat}(h:n+m≤N):(List.replicate n a++List.replicate (N-n) b).take n++List.replicate m a++(List.replicate n a++List.replicate (N-n) b).drop (n+m)=List.replicate (n+m) a++List.replicate (N-(n+m)) b:=by
 rw[List.take_left' Lm,← List.drop_drop,List.drop_left' Lm,List.drop_replicate,List.replicate_append_replicate,Nat.sub_sub]
theorem Dn {h:ad}{id n N:Nat}{a b:AV}(hn:n≤N)(hg:h.get id=some (.cells 1 (List.replicate n a++List.replicate (N-n) b))):bB h 1 (.own id 1 1 0 n none)=some (n,List.replicate n a):=by
 simp only[bB,hg]
 rw[if_pos ⟨trivial,trivial,by simp⟩]
 simp only[Nat.zero_mul,List.drop_zero,Nat.mul_one]
 rw[List.take_left' Lm]
theorem GU {Φ:Lib}(L:fh Φ):eQ Φ 314 [.int .u64 1,.int .u64 256] (.tup [.int .u64 0,.int .u64 256]):=by
 refine ba (fun _=>false) rfl L.f314 ?_
 repeat' first|apply ac|refine aq rfl ?_|(apply gx;first|apply af|refine ae rfl ?_)|apply aa
 refine eU (v := .int .u64 1) rfl rfl ?_
 repeat' first|apply ac|refine aq rfl ?_|(apply gx;first|apply af|refine ae rfl ?_)|apply aa
 refine eU (v := .int .u64 0) rfl rfl ?_
 repeat' first|apply ac|refine aq rfl ?_|(apply gx;first|apply af|refine ae rfl ?_)|apply aa
 refine eU (v := .int .u64 256) rfl rfl ?_
 repeat' first|apply ac|refine aq rfl ?_|(apply gx;first|apply af|refine ae rfl ?_)|apply aa
 refine eU (v := .int .u64 0) rfl rfl ?_
 repeat' first|apply ac|refine aq rfl ?_|(apply gx;first|apply af|refine ae rfl ?_)|apply aa
 try refine eU (v := .int .u64 256) rfl rfl ?_
 repeat' first|apply ac|refine aq rfl ?_|(apply gx;first|apply af|refine ae rfl ?_)|apply aa
 try refine eU (v := .int .u64 0) rfl rfl ?_
 repeat' first|refine aq rfl ?_
 try refine eU (v := .int .u64 0) rfl rfl ?_
 skip
 try refine eU (v := .int .u64 0) rfl rfl ?_
 repeat' first|apply ac|refine aq rfl ?_|(apply gx;first|apply af|refine ae rfl ?_)|apply aa
 try refine eU (v := .int .u64 0) rfl rfl ?_
 repeat' first|apply ac|refine aq rfl ?_|(apply gx;first|apply af|refine ae rfl ?_)|apply aa
 try refine eU (v := .int .u64 0) rfl rfl ?_
 repeat' first|apply ac|refine aq rfl ?_|(apply gx;first|apply af|refine ae rfl ?_)|apply aa
 try refine eU (v := .int .u64 0) rfl rfl ?_
 skip
 try refine eU (v := .int .u64 0) rfl rfl ?_
 repeat' first|apply ac|refine aq rfl ?_|(apply gx;first|apply af|refine ae rfl ?_)|apply aa
 try refine eU (v := .int .u64 0) rfl rfl ?_
 repeat' first|refine aq rfl ?_
 try refine eU (v := .int .u64 0) rfl rfl ?_
 repeat' first|refine aq rfl ?_
 try refine eU (v := .int .u64 0) rfl rfl ?_
 skip
 try refine eU (v := .int .u64 0) rfl rfl ?_
 repeat' first|apply ac|refine aq rfl ?_|(apply gx;first|apply af|refine ae rfl ?_)|apply aa
 try refine eU (v := .int .u64 256) rfl rfl ?_
 repeat' first|apply ac|refine aq rfl ?_|apply aM|apply aa
 exact aJ rfl rfl
theorem JO {Φ:Lib}(L:fh Φ):eQ Φ 308 [.int .u64 1,.int .u64 256] (.tup [.int .u64 0,.int .u64 256]):=by
 have hk:=GU L
 refine ba (fun _=>false) rfl L.f308 ?_
 repeat' first|apply ac|(apply gw;first|(apply gq0;first|refine aq rfl ?_|refine au (v:=AV.tup _) rfl ?_)|refine aH rfl nt_ ?_|refine ce rfl rfl ?_)|(apply gx;first|apply af|refine ae rfl ?_|apply ay|apply aM|refine ai rfl ?_)|apply aa|refine aW (by assumption) fz_ fz_ ?_
 all_goals exact aJ rfl rfl
theorem EM {Φ:Lib}(L:fh Φ){h:ad}(x:Int)(fl:Bool) :
  bc Φ 296 [.rd 1 [.int .i64 x] fl,.int .i64 256] h (fun v h'=>∃ id,v = .own id 1 1 0 256 none∧h.get id=none∧h'=h.set id (.cells 1 (List.replicate 256 (.int .i64 x)))):=by
 have hk:=JO L
 refine ba (fun _=>false) rfl L.f296 ?_
 repeat' first|apply ac|(apply gw;first|(apply gq0;first|refine aq rfl ?_|refine bl rfl ?_|refine aG rfl ?_|refine au (v:=AV.own _ _ _ _ _ _) rfl ?_|refine au (v:=AV.tup _) rfl ?_)|refine cj rfl ?_|(apply gq3;first|((first|refine aA rfl rfl rfl ?_ ?_|refine cN rfl rfl rfl ?_ ?_)<;>(intro hc;try omega)))|refine aw rfl ?_|refine bb rfl rfl ?_|refine aH rfl nt_ ?_|(refine ix rfl rfl Ll Ll ?_;intro id hid;try simp only[ad.set_none]at hid)|(apply JX;first|refine nA rfl Ll Ll ?_|refine tE rfl Ll Ll ?_)|refine ce rfl rfl ?_)|(apply gx;first|apply af|refine ae rfl ?_|apply ay|refine ai rfl ?_)|apply aa|refine aW (by assumption) fz_ fz_ ?_
 have hz:(List.replicate ((256:Int).toNat) [AV.int .i64 0]).flatten=List.replicate 256 (AV.int .i64 0):=tk 256
 rw[hz]
 refine sf (cs':=List.replicate 1 (AV.int .i64 x)++List.replicate 255 (AV.int .i64 0)) rfl rfl (ad.get_set_self _ _ _) (by rw[List.length_replicate];decide) (CC (AV.int .i64 x) (AV.int .i64 0) (N:=256) (n:=0) (m:=1) Ll) ?_
 rw[ad.set_set]
 repeat' first|apply ac|refine aq rfl ?_|(apply gx;first|apply af|apply al)|apply aa
 refine gL (fun m env h'=>∃ n:Nat,m=256-n∧1≤n∧n≤256∧h'=h.set id (.cells 1 (List.replicate n (AV.int .i64 x)++List.replicate (256-n) (AV.int .i64 0)))∧env.has [(7,.own id 1 1 0 256 none),(8,.int .i64 n)]) 255 ⟨1,rfl,by omega,by omega,rfl,hh_⟩ ?_
 rintro m env h' ⟨n,rfl,hn1,hn2,rfl,he⟩
 obtain⟨env,rfl⟩:=he.ex
 clear he
 by_cases hlt:n<256
 ·repeat' first|apply ac|(apply gw;first|(apply gq0;first|refine aq rfl ?_|refine au (v:=AV.own _ _ _ _ _ _) rfl ?_)|(refine aA rfl rfl rfl ?_ ?_<;>(intro hc;try omega))|refine eS rfl ?_|(apply La;first|refine nO rfl rfl Ll Ll ?_|refine sL rfl rfl Ll Ll ?_))|(apply gx;first|apply af|refine ae rfl ?_|apply ay|apply al|refine ak rfl ?_)|apply aa
  have hg:=ad.get_set_self h id (.cells 1 (List.replicate n (AV.int .i64 x)++List.replicate (256-n) (AV.int .i64 0)))
  have e1:((256:Int)-n).toNat=256-n:=by omega
  refine sf (m:=n) (new:=List.replicate n (AV.int .i64 x)) (cs':=List.replicate (n+min n (256-n)) (AV.int .i64 x)++List.replicate (256-(n+min n (256-n))) (AV.int .i64 0)) rfl (Dn hn2 hg) hg (by rw[List.length_append,List.length_replicate,List.length_replicate];omega) ?_ ?_
  ·rw[show((256:Nat):Int)=256 from rfl,e1,Int.toNat_natCast,Nat.mul_one,Nat.mul_one,Nat.mul_one,List.take_replicate,Nat.min_comm (min n (256-n)) n,show min n (min n (256-n))=min n (256-n) by omega]
   exact CC _ _ Ll
  rw[ad.set_set,show((256:Nat):Int)=256 from rfl,e1]
  repeat' first|apply ac|(apply gw;first|refine aq rfl ?_|refine aT rfl rfl rfl Ll Ll ?_)|apply aI
  refine fp _ Ll ⟨n+min n (256-n),rfl,by omega,by omega,rfl,hh_⟩
 ·obtain rfl:n=256:=by omega
  repeat' first|apply ac|(apply gw;first|(apply gq0;first|refine aq rfl ?_|refine au (v:=AV.own _ _ _ _ _ _) rfl ?_)|(refine aA rfl rfl rfl ?_ ?_<;>(intro hc;try omega))|refine eS rfl ?_)|(apply gx;first|apply af|refine ae rfl ?_|apply aM|apply aN|refine ai rfl ?_)|apply aa|apply aO|apply aP|apply aX
  refine aJ rfl ⟨id,rfl,hid,?_⟩
  rw[Nat.sub_self,List.replicate_zero,List.append_nil]
end
end Go.Proofs.YtlnobeojgifojaaGreatDoor
