/- law13: one, known. The statements: LowerOne, LowerBad. The statement: LowerStates. -/
import Derived.Test.YtlnobeojgifojaaGreatDoorXA
import Derived.Test.YtlnobeojgifojaaGreatDoorVG
import Derived.Test.YtlnobeojgifojaaGreatDoorXB
set_option linter.unusedVariables false
set_option linter.unusedSimpArgs false
namespace Go.Proofs.YtlnobeojgifojaaGreatDoor
section
open Go
set_option maxHeartbeats 4000000
attribute [local irreducible] aw bd bm cV bz cu dF bH wop cz a8
theorem pT {Φ:Lib}(L:eW Φ)(L3:cO Φ)(L1:gY Φ)(S:fh Φ)(G:fQ Φ)(J:jt Φ)(d:Dfa)(hf:d.Fits)(ht:∀ t∈d.tags.l,-2147483648≤t∧t≤2147483647){m:Nat}{h:ac}{Q:AV→ac→Prop}(k:∀ v,Bw d.plain v→Q v h):bH (a8 Φ) m 258 [.agg d.av] h Q:=by
 refine nx (AN L L3 L1 S G J d hf ht) (by simp[AV.frozenL,AV.frozen]) ?_ k
 rintro _ (⟨_,rfl⟩|⟨_,y,_,⟨_,rfl⟩|⟨_,_,b,rfl,_⟩⟩)
 ·rfl
 ·rfl
 ·simp[AV.frozen,AV.frozenL]
theorem Iv {b:Bm}(h:OkS b.plain):b.Fits:=by
 have hn:b.plain.n=b.tags.l.length:=by simp[Bm.plain,PD.n]
 have hx:b.plain.next.length=b.next.l.length:=by simp[Bm.plain,cH]
 have h1:=h.nl
 have h2:=h.most
 refine⟨by omega,by omega,fun r hr=>?_⟩
 have:=(h.rows r.l (List.mem_map.2 ⟨r,hr,rfl⟩)).1
 omega
theorem Ge {Φ:Lib}(L:eW Φ)(r:Int):eV Φ 266 [.int .i64 r] (.agg (AH r).av):=by
 refine aY (fun _=>false) rfl L.f266 ?_
 repeat' first|apply ad|(apply gw;first|refine am rfl ?_|(refine cd ?_;intro id hid;try simp only[ac.set_none]at hid)|refine cE (cs':=[AV.rd _ _ _,AV.rd _ _ _,AV.rd _ _ _]) rfl rfl rfl rfl b_ rfl ?_|(apply Kf;first|refine cL (cs:=[AV.int _ _,AV.int _ _]) rfl ?_|refine cL (cs:=[AV.rd _ _ _,AV.rd _ _ _,AV.rd _ _ _]) rfl ?_)|(apply Ke;first|refine bk (cs:=[AV.int _ _,AV.int _ _]) rfl rfl ?_|refine bk (cs:=[AV.int _ _]) rfl rfl ?_|refine bk (cs:=[AV.rd _ _ _]) rfl rfl ?_|refine bk rfl rfl ?_))|(apply gx;first|apply af|refine ae rfl ?_|apply aM)|apply aa
 exact aH (v := .agg (AH r).av) (mI rfl (ac.get_set_self _ _ _) rfl) rfl
theorem EP {Φ:Lib}(L:eW Φ)(L3:cO Φ)(L1:gY Φ)(S:fh Φ)(G:fQ Φ)(J:jt Φ){r:Int}(hs:cx r=true){m:Nat}{h:ac}{Q:AV→ac→Prop}(k:∀ b:Bm,b.plain=gT (bu r)→OkS b.plain→Q (.tup [.agg b.av,.int .u16 0]) h):bH (a8 Φ) m 258 [.agg (AH r).av] h Q:=by
 refine pT L L3 L1 S G J (AH r) (EE r) (by simp[AH]) ?_
 have ho:=rt hs
 rintro v (⟨h1,_⟩|⟨_,y,hy,⟨h1,_⟩|⟨_,_,b,rfl,hb⟩⟩)
 ·exact absurd ho h1
 ·have e:=rB hs hy
  rw[e]at h1
  simp[cT,PD.n]at h1
 ·have e:=EN hs hy hb
  rw[rB hs hy]at hb
  exact k b e (zR hs hb)
def noD:Dfa:=⟨⟨[],true⟩,⟨[],true⟩,⟨[],true⟩⟩
theorem Je:¬ noD.plain.Ok:=fun h=>by
 have:=h.n1
 simp[noD,Dfa.plain,PD.n]at this
theorem AO {Φ:Lib}(L:eW Φ)(L3:cO Φ)(L1:gY Φ)(S:fh Φ)(G:fQ Φ)(J:jt Φ){m:Nat}{h:ac}{Q:AV→ac→Prop}(k:Q (.tup [.agg [.rd 0 [] true,.rd 0 [] true],.int .u16 1]) h):bH (a8 Φ) m 258 [.agg [.rd 0 [] true,.rd 0 [] true,.rd 0 [] true]] h Q:=by
 refine pT L L3 L1 S G J noD ⟨by simp[noD,cQ],by simp[noD],by simp[noD],(fun r hr=>by cases hr),by simp[noD]⟩ (by simp[noD]) ?_
 rintro v (⟨h1,rfl⟩|⟨h1,_⟩)
 ·exact k
 ·exact absurd h1 Je
theorem AT {Φ:Lib}(L:eW Φ)(L3:cO Φ)(L1:gY Φ)(S:fh Φ)(G:fQ Φ)(J:jt Φ):eV Φ 259 [] (.bool true):=by
 have hs:cx 233=true:=by decide
 have hone:=Ge L 233
 refine aY (fun _=>false) rfl L.f259 ?_
 repeat' first|apply ad|(apply gw;first|refine bj rfl ?_|refine aI rfl nt_ ?_)|(apply gx;first|apply af|refine ae rfl ?_)|apply aa|refine aX (by assumption) fz_ fz_ ?_
 refine EP L L3 L1 S G J hs ?_
 intro b hb hbo
 have hbf:=Iv hbo
 have hsd:=rQ L L1 b hbf
 rw[nQ hbo]at hsd
 have hlg:=Hf L L1 b hbf [195,169,65] true (by simp) (by simp)
 rw[Js]at hb
 rw[zq,if_pos (nQ hbo),hb,G5]at hlg
 have hlg2:eV Φ 262 [.agg b.av,.rd 3 [.int .u8 195,.int .u8 169,.int .u8 65] true] (.tup [.int .i64 2,.int .i64 5]):=hlg
 have hnb:=rQ L L1 ⟨⟨[],true⟩,⟨[],true⟩⟩ ⟨by simp,by simp,fun r hr=>by cases hr⟩
 rw[mF (b:=⟨⟨[],true⟩,⟨[],true⟩⟩) fun h=>by have:=h.n1;simp[Bm.plain,PD.n]at this]at hnb
 have hnb2:eV Φ 263 [.agg [.rd 0 [] true,.rd 0 [] true]] (.bool false):=hnb
 have htl:b.tags.l.length=3:=by
  have:=congrArg (fun x:PD=>x.tags.length) hb
  simpa[Bm.plain,gT] using this
 have hnx:cH b.next.l=(gT [195,169]).next:=by
  have:=congrArg PD.next hb
  exact this
 have hnl:b.next.l.length=3:=by
  have:=congrArg List.length hnx
  simpa[cH,gT] using this
 obtain⟨r0,hr0⟩:=aN (l:=b.next.l) (i:=0) (by omega)
 obtain⟨r1,hr1⟩:=aN (l:=b.next.l) (i:=1) (by omega)
 have g0:r0.l=(List.range 256).map fun c:Nat=>if ([195,169]:List Int)[0]?=some (c:Int) then((0+1:Nat):Int) else -1:=by
  have e:=congrArg (fun x=>x[0]?) hnx
  have e1:(cH b.next.l)[0]?=some r0.l:=by unfold cH;rw[List.getElem?_map,hr0];rfl
  have e2:=wP (b:=[195,169]) (k:=0) (by simp)
  have e3:=(e1.symm.trans e).trans e2
  injection e3
 have g1:r1.l=(List.range 256).map fun c:Nat=>if ([195,169]:List Int)[1]?=some (c:Int) then((1+1:Nat):Int) else -1:=by
  have e:=congrArg (fun x=>x[1]?) hnx
  have e1:(cH b.next.l)[1]?=some r1.l:=by unfold cH;rw[List.getElem?_map,hr1];rfl
  have e2:=wP (b:=[195,169]) (k:=1) (by simp)
  have e3:=(e1.symm.trans e).trans e2
  injection e3
 have l0:r0.l.length=256:=by rw[g0];simp
 have l1:r1.l.length=256:=by rw[g1];simp
 have x0:r0.l[195]?=some 1:=by rw[g0,List.getElem?_map,List.getElem?_range (by omega)];rfl
 have x1:r1.l[169]?=some 2:=by rw[g1,List.getElem?_map,List.getElem?_range (by omega)];rfl
 clear hnx g0 g1 hlg hnb
 repeat' first|apply ad|(apply gw;first|(apply gq0;first|refine am rfl ?_|refine ar (v:=AV.tup _) rfl ?_)|refine aI rfl nt_ ?_|(refine cd ?_;intro id hid;try simp only[ac.set_none]at hid)|refine bh (v:=AV.agg _) rfl rfl hg_ rfl rfl b_ sv_ ?_|refine cL (cs:=[AV.rd _ _ _,AV.rd _ _ _,AV.rd _ _ _]) rfl ?_|refine ci rfl rfl ?_)|(apply gx;first|apply af|refine ae rfl ?_)|apply aa
 refine AO L L3 L1 S G J ?_
 repeat' first|apply ad|(apply gw;first|(apply gq0;first|refine am rfl ?_|refine bj rfl ?_|refine ar (v:=AV.tup _) rfl ?_)|refine bP rfl ?_|(apply gq2;first|refine aB rfl b_ pv_ ?_|refine aq rfl hg_ (by simp) b_ pv_ ?_)|(refine cn rfl rfl rfl ?_ ?_<;>(intro hc;try (exfalso;omega)))|refine au rfl (Nat.zero_add _) ?_|(apply gq5;first|refine ai rfl rfl hr0 (by omega) rfl ?_|refine ai rfl rfl x0 (by omega) rfl ?_|refine ai rfl rfl hr1 (by omega) rfl ?_|refine ai rfl rfl x1 (by omega) rfl ?_)|refine ay rfl ?_|refine aZ rfl rfl ?_|refine aI rfl nt_ ?_|(refine cd ?_;intro id hid;try simp only[ac.set_none]at hid)|refine bh (v:=AV.agg _) rfl rfl hg_ rfl rfl b_ sv_ ?_|refine cL rfl ?_|refine bk rfl rfl ?_|refine dq (b:=false) rfl ?_|refine ci rfl rfl ?_)|(apply gx;first|apply af|refine ae rfl ?_|apply aM)|apply aa|refine aX (by assumption) fz_ fz_ ?_
 all_goals exact aH (v := .bool true) rfl rfl
end
section
open Go
set_option maxHeartbeats 4000000
attribute [local irreducible] aw bd bm cV bz cu dF bH wop cz a8
theorem AP {Φ:Lib}(L:eW Φ)(L3:cO Φ)(L1:gY Φ)(S:fh Φ)(G:fQ Φ)(J:jt Φ){d:Dfa}(hd:Hs d)(h9:d.tags.l.length≤9){m:Nat}{h:ac}{Q:AV→ac→Prop}(k0:Q (.tup [.agg [.rd 0 [] true,.rd 0 [] true],.int .u16 63]) h)(k:∀ (b:Bm) (y:PD),eE d.plain y→ix y b.plain→OkS b.plain→Q (.tup [.agg b.av,.int .u16 0]) h):bH (a8 Φ) m 258 [.agg d.av] h Q:=by
 refine pT L L3 L1 S G J d hd.wide.fits hd.range ?_
 rintro v (⟨h1,_⟩|⟨_,y,hy,⟨h1,rfl⟩|⟨h1,h2,b,rfl,hb⟩⟩)
 ·exact absurd hd.ok h1
 ·exact k0
 ·have hn:d.plain.n=d.tags.l.length:=by simp[Dfa.plain,PD.n]
  have hf:=(hy.few hd.ok).1
  exact k b y hy hb (sc (hy.ok hd.ok) hb (by omega) h2)
end
section
open Go
set_option maxHeartbeats 4000000
attribute [local irreducible] aw bd bm cV bz cu dF bH wop cz a8
theorem xR {l:List (List Int)}{i:Nat}{r:List Int}(h:l[i]?=some r):(l.take (i+1)).flatten=(l.take i).flatten++r:=by
 rw[aS h,List.flatten_append]
 simp
set_option maxRecDepth 100000 in
theorem ua {Φ:Lib}(L:eW Φ)(L7:sB Φ)(L3:cO Φ)(L1:gY Φ)(L2:l5 Φ)(S:fh Φ)(G:fQ Φ)(J:jt Φ)(c:Rw (Rw Int))(k:Int)(next tags:Rw Int)(hm:Bv c k next tags):eV Φ 252 [c.mv nc,.int .u8 k,kR next,kR tags] (.bool true):=by
 have hkn:=AT L L3 L1 S G J
 have hfn:eV Φ 203 [.rd 0 [] true] (.int .i64 (-1)):=Ee L7 [] (by simp) (by simp) true
 refine aY (fun _=>false) rfl L.f252 ?_
 repeat' first|apply ad|(apply gw;first|(apply gq0;first|refine am rfl ?_|refine bj rfl ?_|refine aG rfl ?_)|refine aI rfl nt_ ?_)|(apply gx;first|apply af|refine ae rfl ?_)|apply aa
 refine AM L3 L2 hm ?_
 intro d hd h9
 repeat' first|refine aI rfl nt_ ?_
 refine AP L L3 L1 S G J hd h9 ?_ ?_
 ·repeat' first|apply ad|(apply gw;first|(apply gq0;first|refine am rfl ?_|refine bj rfl ?_|refine ar (v:=AV.tup _) rfl ?_)|refine bP rfl ?_|(apply gq3;first|(refine cn rfl rfl rfl ?_ ?_<;>(intro hc;try (exfalso;omega)))|(refine fq rfl rfl rfl ?_ ?_<;>(intro hc;try (exfalso;omega))))|refine aZ rfl rfl ?_|refine aI rfl nt_ ?_|(refine cd ?_;intro id hid;try simp only[ac.set_none]at hid)|refine bh (v:=AV.agg _) rfl rfl hg_ rfl rfl b_ sv_ ?_|refine ci rfl rfl ?_)|(apply gx;first|apply af|refine ae rfl ?_|apply aM|refine ak rfl ?_)|apply aa|apply cv|refine aX (by assumption) fz_ fz_ ?_
  all_goals exact aH (v := .bool true) rfl rfl
 intro b y hy hb hbo
 have hyo:=hy.ok hd.ok
 have hbn:b.plain.n=b.tags.l.length:=by simp[Bm.plain,PD.n]
 have hbx:b.plain.next.length=b.next.l.length:=by simp[Bm.plain,cH]
 have hnl:=hbo.nl
 have hn1:=hbo.n1
 have hmost:=hbo.most
 have hrows:∀ {i:Nat} {r:Rw Int},b.next.l[i]?=some r→b.plain.next[i]?=some r.l:=fun {i r} h=>by
  show(cH b.next.l)[i]?=_
  unfold cH
  rw[List.getElem?_map,h]
  rfl
 repeat' first|apply ad|(apply gw;first|(apply gq0;first|refine am rfl ?_|refine ar (v:=AV.own _ _ _ _ _ _) rfl ?_|refine ar (v:=AV.tup _) rfl ?_)|refine aq rfl hg_ (by simp) b_ pv_ ?_|(refine fq rfl rfl rfl ?_ ?_<;>(intro hc;try (exfalso;omega)))|refine au rfl (Nat.zero_add _) ?_|refine ay rfl ?_|(refine cd ?_;intro id hid;try simp only[ac.set_none]at hid)|refine bh (v:=AV.agg _) rfl rfl hg_ rfl rfl b_ sv_ ?_|(refine gg rfl rfl (by omega) (by omega) ?_;intro id hid;try simp only[ac.set_none]at hid)|refine ci rfl rfl ?_)|(apply gx;first|apply af|refine ae rfl ?_|apply az|apply al|refine ah rfl ?_)|apply aa
 rename_i ib hib
 obtain⟨ic,rfl⟩:∃ x,x=id:=⟨_,rfl⟩
 have hz:(List.replicate ((b.tags.l.length:Nat):Int).toNat [AV.int .i64 0]).flatten=(List.replicate b.tags.l.length (0:Int)).map (.int .i64):=by
  rw[qh,List.map_replicate]
 rw[hz]
 have hS0:=(((Sep.old ac.empty).new (id:=ib) (o:=ry) hib).put 1 (.cells 0 b.av) rfl).rowF (id:=ic) (n:=b.tags.l.length) (rs:=(List.replicate b.tags.l.length (0:Int)).map (.int .i64)) (by rw[ac.get_set_ne _ _ hid.1,ac.get_set_ne _ _ hid.1];exact hid.2.2) (by simp)
 refine bD b.next.l.length (fun i env h'=>∃ bs:List Int,bs.length=b.tags.l.length∧Hit bs (b.plain.next.take i).flatten∧Sep h' [cB (.own ic 1 1 0 b.tags.l.length none) 1 b.tags.l.length (bs.map (.int .i64)),jA ac.empty,bX ib (.cells 0 b.av)]∧env.has [(9,.ptr ib 0 0),(11,.own ic 1 1 0 b.tags.l.length none),(12,.int .i64 i)]) ⟨_,List.length_replicate,Hit.nil _,hS0,hh_⟩ ?_
 clear hS0 hid hib hz
 rintro i env h' hi ⟨bs,hbl,hit,hS,he⟩
 obtain⟨env,rfl⟩:=he.ex
 clear he
 have hb1:h'.get ib=some (.cells 0 b.av):=hS.get (i:=2) rfl
 by_cases hi2:i<b.next.l.length
 ·obtain⟨r,hr⟩:=aN hi2
  have hrp:=hrows hr
  obtain⟨hrl,hrt⟩:=hbo.rows r.l (List.mem_of_getElem? hrp)
  repeat' first|apply ad|(apply gw;first|refine am rfl ?_|refine aq rfl hg_ (by simp) b_ pv_ ?_|(refine aA rfl rfl rfl ?_ ?_<;>(intro hc;try (exfalso;omega)))|refine au rfl (Nat.zero_add _) ?_|refine ay rfl ?_)|(apply gx;first|apply af|refine ae rfl ?_|apply az|apply al|refine ak rfl ?_)|apply aa
  refine bD 256 (fun j env h'=>∃ bs:List Int,bs.length=b.tags.l.length∧Hit bs ((b.plain.next.take i).flatten++r.l.take j)∧Sep h' [cB (.own ic 1 1 0 b.tags.l.length none) 1 b.tags.l.length (bs.map (.int .i64)),jA ac.empty,bX ib (.cells 0 b.av)]∧env.has [(9,.ptr ib 0 0),(11,.own ic 1 1 0 b.tags.l.length none),(12,.int .i64 i),(13,.int .i64 j)]) ⟨bs,hbl,by simpa using hit,hS,hh_⟩ ?_
  clear hS hit hbl hb1
  rintro j env h' hj ⟨bs,hbl,hit,hS,he⟩
  obtain⟨env,rfl⟩:=he.ex
  clear he
  have hb1:h'.get ib=some (.cells 0 b.av):=hS.get (i:=2) rfl
  have hrr:aC h' (.own ic 1 1 0 b.tags.l.length none) 1 b.tags.l.length _:=hS.get (i:=0) rfl
  obtain⟨hgr,_⟩:=hrr.own_get
  by_cases hj2:j<256
  ·obtain⟨to,hto⟩:=aN (l:=r.l) (i:=j) (by omega)
   have htr:=hrt to (List.mem_of_getElem? hto)
   have hsn:=aS hto
   have hlead:i=0→to ≠ -1→j<128∨(194≤j∧j≤244):=fun hi0 hne=>by
    subst hi0
    refine hb.lead hyo hj2 ?_
    have e:b.plain.row 0=r.l:=by
     show b.plain.next.getD (0:Int).toNat []=_
     rw[List.getD_eq_getElem?_getD]
     have:=hrp
     simp only[Int.toNat_zero]
     rw[this]
     rfl
    rw[col,e,List.getD_eq_getElem?_getD,hto]
    exact hne
   by_cases h1:to = -1
   ·subst h1
    repeat' first|apply ad|(apply gw;first|(apply gq0;first|refine am rfl ?_|refine bj rfl ?_|refine ar (v:=AV.own _ _ _ _ _ _) rfl ?_)|(apply gq1;first|refine cr rfl ?_|refine bP rfl ?_|refine tj rfl ?_)|(apply gq2;first|refine aB rfl b_ pv_ ?_|refine aq rfl hg_ (by simp) b_ pv_ ?_)|(apply gq3;first|refine aQ rfl rfl rfl (by omega) (by omega) ?_|(refine aA rfl rfl rfl ?_ ?_<;>(intro hc;try (exfalso;omega)))|(refine eK rfl rfl rfl ?_ ?_<;>(intro hc;try (exfalso;omega))))|refine au rfl (Nat.zero_add _) ?_|(apply gq5;first|refine ai rfl rfl hr (by omega) rfl ?_|refine ai rfl rfl hto (by omega) rfl ?_)|(apply gq6;first|refine ay rfl ?_|refine cX rfl ?_)|refine bc rfl rfl ?_)|(apply gx;first|apply af|refine ae rfl ?_|apply az|apply al|refine ak rfl ?_|refine ah rfl ?_)|apply aa|apply aD
    refine aO hj2 ⟨bs,hbl,?_,hS,hh_⟩
    rw[hsn,← List.append_assoc]
    exact hit.skip (by omega)
   ·have hin:=htr.resolve_left h1
    have hin1:=hin.1
    have hin2:=hin.2
    rw[hbn]at hin2
    have hl2:i=0→j<128∨(194≤j∧j≤244):=fun e=>hlead e h1
    clear hlead hrr
    obtain⟨q,rfl⟩:∃ q:Nat,to=q:=⟨to.toNat,by omega⟩
    have hset:(bs.map (AV.int .i64)).set ((q:Int).toNat*1) (AV.int .i64 1)=(bs.set ((q:Int).toNat) 1).map (.int .i64):=by rw[Nat.mul_one,List.map_set]
    repeat' first|apply ad|(apply gw;first|(apply gq0;first|refine am rfl ?_|refine bj rfl ?_|refine ar (v:=AV.own _ _ _ _ _ _) rfl ?_)|(apply gq1;first|refine cr rfl ?_|refine bP rfl ?_|refine tj rfl ?_)|(apply gq2;first|refine aB rfl b_ pv_ ?_|refine aq rfl hg_ (by simp) b_ pv_ ?_)|(apply gq3;first|refine aQ rfl rfl rfl (by omega) (by omega) ?_|(refine aA rfl rfl rfl ?_ ?_<;>(intro hc;try (exfalso;omega)))|(refine cY rfl rfl rfl ?_ ?_<;>(intro hc;try (exfalso;omega)))|(refine eK rfl rfl rfl ?_ ?_<;>(intro hc;try (exfalso;omega)))|(refine cn rfl rfl rfl ?_ ?_<;>(intro hc;try (exfalso;omega))))|refine au rfl (Nat.zero_add _) ?_|(apply gq5;first|refine ai rfl rfl hr (by omega) rfl ?_|refine ai rfl rfl hto (by omega) rfl ?_|refine bn rfl rfl (by omega) (by omega) ?_)|(apply gq6;first|refine ay rfl ?_|refine cX rfl ?_)|(apply gq7;first|refine aZ rfl rfl ?_|refine bc rfl rfl ?_)|refine oH (g:=_) rfl rfl hg_ (by simp only[Nat.zero_add,Nat.mul_one];exact rfl) (by omega) rfl rfl (by exact rfl) ?_)|(apply gx;first|apply af|refine ae rfl ?_|apply az|apply al|refine ak rfl ?_|refine ah rfl ?_)|apply aa|apply aD
    all_goals first
     | (exfalso;omega)
     | skip
    all_goals refine aO hj2 ⟨bs.set (q:Int).toNat 1,by rw[List.length_set];exact hbl,?_,?_,hh_⟩
    all_goals first
     | exact hS.rowset 0 ((bs.set (q:Int).toNat 1).map (.int .i64)) rfl rfl (Nat.le_refl _) (by rw[List.length_map,List.length_set,hbl,Nat.mul_one])
     | (
      rw[hsn,← List.append_assoc]
      exact hit.more (by omega))
  ·obtain rfl:j=256:=by omega
   repeat' first|apply ad|(apply gw;first|refine am rfl ?_|(apply gq2;first|refine aB rfl b_ pv_ ?_|refine aq rfl hg_ (by simp) b_ pv_ ?_)|(apply gq3;first|refine aQ rfl rfl rfl (by omega) (by omega) ?_|(refine aA rfl rfl rfl ?_ ?_<;>(intro hc;try (exfalso;omega))))|refine au rfl (Nat.zero_add _) ?_|refine ai rfl rfl hr (by omega) rfl ?_|refine ay rfl ?_)|(apply gx;first|apply af|refine ae rfl ?_|apply aJ|refine ah rfl ?_)|apply aa|apply aK|apply aD|apply aL|apply aR
   refine aO hi2 ⟨bs,hbl,?_,hS,hh_⟩
   rw[xR hrp]
   rw[List.take_of_length_le (l:=r.l) (i:=256) (by omega)]at hit
   exact hit
 ·rw[List.take_of_length_le (l:=b.plain.next) (i:=i) (by omega)]at hit
  repeat' first|apply ad|(apply gw;first|refine am rfl ?_|refine aq rfl hg_ (by simp) b_ pv_ ?_|(refine aA rfl rfl rfl ?_ ?_<;>(intro hc;try (exfalso;omega)))|refine au rfl (Nat.zero_add _) ?_|refine ay rfl ?_)|(apply gx;first|apply af|refine ae rfl ?_|apply al|apply aJ|refine ah rfl ?_)|apply aa|apply aK|apply aL|apply aR
  refine bD (b.tags.l.length-1) (fun m env h'=>Sep h' [cB (.own ic 1 1 0 b.tags.l.length none) 1 b.tags.l.length (bs.map (.int .i64)),jA ac.empty,bX ib (.cells 0 b.av)]∧env.has [(11,.own ic 1 1 0 b.tags.l.length none),(15,.int .i64 (m+1))]) ⟨hS,hh_⟩ ?_
  clear hS hb1
  rintro m env h' hj ⟨hS,he⟩
  obtain⟨env,rfl⟩:=he.ex
  clear he
  have hrr:aC h' (.own ic 1 1 0 b.tags.l.length none) 1 b.tags.l.length _:=hS.get (i:=0) rfl
  obtain⟨hgr,_⟩:=hrr.own_get
  clear hrr
  by_cases hm2:m<b.tags.l.length-1
  ·have hx:=hit.all hyo hb (q:=m+1) (by omega) (by omega)
   repeat' first|apply ad|(apply gw;first|(apply gq0;first|refine am rfl ?_|refine ar (v:=AV.own _ _ _ _ _ _) rfl ?_)|refine dV (g:=_) rfl hg_ hx eq_ ?_|(apply gq3;first|refine aQ rfl rfl rfl (by omega) (by omega) ?_|(refine aA rfl rfl rfl ?_ ?_<;>(intro hc;try (exfalso;omega)))|(refine cn rfl rfl rfl ?_ ?_<;>(intro hc;try (exfalso;omega))))|refine bn rfl rfl (by omega) (by omega) ?_|refine cX rfl ?_)|(apply gx;first|apply af|refine ae rfl ?_|apply az|apply al|refine ak rfl ?_|refine ah rfl ?_)|apply aa|apply aD
   exact aO hm2 ⟨hS,hh_⟩
  ·repeat' first|apply ad|(apply gw;first|(apply gq0;first|refine am rfl ?_|refine bj rfl ?_|refine ar (v:=AV.own _ _ _ _ _ _) rfl ?_)|refine bP rfl ?_|(apply gq3;first|(refine aA rfl rfl rfl ?_ ?_<;>(intro hc;try (exfalso;omega)))|(refine cn rfl rfl rfl ?_ ?_<;>(intro hc;try (exfalso;omega))))|refine cX rfl ?_|refine aZ rfl rfl ?_|refine aI rfl nt_ ?_)|(apply gx;first|apply af|refine ae rfl ?_|apply aM|apply aJ|refine ah rfl ?_)|apply aa|apply aK|apply aL|apply aR|refine aX (by assumption) fz_ fz_ ?_
   all_goals exact aH (v := .bool true) rfl rfl
end
end Go.Proofs.YtlnobeojgifojaaGreatDoor
