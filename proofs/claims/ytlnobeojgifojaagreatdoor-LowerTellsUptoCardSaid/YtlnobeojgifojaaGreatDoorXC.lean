/- law13: one, known. -/
import Derived.Test.YtlnobeojgifojaaGreatDoorXA
import Derived.Test.YtlnobeojgifojaaGreatDoorVG
import Derived.Test.YtlnobeojgifojaaGreatDoorXB
set_option linter.unusedVariables false
set_option linter.unusedSimpArgs false
namespace Go.Proofs.YtlnobeojgifojaaGreatDoor
section
open Go
set_option maxHeartbeats 4000000
attribute [local irreducible] az bf bm de bz cw dH bJ wop cz bc
theorem qf {Φ:Lib}(L:fh Φ)(L3:cJ Φ)(L1:il Φ)(S:fv Φ)(G:fV Φ)(J:jD Φ)(d:Dfa)(hf:d.Fits)(ht:∀ t∈d.tags.l,-2147483648≤t∧t≤2147483647){m:Nat}{h:ad}{Q:AV→ad→Prop}(k:∀ v,B7 d.plain v→Q v h):bJ (bc Φ) m 258 [.agg d.av] h Q:=by
 refine lK (Bl L L3 L1 S G J d hf ht) (by simp[AV.frozenL,AV.frozen]) ?_ k
 rintro _ (⟨_,rfl⟩|⟨_,y,_,⟨_,rfl⟩|⟨_,_,b,rfl,_⟩⟩)
 ·rfl
 ·rfl
 ·simp[AV.frozen,AV.frozenL]
theorem CI {b:Bm}(h:OkS b.plain):b.Fits:=by
 have hn:b.plain.n=b.tags.l.length:=by simp[Bm.plain,PD.n]
 have hx:b.plain.next.length=b.next.l.length:=by simp[Bm.plain,cG]
 have h1:=h.nl
 have h2:=h.most
 refine⟨by omega,by omega,fun r hr=>?_⟩
 have:=(h.rows r.l (List.mem_map.2 ⟨r,hr,rfl⟩)).1
 omega
theorem GO {Φ:Lib}(L:fh Φ)(r:Int):eQ Φ 266 [.int .i64 r] (.agg (Bd r).av):=by
 refine ba (fun _=>false) rfl L.f266 ?_
 repeat' first|apply ac|(apply gw;first|refine aq rfl ?_|(refine bV ?_;intro id hid;try simp only[ad.set_none]at hid)|refine cC (cs':=[AV.rd _ _ _,AV.rd _ _ _,AV.rd _ _ _]) rfl rfl rfl rfl b_ rfl ?_|(apply KN;first|refine cO (cs:=[AV.int _ _,AV.int _ _]) rfl ?_|refine cO (cs:=[AV.rd _ _ _,AV.rd _ _ _,AV.rd _ _ _]) rfl ?_)|(apply KM;first|refine bj (cs:=[AV.int _ _,AV.int _ _]) rfl rfl ?_|refine bj (cs:=[AV.int _ _]) rfl rfl ?_|refine bj (cs:=[AV.rd _ _ _]) rfl rfl ?_|refine bj rfl rfl ?_))|(apply gx;first|apply af|refine ae rfl ?_|apply aM)|apply aa
 exact aJ (v := .agg (Bd r).av) (mY rfl (ad.get_set_self _ _ _) rfl) rfl
theorem Fi {Φ:Lib}(L:fh Φ)(L3:cJ Φ)(L1:il Φ)(S:fv Φ)(G:fV Φ)(J:jD Φ){r:Int}(hs:cv r=true){m:Nat}{h:ad}{Q:AV→ad→Prop}(k:∀ b:Bm,b.plain=g9 (bt r)→OkS b.plain→Q (.tup [.agg b.av,.int .u16 0]) h):bJ (bc Φ) m 258 [.agg (Bd r).av] h Q:=by
 refine qf L L3 L1 S G J (Bd r) (E6 r) (by simp[Bd]) ?_
 have ho:=rI hs
 rintro v (⟨h1,_⟩|⟨_,y,hy,⟨h1,_⟩|⟨_,_,b,rfl,hb⟩⟩)
 ·exact absurd ho h1
 ·have e:=rN hs hy
  rw[e]at h1
  simp[cZ,PD.n]at h1
 ·have e:=Fg hs hy hb
  rw[rN hs hy]at hb
  exact k b e (Al hs hb)
def noD:Dfa:=⟨⟨[],true⟩,⟨[],true⟩,⟨[],true⟩⟩
theorem JM:¬ noD.plain.Ok:=fun h=>by
 have:=h.n1
 simp[noD,Dfa.plain,PD.n]at this
theorem Bo {Φ:Lib}(L:fh Φ)(L3:cJ Φ)(L1:il Φ)(S:fv Φ)(G:fV Φ)(J:jD Φ){m:Nat}{h:ad}{Q:AV→ad→Prop}(k:Q (.tup [.agg [.rd 0 [] true,.rd 0 [] true],.int .u16 1]) h):bJ (bc Φ) m 258 [.agg [.rd 0 [] true,.rd 0 [] true,.rd 0 [] true]] h Q:=by
 refine qf L L3 L1 S G J noD ⟨by simp[noD,cV],by simp[noD],by simp[noD],(fun r hr=>by cases hr),by simp[noD]⟩ (by simp[noD]) ?_
 rintro v (⟨h1,rfl⟩|⟨h1,_⟩)
 ·exact k
 ·exact absurd h1 JM
theorem Bt {Φ:Lib}(L:fh Φ)(L3:cJ Φ)(L1:il Φ)(S:fv Φ)(G:fV Φ)(J:jD Φ):eQ Φ 259 [] (.bool true):=by
 have hs:cv 233=true:=by decide
 have hone:=GO L 233
 refine ba (fun _=>false) rfl L.f259 ?_
 repeat' first|apply ac|(apply gw;first|refine bl rfl ?_|refine aH rfl nt_ ?_)|(apply gx;first|apply af|refine ae rfl ?_)|apply aa|refine aW (by assumption) fz_ fz_ ?_
 refine Fi L L3 L1 S G J hs ?_
 intro b hb hbo
 have hbf:=CI hbo
 have hsd:=pu L L1 b hbf
 rw[lS hbo]at hsd
 have hlg:=Ar L L1 b hbf [195,169,65] true Lm Lm
 rw[J0]at hb
 rw[wL,if_pos (lS hbo),hb,HE]at hlg
 have hlg2:eQ Φ 262 [.agg b.av,.rd 3 [.int .u8 195,.int .u8 169,.int .u8 65] true] (.tup [.int .i64 2,.int .i64 5]):=hlg
 have hnb:=pu L L1 ⟨⟨[],true⟩,⟨[],true⟩⟩ ⟨by simp,by simp,fun r hr=>by cases hr⟩
 rw[mV (b:=⟨⟨[],true⟩,⟨[],true⟩⟩) fun h=>by have:=h.n1;simp[Bm.plain,PD.n]at this]at hnb
 have hnb2:eQ Φ 263 [.agg [.rd 0 [] true,.rd 0 [] true]] (.bool false):=hnb
 have htl:b.tags.l.length=3:=by
  have:=congrArg (fun x:PD=>x.tags.length) hb
  simpa[Bm.plain,g9] using this
 have hnx:cG b.next.l=(g9 [195,169]).next:=by
  have:=congrArg PD.next hb
  exact this
 have hnl:b.next.l.length=3:=by
  have:=congrArg List.length hnx
  simpa[cG,g9] using this
 obtain⟨r0,hr0⟩:=aK (l:=b.next.l) (i:=0) Ll
 obtain⟨r1,hr1⟩:=aK (l:=b.next.l) (i:=1) Ll
 have g0:r0.l=(List.range 256).map fun c:Nat=>if ([195,169]:List Int)[0]?=some (c:Int) then((0+1:Nat):Int) else -1:=by
  have e:=congrArg (fun x=>x[0]?) hnx
  have e1:(cG b.next.l)[0]?=some r0.l:=by unfold cG;rw[List.getElem?_map,hr0];rfl
  have e2:=w9 (b:=[195,169]) (k:=0) Lm
  have e3:=(e1.symm.trans e).trans e2
  injection e3
 have g1:r1.l=(List.range 256).map fun c:Nat=>if ([195,169]:List Int)[1]?=some (c:Int) then((1+1:Nat):Int) else -1:=by
  have e:=congrArg (fun x=>x[1]?) hnx
  have e1:(cG b.next.l)[1]?=some r1.l:=by unfold cG;rw[List.getElem?_map,hr1];rfl
  have e2:=w9 (b:=[195,169]) (k:=1) Lm
  have e3:=(e1.symm.trans e).trans e2
  injection e3
 have l0:r0.l.length=256:=by rw[g0];simp
 have l1:r1.l.length=256:=by rw[g1];simp
 have x0:r0.l[195]?=some 1:=by rw[g0,List.getElem?_map,List.getElem?_range Ll];rfl
 have x1:r1.l[169]?=some 2:=by rw[g1,List.getElem?_map,List.getElem?_range Ll];rfl
 clear hnx g0 g1 hlg hnb
 repeat' first|apply ac|(apply gw;first|(apply gq0;first|refine aq rfl ?_|refine au (v:=AV.tup _) rfl ?_)|refine aH rfl nt_ ?_|(refine bV ?_;intro id hid;try simp only[ad.set_none]at hid)|refine bh (v:=AV.agg _) rfl rfl hg_ rfl rfl b_ sv_ ?_|refine cO (cs:=[AV.rd _ _ _,AV.rd _ _ _,AV.rd _ _ _]) rfl ?_|refine ce rfl rfl ?_)|(apply gx;first|apply af|refine ae rfl ?_)|apply aa
 refine Bo L L3 L1 S G J ?_
 repeat' first|apply ac|(apply gw;first|(apply gq0;first|refine aq rfl ?_|refine bl rfl ?_|refine au (v:=AV.tup _) rfl ?_)|refine cj rfl ?_|(apply gq2;first|refine aB rfl b_ pv_ ?_|refine am rfl hg_ Lm b_ pv_ ?_)|(refine dd rfl rfl rfl ?_ ?_<;>(intro hc;try omega))|refine ar rfl (Nat.zero_add _) ?_|(apply gq5;first|refine ah rfl rfl hr0 Ll rfl ?_|refine ah rfl rfl x0 Ll rfl ?_|refine ah rfl rfl hr1 Ll rfl ?_|refine ah rfl rfl x1 Ll rfl ?_)|refine aw rfl ?_|refine bi rfl rfl ?_|refine aH rfl nt_ ?_|(refine bV ?_;intro id hid;try simp only[ad.set_none]at hid)|refine bh (v:=AV.agg _) rfl rfl hg_ rfl rfl b_ sv_ ?_|refine cO rfl ?_|refine bj rfl rfl ?_|refine dh (b:=false) rfl ?_|refine ce rfl rfl ?_)|(apply gx;first|apply af|refine ae rfl ?_|apply aM)|apply aa|refine aW (by assumption) fz_ fz_ ?_
 all_goals exact aJ (v := .bool true) rfl rfl
end
section
open Go
set_option maxHeartbeats 4000000
attribute [local irreducible] az bf bm de bz cw dH bJ wop cz bc
theorem Bp {Φ:Lib}(L:fh Φ)(L3:cJ Φ)(L1:il Φ)(S:fv Φ)(G:fV Φ)(J:jD Φ){d:Dfa}(hd:H1 d)(h9:d.tags.l.length≤9){m:Nat}{h:ad}{Q:AV→ad→Prop}(k0:Q (.tup [.agg [.rd 0 [] true,.rd 0 [] true],.int .u16 63]) h)(k:∀ (b:Bm) (y:PD),eF d.plain y→jE y b.plain→OkS b.plain→Q (.tup [.agg b.av,.int .u16 0]) h):bJ (bc Φ) m 258 [.agg d.av] h Q:=by
 refine qf L L3 L1 S G J d hd.wide.fits hd.range ?_
 rintro v (⟨h1,_⟩|⟨_,y,hy,⟨h1,rfl⟩|⟨h1,h2,b,rfl,hb⟩⟩)
 ·exact absurd hd.ok h1
 ·exact k0
 ·have hn:d.plain.n=d.tags.l.length:=by simp[Dfa.plain,PD.n]
  have hf:=(hy.few hd.ok).1
  exact k b y hy hb (sq (hy.ok hd.ok) hb Ll h2)
end
section
open Go
set_option maxHeartbeats 4000000
attribute [local irreducible] az bf bm de bz cw dH bJ wop cz bc
theorem Ff {Φ:Lib}(L:jM Φ)(l:List Int)(fl:Bool)(hl:l.length=2)(hw:∀ c∈l,0≤c∧c≤65535) :
  bc Φ 22 [sh l fl] ad.empty (fun v _=>∃ s:List aj,v = .rd s.length (s.flatMap aj.av) false∧s.length=1):=by
 refine ba (fun _=>false) rfl L.f22 ?_
 repeat' first|apply ac|(apply gq0;first|refine aq rfl ?_|refine aG rfl ?_)|(apply gx;first|apply af|refine ae rfl ?_|apply al)|apply aa
 refine gL (fun m env h'=>∃ (i:Nat) (v:AV) (s:List aj),m=l.length+1-i∧i≤l.length+1∧i≤61∧2*s.length=i∧aD h' v 2 s.length (s.flatMap aj.av)∧env.has [(0,sh l fl),(3,v),(4,.int .i64 i)]) _ ⟨0,_,[],rfl,by omega,by omega,by simp,aD.nil _ _,hh_⟩ ?_
 rintro m env h' ⟨i,v,s,rfl,hi,hi60,hsl,hrow,he⟩
 obtain⟨env,rfl⟩:=he.ex
 clear he
 by_cases hi2:i+1<l.length
 ·obtain⟨a,ha⟩:=aK (show i<l.length by omega)
  obtain⟨b,hb⟩:=aK hi2
  have hwa:=hw a (List.mem_of_getElem? ha)
  have hwb:=hw b (List.mem_of_getElem? hb)
  repeat' first|apply ac|(apply gw;first|(apply gq0;first|refine aq rfl ?_|refine bl rfl ?_|refine aG rfl ?_)|refine cj rfl ?_|refine aB rfl b_ pv_ ?_|(apply gq3;first|refine aT rfl rfl rfl Ll Ll ?_|(refine aA rfl rfl rfl ?_ ?_<;>(intro hc;try omega)))|refine ah rfl rfl ha Ll rfl ?_|refine aw rfl ?_|refine bi rfl rfl ?_|refine aH rfl nt_ ?_)|(apply gx;first|apply af|refine ae rfl ?_|apply ay|apply al|refine ak rfl ?_)|apply aa
  refine lK (zz L a hwa) (by simp[AV.frozenL,AV.frozen]) (by rintro _ ⟨x,rfl,_⟩;rfl) ?_
  rintro _ ⟨x,rfl,hx0,hx1⟩
  repeat' first|apply ac|(apply gw;first|(apply gq0;first|refine aq rfl ?_|refine aG rfl ?_|refine au rv_ ?_)|refine aB rfl b_ pv_ ?_|(apply gq3;first|refine aT rfl rfl rfl Ll Ll ?_|refine ny rfl rfl rfl Ll Ll ?_)|refine ah rfl rfl hb Ll rfl ?_|(refine aY (m:=1) rv_ ir_ rfl rfl Ll ?_;intro va hpa hra hka hria)|refine cO (cs:=[AV.int _ _,AV.int _ _]) rfl ?_|refine bj (cs:=[AV.int _ _,AV.int _ _]) rfl rfl ?_|refine nA rfl Ll Ll ?_)|refine ae rfl ?_|apply aa|apply aI
  refine fp (l.length+1-(i+2)) Ll ⟨i+2,va,s++[⟨x,x+b%40⟩],rfl,by omega,by omega,by simp;omega,by simpa[aj.av] using hra,hh_⟩
 ·repeat' first|apply ac|(apply gw;first|(apply gq0;first|refine aq rfl ?_|refine bl rfl ?_|refine aG rfl ?_|refine au rv_ ?_)|refine cf rfl ?_|(apply gq3;first|refine aT rfl rfl rfl Ll Ll ?_|(refine aA rfl rfl rfl ?_ ?_<;>(intro hc;try omega)))|refine aw rfl ?_|refine bb rfl rfl ?_)|(apply gx;first|apply af|refine ae rfl ?_|apply aM|apply aN|refine ai rfl ?_)|apply aa|apply aO|apply aP|apply aX
  exact fq rfl hrow (fun _=>⟨s,rfl,by omega⟩)
theorem nR (d:PD):∀ (l:List Int) (s:Int) (i:Nat) (acc:Int×Int),0≤acc.1∧acc.1≤i→0≤(bu d s l i acc).1∧(bu d s l i acc).1≤i+l.length
 | [],s,i,acc,h=>by
  unfold bu
  simp only[List.length_nil]
  omega
 | x::l,s,i,acc,h=>by
  have ih:=nR d l
  unfold bu
  rw[List.length_cons]
  split
  ·omega
  ·split
   ·omega
   ·rename_i k hk hc
    by_cases ht:0≤d.tag (col d.row s k)
    ·rw[if_pos ht]
     have:=ih (col d.row s k) (i+1) ((i:Int)+1,d.tag (col d.row s k)) (by simp only;omega)
     omega
    ·rw[if_neg ht]
     have:=ih (col d.row s k) (i+1) acc Ll
     omega
theorem zS (d:PD)(l:List Int):0≤(ig d l).1∧(ig d l).1≤l.length:=by
 have:=nR d l 0 0 (0,-1) Lm
 unfold ig
 omega
set_option maxRecDepth 100000 in
theorem vD {Φ:Lib}(L:fh Φ)(L7:CO Φ)(L3:cJ Φ)(L1:il Φ)(L2:jM Φ)(S:fv Φ)(G:fV Φ)(J:jD Φ)(c:Rw (Rw Int))(k:Int)(next tags:Rw Int)(hm:B6 c k next tags)(r:Rw Int)(hrl:r.l.length≤1048576)(hrx:∀ x∈r.l,0≤x∧x≤65535):eQ Φ 254 [c.mv li,.int .u8 k,lc next,lc tags,li r] (.bool true):=by
 have hkn:=Bt L L3 L1 S G J
 refine ba (fun o=>o == some 75||o == some 94) rfl L.f254 ?_
 by_cases h30:30<r.l.length
 ·repeat' first|apply ac|(apply gw;first|(apply gq0;first|refine bl rfl ?_|refine aG rfl ?_)|refine cf rfl ?_|(refine cN rfl rfl rfl ?_ ?_<;>(intro hc;try omega))|refine aw rfl ?_|refine bi rfl rfl ?_|refine aH rfl nt_ ?_)|(apply gx;first|apply af|refine ae rfl ?_|apply aM|refine ak rfl ?_)|apply aa|apply cp|refine aW (by assumption) fz_ fz_ ?_
  all_goals exact aJ (v := .bool true) rfl rfl
 repeat' first|apply ac|(apply gw;first|(apply gq0;first|refine aq rfl ?_|refine bl rfl ?_|refine aG rfl ?_)|refine cj rfl ?_|(refine cN rfl rfl rfl ?_ ?_<;>(intro hc;try omega))|refine aw rfl ?_|refine bb rfl rfl ?_|refine aH rfl nt_ ?_|refine dh (b:=true) rfl ?_)|(apply gx;first|apply af|refine ae rfl ?_|apply ay|refine ai rfl ?_)|apply aa|refine aW (by assumption) fz_ fz_ ?_
 refine Bk L3 L2 hm ?_
 intro d hd h9
 repeat' first|apply ac|(apply gw;first|refine am rfl hg_ Lm b_ pv_ ?_|refine aH rfl nt_ ?_|(refine bV ?_;intro id hid;try simp only[ad.set_none]at hid)|refine cC (cs':=[AV.rd _ _ _,AV.rd _ _ _,AV.rd _ _ _]) rfl rfl rfl rfl b_ rfl ?_)|(apply gx;first|apply af|refine ae rfl ?_)|apply aa
 obtain⟨ia,rfl⟩:∃ x,x=id:=⟨_,rfl⟩
 have hia:=hid
 refine Bp L L3 L1 S G J hd h9 ?_ ?_
 ·repeat' first|apply ac|(apply gw;first|(apply gq0;first|refine aq rfl ?_|refine bl rfl ?_|refine au (v:=AV.tup _) rfl ?_)|(apply gq3;first|((first|refine dd rfl rfl rfl ?_ ?_|refine eK rfl rfl rfl ?_ ?_)<;>(intro hc;try omega)))|(refine bV ?_;intro id hid;try simp only[ad.set_none]at hid)|refine bh (v:=AV.agg _) rfl rfl hg_ rfl rfl b_ sv_ ?_|refine ce rfl rfl ?_)|(apply gx;first|apply af|refine ae rfl ?_|apply aM|refine ak rfl ?_)|apply aa|apply cp
  all_goals exact aJ (v := .bool true) rfl rfl
 intro b y hy hb hbo
 have hbf:=CI hbo
 have hsb:=pu L L1 b hbf
 rw[lS hbo]at hsb
 repeat' first|apply ac|(apply gw;first|(apply gq0;first|refine aq rfl ?_|refine aG rfl ?_|refine au (v:=AV.tup _) rfl ?_)|(refine eK rfl rfl rfl ?_ ?_<;>(intro hc;try omega))|(refine bV ?_;intro id hid;try simp only[ad.set_none]at hid)|refine bh (v:=AV.agg _) rfl rfl hg_ rfl rfl b_ sv_ ?_|refine ce rfl rfl ?_)|(apply gx;first|apply af|refine ae rfl ?_|apply ay|apply al|refine ai rfl ?_)|apply aa
 obtain⟨ib,rfl⟩:∃ x,x=id:=⟨_,rfl⟩
 have hS0:Sep _ [j4 ad.empty,bU ia (.cells 0 d.av),bU ib (.cells 0 b.av),cA (.rd 0 [] true) 1 0 [],cA (.rd 0 [] true) 1 0 []]:=(((((Sep.old ad.empty).new (o := .cells 0 d.av) hia).new (id:=ib) (o:=rL) (by rw[ad.get_set_ne _ _ hid.1];exact hid.2)).put 2 (.cells 0 b.av) rfl).nil 1).nil 1
 refine bD r.l.length (fun i env h'=>∃ (v w:AV) (xs:List Int),(∀ x∈xs,cv x=true)∧xs.length≤i∧Sep h' [j4 ad.empty,bU ia (.cells 0 d.av),bU ib (.cells 0 b.av),cA v 1 xs.length (xs.map (.int .i64)),cA w 1 (xs.flatMap bt).length ((xs.flatMap bt).map (.int .u8))]∧env.has [(4,li r),(11,.ptr ia 0 0),(12,.ptr ib 0 0),(14,v),(15,w),(16,.int .i64 i)]) ⟨_,_,[],by simp,by simp,hS0,hh_⟩ ?_
 clear hS0
 rintro i env h' hi ⟨v,w,xs,hxs,hxi,hS,he⟩
 have ha:h'.get ia=some (.cells 0 d.av):=hS.get (i:=1) rfl
 have hb1:h'.get ib=some (.cells 0 b.av):=hS.get (i:=2) rfl
 have hv:aD h' v 1 xs.length _:=hS.get (i:=3) rfl
 have hw:aD h' w 1 (xs.flatMap bt).length _:=hS.get (i:=4) rfl
 have hnv:=hv.notTup
 have hnw:=hw.notTup
 have hel:(xs.flatMap bt).length≤4*xs.length:=by
  have h1:∀ m:List Int,(m.flatMap bt).length≤4*m.length:=fun m=>by
   induction m with
   | nil=>simp
   | cons x m ih =>
    rw[List.flatMap_cons,List.length_append,List.length_cons,dq]
    have:=dn x
    omega
  exact h1 xs
 obtain⟨env,rfl⟩:=he.ex
 clear he
 by_cases hi2:i<r.l.length
 ·obtain⟨a,har⟩:=aK hi2
  have hax:=hrx a (List.mem_of_getElem? har)
  have hmk:=Ff L2 [a,0] true rfl (by simp;omega)
  repeat' first|apply ac|(apply gw;first|(apply gq0;first|refine aq rfl ?_|refine aG rfl ?_)|refine aB rfl b_ pv_ ?_|(refine aA rfl rfl rfl ?_ ?_<;>(intro hc;try omega))|refine ah rfl rfl har Ll rfl ?_|refine aw rfl ?_|refine aH rfl nt_ ?_|refine bj (cs:=[AV.int _ _,AV.int _ _]) rfl rfl ?_)|(apply gx;first|apply af|refine ae rfl ?_|apply ay|apply al|refine ak rfl ?_)|apply aa
  refine lK hmk (by simp[AV.frozenL,AV.frozen]) (by rintro _ ⟨s,rfl,_⟩;simp[AV.frozen]) ?_
  rintro _ ⟨s,rfl,hs1⟩
  obtain⟨p,hp⟩:=aK (l:=s) (i:=0) Ll
  have henc:=tZ L7 p.lo
  by_cases hps:cv p.lo=true
  ·rw[Fv,BJ hps]at henc
   have hpl:=dq p.lo
   have hpr:=dn p.lo
   repeat' first|apply ac|(apply gw;first|(apply gq0;first|refine aq rfl ?_|refine aG rfl ?_|refine au rv_ ?_)|refine aB rfl b_ pv_ ?_|(refine dd rfl rfl rfl ?_ ?_<;>(intro hc;try omega))|refine jQ rfl Lm rfl ?_|refine cM rfl fl_ rfl hp Ll rfl ?_|refine aw rfl ?_|refine aH rfl nt_ ?_|(refine aY (m:=1) rv_ ir_ rfl rfl Ll ?_;intro va hpa hra hka hria)|refine bj (cs:=[AV.int _ _]) rfl rfl ?_)|(apply gx;first|apply af|refine ae rfl ?_|apply ay|refine ai rfl ?_)|apply aa|refine aW (by assumption) fz_ fz_ ?_
   have hS1:=hS.upd 3 (cA va 1 (xs.length+1) (xs.map (.int .i64)++[.int .i64 p.lo])) rfl hra hka hria
   have hw1:aD hpa w 1 (xs.flatMap bt).length _:=hS1.get (i:=4) rfl
   clear hra hka hria hw ha hb1 hv hS
   obtain⟨v1,rfl⟩:∃ y,y=va:=⟨_,rfl⟩
   repeat' first|apply ac|(apply gw;first|(apply gq0;first|refine aq rfl ?_|refine au rv_ ?_)|refine aT rfl rfl rfl Ll Ll ?_|(refine aY rv_ ir_ rfl Lm (by first|omega|(simp;omega)) ?_;intro va hpa hra hka hria))|refine ae rfl ?_|apply aa|apply aI
   have hS2:=hS1.upd 4 (cA va 1 ((xs.flatMap bt).length+(bt p.lo).length) ((xs.flatMap bt).map (.int .u8)++(bt p.lo).map (.int .u8))) rfl hra hka hria
   refine aR hi2 ⟨v1,va,xs++[p.lo],?_,by rw[List.length_append,List.length_singleton];omega,?_,hh_⟩
   ·intro x hx
    rcases List.mem_append.1 hx with hx|hx
    ·exact hxs x hx
    ·simp only[List.mem_singleton]at hx;subst hx;exact hps
   ·rw[List.flatMap_append,List.flatMap_singleton,List.map_append,List.map_append,List.length_append,List.length_append]
    exact hS2
  ·rw[Fv,Ht hps]at henc
   have henc:eQ Φ 245 [.int .i64 p.lo] (.rd 0 [] true):=henc
   repeat' first|apply ac|(apply gw;first|(apply gq0;first|refine aq rfl ?_|refine aG rfl ?_)|refine aB rfl b_ pv_ ?_|(apply gq3;first|refine aT rfl rfl rfl Ll Ll ?_|(refine dd rfl rfl rfl ?_ ?_<;>(intro hc;try omega)))|refine jQ rfl Lm rfl ?_|refine cM rfl fl_ rfl hp Ll rfl ?_|refine aw rfl ?_|refine aH rfl nt_ ?_)|(apply gx;first|apply af|refine ae rfl ?_|apply aN|refine ak rfl ?_)|apply aa|apply aO|apply aP|refine aW (by assumption) fz_ fz_ ?_
   exact aR hi2 ⟨v,w,xs,hxs,by omega,hS,hh_⟩
 ·have hlr:=zS d.plain xs
  have k1:=A5 L3 L2 d hd.wide ⟨xs,false⟩ (by show xs.length≤_;omega)
  have e1:wM d xs=ig d.plain xs:=by rw[wM,if_pos (mU hd.ok)]
  simp only[e1]at k1
  have k2:=Ar L L1 b hbf (xs.flatMap bt) false Ll (fun c hc=>by
   obtain⟨x,hx,hc⟩:=List.mem_flatMap.1 hc
   have:=oH (hxs x hx) c hc
   omega)
  rw[wL,if_pos (lS hbo),zP hd.ok hy hb hxs]at k2
  obtain⟨n,hn⟩:∃ n:Nat,(ig d.plain xs).1=n:=⟨(ig d.plain xs).1.toNat,by omega⟩
  rw[hn]at k1 k2 hlr
  rw[Int.toNat_natCast]at k2
  generalize (ig d.plain xs).2=tg at k1 k2
  have k1:eQ Φ 158 [.agg d.av,.rd xs.length (xs.map (.int .i64)) false] (.tup [.int .i64 n,.int .i64 tg]):=k1
  have k2:eQ Φ 262 [.agg b.av,.rd (xs.flatMap bt).length ((xs.flatMap bt).map (.int .u8)) false] (.tup [.int .i64 (sS xs n),.int .i64 tg]):=k2
  repeat' first|apply ac|(apply gw;first|(apply gq0;first|refine aq rfl ?_|refine aG rfl ?_)|(refine aA rfl rfl rfl ?_ ?_<;>(intro hc;try omega))|refine aw rfl ?_)|(apply gx;first|apply af|refine ae rfl ?_|apply aN|refine ai rfl ?_)|apply aa|apply aO|apply aP|apply aX
  refine fk 14 (v:=v) rfl rfl hv ?_
  intro h3 hk3
  have hS2:=hS.drop 3 (h':=h3) rfl hk3
  clear hS hk3
  clear hw hv ha hb1
  have ha:h3.get ia=some (.cells 0 d.av):=hS2.get (i:=1) rfl
  repeat' first|apply ac|(apply gw;first|(apply gq0;first|refine aq rfl ?_|refine aG rfl ?_|refine au (v:=AV.tup _) rfl ?_)|refine am rfl hg_ Lm b_ pv_ ?_|refine aH rfl nt_ ?_|refine ce rfl rfl ?_)|(apply gx;first|apply af|refine ae rfl ?_|apply al)|apply aa|refine aW (by assumption) fz_ fz_ ?_
  refine bD n (fun j env h'=>h'=h3∧env.has [(11,.ptr ia 0 0),(12,.ptr ib 0 0),(14,.rd xs.length (xs.map (.int .i64)) false),(15,w),(19,.int .i64 n),(20,.int .i64 tg),(21,.int .i64 (sS xs j)),(22,.int .i64 j)]) ⟨rfl,hh_⟩ ?_
  rintro j env h' hj ⟨rfl,he⟩
  obtain⟨env,rfl⟩:=he.ex
  clear he
  have hlb:=IP xs j
  by_cases hj2:j<n
  ·obtain⟨x,hx⟩:=aK (l:=xs) (i:=j) Ll
   have henc:=tZ L7 x
   have hsx:=hxs x (List.mem_of_getElem? hx)
   rw[Fv,BJ hsx]at henc
   have hsn:=wN hx
   have hpl:=dq x
   have hpr:=dn x
   repeat' first|apply ac|(apply gw;first|(apply gq0;first|refine aq rfl ?_|refine aG rfl ?_)|refine aB rfl b_ pv_ ?_|(apply gq3;first|refine aT rfl rfl rfl Ll Ll ?_|(refine aA rfl rfl rfl ?_ ?_<;>(intro hc;try omega)))|refine ah rfl rfl hx Ll rfl ?_|refine aw rfl ?_|refine aH rfl nt_ ?_)|(apply gx;first|apply af|refine ae rfl ?_|apply ay|apply al|refine ak rfl ?_)|apply aa|apply aI|refine aW (by assumption) fz_ fz_ ?_
   refine aR hj2 ⟨rfl,?_⟩
   rw[hsn]
   exact hh_
  ·obtain rfl:j=n:=by omega
   have hw3:aD h' w 1 (xs.flatMap bt).length _:=hS2.get (i:=3) rfl
   repeat' first|apply ac|(apply gw;first|refine aq rfl ?_|(refine aA rfl rfl rfl ?_ ?_<;>(intro hc;try omega)))|(apply gx;first|apply af|refine ae rfl ?_|apply aN|refine ai rfl ?_)|apply aa|apply aO|apply aP|apply aX
   refine fk 15 (v:=w) rfl rfl hw3 ?_
   intro h4 hk4
   have hS3:=hS2.drop 3 (h':=h4) rfl hk4
   clear hS2 hk4 hw3 ha
   have hb1:h4.get ib=some (.cells 0 b.av):=hS3.get (i:=2) rfl
   repeat' first|apply ac|(apply gw;first|(apply gq0;first|refine aq rfl ?_|refine bl rfl ?_|refine aG rfl ?_|refine au (v:=AV.tup _) rfl ?_)|refine cj rfl ?_|refine am rfl hg_ Lm b_ pv_ ?_|(refine dd rfl rfl rfl ?_ ?_<;>(intro hc;try omega))|refine bi rfl rfl ?_|refine aH rfl nt_ ?_|refine ce rfl rfl ?_)|(apply gx;first|apply af|refine ae rfl ?_|apply aM)|apply aa|refine aW (by assumption) fz_ fz_ ?_
   all_goals exact aJ (v := .bool true) rfl rfl
end
end Go.Proofs.YtlnobeojgifojaaGreatDoor
