/- law13: one, known. The statements: LowerOne, LowerBad. -/
import Derived.Test.YtlnobeojgifojaaGreatDoorXA
import Derived.Test.YtlnobeojgifojaaGreatDoorVG
import Derived.Test.YtlnobeojgifojaaGreatDoorXB
set_option linter.unusedVariables false
set_option linter.unusedSimpArgs false
namespace Go.Proofs.YtlnobeojgifojaaGreatDoor
section
open Go
set_option maxHeartbeats 4000000
attribute [local irreducible] aw bg bm dg bz cw dO bH wop cz a8
theorem p7 {Φ:Lib}(L:fd Φ)(L3:cP Φ)(L1:ii Φ)(S:fo Φ)(G:fV Φ)(J:jz Φ)(d:Dfa)(hf:d.Fits)(ht:∀ t∈d.tags.l,-2147483648≤t∧t≤2147483647){m:Nat}{h:ac}{Q:AV→ac→Prop}(k:∀ v,BP d.plain v→Q v h):bH (a8 Φ) m 258 [.agg d.av] h Q:=by
 refine nD (A7 L L3 L1 S G J d hf ht) (by simp[AV.frozenL,AV.frozen]) ?_ k
 rintro _ (⟨_,rfl⟩|⟨_,y,_,⟨_,rfl⟩|⟨_,_,b,rfl,_⟩⟩)
 ·rfl
 ·rfl
 ·simp[AV.frozen,AV.frozenL]
theorem Cx {b:Bm}(h:OkS b.plain):b.Fits:=by
 have hn:b.plain.n=b.tags.l.length:=by simp[Bm.plain,PD.n]
 have hx:b.plain.next.length=b.next.l.length:=by simp[Bm.plain,cS]
 have h1:=h.nl
 have h2:=h.most
 refine⟨by omega,by omega,fun r hr=>?_⟩
 have:=(h.rows r.l (List.mem_map.2 ⟨r,hr,rfl⟩)).1
 omega
theorem GB {Φ:Lib}(L:fd Φ)(r:Int):fg Φ 266 [.int .i64 r] (.agg (AZ r).av):=by
 refine aY (fun _=>false) rfl L.f266 ?_
 repeat' first|apply ad|(apply gw;first|refine am rfl ?_|(refine bZ ?_;intro id hid;try simp only[ac.set_none]at hid)|refine cD (cs':=[AV.rd _ _ _,AV.rd _ _ _,AV.rd _ _ _]) rfl rfl rfl rfl b_ rfl ?_|(apply KA;first|refine cJ (cs:=[AV.int _ _,AV.int _ _]) rfl ?_|refine cJ (cs:=[AV.rd _ _ _,AV.rd _ _ _,AV.rd _ _ _]) rfl ?_)|(apply Kz;first|refine bk (cs:=[AV.int _ _,AV.int _ _]) rfl rfl ?_|refine bk (cs:=[AV.int _ _]) rfl rfl ?_|refine bk (cs:=[AV.rd _ _ _]) rfl rfl ?_|refine bk rfl rfl ?_))|(apply gx;first|apply af|refine ae rfl ?_|apply aJ)|apply aa
 exact aH (v := .agg (AZ r).av) (mP rfl (ac.get_set_self _ _ _) rfl) rfl
theorem Fa {Φ:Lib}(L:fd Φ)(L3:cP Φ)(L1:ii Φ)(S:fo Φ)(G:fV Φ)(J:jz Φ){r:Int}(hs:cv r=true){m:Nat}{h:ac}{Q:AV→ac→Prop}(k:∀ b:Bm,b.plain=g9 (br r)→OkS b.plain→Q (.tup [.agg b.av,.int .u16 0]) h):bH (a8 Φ) m 258 [.agg (AZ r).av] h Q:=by
 refine p7 L L3 L1 S G J (AZ r) (EY r) (by simp[AZ]) ?_
 have ho:=rB hs
 rintro v (⟨h1,_⟩|⟨_,y,hy,⟨h1,_⟩|⟨_,_,b,rfl,hb⟩⟩)
 ·exact absurd ho h1
 ·have e:=rF hs hy
  rw[e]at h1
  simp[cX,PD.n]at h1
 ·have e:=E7 hs hy hb
  rw[rF hs hy]at hb
  exact k b e (z9 hs hb)
def noD:Dfa:=⟨⟨[],true⟩,⟨[],true⟩,⟨[],true⟩⟩
theorem Jz:¬ noD.plain.Ok:=fun h=>by
 have:=h.n1
 simp[noD,Dfa.plain,PD.n]at this
theorem A9 {Φ:Lib}(L:fd Φ)(L3:cP Φ)(L1:ii Φ)(S:fo Φ)(G:fV Φ)(J:jz Φ){m:Nat}{h:ac}{Q:AV→ac→Prop}(k:Q (.tup [.agg [.rd 0 [] true,.rd 0 [] true],.int .u16 1]) h):bH (a8 Φ) m 258 [.agg [.rd 0 [] true,.rd 0 [] true,.rd 0 [] true]] h Q:=by
 refine p7 L L3 L1 S G J noD ⟨by simp[noD,cT],by simp[noD],by simp[noD],(fun r hr=>by cases hr),by simp[noD]⟩ (by simp[noD]) ?_
 rintro v (⟨h1,rfl⟩|⟨h1,_⟩)
 ·exact k
 ·exact absurd h1 Jz
theorem Be {Φ:Lib}(L:fd Φ)(L3:cP Φ)(L1:ii Φ)(S:fo Φ)(G:fV Φ)(J:jz Φ):fg Φ 259 [] (.bool true):=by
 have hs:cv 233=true:=by decide
 have hone:=GB L 233
 refine aY (fun _=>false) rfl L.f259 ?_
 repeat' first|apply ad|(apply gw;first|refine bj rfl ?_|refine aI rfl nt_ ?_)|(apply gx;first|apply af|refine ae rfl ?_)|apply aa|refine aU (by assumption) fz_ fz_ ?_
 refine Fa L L3 L1 S G J hs ?_
 intro b hb hbo
 have hbf:=Cx hbo
 have hsd:=rU L L1 b hbf
 rw[mK hbo]at hsd
 have hlg:=Ag L L1 b hbf [195,169,65] true (by simp) (by simp)
 rw[JN]at hb
 rw[wD,if_pos (mK hbo),hb,Hr]at hlg
 have hlg2:fg Φ 262 [.agg b.av,.rd 3 [.int .u8 195,.int .u8 169,.int .u8 65] true] (.tup [.int .i64 2,.int .i64 5]):=hlg
 have hnb:=rU L L1 ⟨⟨[],true⟩,⟨[],true⟩⟩ ⟨by simp,by simp,fun r hr=>by cases hr⟩
 rw[mL (b:=⟨⟨[],true⟩,⟨[],true⟩⟩) fun h=>by have:=h.n1;simp[Bm.plain,PD.n]at this]at hnb
 have hnb2:fg Φ 263 [.agg [.rd 0 [] true,.rd 0 [] true]] (.bool false):=hnb
 have htl:b.tags.l.length=3:=by
  have:=congrArg (fun x:PD=>x.tags.length) hb
  simpa[Bm.plain,g9] using this
 have hnx:cS b.next.l=(g9 [195,169]).next:=by
  have:=congrArg PD.next hb
  exact this
 have hnl:b.next.l.length=3:=by
  have:=congrArg List.length hnx
  simpa[cS,g9] using this
 obtain⟨r0,hr0⟩:=aK (l:=b.next.l) (i:=0) (by omega)
 obtain⟨r1,hr1⟩:=aK (l:=b.next.l) (i:=1) (by omega)
 have g0:r0.l=(List.range 256).map fun c:Nat=>if ([195,169]:List Int)[0]?=some (c:Int) then((0+1:Nat):Int) else -1:=by
  have e:=congrArg (fun x=>x[0]?) hnx
  have e1:(cS b.next.l)[0]?=some r0.l:=by unfold cS;rw[List.getElem?_map,hr0];rfl
  have e2:=wV (b:=[195,169]) (k:=0) (by simp)
  have e3:=(e1.symm.trans e).trans e2
  injection e3
 have g1:r1.l=(List.range 256).map fun c:Nat=>if ([195,169]:List Int)[1]?=some (c:Int) then((1+1:Nat):Int) else -1:=by
  have e:=congrArg (fun x=>x[1]?) hnx
  have e1:(cS b.next.l)[1]?=some r1.l:=by unfold cS;rw[List.getElem?_map,hr1];rfl
  have e2:=wV (b:=[195,169]) (k:=1) (by simp)
  have e3:=(e1.symm.trans e).trans e2
  injection e3
 have l0:r0.l.length=256:=by rw[g0];simp
 have l1:r1.l.length=256:=by rw[g1];simp
 have x0:r0.l[195]?=some 1:=by rw[g0,List.getElem?_map,List.getElem?_range (by omega)];rfl
 have x1:r1.l[169]?=some 2:=by rw[g1,List.getElem?_map,List.getElem?_range (by omega)];rfl
 clear hnx g0 g1 hlg hnb
 repeat' first|apply ad|(apply gw;first|(apply gq0;first|refine am rfl ?_|refine aq (v:=AV.tup _) rfl ?_)|refine aI rfl nt_ ?_|(refine bZ ?_;intro id hid;try simp only[ac.set_none]at hid)|refine bh (v:=AV.agg _) rfl rfl hg_ rfl rfl b_ sv_ ?_|refine cJ (cs:=[AV.rd _ _ _,AV.rd _ _ _,AV.rd _ _ _]) rfl ?_|refine ci rfl rfl ?_)|(apply gx;first|apply af|refine ae rfl ?_)|apply aa
 refine A9 L L3 L1 S G J ?_
 repeat' first|apply ad|(apply gw;first|(apply gq0;first|refine am rfl ?_|refine bj rfl ?_|refine aq (v:=AV.tup _) rfl ?_)|refine bP rfl ?_|(apply gq2;first|refine aB rfl b_ pv_ ?_|refine ar rfl hg_ (by simp) b_ pv_ ?_)|(refine cq rfl rfl rfl ?_ ?_<;>(intro hc;try (exfalso;omega)))|refine au rfl (Nat.zero_add _) ?_|(apply gq5;first|refine aj rfl rfl hr0 (by omega) rfl ?_|refine aj rfl rfl x0 (by omega) rfl ?_|refine aj rfl rfl hr1 (by omega) rfl ?_|refine aj rfl rfl x1 (by omega) rfl ?_)|refine az rfl ?_|refine aZ rfl rfl ?_|refine aI rfl nt_ ?_|(refine bZ ?_;intro id hid;try simp only[ac.set_none]at hid)|refine bh (v:=AV.agg _) rfl rfl hg_ rfl rfl b_ sv_ ?_|refine cJ rfl ?_|refine bk rfl rfl ?_|refine dp (b:=false) rfl ?_|refine ci rfl rfl ?_)|(apply gx;first|apply af|refine ae rfl ?_|apply aJ)|apply aa|refine aU (by assumption) fz_ fz_ ?_
 all_goals exact aH (v := .bool true) rfl rfl
end
section
open Go
set_option maxHeartbeats 4000000
attribute [local irreducible] aw bg bm dg bz cw dO bH wop cz a8
theorem Ba {Φ:Lib}(L:fd Φ)(L3:cP Φ)(L1:ii Φ)(S:fo Φ)(G:fV Φ)(J:jz Φ){d:Dfa}(hd:HM d)(h9:d.tags.l.length≤9){m:Nat}{h:ac}{Q:AV→ac→Prop}(k0:Q (.tup [.agg [.rd 0 [] true,.rd 0 [] true],.int .u16 63]) h)(k:∀ (b:Bm) (y:PD),eC d.plain y→jA y b.plain→OkS b.plain→Q (.tup [.agg b.av,.int .u16 0]) h):bH (a8 Φ) m 258 [.agg d.av] h Q:=by
 refine p7 L L3 L1 S G J d hd.wide.fits hd.range ?_
 rintro v (⟨h1,_⟩|⟨_,y,hy,⟨h1,rfl⟩|⟨h1,h2,b,rfl,hb⟩⟩)
 ·exact absurd hd.ok h1
 ·exact k0
 ·have hn:d.plain.n=d.tags.l.length:=by simp[Dfa.plain,PD.n]
  have hf:=(hy.few hd.ok).1
  exact k b y hy hb (sg (hy.ok hd.ok) hb (by omega) h2)
theorem zC {Φ:Lib}(L:fd Φ)(L7:sE Φ)(L3:cP Φ)(L1:ii Φ)(L2:l9 Φ)(S:fo Φ)(G:fV Φ)(J:jz Φ)(c:Rw (Rw Int))(k:Int)(next tags:Rw Int)(hm:BO c k next tags)(s:Rw Int)(hsl:s.l.length≤1048576)(hsb:∀ x∈s.l,0≤x∧x≤255):fg Φ 255 [c.mv nk,.int .u8 k,kV next,kV tags,jk s.l s.fl] (.bool true):=by
 have hkn:=Be L L3 L1 S G J
 refine aY (fun _=>false) rfl L.f255 ?_
 by_cases hbig:100<s.l.length
 ·repeat' first|apply ad|(apply gw;first|(apply gq0;first|refine bj rfl ?_|refine aG rfl ?_)|refine cr rfl ?_|(refine cY rfl rfl rfl ?_ ?_<;>(intro hc;try (exfalso;omega)))|refine az rfl ?_|refine aZ rfl rfl ?_|refine aI rfl nt_ ?_)|(apply gx;first|apply af|refine ae rfl ?_|apply aJ|refine ak rfl ?_)|apply aa|apply cu|refine aU (by assumption) fz_ fz_ ?_
  all_goals exact aH (v := .bool true) rfl rfl
 repeat' first|apply ad|(apply gw;first|(apply gq0;first|refine am rfl ?_|refine bj rfl ?_|refine aG rfl ?_)|refine bP rfl ?_|(refine cY rfl rfl rfl ?_ ?_<;>(intro hc;try (exfalso;omega)))|refine az rfl ?_|refine bc rfl rfl ?_|refine aI rfl nt_ ?_|refine dp (b:=true) rfl ?_)|(apply gx;first|apply af|refine ae rfl ?_|apply ay|refine ah rfl ?_)|apply aa|refine aU (by assumption) fz_ fz_ ?_
 refine A6 L3 L2 hm ?_
 intro d hd h9
 repeat' first|refine aI rfl nt_ ?_
 refine Ba L L3 L1 S G J hd h9 ?_ ?_
 ·repeat' first|apply ad|(apply gw;first|(apply gq0;first|refine am rfl ?_|refine bj rfl ?_|refine aq (v:=AV.tup _) rfl ?_)|(apply gq3;first|(refine cq rfl rfl rfl ?_ ?_<;>(intro hc;try (exfalso;omega)))|(refine fw rfl rfl rfl ?_ ?_<;>(intro hc;try (exfalso;omega))))|(refine bZ ?_;intro id hid;try simp only[ac.set_none]at hid)|refine bh (v:=AV.agg _) rfl rfl hg_ rfl rfl b_ sv_ ?_|refine ci rfl rfl ?_)|(apply gx;first|apply af|refine ae rfl ?_|apply aJ|refine ak rfl ?_)|apply aa|apply cu
  all_goals exact aH (v := .bool true) rfl rfl
 intro b y hy hb hbo
 have hbf:=Cx hbo
 have k1:=Ag L L1 b hbf s.l s.fl hsl hsb
 obtain⟨n,l,e1,e2,e3,e4⟩:=E8 hd.ok hy hb (b:=s.l) fun c hc=>by have:=hsb c hc;omega
 rw[wD,if_pos (mK hbo)]at k1
 generalize lr b.plain 0 s.l 0 (0,-1)=z at k1 e1
 rw[e1]at k1
 have k2:=fun fl=>EB L7 l e4 (by rw[← e3,List.length_take];omega) fl
 rw[← e3]at k2
 repeat' first|apply ad|(apply gw;first|(apply gq0;first|refine am rfl ?_|refine bj rfl ?_|refine aG rfl ?_|refine aq (v:=AV.tup _) rfl ?_)|refine bP rfl ?_|refine ar rfl hg_ (by simp) b_ pv_ ?_|(apply gq3;first|(refine ix rfl rfl rfl ?_ ?_<;>(intro hc;try (exfalso;omega)))|(refine fp rfl rfl rfl ?_ ?_<;>(intro hc;try (exfalso;omega)))|(refine fw rfl rfl rfl ?_ ?_<;>(intro hc;try (exfalso;omega))))|refine az rfl ?_|refine aZ rfl rfl ?_|refine aI rfl nt_ ?_|(refine bZ ?_;intro id hid;try simp only[ac.set_none]at hid)|refine bh (v:=AV.agg _) rfl rfl hg_ rfl rfl b_ sv_ ?_|refine ci rfl rfl ?_)|(apply gx;first|apply af|refine ae rfl ?_|apply ay|refine ah rfl ?_)|apply aa|refine aU (by assumption) fz_ fz_ ?_
 refine yN (m:=n) (by rfl) (by rfl) rfl e2 ?_
 intro fl'
 have k3:=k2 fl'
 repeat' first|apply ad|(apply gw;first|refine bj rfl ?_|refine bP rfl ?_|(refine cq rfl rfl rfl ?_ ?_<;>(intro hc;try (exfalso;omega)))|refine aZ rfl rfl ?_|refine aI rfl nt_ ?_)|apply aJ|apply aa|refine aU (by assumption) fz_ fz_ ?_
 all_goals exact aH (v := .bool true) rfl rfl
end
end Go.Proofs.YtlnobeojgifojaaGreatDoor
