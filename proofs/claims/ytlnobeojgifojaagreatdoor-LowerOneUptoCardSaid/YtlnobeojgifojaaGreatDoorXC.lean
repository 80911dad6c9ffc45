/- law13: one, known. The statements: LowerOne, LowerBad. -/
import Derived.Test.YtlnobeojgifojaaGreatDoorXA
import Derived.Test.YtlnobeojgifojaaGreatDoorVG
import Derived.Test.YtlnobeojgifojaaGreatDoorF4
set_option linter.unusedVariables false
set_option linter.unusedSimpArgs false
namespace Go.Proofs.YtlnobeojgifojaaGreatDoor
section
open Go
set_option maxHeartbeats 4000000
attribute [local irreducible] aj bc bj dn bz cn dz bL wop cq aU
theorem r5 {Φ:Lib}(L:em Φ)(L3:cZ Φ)(L1:gC Φ)(S:eG Φ)(G:fq Φ)(J:iG Φ)(d:Dfa)(hf:d.Fits)(ht:∀ t∈d.tags.l,-2147483648≤t∧t≤2147483647){m:Nat}{h:aa}{Q:AV→aa→Prop}(k:∀ v,zo d.plain v→Q v h):bL (aU Φ) m 258 [.agg d.av] h Q:=by
 refine qK (yI L L3 L1 S G J d hf ht) (by simp[AV.frozenL,AV.frozen]) ?_ k
 rintro _ (⟨_,rfl⟩|⟨_,y,_,⟨_,rfl⟩|⟨_,_,b,rfl,_⟩⟩)
 ·rfl
 ·rfl
 ·simp[AV.frozen,AV.frozenL]
theorem zX {b:Bm}(h:OkS b.plain):b.Fits:=by
 have hn:b.plain.n=b.tags.l.length:=by simp[Bm.plain,PD.n]
 have hx:b.plain.next.length=b.next.l.length:=by simp[Bm.plain,cR]
 have h1:=h.nl
 have h2:=h.most
 refine⟨by omega,by omega,fun r hr=>?_⟩
 have:=(h.rows r.l (List.mem_map.2 ⟨r,hr,rfl⟩)).1
 omega
theorem w7 {Φ:Lib}(L:em Φ)(r:Int):ia Φ 266 [.int .i64 r] (.agg (yC r).av):=by
 refine bb (fun _=>false) rfl L.f266 ?_
 repeat' first|apply ad|(apply gw;first|refine aw rfl ?_|(refine cd ?_;intro id hid;try simp only[aa.set_none]at hid)|refine cy (cs':=[AV.rd _ _ _,AV.rd _ _ _,AV.rd _ _ _]) rfl rfl rfl rfl b_ rfl ?_|(apply Hn;first|refine dE (cs:=[AV.int _ _,AV.int _ _]) rfl ?_|refine dE (cs:=[AV.rd _ _ _,AV.rd _ _ _,AV.rd _ _ _]) rfl ?_)|(apply Hm;first|refine bF (cs:=[AV.int _ _,AV.int _ _]) rfl rfl ?_|refine bF (cs:=[AV.int _ _]) rfl rfl ?_|refine bF (cs:=[AV.rd _ _ _]) rfl rfl ?_|refine bF rfl rfl ?_))|(apply gx;first|apply af|refine ae rfl ?_|apply aM)|apply ac
 exact aH (v := .agg (yC r).av) (mA rfl (aa.get_set_self _ _ _) rfl) rfl
theorem ua {Φ:Lib}(L:em Φ)(L3:cZ Φ)(L1:gC Φ)(S:eG Φ)(G:fq Φ)(J:iG Φ){r:Int}(hs:eI r=true){m:Nat}{h:aa}{Q:AV→aa→Prop}(k:∀ b:Bm,b.plain=eE (bG r)→OkS b.plain→Q (.tup [.agg b.av,.int .u16 0]) h):bL (aU Φ) m 258 [.agg (yC r).av] h Q:=by
 refine r5 L L3 L1 S G J (yC r) (B5 r) (by simp[yC]) ?_
 have ho:=pC hs
 rintro v (⟨h1,_⟩|⟨_,y,hy,⟨h1,_⟩|⟨_,_,b,rfl,hb⟩⟩)
 ·exact absurd ho h1
 ·have e:=pF hs hy
  rw[e]at h1
  simp[cF,PD.n]at h1
 ·have e:=Cf hs hy hb
  rw[pF hs hy]at hb
  exact k b e (xC hs hb)
def noD:Dfa:=⟨⟨[],true⟩,⟨[],true⟩,⟨[],true⟩⟩
theorem Gn:¬ noD.plain.Ok:=fun h=>by
 have:=h.n1
 simp[noD,Dfa.plain,PD.n]at this
theorem yJ {Φ:Lib}(L:em Φ)(L3:cZ Φ)(L1:gC Φ)(S:eG Φ)(G:fq Φ)(J:iG Φ){m:Nat}{h:aa}{Q:AV→aa→Prop}(k:Q (.tup [.agg [.rd 0 [] true,.rd 0 [] true],.int .u16 1]) h):bL (aU Φ) m 258 [.agg [.rd 0 [] true,.rd 0 [] true,.rd 0 [] true]] h Q:=by
 refine r5 L L3 L1 S G J noD ⟨by simp[noD,dA],by simp[noD],by simp[noD],(fun r hr=>by cases hr),by simp[noD]⟩ (by simp[noD]) ?_
 rintro v (⟨h1,rfl⟩|⟨h1,_⟩)
 ·exact k
 ·exact absurd h1 Gn
theorem yN {Φ:Lib}(L:em Φ)(L3:cZ Φ)(L1:gC Φ)(S:eG Φ)(G:fq Φ)(J:iG Φ):ia Φ 259 [] (.bool true):=by
 have hs:eI 233=true:=by decide
 have hone:=w7 L 233
 refine bb (fun _=>false) rfl L.f259 ?_
 repeat' first|apply ad|(apply gw;first|refine bV rfl ?_|refine aL rfl nt_ ?_)|(apply gx;first|apply af|refine ae rfl ?_)|apply ac|refine bu (by assumption) fz_ fz_ ?_
 refine ua L L3 L1 S G J hs ?_
 intro b hb hbo
 have hbf:=zX hbo
 have hsd:=pR L L1 b hbf
 rw[ko hbo]at hsd
 have hlg:=sA L L1 b hbf [195,169,65] true HU HU
 rw[GB]at hb
 rw[r6,if_pos (ko hbo),hb,Em]at hlg
 have hlg2:ia Φ 262 [.agg b.av,.rd 3 [.int .u8 195,.int .u8 169,.int .u8 65] true] (.tup [.int .i64 2,.int .i64 5]):=hlg
 have hnb:=pR L L1 ⟨⟨[],true⟩,⟨[],true⟩⟩ ⟨by simp,by simp,fun r hr=>by cases hr⟩
 rw[lu (b:=⟨⟨[],true⟩,⟨[],true⟩⟩) fun h=>by have:=h.n1;simp[Bm.plain,PD.n]at this]at hnb
 have hnb2:ia Φ 263 [.agg [.rd 0 [] true,.rd 0 [] true]] (.bool false):=hnb
 have htl:b.tags.l.length=3:=by
  have:=congrArg (fun x:PD=>x.tags.length) hb
  simpa[Bm.plain,eE] using this
 have hnx:cR b.next.l=(eE [195,169]).next:=by
  have:=congrArg PD.next hb
  exact this
 have hnl:b.next.l.length=3:=by
  have:=congrArg List.length hnx
  simpa[cR,eE] using this
 obtain⟨r0,hr0⟩:=aK (l:=b.next.l) (i:=0) HT
 obtain⟨r1,hr1⟩:=aK (l:=b.next.l) (i:=1) HT
 have g0:r0.l=(List.range 256).map fun c:Nat=>if ([195,169]:List Int)[0]?=some (c:Int) then((0+1:Nat):Int) else -1:=by
  have e:=congrArg (fun x=>x[0]?) hnx
  have e1:(cR b.next.l)[0]?=some r0.l:=by unfold cR;rw[List.getElem?_map,hr0];rfl
  have e2:=uq (b:=[195,169]) (k:=0) HU
  have e3:=(e1.symm.trans e).trans e2
  injection e3
 have g1:r1.l=(List.range 256).map fun c:Nat=>if ([195,169]:List Int)[1]?=some (c:Int) then((1+1:Nat):Int) else -1:=by
  have e:=congrArg (fun x=>x[1]?) hnx
  have e1:(cR b.next.l)[1]?=some r1.l:=by unfold cR;rw[List.getElem?_map,hr1];rfl
  have e2:=uq (b:=[195,169]) (k:=1) HU
  have e3:=(e1.symm.trans e).trans e2
  injection e3
 have l0:r0.l.length=256:=by rw[g0];simp
 have l1:r1.l.length=256:=by rw[g1];simp
 have x0:r0.l[195]?=some 1:=by rw[g0,List.getElem?_map,List.getElem?_range HT];rfl
 have x1:r1.l[169]?=some 2:=by rw[g1,List.getElem?_map,List.getElem?_range HT];rfl
 clear hnx g0 g1 hlg hnb
 repeat' first|apply ad|(apply gw;first|(apply gq0;first|refine aw rfl ?_|refine ai (v:=AV.tup _) rfl ?_)|refine aL rfl nt_ ?_|(refine cd ?_;intro id hid;try simp only[aa.set_none]at hid)|refine aY (v:=AV.agg _) rfl rfl hg_ rfl rfl b_ sv_ ?_|refine dE (cs:=[AV.rd _ _ _,AV.rd _ _ _,AV.rd _ _ _]) rfl ?_|refine bY rfl rfl ?_)|(apply gx;first|apply af|refine ae rfl ?_)|apply ac
 refine yJ L L3 L1 S G J ?_
 repeat' first|apply ad|(apply gw;first|(apply gq0;first|refine aw rfl ?_|refine bV rfl ?_|refine ai (v:=AV.tup _) rfl ?_)|refine cD rfl ?_|(apply gq2;first|refine aI rfl b_ pv_ ?_|refine ak rfl hg_ HU b_ pv_ ?_)|(refine dD rfl rfl rfl ?_ ?_<;>(intro hc;try omega))|refine aq rfl (Nat.zero_add _) ?_|(apply gq5;first|refine ar rfl rfl hr0 HT rfl ?_|refine ar rfl rfl x0 HT rfl ?_|refine ar rfl rfl hr1 HT rfl ?_|refine ar rfl rfl x1 HT rfl ?_)|refine aD rfl ?_|refine bU rfl rfl ?_|refine aL rfl nt_ ?_|(refine cd ?_;intro id hid;try simp only[aa.set_none]at hid)|refine aY (v:=AV.agg _) rfl rfl hg_ rfl rfl b_ sv_ ?_|refine dE rfl ?_|refine bF rfl rfl ?_|refine dm (b:=false) rfl ?_|refine bY rfl rfl ?_)|(apply gx;first|apply af|refine ae rfl ?_|apply aM)|apply ac|refine bu (by assumption) fz_ fz_ ?_
 all_goals exact aH (v := .bool true) rfl rfl
end
section
open Go
set_option maxHeartbeats 4000000
attribute [local irreducible] aj bc bj dn bz cn dz bL wop cq aU
theorem xe {Φ:Lib}(L:em Φ)(L7:z4 Φ)(L3:cZ Φ)(L1:gC Φ)(S:eG Φ)(G:fq Φ)(J:iG Φ)(r:Int)(h0:0≤r)(h1:r≤4294967295):ia Φ 257 [.int .u32 r] (.bool true):=by
 have hkn:=yN L L3 L1 S G J
 have hx0:0≤r%1114112:=by omega
 have hx1:r%1114112<1114112:=by omega
 have henc:=yu L7 (r%1114112)
 have hone:=w7 L (r%1114112)
 refine bb (fun _=>false) rfl L.f257 ?_
 by_cases hs:eI (r%1114112)=true
 ·have hel:=dI (r%1114112)
  have hsr:=de (r%1114112)
  have heb:=o9 hs
  rw[D9,Ea hs]at henc
  repeat' first|apply ad|(apply gw;first|(apply gq0;first|refine aw rfl ?_|refine bV rfl ?_|refine bm rfl ?_)|(apply gq3;first|(refine dD rfl rfl rfl ?_ ?_<;>(intro hc;try omega))|refine re rfl rfl rfl HT HT ?_)|refine aD rfl ?_|refine aL rfl nt_ ?_|refine uQ rfl HT HT ?_)|(apply gx;first|apply af|refine ae rfl ?_|apply ay|refine ah rfl ?_)|apply ac|refine bu (by assumption) fz_ fz_ ?_
  refine ua L L3 L1 S G J hs ?_
  intro b hb hbo
  have hbf:=zX hbo
  have k1:=sA L L1 b hbf (bG (r%1114112)) true HT (fun c hc=>by have:=heb c hc;omega)
  have k2:=fun fl=>sA L L1 b hbf ((bG (r%1114112)).take ((bG (r%1114112)).length-1)) fl (by rw[List.length_take];omega) (fun c hc=>by have:=heb c (List.mem_of_mem_take hc);omega)
  rw[r6,if_pos (ko hbo),hb,xB heb HT]at k1
  simp only[r6,if_pos (ko hbo),hb,xD heb (show 1≤(bG (r%1114112)).length by omega)]at k2
  have htl:b.tags.l.length=(bG (r%1114112)).length+1:=by
   have:=congrArg (fun x:PD=>x.tags.length) hb
   simpa[Bm.plain,eE] using this
  generalize bG (r%1114112)=u at *
  repeat' first|apply ad|(apply gw;first|(apply gq0;first|refine aw rfl ?_|refine bV rfl ?_|refine bm rfl ?_|refine ai (v:=AV.tup _) rfl ?_)|refine cD rfl ?_|refine ak rfl hg_ HU b_ pv_ ?_|(apply gq3;first|refine a8 rfl rfl rfl HT HT ?_|refine iq rfl rfl rfl HT HT ?_|(refine eM rfl rfl rfl ?_ ?_<;>(intro hc;try omega)))|refine aq rfl (Nat.zero_add _) ?_|refine aD rfl ?_|refine bh rfl rfl ?_|refine aL rfl nt_ ?_|(refine cd ?_;intro id hid;try simp only[aa.set_none]at hid)|refine aY (v:=AV.agg _) rfl rfl hg_ rfl rfl b_ sv_ ?_|refine bY rfl rfl ?_)|(apply gx;first|apply af|refine ae rfl ?_|apply ay|refine ah rfl ?_)|apply ac|refine bu (by assumption) fz_ fz_ ?_
  refine wt (m:=u.length-1) (by rfl) (by rfl) HT HT ?_
  intro fl'
  have k3:=k2 fl'
  repeat' first|apply ad|(apply gw;first|(apply gq0;first|refine aw rfl ?_|refine bV rfl ?_|refine bm rfl ?_|refine ai (v:=AV.tup _) rfl ?_)|refine cD rfl ?_|(refine dD rfl rfl rfl ?_ ?_<;>(intro hc;try omega))|refine aD rfl ?_|refine bU rfl rfl ?_|refine aL rfl nt_ ?_|refine bY rfl rfl ?_)|(apply gx;first|apply af|refine ae rfl ?_|apply aM)|apply ac|refine bu (by assumption) fz_ fz_ ?_
  all_goals refine aH (v := .bool true) ?_ ?_
  all_goals rfl
 ·rw[D9,Eb hs]at henc
  have henc:ia Φ 245 [.int .i64 (r%1114112)] (.rd 0 [] true):=henc
  repeat' first|apply ad|(apply gw;first|(apply gq0;first|refine aw rfl ?_|refine bV rfl ?_|refine bm rfl ?_)|(apply gq3;first|(refine dD rfl rfl rfl ?_ ?_<;>(intro hc;try omega))|refine re rfl rfl rfl HT HT ?_)|refine aD rfl ?_|refine aL rfl nt_ ?_|refine uQ rfl HT HT ?_)|(apply gx;first|apply af|refine ae rfl ?_|apply aM|refine al rfl ?_)|apply ac|apply cz|refine bu (by assumption) fz_ fz_ ?_
  all_goals exact aH (v := .bool true) rfl rfl
end
end Go.Proofs.YtlnobeojgifojaaGreatDoor
