/- lower.Of. -/
import Derived.Test.YtlnobeojgifojaaGreatDoorVF
set_option linter.unusedVariables false
set_option linter.unusedSimpArgs false
namespace Go.Proofs.YtlnobeojgifojaaGreatDoor
section
open Go
set_option maxHeartbeats 4000000
attribute [local irreducible] aj bc bj dn bz cn dz bL wop cq aU
@[reducible] def qz:gB := .cells 0 [.rd 0 [] true,.rd 0 [] true]
@[simp] theorem Hr (l:List il):AV.frozenL (l.map li)=true:=dQ (fun r=>by simp[AV.frozen]) l
def zo (d:PD)(v:AV):Prop:=(¬ d.Ok∧v = .tup [.agg [.rd 0 [] true,.rd 0 [] true],.int .u16 1])∨(d.Ok∧∃ y:PD,dY d y∧(((100<y.n∨100<(y.parts.map List.length).sum)∧v = .tup [.agg [.rd 0 [] true,.rd 0 [] true],.int .u16 63])∨(y.n≤100∧(y.parts.map List.length).sum≤100∧∃ b:Bm,v = .tup [.agg b.av,.int .u16 0]∧ka y b.plain)))
set_option maxRecDepth 100000 in
theorem yI {Φ:Lib}(L:em Φ)(L3:cZ Φ)(L1:gC Φ)(S:eG Φ)(G:fq Φ)(J:iG Φ)(d:Dfa)(hf:d.Fits)(ht:∀ t∈d.tags.l,-2147483648≤t∧t≤2147483647) :
  aU Φ 258 [.agg d.av] aa.empty (fun v _=>zo d.plain v):=by
 refine bb (fun o=>false) rfl L.f258 ?_
 repeat' first|apply ad|(apply gw;first|refine ai rx_ ?_|(apply gq2;first|refine aC rx_ ?_|refine ak rfl hg_ HU b_ pv_ ?_)|refine aL rfl nt_ ?_|(refine cd ?_;intro id hid;try simp only[aa.set_none]at hid)|(refine gJ (v:=AV.agg _) rfl rfl ?_;intro id hid;try simp only[aa.set_none]at hid))|(apply gx;first|apply af|refine ae rfl ?_)|apply ac
 rename_i ib hib
 obtain⟨i2,rfl⟩:∃ x,x=id:=⟨_,rfl⟩
 have hS0:=((Sep.old aa.empty).new (id:=ib) (o := .cells 0 d.av) hib).new (id:=i2) (o:=qz) (by rw[aa.get_set_ne _ _ hid.1];exact hid.2)
 have hb1:((aa.empty.set ib (.cells 0 d.av)).set i2 qz).get ib=some (.cells 0 d.av):=hS0.get (i:=1) rfl
 simp only[AV.cells]at *
 generalize (aa.empty.set ib (.cells 0 d.av)).set i2 qz=h1 at hS0 hb1 ⊢
 have h21:h1.get i2=some qz:=hS0.get (i:=2) rfl
 clear hib hid
 by_cases hok:¬ d.plain.Ok
 ·refine Ci L3 L1 S G J d hf ht hok ?_
  have h22:(h1.set ib (.cells 0 [.rd 0 [] true,.rd 0 [] true,.rd 0 [] true])).get i2=some qz:=(hS0.put 1 (.cells 0 [.rd 0 [] true,.rd 0 [] true,.rd 0 [] true]) rfl).get (i:=2) rfl
  repeat' first|apply ad|(apply gw;first|refine ai rx_ ?_|(apply gq3;first|refine az rx_ ?_|(refine eM rfl rfl rfl ?_ ?_<;>(intro hc;try omega)))|(apply iA;first|refine bg rx_ ?_|refine bf rx_ ?_|refine aY (v:=AV.agg _) rfl rfl hg_ rfl rfl b_ sv_ ?_)|refine dE rfl ?_|refine bY rfl rfl ?_)|(apply gx;first|apply af|refine ae rfl ?_|apply aM|refine al rfl ?_)|apply ac|apply cz
  refine aH (v := .tup [.agg [.rd 0 [] true,.rd 0 [] true],.int .u16 1]) ?_ ?_
  ·exact nh (t:=2) (t2:=3) rfl (aa.get_set_self _ _ _) rfl rfl rfl
  ·exact Or.inl ⟨hok,rfl⟩
 ·have hok:=Classical.not_not.1 hok
  refine yM L3 L1 S G J d hf ht hok ?_
  intro y hy
  have hyo:=hy.ok hok
  have hyw:=(hy.wide hok hf).fits
  have hcat:=hyw.cat
  have hyp:=hyw.parts
  have hyt:=hyw.tags
  have hyl:y.plain.n=y.tags.l.length:=by simp[Dfa.plain,PD.n]
  have hysum:(y.plain.parts.map List.length).sum=(dA y.parts.l).length:=by rw[l6,Er];rfl
  repeat' first|apply ad|(apply gw;first|refine ai rx_ ?_|(apply gq2;first|refine aC rx_ ?_|refine ak rfl hg_ HU b_ pv_ ?_)|(apply gq3;first|refine az rx_ ?_|(refine eM rfl rfl rfl ?_ ?_<;>(intro hc;try omega)))|(apply iA;first|refine bg rx_ ?_|refine bf rx_ ?_|refine aY (v:=AV.agg _) rfl rfl hg_ rfl rfl b_ sv_ ?_)|(apply gq6;first|refine bM rx_ ?_|refine aD rfl ?_)|(apply gq4;first|refine aG rx_ ?_|refine aq rfl (Nat.zero_add _) ?_)|refine bY rfl rfl ?_)|(apply gx;first|apply af|refine ae rfl ?_|apply ay|apply au|refine ah rfl ?_)|apply ac
  have hS1:=hS0.put 1 (.cells 0 y.av) rfl
  generalize h1.set ib (.cells 0 y.av)=h2 at hS1 ⊢
  clear hS0 hb1 h21
  refine cl y.parts.l.length (fun k env h'=>h'=h2∧env.has [(1,.ptr ib 0 0),(2,.ptr i2 0 0),(5,.int .i64 (dA (y.parts.l.take k)).length),(24,y.parts.mv Rw.sv),(25,.int .i64 y.parts.l.length),(26,.int .i64 k)]) ⟨rfl,hh_⟩ ?_
  rintro k env h' hk ⟨rfl,he⟩
  obtain⟨env,rfl⟩:=he.ex
  clear he
  have hb1:h'.get ib=some (.cells 0 y.av):=hS1.get (i:=1) rfl
  have h21:h'.get i2=some qz:=hS1.get (i:=2) rfl
  by_cases hk2:k<y.parts.l.length
  ·obtain⟨p,hp⟩:=aK hk2
   have hsn:(dA (y.parts.l.take (k+1))).length=(dA (y.parts.l.take k)).length+p.l.length:=by rw[iU hp,List.length_append]
   have hle:=Cv y.parts.l (k+1)
   repeat' first|apply ad|(apply gw;first|refine ai rx_ ?_|(apply gq2;first|refine aC rx_ ?_|refine aI rfl b_ pv_ ?_)|(apply gq3;first|refine az rx_ ?_|refine aN rx_ ?_|refine a8 rfl rfl rfl HT HT ?_|(refine aB rfl rfl rfl ?_ ?_<;>(intro hc;try omega)))|(apply gq5;first|refine aO rx_ ?_|refine aS rx_ ?_|refine ar rfl rfl hp HT rfl ?_)|(apply gq6;first|refine bM rx_ ?_|refine aD rfl ?_))|(apply gx;first|apply af|refine ae rfl ?_|apply ay|apply au|refine al rfl ?_)|apply ac|apply aJ
   refine aW hk2 ⟨rfl,?_⟩
   rw[hsn]
   exact hh_
  ·rw[List.take_of_length_le (l:=y.parts.l) (i:=k) HT]at *
   by_cases hbig:100<y.tags.l.length∨100<(dA y.parts.l).length
   ·have hfin:∀ v:AV,v = .tup [.agg [.rd 0 [] true,.rd 0 [] true],.int .u16 63]→zo d.plain v:=fun v e=>Or.inr ⟨hok,y.plain,hy,Or.inl ⟨by rw[hyl,hysum];exact hbig,e⟩⟩
    by_cases hb2:100<y.tags.l.length
    ·repeat' first|apply ad|(apply gw;first|refine ai rx_ ?_|(apply gq2;first|refine aC rx_ ?_|refine ak rfl hg_ HU b_ pv_ ?_)|(apply gq3;first|refine az rx_ ?_|refine aN rx_ ?_|((first|refine aB rfl rfl rfl ?_ ?_|refine dS rfl rfl rfl ?_ ?_)<;>(intro hc;try omega)))|(apply iA;first|refine bg rx_ ?_|refine bf rx_ ?_|refine aY (v:=AV.agg _) rfl rfl hg_ rfl rfl b_ sv_ ?_)|(apply gq6;first|refine bM rx_ ?_|refine aD rfl ?_)|(apply gq4;first|refine aG rx_ ?_|refine aq rfl (Nat.zero_add _) ?_)|refine cI rfl ?_|refine bU rfl rfl ?_|refine dE rfl ?_)|(apply gx;first|apply af|refine ae rfl ?_|apply aM|apply aP|refine al rfl ?_|refine ah rfl ?_)|apply ac|apply cz|apply aQ|apply aR|apply ba
     exact aH (v := .tup [.agg [.rd 0 [] true,.rd 0 [] true],.int .u16 63]) (nh (t:=2) (t2:=3) rfl (aa.get_set_self _ _ _) rfl rfl rfl) (hfin _ rfl)
    ·have hb3:100<(dA y.parts.l).length:=hbig.resolve_left hb2
     repeat' first|apply ad|(apply gw;first|refine ai rx_ ?_|(apply gq2;first|refine aC rx_ ?_|refine ak rfl hg_ HU b_ pv_ ?_)|(apply gq3;first|refine az rx_ ?_|refine aN rx_ ?_|((first|refine aB rfl rfl rfl ?_ ?_|refine dS rfl rfl rfl ?_ ?_)<;>(intro hc;try omega)))|(apply iA;first|refine bg rx_ ?_|refine bf rx_ ?_|refine aY (v:=AV.agg _) rfl rfl hg_ rfl rfl b_ sv_ ?_)|(apply gq6;first|refine bM rx_ ?_|refine aD rfl ?_)|(apply gq4;first|refine aG rx_ ?_|refine aq rfl (Nat.zero_add _) ?_)|refine cD rfl ?_|refine bh rfl rfl ?_|refine dE rfl ?_)|(apply gx;first|apply af|refine ae rfl ?_|apply aM|apply aP|refine al rfl ?_|refine ah rfl ?_)|apply ac|apply cz|apply aQ|apply aR|apply ba
     exact aH (v := .tup [.agg [.rd 0 [] true,.rd 0 [] true],.int .u16 63]) (nh (t:=2) (t2:=3) rfl (aa.get_set_self _ _ _) rfl rfl rfl) (hfin _ rfl)
   ·have hb2:y.tags.l.length≤100:=by omega
    have hb3:(dA y.parts.l).length≤100:=by omega
    have hn100:y.plain.n≤100:=by rw[hyl];exact hb2
    have hs100:(y.plain.parts.map List.length).sum≤100:=by rw[hysum];exact hb3
    repeat' first|apply ad|(apply gw;first|refine ai rx_ ?_|(apply gq2;first|refine aC rx_ ?_|refine ak rfl hg_ HU b_ pv_ ?_)|(apply gq3;first|refine az rx_ ?_|refine aN rx_ ?_|((first|refine aB rfl rfl rfl ?_ ?_|refine dS rfl rfl rfl ?_ ?_)<;>(intro hc;try omega)))|(apply gq6;first|refine bM rx_ ?_|refine aD rfl ?_)|(apply gq4;first|refine aG rx_ ?_|refine aq rfl (Nat.zero_add _) ?_)|refine cD rfl ?_|refine bh rfl rfl ?_|(refine gJ (v:=AV.agg _) rfl rfl ?_;intro id hid;try simp only[aa.set_none]at hid)|refine dE rfl ?_|(refine ki ?_;intro id hid;try simp only[aa.set_none]at hid))|(apply gx;first|apply af|refine ae rfl ?_|apply ay|apply au|apply aP|refine ah rfl ?_)|apply ac|apply aQ|apply aR|apply ba
    rename_i imN himN imO himO
    obtain⟨iM,rfl⟩:∃ x,x=id:=⟨_,rfl⟩
    have g2:(h'.set imN (.map none [])).get imO=none:=by rw[aa.get_set_ne _ _ himO.1];exact himO.2
    have g3:((h'.set imN (.map none [])).set imO (.map (some .i64) [])).get iM=none:=by rw[aa.get_set_ne _ _ hid.1,aa.get_set_ne _ _ hid.2.1];exact hid.2.2
    obtain⟨cc,hcc⟩:∃ cc,cc=Hu [jA aa.empty,ck ib (.cells 0 y.av),ck i2 qz]:=⟨_,rfl⟩
    have hA1:=((hS1.new (id:=imN) (o := .map none []) himN).new (id:=imO) (o := .map (some .i64) []) g2).new (id:=iM) (o := .cells 0 (mkM y (.rd 0 [] true) (.rd 0 [] true) (.rd 0 [] true) (.rd 0 [] true) imN imO)) g3
    have hB1:=(Sep.fold (cs:=[jA aa.empty,ck ib (.cells 0 y.av),ck i2 qz]) (ds:=[_,_,_]) hA1).perm (.cons _ (List.perm_append_comm (l₁:=[_,_]) (l₂:=[_])))
    rw[← hcc]at hB1
    have hC1:=(((hB1.nilF 1).nilF 1).nilF 1).addF (uu (.rd 0 [] true) [] [] []) (fY.nil _) (fun _ _=>rfl) (fun k hk=>by rcases hk with hk|⟨w,hw,_⟩;cases hk;cases hw)
    have hD1:Sep _ (chA cc iM imN imO y ((y.plain.parts.take 0).map cO) (.rd 0 [] true) (.rd 0 [] true) (.rd 0 [] true) (.rd 0 [] true) [] [] y.plain []):=hC1.perm (.cons _ ((List.perm_append_comm (l₁:=[_,_,_]) (l₂:=[_,_])).append_right [_,_]))
    clear hA1 hB1 hC1
    refine cl y.parts.l.length (fun k env h'=>∃ vR,Sep h' (chA cc iM imN imO y ((y.plain.parts.take k).map cO) vR (.rd 0 [] true) (.rd 0 [] true) (.rd 0 [] true) [] [] y.plain [])∧env.has [(2,.ptr i2 0 0),(8,.ptr iM 0 0),(50,y.parts.mv Rw.sv),(51,.int .i64 y.parts.l.length),(52,.int .i64 k)]) ⟨_,hD1,hh_⟩ ?_
    clear hD1 g2 g3 hid himN himO hS1 hb1 h21
    rintro k env h' hk ⟨vR,hS,he⟩
    obtain⟨env,rfl⟩:=he.ex
    clear he
    have hM:h'.get iM=some (.cells 0 (mkM y vR (.rd 0 [] true) (.rd 0 [] true) (.rd 0 [] true) imN imO)):=hS.get (i:=2) rfl
    have hvR:aA h' vR 1 ((y.plain.parts.take k).map cO).length _:=hS.get (i:=3) rfl
    have hnR:=hvR.notTup
    have hpl:y.plain.parts.length=y.parts.l.length:=by simp[Dfa.plain,dF]
    have hRl:((y.plain.parts.take k).map cO).length=k:=by rw[List.length_map,List.length_take];omega
    by_cases hk2:k<y.parts.l.length
    ·obtain⟨p,hp⟩:=aK hk2
     have hpp:y.plain.parts[k]?=some p.l:=by simp[Dfa.plain,dF,hp]
     have hp1:=nz hp
     have q1:=AC L L1 L3 S p.l HT (by rw[hyo.norm p.l (List.mem_of_getElem? hpp)];omega) p.fl
     repeat' first|apply ad|(apply gw;first|refine ai rx_ ?_|(apply gq2;first|refine aC rx_ ?_|refine aI rfl b_ pv_ ?_|refine ak rfl hg_ HU b_ pv_ ?_)|(apply gq3;first|refine az rx_ ?_|refine aN rx_ ?_|(refine aB rfl rfl rfl ?_ ?_<;>(intro hc;try omega)))|(apply gq5;first|refine aO rx_ ?_|refine aS rx_ ?_|refine ar rfl rfl hp HT rfl ?_)|(apply iA;first|refine bg rx_ ?_|refine bf rx_ ?_)|(apply lE;first|refine bX rx_ ?_|refine bW rx_ ?_|(refine br (m:=1) rx_ ir_ rfl rfl HT ?_;intro va hpa hra hka hria))|(apply gq4;first|refine aG rx_ ?_|refine aq rfl (Nat.zero_add _) ?_)|refine bi rfl ?_|refine aL rfl nt_ ?_|refine bF (cs:=[AV.rd _ _ _]) rfl rfl ?_)|(apply gx;first|apply af|refine ae rfl ?_|apply ay|apply au|refine al rfl ?_)|apply ac|refine bu (by assumption) fz_ fz_ ?_
     have hS1:=hS.upd 3 (cP va 1 (((y.plain.parts.take k).map cO).length+1) (((y.plain.parts.take k).map cO).map zx++[zx (cO p.l)])) rfl hra hka hria
     have hM1:hpa.get iM=some (.cells 0 (mkM y vR (.rd 0 [] true) (.rd 0 [] true) (.rd 0 [] true) imN imO)):=hS1.get (i:=2) rfl
     refine cr (v:=va) (cs':=mkM y va (.rd 0 [] true) (.rd 0 [] true) (.rd 0 [] true) imN imO) rfl rfl hra hM1 HU rfl ?_
     have hS2:=hS1.put 2 (.cells 0 (mkM y va (.rd 0 [] true) (.rd 0 [] true) (.rd 0 [] true) imN imO)) rfl
     generalize hpa.set iM _=h4 at hS2 ⊢
     repeat' first|apply ad|(apply gw;first|refine ai rx_ ?_|(apply gq3;first|refine az rx_ ?_|refine a8 rfl rfl rfl HT HT ?_))|refine ae rfl ?_|apply ac|apply aJ
     refine aW hk2 ⟨va,?_,hh_⟩
     rw[aX hpp,List.map_append,List.map_singleton]
     unfold chA chM
     rw[List.length_append,List.map_append]
     exact hS2
    ·rw[List.take_of_length_le (l:=y.plain.parts) (i:=k) HT]at *
     have hz:=vh hyo hs100 hyo.zero
     repeat' first|apply ad|(apply gw;first|refine ai rx_ ?_|(apply gq3;first|refine az rx_ ?_|refine aN rx_ ?_|(refine aB rfl rfl rfl ?_ ?_<;>(intro hc;try omega)))|refine aL rfl nt_ ?_)|(apply gx;first|apply af|refine ae rfl ?_|apply aP|refine ah rfl ?_)|apply ac|apply aQ|apply aR|apply ba
     refine bS (tI L hyo rfl hS (fun a ha=>by cases ha) rfl HU (fun w hw=>by cases hw) 0 hyo.zero hz) ?_
     rintro _ h3 ⟨rfl,vN,vT,vW,ws,hws,hS3⟩
     have hv0:cv ([]:List RSt) (some (0,[]))=[(0,[])]:=nW HU
     rw[hv0]at hS3 ⊢
     have hS4:Sep h3 (chA cc iM imN imO y (y.plain.parts.map cO) vR vN vT vW ws (qk y.plain [(0,[])] 0) y.plain [(0,[])]):=hS3
     clear hS3 hS hM hvR hnR
     repeat' first|apply ad|refine ai rx_ ?_|(apply gx;first|apply af|refine ae rfl ?_|apply au)|apply ac
     refine cl 340100 (fun s env h'=>∃ (vN vT vW:AV) (ws:List AV) (A:List RSt),A=cK y.plain s∧s≤A.length∧(∀ w∈ws,qg w)∧Sep h' (chA cc iM imN imO y (y.plain.parts.map cO) vR vN vT vW ws (qk y.plain A s) y.plain A)∧env.has [(2,.ptr i2 0 0),(8,.ptr iM 0 0),(11,.int .i64 s)]) ⟨vN,vT,vW,ws,[(0,[])],rfl,by simp,hws,hS4,hh_⟩ ?_
     clear hS4 hws
     rintro s env h' hs ⟨vN,vT,vW,ws,A,hA,hsA,hws,hS,he⟩
     obtain⟨env,rfl⟩:=he.ex
     clear he
     have hM:h'.get iM=some (.cells 0 (mkM y vR vN vT vW imN imO)):=hS.get (i:=2) rfl
     have hvW:aA h' vW 1 (A.map (eK y.plain)).length _:=hS.get (i:=5) rfl
     have hWl:(A.map (eK y.plain)).length=A.length:=List.length_map _
     have hnW:=hvW.notTup
     have hAm:A.length≤340100:=by rw[hA];exact rI hyo hn100 hs100 s
     by_cases hs2:s<A.length
     ·obtain⟨a,ha⟩:=aK hs2
      have ham:a∈cK y.plain s:=by rw[← hA];exact List.mem_of_getElem? ha
      have hn1:cK y.plain (s+1)=cB A (dg y.plain a):=by
       rw[hA]at ha ⊢
       exact CC ha
      have hfr:∀ x∈A.take s,∀ b,some b∈dg y.plain x→b∈A:=by rw[hA];exact zm
      have hoka:=vj hyo hs100 s a ham
      repeat' first|apply ad|(apply gw;first|refine ai rx_ ?_|(apply gq2;first|refine aC rx_ ?_|refine ak rfl hg_ HU b_ pv_ ?_)|(apply gq3;first|refine az rx_ ?_|refine aN rx_ ?_|(refine aB rfl rfl rfl ?_ ?_<;>(intro hc;try omega)))|(apply gq6;first|refine bM rx_ ?_|refine eP rx_ (by assumption) ?_)|(apply gq4;first|refine aG rx_ ?_|refine aq rfl (Nat.zero_add _) ?_)|refine bi rfl ?_)|(apply gx;first|apply af|refine ae rfl ?_|apply ay|apply au|refine al rfl ?_)|apply ac
      refine cl 256 (fun c env h'=>∃ (vN vT vW:AV) (ws:List AV) (B:List RSt),B=cB A ((dg y.plain a).take c)∧(∀ w∈ws,qg w)∧Sep h' (chA cc iM imN imO y (y.plain.parts.map cO) vR vN vT vW ws (oc y.plain B a s c) y.plain B)∧env.has [(2,.ptr i2 0 0),(8,.ptr iM 0 0),(11,.int .i64 s),(79,.int .i64 c)]) ⟨vN,vT,vW,ws,A,rfl,hws,by rw[← yF a hs2];exact hS,hh_⟩ ?_
      clear hS hM hvW hnW hws
      rintro c env h' hc ⟨vN,vT,vW,ws,B,hB,hws,hS,he⟩
      obtain⟨env,rfl⟩:=he.ex
      clear he
      have hAB:A <+: B:=by rw[hB];exact kP _ _
      have hBl:B.length≤340100:=by
       have h1:=(oC A (dg y.plain a) c).length_le
       rw[← hB,← hn1]at h1
       exact Nat.le_trans h1 (rI hyo hn100 hs100 _)
      have hsB:s<B.length:=by have:=hAB.length_le;omega
      have hBs:B[s]?=some a:=by
       obtain⟨t,e⟩:=hAB
       rw[← e,List.getElem?_append_left hs2];exact ha
      have hBk:B.take s=A.take s:=by
       obtain⟨t,e⟩:=hAB
       rw[← e,List.take_append_of_le_length HT]
      by_cases hc2:c<256
      ·obtain⟨r1,r2⟩:=yY (d:=y.plain) (a:=a) (A0:=A) hsB hc2 hB (fun x hx b hb=>hAB.subset (hfr x (by rw[← hBk];exact hx) b hb))
       have hmg:=DE (d:=y.plain) (B:=B) (a:=a) (s:=s) (c:=c) (m:=(cv B (cW y.plain a c)).length) hsB
       have hbo:∀ b∈B,OkR y.plain b:=by rw[hB,hA];exact Dw hyo hs100 ham c
       have hrs:=Dm (d:=y.plain) (a:=a) hc2 hB
       have hml:=DD (d:=y.plain) (a:=a) (c:=c) hsB
       repeat' first|apply ad|(apply gw;first|refine ai rx_ ?_|(apply gq3;first|refine az rx_ ?_|(refine aB rfl rfl rfl ?_ ?_<;>(intro hc;try omega)))|refine aL rfl nt_ ?_|refine jJ rfl HT ?_)|(apply gx;first|apply af|refine ae rfl ?_|apply ay|apply au|refine al rfl ?_)|apply ac
       rw[show((c:Int)%256)=(c:Int) by omega]
       refine bS (CX L L3 hyo rfl hS hbo hml HT hws hBs hc2 (fun b hb=>rU hyo hs100 hoka hb)) ?_
       rintro _ h3 ⟨rfl,vN2,vT2,vW2,ws2,hws2,hS3⟩
       have hB2l:(cv B (cW y.plain a c)).length≤340100:=by
        have h1:=(oC A (dg y.plain a) (c+1)).length_le
        rw[r1,← hn1]at h1
        exact Nat.le_trans h1 (rI hyo hn100 hs100 _)
       have hmr:=B8 (oc y.plain B a s c) B.length (cv B (cW y.plain a c)).length
       rw[hml]at hmr
       generalize cv B (cW y.plain a c)=B2 at r1 r2 hmg hrs hS3 hB2l hmr ⊢
       have hN3:fY h3 vN2 [] ws2 _:=hS3.get (i:=0) rfl
       have hM3:h3.get iM=some (.cells 0 (mkM y vR vN2 vT2 vW2 imN imO)):=hS3.get (i:=2) rfl
       have hvN3:=hN3.out
       simp only[List.length_nil,Nat.zero_add,List.nil_append]at hvN3
       have hnN:=hvN3.notTup
       have hwl:s<ws2.length:=by
        rw[hN3.fam.len,List.length_map]
        exact lt_of_getElem? hmg
       have hwm:ws2.length≤1000000:=by
        rw[hN3.fam.len,List.length_map,hmr]
        omega
       obtain⟨w,hw⟩:=aK hwl
       obtain⟨iw,gz,rfl⟩:=hws2 w (List.mem_of_getElem? hw)
       obtain⟨⟨hgw,hgw1⟩,hS4⟩:=hS3.nset 0 rfl hw (FC hmg (oO HT)) (rs':=(sV y.plain B2 a (c+1)).map (.int .i64)) (by rw[List.length_map,oO HT])
       repeat' first|apply ad|(apply gw;first|refine ai rx_ ?_|(apply gq2;first|refine aC rx_ ?_|refine iP (g:=_) rfl hg_ hw eq_ HU ?_|refine ak rfl hg_ HU b_ pv_ ?_)|(apply gq5;first|refine aO rx_ ?_|refine aS rx_ ?_|refine bk rfl rfl HT HT ?_|(refine cM rx_ (by assumption) rfl HT HT ?_;intro ir gr hvr hgr hgp;have hner:=aa.ne_of hgr;have hner2:=aa.ne_of2 hgr))|(apply iA;first|refine bg rx_ ?_|refine bf rx_ ?_)|(apply gq4;first|refine aG rx_ ?_|refine aq rfl (Nat.zero_add _) ?_|refine aq rfl rfl ?_)|refine bi rfl ?_)|refine ae rfl ?_|apply ac
       refine uK (v:=AV.int .i64 (fS B2 (cW y.plain a c))) (cs':=(sV y.plain B2 a (c+1)).map (.int .i64)) rfl rfl rfl rfl hgw (by rw[List.length_map,oO HT];omega) (by rw[Nat.zero_add];exact hrs) ?_
       repeat' first|apply ad|(apply gw;first|refine ai rx_ ?_|(apply gq3;first|refine az rx_ ?_|refine a8 rfl rfl rfl HT HT ?_))|refine ae rfl ?_|apply ac|apply aJ
       refine aW hc2 ⟨vN2,vT2,vW2,ws2,B2,r1.symm,hws2,?_,hh_⟩
       rw[FB (oO HT),r2]at hS4
       exact hS4
      ·obtain rfl:c=256:=by omega
       repeat' first|apply ad|(apply gw;first|refine ai rx_ ?_|(apply gq3;first|refine az rx_ ?_|refine a8 rfl rfl rfl HT HT ?_|(refine aB rfl rfl rfl ?_ ?_<;>(intro hc;try omega))))|(apply gx;first|apply af|refine ae rfl ?_|apply aP|refine ah rfl ?_)|apply ac|apply aQ|apply aJ|apply aR|apply ba
       refine aW HT ⟨vN,vT,vW,ws,B,?_,by omega,hws,?_,hh_⟩
       ·rw[hn1,hB,List.take_of_length_le (by rw[oL];exact Nat.le_refl _)]
       ·rw[← DF hBs];exact hS
     ·have hse:s=A.length:=by omega
      have hle:(cK y.plain s).length≤s:=by rw[← hA];omega
      rw[Cp hse]at hS
      have hN:fY h' vN [] ws (dsM (ja (dg y.plain) A)):=hS.get (i:=0) rfl
      have hT:aA h' vT 1 (A.map (oE y.plain)).length _:=hS.get (i:=4) rfl
      have hnN:=hN.out.notTup
      have hnT:=hT.notTup
      have f1:=hN.fz (S:=fun k=>jS vN ws k∨vT.rowId=some k) (fun k hk => .inl hk)
      have f2:=hT.fz (fun k=>jS vN ws k∨vT.rowId=some k) (fun k hk => .inr hk) (FzL.same _)
      have hti:∀ t∈y.plain.tags,I32 t:=fun t h=>ht t (hy.tagsIn hok t h)
      have hrl:(wN y.plain s).tags.l.length≤268435456:=by
       show((cK y.plain s).map _).length≤_
       rw[List.length_map,← hA];omega
      have hrd:=wL L L3 (wN y.plain s) (Fc hyo hle) hrl (BK hti s)
      have hcS:cc.holds h':=hS.get (i:=1) rfl
      have h2d:(h'.drop fun k=>jS vN ws k∨vT.rowId=some k).get i2=some qz:=by
       have hcS':=hcS
       rw[hcc]at hcS'
       have hS':Sep h' [jA aa.empty,ck ib (.cells 0 y.av),ck i2 qz]:=hcS'
       have hg:h'.get i2=some qz:=hS'.get (i:=2) rfl
       have hfo:cc.foot i2:=by rw[hcc];exact⟨ck i2 qz,by simp,rfl⟩
       have hno:¬ (jS vN ws i2∨vT.rowId=some i2):=by
        rintro(e|e)
        ·exact hS.disj (i:=0) (j:=1) rfl rfl (by decide) i2 e hfo
        ·exact hS.disj (i:=4) (j:=1) rfl rfl (by decide) i2 e hfo
       simp only[aa.drop,hno,if_false]
       exact hg
      repeat' first|apply ad|(apply gw;first|refine ai rx_ ?_|(apply gq2;first|refine aC rx_ ?_|refine ak rfl hg_ HU b_ pv_ ?_)|(apply gq3;first|refine az rx_ ?_|refine aN rx_ ?_|(refine aB rfl rfl rfl ?_ ?_<;>(intro hc;try omega)))|(apply gq6;first|refine bM rx_ ?_|refine eP rx_ (by assumption) ?_)|(apply gq4;first|refine aG rx_ ?_|refine aq rfl (Nat.zero_add _) ?_)|refine bi rfl ?_|refine aL rfl nt_ ?_)|(apply gx;first|apply af|refine ae rfl ?_|apply aP|refine ah rfl ?_)|apply ac|apply aQ|apply aR|apply ba
      refine Eu (fun k=>jS vN ws k∨vT.rowId=some k) rfl hrd (.cons (.agg (.cons ?_ (.cons ?_ .nil))) .nil) (by simp[AV.frozenL,AV.frozen]) (fun v hv=>by obtain⟨κ,x,rfl,_⟩:=hv;simp[AV.frozen]) ?_
      ·rw[hA,BL]at f1
       exact f1
      ·rw[hA]at f2
       exact f2
      rintro _ ⟨κ,x,rfl,hK,hx⟩
      generalize h'.drop _=h9 at h2d ⊢
      repeat' first|apply ad|(apply gw;first|refine ai rx_ ?_|(apply iA;first|refine bg rx_ ?_|refine bf rx_ ?_|refine aY (v:=AV.agg _) rfl rfl hg_ rfl rfl b_ sv_ ?_))|apply aM|apply ac
      refine aH (v := .tup [.agg x.av,.int .u16 0]) (nh (t:=2) (t2:=3) rfl (aa.get_set_self _ _ _) rfl rfl rfl) ?_
      rw[rJ]at hK hx
      have e1:(wN y.plain s).tags.l.length=(cK y.plain s).length:=List.length_map _
      rw[e1]at hK hx
      exact Or.inr ⟨hok,y.plain,hy,Or.inr ⟨hn100,hs100,x,rfl,s,κ,hle,hK,hx⟩⟩
end
end Go.Proofs.YtlnobeojgifojaaGreatDoor
