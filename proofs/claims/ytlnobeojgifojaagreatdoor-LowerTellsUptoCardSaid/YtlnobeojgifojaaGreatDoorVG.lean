/- lower.Of. -/
import Derived.Test.YtlnobeojgifojaaGreatDoorVF
set_option linter.unusedVariables false
set_option linter.unusedSimpArgs false
namespace Go.Proofs.YtlnobeojgifojaaGreatDoor
section
open Go
set_option maxHeartbeats 4000000
attribute [local irreducible] az bf bm de bz cw dH bJ wop cz bc
@[reducible] def rL:iQ := .cells 0 [.rd 0 [] true,.rd 0 [] true]
@[simp] theorem KR (l:List jx):AV.frozenL (l.map mK)=true:=eI (fun r=>by simp[AV.frozen]) l
def B7 (d:PD)(v:AV):Prop:=(¬ d.Ok∧v = .tup [.agg [.rd 0 [] true,.rd 0 [] true],.int .u16 1])∨(d.Ok∧∃ y:PD,eF d y∧(((100<y.n∨100<(y.parts.map List.length).sum)∧v = .tup [.agg [.rd 0 [] true,.rd 0 [] true],.int .u16 63])∨(y.n≤100∧(y.parts.map List.length).sum≤100∧∃ b:Bm,v = .tup [.agg b.av,.int .u16 0]∧jE y b.plain)))
set_option maxRecDepth 100000 in
theorem Bl {Φ:Lib}(L:fh Φ)(L3:cJ Φ)(L1:il Φ)(S:fv Φ)(G:fV Φ)(J:jD Φ)(d:Dfa)(hf:d.Fits)(ht:∀ t∈d.tags.l,-2147483648≤t∧t≤2147483647) :
  bc Φ 258 [.agg d.av] ad.empty (fun v _=>B7 d.plain v):=by
 refine ba (fun o=>false) rfl L.f258 ?_
 repeat' first|apply ac|(apply gw;first|refine au rx_ ?_|(apply gq2;first|refine aF rx_ ?_|refine am rfl hg_ Lm b_ pv_ ?_)|refine aH rfl nt_ ?_|(refine bV ?_;intro id hid;try simp only[ad.set_none]at hid)|(refine gQ (v:=AV.agg _) rfl rfl ?_;intro id hid;try simp only[ad.set_none]at hid))|(apply gx;first|apply af|refine ae rfl ?_)|apply aa
 rename_i ib hib
 obtain⟨i2,rfl⟩:∃ x,x=id:=⟨_,rfl⟩
 have hS0:=((Sep.old ad.empty).new (id:=ib) (o := .cells 0 d.av) hib).new (id:=i2) (o:=rL) (by rw[ad.get_set_ne _ _ hid.1];exact hid.2)
 have hb1:((ad.empty.set ib (.cells 0 d.av)).set i2 rL).get ib=some (.cells 0 d.av):=hS0.get (i:=1) rfl
 simp only[AV.cells]at *
 generalize (ad.empty.set ib (.cells 0 d.av)).set i2 rL=h1 at hS0 hb1 ⊢
 have h21:h1.get i2=some rL:=hS0.get (i:=2) rfl
 clear hib hid
 by_cases hok:¬ d.plain.Ok
 ·refine Fk L3 L1 S G J d hf ht hok ?_
  have h22:(h1.set ib (.cells 0 [.rd 0 [] true,.rd 0 [] true,.rd 0 [] true])).get i2=some rL:=(hS0.put 1 (.cells 0 [.rd 0 [] true,.rd 0 [] true,.rd 0 [] true]) rfl).get (i:=2) rfl
  repeat' first|apply ac|(apply gw;first|refine au rx_ ?_|(apply gq3;first|refine aC rx_ ?_|(refine eK rfl rfl rfl ?_ ?_<;>(intro hc;try omega)))|(apply jI;first|refine bq rx_ ?_|refine bp rx_ ?_|refine bh (v:=AV.agg _) rfl rfl hg_ rfl rfl b_ sv_ ?_)|refine cO rfl ?_|refine ce rfl rfl ?_)|(apply gx;first|apply af|refine ae rfl ?_|apply aM|refine ak rfl ?_)|apply aa|apply cp
  refine aJ (v := .tup [.agg [.rd 0 [] true,.rd 0 [] true],.int .u16 1]) ?_ ?_
  ·exact o4 (t:=2) (t2:=3) rfl (ad.get_set_self _ _ _) rfl rfl rfl
  ·exact Or.inl ⟨hok,rfl⟩
 ·have hok:=Classical.not_not.1 hok
  refine Bs L3 L1 S G J d hf ht hok ?_
  intro y hy
  have hyo:=hy.ok hok
  have hyw:=(hy.wide hok hf).fits
  have hcat:=hyw.cat
  have hyp:=hyw.parts
  have hyt:=hyw.tags
  have hyl:y.plain.n=y.tags.l.length:=by simp[Dfa.plain,PD.n]
  have hysum:(y.plain.parts.map List.length).sum=(cV y.parts.l).length:=by rw[mc,HI];rfl
  repeat' first|apply ac|(apply gw;first|refine au rx_ ?_|(apply gq2;first|refine aF rx_ ?_|refine am rfl hg_ Lm b_ pv_ ?_)|(apply gq3;first|refine aC rx_ ?_|(refine eK rfl rfl rfl ?_ ?_<;>(intro hc;try omega)))|(apply jI;first|refine bq rx_ ?_|refine bp rx_ ?_|refine bh (v:=AV.agg _) rfl rfl hg_ rfl rfl b_ sv_ ?_)|(apply gq6;first|refine bk rx_ ?_|refine aw rfl ?_)|(apply gq4;first|refine aL rx_ ?_|refine ar rfl (Nat.zero_add _) ?_)|refine ce rfl rfl ?_)|(apply gx;first|apply af|refine ae rfl ?_|apply ay|apply al|refine ai rfl ?_)|apply aa
  have hS1:=hS0.put 1 (.cells 0 y.av) rfl
  generalize h1.set ib (.cells 0 y.av)=h2 at hS1 ⊢
  clear hS0 hb1 h21
  refine bD y.parts.l.length (fun k env h'=>h'=h2∧env.has [(1,.ptr ib 0 0),(2,.ptr i2 0 0),(5,.int .i64 (cV (y.parts.l.take k)).length),(24,y.parts.mv Rw.sv),(25,.int .i64 y.parts.l.length),(26,.int .i64 k)]) ⟨rfl,hh_⟩ ?_
  rintro k env h' hk ⟨rfl,he⟩
  obtain⟨env,rfl⟩:=he.ex
  clear he
  have hb1:h'.get ib=some (.cells 0 y.av):=hS1.get (i:=1) rfl
  have h21:h'.get i2=some rL:=hS1.get (i:=2) rfl
  by_cases hk2:k<y.parts.l.length
  ·obtain⟨p,hp⟩:=aK hk2
   have hsn:(cV (y.parts.l.take (k+1))).length=(cV (y.parts.l.take k)).length+p.l.length:=by rw[j0 hp,List.length_append]
   have hle:=r5 y.parts.l (k+1)
   repeat' first|apply ac|(apply gw;first|refine au rx_ ?_|(apply gq2;first|refine aF rx_ ?_|refine aB rfl b_ pv_ ?_)|(apply gq3;first|refine aC rx_ ?_|refine aQ rx_ ?_|refine aT rfl rfl rfl Ll Ll ?_|(refine aA rfl rfl rfl ?_ ?_<;>(intro hc;try omega)))|(apply gq5;first|refine aS rx_ ?_|refine aU rx_ ?_|refine ah rfl rfl hp Ll rfl ?_)|(apply gq6;first|refine bk rx_ ?_|refine aw rfl ?_))|(apply gx;first|apply af|refine ae rfl ?_|apply ay|apply al|refine ak rfl ?_)|apply aa|apply aI
   refine aR hk2 ⟨rfl,?_⟩
   rw[hsn]
   exact hh_
  ·rw[List.take_of_length_le (l:=y.parts.l) (i:=k) Ll]at *
   by_cases hbig:100<y.tags.l.length∨100<(cV y.parts.l).length
   ·have hfin:∀ v:AV,v = .tup [.agg [.rd 0 [] true,.rd 0 [] true],.int .u16 63]→B7 d.plain v:=fun v e=>Or.inr ⟨hok,y.plain,hy,Or.inl ⟨by rw[hyl,hysum];exact hbig,e⟩⟩
    by_cases hb2:100<y.tags.l.length
    ·repeat' first|apply ac|(apply gw;first|refine au rx_ ?_|(apply gq2;first|refine aF rx_ ?_|refine am rfl hg_ Lm b_ pv_ ?_)|(apply gq3;first|refine aC rx_ ?_|refine aQ rx_ ?_|((first|refine aA rfl rfl rfl ?_ ?_|refine cN rfl rfl rfl ?_ ?_)<;>(intro hc;try omega)))|(apply jI;first|refine bq rx_ ?_|refine bp rx_ ?_|refine bh (v:=AV.agg _) rfl rfl hg_ rfl rfl b_ sv_ ?_)|(apply gq6;first|refine bk rx_ ?_|refine aw rfl ?_)|(apply gq4;first|refine aL rx_ ?_|refine ar rfl (Nat.zero_add _) ?_)|refine cf rfl ?_|refine bi rfl rfl ?_|refine cO rfl ?_)|(apply gx;first|apply af|refine ae rfl ?_|apply aM|apply aN|refine ak rfl ?_|refine ai rfl ?_)|apply aa|apply cp|apply aO|apply aP|apply aX
     exact aJ (v := .tup [.agg [.rd 0 [] true,.rd 0 [] true],.int .u16 63]) (o4 (t:=2) (t2:=3) rfl (ad.get_set_self _ _ _) rfl rfl rfl) (hfin _ rfl)
    ·have hb3:100<(cV y.parts.l).length:=hbig.resolve_left hb2
     repeat' first|apply ac|(apply gw;first|refine au rx_ ?_|(apply gq2;first|refine aF rx_ ?_|refine am rfl hg_ Lm b_ pv_ ?_)|(apply gq3;first|refine aC rx_ ?_|refine aQ rx_ ?_|((first|refine aA rfl rfl rfl ?_ ?_|refine cN rfl rfl rfl ?_ ?_)<;>(intro hc;try omega)))|(apply jI;first|refine bq rx_ ?_|refine bp rx_ ?_|refine bh (v:=AV.agg _) rfl rfl hg_ rfl rfl b_ sv_ ?_)|(apply gq6;first|refine bk rx_ ?_|refine aw rfl ?_)|(apply gq4;first|refine aL rx_ ?_|refine ar rfl (Nat.zero_add _) ?_)|refine cj rfl ?_|refine bb rfl rfl ?_|refine cO rfl ?_)|(apply gx;first|apply af|refine ae rfl ?_|apply aM|apply aN|refine ak rfl ?_|refine ai rfl ?_)|apply aa|apply cp|apply aO|apply aP|apply aX
     exact aJ (v := .tup [.agg [.rd 0 [] true,.rd 0 [] true],.int .u16 63]) (o4 (t:=2) (t2:=3) rfl (ad.get_set_self _ _ _) rfl rfl rfl) (hfin _ rfl)
   ·have hb2:y.tags.l.length≤100:=by omega
    have hb3:(cV y.parts.l).length≤100:=by omega
    have hn100:y.plain.n≤100:=by rw[hyl];exact hb2
    have hs100:(y.plain.parts.map List.length).sum≤100:=by rw[hysum];exact hb3
    repeat' first|apply ac|(apply gw;first|refine au rx_ ?_|(apply gq2;first|refine aF rx_ ?_|refine am rfl hg_ Lm b_ pv_ ?_)|(apply gq3;first|refine aC rx_ ?_|refine aQ rx_ ?_|((first|refine aA rfl rfl rfl ?_ ?_|refine cN rfl rfl rfl ?_ ?_)<;>(intro hc;try omega)))|(apply gq6;first|refine bk rx_ ?_|refine aw rfl ?_)|(apply gq4;first|refine aL rx_ ?_|refine ar rfl (Nat.zero_add _) ?_)|refine cj rfl ?_|refine bb rfl rfl ?_|(refine gQ (v:=AV.agg _) rfl rfl ?_;intro id hid;try simp only[ad.set_none]at hid)|refine cO rfl ?_|(refine lQ ?_;intro id hid;try simp only[ad.set_none]at hid))|(apply gx;first|apply af|refine ae rfl ?_|apply ay|apply al|apply aN|refine ai rfl ?_)|apply aa|apply aO|apply aP|apply aX
    rename_i imN himN imO himO
    obtain⟨iM,rfl⟩:∃ x,x=id:=⟨_,rfl⟩
    have g2:(h'.set imN (.map none [])).get imO=none:=by rw[ad.get_set_ne _ _ himO.1];exact himO.2
    have g3:((h'.set imN (.map none [])).set imO (.map (some .i64) [])).get iM=none:=by rw[ad.get_set_ne _ _ hid.1,ad.get_set_ne _ _ hid.2.1];exact hid.2.2
    obtain⟨cc,hcc⟩:∃ cc,cc=KU [j4 ad.empty,bU ib (.cells 0 y.av),bU i2 rL]:=⟨_,rfl⟩
    have hA1:=((hS1.new (id:=imN) (o := .map none []) himN).new (id:=imO) (o := .map (some .i64) []) g2).new (id:=iM) (o := .cells 0 (mkM y (.rd 0 [] true) (.rd 0 [] true) (.rd 0 [] true) (.rd 0 [] true) imN imO)) g3
    have hB1:=(Sep.fold (cs:=[j4 ad.empty,bU ib (.cells 0 y.av),bU i2 rL]) (ds:=[_,_,_]) hA1).perm (.cons _ (List.perm_append_comm (l₁:=[_,_]) (l₂:=[_])))
    rw[← hcc]at hB1
    have hC1:=(((hB1.nilF 1).nilF 1).nilF 1).addF (xc (.rd 0 [] true) [] [] []) (hY.nil _) (fun _ _=>rfl) (fun k hk=>by rcases hk with hk|⟨w,hw,_⟩;cases hk;cases hw)
    have hD1:Sep _ (chA cc iM imN imO y ((y.plain.parts.take 0).map dp) (.rd 0 [] true) (.rd 0 [] true) (.rd 0 [] true) (.rd 0 [] true) [] [] y.plain []):=hC1.perm (.cons _ ((List.perm_append_comm (l₁:=[_,_,_]) (l₂:=[_,_])).append_right [_,_]))
    clear hA1 hB1 hC1
    refine bD y.parts.l.length (fun k env h'=>∃ vR,Sep h' (chA cc iM imN imO y ((y.plain.parts.take k).map dp) vR (.rd 0 [] true) (.rd 0 [] true) (.rd 0 [] true) [] [] y.plain [])∧env.has [(2,.ptr i2 0 0),(8,.ptr iM 0 0),(50,y.parts.mv Rw.sv),(51,.int .i64 y.parts.l.length),(52,.int .i64 k)]) ⟨_,hD1,hh_⟩ ?_
    clear hD1 g2 g3 hid himN himO hS1 hb1 h21
    rintro k env h' hk ⟨vR,hS,he⟩
    obtain⟨env,rfl⟩:=he.ex
    clear he
    have hM:h'.get iM=some (.cells 0 (mkM y vR (.rd 0 [] true) (.rd 0 [] true) (.rd 0 [] true) imN imO)):=hS.get (i:=2) rfl
    have hvR:aD h' vR 1 ((y.plain.parts.take k).map dp).length _:=hS.get (i:=3) rfl
    have hnR:=hvR.notTup
    have hpl:y.plain.parts.length=y.parts.l.length:=by simp[Dfa.plain,cu]
    have hRl:((y.plain.parts.take k).map dp).length=k:=by rw[List.length_map,List.length_take];omega
    by_cases hk2:k<y.parts.l.length
    ·obtain⟨p,hp⟩:=aK hk2
     have hpp:y.plain.parts[k]?=some p.l:=by simp[Dfa.plain,cu,hp]
     have hp1:=pq hp
     have q1:=Du L L1 L3 S p.l Ll (by rw[hyo.norm p.l (List.mem_of_getElem? hpp)];omega) p.fl
     repeat' first|apply ac|(apply gw;first|refine au rx_ ?_|(apply gq2;first|refine aF rx_ ?_|refine aB rfl b_ pv_ ?_|refine am rfl hg_ Lm b_ pv_ ?_)|(apply gq3;first|refine aC rx_ ?_|refine aQ rx_ ?_|(refine aA rfl rfl rfl ?_ ?_<;>(intro hc;try omega)))|(apply gq5;first|refine aS rx_ ?_|refine aU rx_ ?_|refine ah rfl rfl hp Ll rfl ?_)|(apply jI;first|refine bq rx_ ?_|refine bp rx_ ?_)|(apply lp;first|refine cn rx_ ?_|refine cm rx_ ?_|(refine aY (m:=1) rx_ ir_ rfl rfl Ll ?_;intro va hpa hra hka hria))|(apply gq4;first|refine aL rx_ ?_|refine ar rfl (Nat.zero_add _) ?_)|refine br rfl ?_|refine aH rfl nt_ ?_|refine bj (cs:=[AV.rd _ _ _]) rfl rfl ?_)|(apply gx;first|apply af|refine ae rfl ?_|apply ay|apply al|refine ak rfl ?_)|apply aa|refine aW (by assumption) fz_ fz_ ?_
     have hS1:=hS.upd 3 (cA va 1 (((y.plain.parts.take k).map dp).length+1) (((y.plain.parts.take k).map dp).map Ck++[Ck (dp p.l)])) rfl hra hka hria
     have hM1:hpa.get iM=some (.cells 0 (mkM y vR (.rd 0 [] true) (.rd 0 [] true) (.rd 0 [] true) imN imO)):=hS1.get (i:=2) rfl
     refine ck (v:=va) (cs':=mkM y va (.rd 0 [] true) (.rd 0 [] true) (.rd 0 [] true) imN imO) rfl rfl hra hM1 Lm rfl ?_
     have hS2:=hS1.put 2 (.cells 0 (mkM y va (.rd 0 [] true) (.rd 0 [] true) (.rd 0 [] true) imN imO)) rfl
     generalize hpa.set iM _=h4 at hS2 ⊢
     repeat' first|apply ac|(apply gw;first|refine au rx_ ?_|(apply gq3;first|refine aC rx_ ?_|refine aT rfl rfl rfl Ll Ll ?_))|refine ae rfl ?_|apply aa|apply aI
     refine aR hk2 ⟨va,?_,hh_⟩
     rw[aV hpp,List.map_append,List.map_singleton]
     unfold chA chM
     rw[List.length_append,List.map_append]
     exact hS2
    ·rw[List.take_of_length_le (l:=y.plain.parts) (i:=k) Ll]at *
     have hz:=xW hyo hs100 hyo.zero
     repeat' first|apply ac|(apply gw;first|refine au rx_ ?_|(apply gq3;first|refine aC rx_ ?_|refine aQ rx_ ?_|(refine aA rfl rfl rfl ?_ ?_<;>(intro hc;try omega)))|refine aH rfl nt_ ?_)|(apply gx;first|apply af|refine ae rfl ?_|apply aN|refine ai rfl ?_)|apply aa|apply aO|apply aP|apply aX
     refine ci (wl L hyo rfl hS (fun a ha=>by cases ha) rfl Lm (fun w hw=>by cases hw) 0 hyo.zero hz) ?_
     rintro _ h3 ⟨rfl,vN,vT,vW,ws,hws,hS3⟩
     have hv0:cE ([]:List RSt) (some (0,[]))=[(0,[])]:=pS Lm
     rw[hv0]at hS3 ⊢
     have hS4:Sep h3 (chA cc iM imN imO y (y.plain.parts.map dp) vR vN vT vW ws (sy y.plain [(0,[])] 0) y.plain [(0,[])]):=hS3
     clear hS3 hS hM hvR hnR
     repeat' first|apply ac|refine au rx_ ?_|(apply gx;first|apply af|refine ae rfl ?_|apply al)|apply aa
     refine bD 340100 (fun s env h'=>∃ (vN vT vW:AV) (ws:List AV) (A:List RSt),A=cH y.plain s∧s≤A.length∧(∀ w∈ws,ss w)∧Sep h' (chA cc iM imN imO y (y.plain.parts.map dp) vR vN vT vW ws (sy y.plain A s) y.plain A)∧env.has [(2,.ptr i2 0 0),(8,.ptr iM 0 0),(11,.int .i64 s)]) ⟨vN,vT,vW,ws,[(0,[])],rfl,by simp,hws,hS4,hh_⟩ ?_
     clear hS4 hws
     rintro s env h' hs ⟨vN,vT,vW,ws,A,hA,hsA,hws,hS,he⟩
     obtain⟨env,rfl⟩:=he.ex
     clear he
     have hM:h'.get iM=some (.cells 0 (mkM y vR vN vT vW imN imO)):=hS.get (i:=2) rfl
     have hvW:aD h' vW 1 (A.map (eu y.plain)).length _:=hS.get (i:=5) rfl
     have hWl:(A.map (eu y.plain)).length=A.length:=List.length_map _
     have hnW:=hvW.notTup
     have hAm:A.length≤340100:=by rw[hA];exact t7 hyo hn100 hs100 s
     by_cases hs2:s<A.length
     ·obtain⟨a,ha⟩:=aK hs2
      have ham:a∈cH y.plain s:=by rw[← hA];exact List.mem_of_getElem? ha
      have hn1:cH y.plain (s+1)=cR A (dO y.plain a):=by
       rw[hA]at ha ⊢
       exact FH ha
      have hfr:∀ x∈A.take s,∀ b,some b∈dO y.plain x→b∈A:=by rw[hA];exact B3
      have hoka:=xX hyo hs100 s a ham
      repeat' first|apply ac|(apply gw;first|refine au rx_ ?_|(apply gq2;first|refine aF rx_ ?_|refine am rfl hg_ Lm b_ pv_ ?_)|(apply gq3;first|refine aC rx_ ?_|refine aQ rx_ ?_|(refine aA rfl rfl rfl ?_ ?_<;>(intro hc;try omega)))|(apply gq6;first|refine bk rx_ ?_|refine eR rx_ (by assumption) ?_)|(apply gq4;first|refine aL rx_ ?_|refine ar rfl (Nat.zero_add _) ?_)|refine br rfl ?_)|(apply gx;first|apply af|refine ae rfl ?_|apply ay|apply al|refine ak rfl ?_)|apply aa
      refine bD 256 (fun c env h'=>∃ (vN vT vW:AV) (ws:List AV) (B:List RSt),B=cR A ((dO y.plain a).take c)∧(∀ w∈ws,ss w)∧Sep h' (chA cc iM imN imO y (y.plain.parts.map dp) vR vN vT vW ws (qd y.plain B a s c) y.plain B)∧env.has [(2,.ptr i2 0 0),(8,.ptr iM 0 0),(11,.int .i64 s),(79,.int .i64 c)]) ⟨vN,vT,vW,ws,A,rfl,hws,by rw[← Bg a hs2];exact hS,hh_⟩ ?_
      clear hS hM hvW hnW hws
      rintro c env h' hc ⟨vN,vT,vW,ws,B,hB,hws,hS,he⟩
      obtain⟨env,rfl⟩:=he.ex
      clear he
      have hAB:A <+: B:=by rw[hB];exact mp _ _
      have hBl:B.length≤340100:=by
       have h1:=(qx A (dO y.plain a) c).length_le
       rw[← hB,← hn1]at h1
       exact Nat.le_trans h1 (t7 hyo hn100 hs100 _)
      have hsB:s<B.length:=by have:=hAB.length_le;omega
      have hBs:B[s]?=some a:=by
       obtain⟨t,e⟩:=hAB
       rw[← e,List.getElem?_append_left hs2];exact ha
      have hBk:B.take s=A.take s:=by
       obtain⟨t,e⟩:=hAB
       rw[← e,List.take_append_of_le_length Ll]
      by_cases hc2:c<256
      ·obtain⟨r1,r2⟩:=BF (d:=y.plain) (a:=a) (A0:=A) hsB hc2 hB (fun x hx b hb=>hAB.subset (hfr x (by rw[← hBk];exact hx) b hb))
       have hmg:=GX (d:=y.plain) (B:=B) (a:=a) (s:=s) (c:=c) (m:=(cE B (cX y.plain a c)).length) hsB
       have hbo:∀ b∈B,OkR y.plain b:=by rw[hB,hA];exact GP hyo hs100 ham c
       have hrs:=GD (d:=y.plain) (a:=a) hc2 hB
       have hml:=GW (d:=y.plain) (a:=a) (c:=c) hsB
       repeat' first|apply ac|(apply gw;first|refine au rx_ ?_|(apply gq3;first|refine aC rx_ ?_|(refine aA rfl rfl rfl ?_ ?_<;>(intro hc;try omega)))|refine aH rfl nt_ ?_|refine kV rfl Ll ?_)|(apply gx;first|apply af|refine ae rfl ?_|apply ay|apply al|refine ak rfl ?_)|apply aa
       rw[show((c:Int)%256)=(c:Int) by omega]
       refine ci (F6 L L3 hyo rfl hS hbo hml Ll hws hBs hc2 (fun b hb=>uj hyo hs100 hoka hb)) ?_
       rintro _ h3 ⟨rfl,vN2,vT2,vW2,ws2,hws2,hS3⟩
       have hB2l:(cE B (cX y.plain a c)).length≤340100:=by
        have h1:=(qx A (dO y.plain a) (c+1)).length_le
        rw[r1,← hn1]at h1
        exact Nat.le_trans h1 (t7 hyo hn100 hs100 _)
       have hmr:=E9 (qd y.plain B a s c) B.length (cE B (cX y.plain a c)).length
       rw[hml]at hmr
       generalize cE B (cX y.plain a c)=B2 at r1 r2 hmg hrs hS3 hB2l hmr ⊢
       have hN3:hY h3 vN2 [] ws2 _:=hS3.get (i:=0) rfl
       have hM3:h3.get iM=some (.cells 0 (mkM y vR vN2 vT2 vW2 imN imO)):=hS3.get (i:=2) rfl
       have hvN3:=hN3.out
       simp only[List.length_nil,Nat.zero_add,List.nil_append]at hvN3
       have hnN:=hvN3.notTup
       have hwl:s<ws2.length:=by
        rw[hN3.fam.len,List.length_map]
        exact lt_of_getElem? hmg
       have hwm:ws2.length≤1000000:=by
        rw[hN3.fam.len,List.length_map,hmr]
        omega
       obtain⟨w,hw⟩:=aK hwl
       obtain⟨iw,gz,rfl⟩:=hws2 w (List.mem_of_getElem? hw)
       obtain⟨⟨hgw,hgw1⟩,hS4⟩:=hS3.nset 0 rfl hw (IZ hmg (qJ Ll)) (rs':=(vw y.plain B2 a (c+1)).map (.int .i64)) (by rw[List.length_map,qJ Ll])
       repeat' first|apply ac|(apply gw;first|refine au rx_ ?_|(apply gq2;first|refine aF rx_ ?_|refine jW (g:=_) rfl hg_ hw eq_ Lm ?_|refine am rfl hg_ Lm b_ pv_ ?_)|(apply gq5;first|refine aS rx_ ?_|refine aU rx_ ?_|refine bv rfl rfl Ll Ll ?_|(refine cY rx_ (by assumption) rfl Ll Ll ?_;intro ir gr hvr hgr hgp;have hner:=ad.ne_of hgr;have hner2:=ad.ne_of2 hgr))|(apply jI;first|refine bq rx_ ?_|refine bp rx_ ?_)|(apply gq4;first|refine aL rx_ ?_|refine ar rfl (Nat.zero_add _) ?_|refine ar rfl rfl ?_)|refine br rfl ?_)|refine ae rfl ?_|apply aa
       refine xu (v:=AV.int .i64 (gR B2 (cX y.plain a c))) (cs':=(vw y.plain B2 a (c+1)).map (.int .i64)) rfl rfl rfl rfl hgw (by rw[List.length_map,qJ Ll];omega) (by rw[Nat.zero_add];exact hrs) ?_
       repeat' first|apply ac|(apply gw;first|refine au rx_ ?_|(apply gq3;first|refine aC rx_ ?_|refine aT rfl rfl rfl Ll Ll ?_))|refine ae rfl ?_|apply aa|apply aI
       refine aR hc2 ⟨vN2,vT2,vW2,ws2,B2,r1.symm,hws2,?_,hh_⟩
       rw[IY (qJ Ll),r2]at hS4
       exact hS4
      ·obtain rfl:c=256:=by omega
       repeat' first|apply ac|(apply gw;first|refine au rx_ ?_|(apply gq3;first|refine aC rx_ ?_|refine aT rfl rfl rfl Ll Ll ?_|(refine aA rfl rfl rfl ?_ ?_<;>(intro hc;try omega))))|(apply gx;first|apply af|refine ae rfl ?_|apply aN|refine ai rfl ?_)|apply aa|apply aO|apply aI|apply aP|apply aX
       refine aR Ll ⟨vN,vT,vW,ws,B,?_,by omega,hws,?_,hh_⟩
       ·rw[hn1,hB,List.take_of_length_le (by rw[qI];exact Nat.le_refl _)]
       ·rw[← GY hBs];exact hS
     ·have hse:s=A.length:=by omega
      have hle:(cH y.plain s).length≤s:=by rw[← hA];omega
      rw[Fu hse]at hS
      have hN:hY h' vN [] ws (dsM (j9 (dO y.plain) A)):=hS.get (i:=0) rfl
      have hT:aD h' vT 1 (A.map (nV y.plain)).length _:=hS.get (i:=4) rfl
      have hnN:=hN.out.notTup
      have hnT:=hT.notTup
      have f1:=hN.fz (S:=fun k=>ln vN ws k∨vT.rowId=some k) (fun k hk => .inl hk)
      have f2:=hT.fz (fun k=>ln vN ws k∨vT.rowId=some k) (fun k hk => .inr hk) (FzL.same _)
      have hti:∀ t∈y.plain.tags,I32 t:=fun t h=>ht t (hy.tagsIn hok t h)
      have hrl:(zq y.plain s).tags.l.length≤268435456:=by
       show((cH y.plain s).map _).length≤_
       rw[List.length_map,← hA];omega
      have hrd:=zo L L3 (zq y.plain s) (Is hyo hle) hrl (EO hti s)
      have hcS:cc.holds h':=hS.get (i:=1) rfl
      have h2d:(h'.drop fun k=>ln vN ws k∨vT.rowId=some k).get i2=some rL:=by
       have hcS':=hcS
       rw[hcc]at hcS'
       have hS':Sep h' [j4 ad.empty,bU ib (.cells 0 y.av),bU i2 rL]:=hcS'
       have hg:h'.get i2=some rL:=hS'.get (i:=2) rfl
       have hfo:cc.foot i2:=by rw[hcc];exact⟨bU i2 rL,by simp,rfl⟩
       have hno:¬ (ln vN ws i2∨vT.rowId=some i2):=by
        rintro(e|e)
        ·exact hS.disj (i:=0) (j:=1) rfl rfl (by decide) i2 e hfo
        ·exact hS.disj (i:=4) (j:=1) rfl rfl (by decide) i2 e hfo
       simp only[ad.drop,hno,if_false]
       exact hg
      repeat' first|apply ac|(apply gw;first|refine au rx_ ?_|(apply gq2;first|refine aF rx_ ?_|refine am rfl hg_ Lm b_ pv_ ?_)|(apply gq3;first|refine aC rx_ ?_|refine aQ rx_ ?_|(refine aA rfl rfl rfl ?_ ?_<;>(intro hc;try omega)))|(apply gq6;first|refine bk rx_ ?_|refine eR rx_ (by assumption) ?_)|(apply gq4;first|refine aL rx_ ?_|refine ar rfl (Nat.zero_add _) ?_)|refine br rfl ?_|refine aH rfl nt_ ?_)|(apply gx;first|apply af|refine ae rfl ?_|apply aN|refine ai rfl ?_)|apply aa|apply aO|apply aP|apply aX
      refine HL (fun k=>ln vN ws k∨vT.rowId=some k) rfl hrd (.cons (.agg (.cons ?_ (.cons ?_ .nil))) .nil) (by simp[AV.frozenL,AV.frozen]) (fun v hv=>by obtain⟨κ,x,rfl,_⟩:=hv;simp[AV.frozen]) ?_
      ·rw[hA,EP]at f1
       exact f1
      ·rw[hA]at f2
       exact f2
      rintro _ ⟨κ,x,rfl,hK,hx⟩
      generalize h'.drop _=h9 at h2d ⊢
      repeat' first|apply ac|(apply gw;first|refine au rx_ ?_|(apply jI;first|refine bq rx_ ?_|refine bp rx_ ?_|refine bh (v:=AV.agg _) rfl rfl hg_ rfl rfl b_ sv_ ?_))|apply aM|apply aa
      refine aJ (v := .tup [.agg x.av,.int .u16 0]) (o4 (t:=2) (t2:=3) rfl (ad.get_set_self _ _ _) rfl rfl rfl) ?_
      rw[t8]at hK hx
      have e1:(zq y.plain s).tags.l.length=(cH y.plain s).length:=List.length_map _
      rw[e1]at hK hx
      exact Or.inr ⟨hok,y.plain,hy,Or.inr ⟨hn100,hs100,x,rfl,s,κ,hle,hK,hx⟩⟩
end
end Go.Proofs.YtlnobeojgifojaaGreatDoor
