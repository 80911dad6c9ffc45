/- Without what is dead. -/
import Derived.Test.YtlnobeojgifojaaGreatDoorE4
import Derived.Test.YtlnobeojgifojaaGreatDoorE3
import Derived.Test.YtlnobeojgifojaaGreatDoorE2
set_option linter.unusedVariables false
set_option linter.unusedSimpArgs false
namespace Go.Proofs.YtlnobeojgifojaaGreatDoor
section
open Go
set_option maxHeartbeats 4000000
attribute [local irreducible] az bf bm de bz cw dH bJ wop cz bc
def gN (lv:Int→Bool)(rows:List (List Int))(i:Nat):List (List Int):=(List.range rows.length).map fun q=>if q<i then(rows.getD q []).map (dT lv) else rows.getD q []
theorem ub (lv:Int→Bool)(rows:List (List Int))(i:Nat):(gN lv rows i).length=rows.length:=by simp[gN]
theorem xS (lv:Int→Bool)(rows:List (List Int)):gN lv rows 0=rows:=by
 refine List.ext_getElem (by simp[gN]) fun q h1 h2=>?_
 simp[gN,List.getD_eq_getElem?_getD,h2]
theorem zy (lv:Int→Bool)(rows:List (List Int)):gN lv rows rows.length=rows.map fun r=>r.map (dT lv):=by
 refine List.ext_getElem (by simp[gN]) fun q h1 h2=>?_
 have:q<rows.length:=by simpa using h2
 simp[gN,List.getD_eq_getElem?_getD,this]
theorem zx {lv:Int→Bool}{rows:List (List Int)}{i:Nat}{r:List Int}(h:rows[i]?=some r):(gN lv rows i)[i]?=some r:=by
 have hi:=(List.getElem?_eq_some_iff.1 h).1
 simp only[gN,List.getElem?_map,List.getElem?_range hi,Option.map_some]
 rw[if_neg Ll,List.getD_eq_getElem?_getD,h];rfl
theorem zw {lv:Int→Bool}{rows:List (List Int)}{i:Nat}{r:List Int}(h:rows[i]?=some r):(gN lv rows i).set i (r.map (dT lv))=gN lv rows (i+1):=by
 have hi:=(List.getElem?_eq_some_iff.1 h).1
 refine List.ext_getElem (by simp[gN]) fun q h1 h2=>?_
 rw[List.getElem_set]
 simp only[gN,List.getElem_map,List.getElem_range]
 by_cases e:i=q
 ·subst e
  rw[if_pos rfl,if_pos Ll,List.getD_eq_getElem?_getD,h];rfl
 ·rw[if_neg e]
  by_cases h3:q<i
  ·rw[if_pos h3,if_pos Ll]
  ·rw[if_neg h3,if_neg Ll]
def eW (lv:Int→Bool)(r:List Int)(k:Nat):List Int:=(r.take k).map (dT lv)++r.drop k
theorem nQ (lv:Int→Bool)(r:List Int)(k:Nat):(eW lv r k).length=r.length:=by
 simp[eW];omega
theorem xQ {lv:Int→Bool}{r:List Int}{k:Nat}{x:Int}(h:r[k]?=some x):(eW lv r k)[k]?=some x:=by
 have hk:=(List.getElem?_eq_some_iff.1 h).1
 unfold eW
 rw[List.getElem?_append_right (by simp;omega)]
 simp only[List.length_map,List.length_take]
 rw[Nat.min_eq_left Ll,Nat.sub_self,List.getElem?_drop,Nat.add_zero,h]
theorem vA {lv:Int→Bool}{r:List Int}{k:Nat}{x:Int}(h:r[k]?=some x):eW lv r (k+1)=(eW lv r k).set k (dT lv x):=by
 have hk:=(List.getElem?_eq_some_iff.1 h).1
 unfold eW
 rw[List.set_append_right _ _ (by simp;omega)]
 simp only[List.length_map,List.length_take]
 rw[Nat.min_eq_left Ll,Nat.sub_self,aV h,List.map_append]
 have hd:r.drop k=x::r.drop (k+1):=by
  obtain⟨h1,rfl⟩:=List.getElem?_eq_some_iff.1 h
  exact List.drop_eq_getElem_cons h1
 rw[hd,List.set_cons_zero]
 simp
theorem xR (lv:Int→Bool)(r:List Int):eW lv r r.length=r.map (dT lv):=by simp[eW]
set_option maxRecDepth 100000 in
theorem zu {Φ:Lib}(L:cJ Φ){h0 h:ad}{P:AV}{T:Rw Int}{inx p:Nat}{ws:List AV}{rows:List (List Int)}(hS:Sep h [j4 h0,nm inx ws (rows.map iC)])(hT:T.l.length=rows.length)(hn:rows.length≤2000)(hp:p≤2000)(hr:∀ r∈rows,r.length=p∧∀ x∈r,x = -1∨In rows.length x) :
  bc Φ 101 [.agg [P,.own inx 1 1 0 rows.length none,T.iv]] h (fun v h'=>(∃ lv:Int→Bool,(∀ s,In rows.length s→(lv s=true↔lD rows.length (ly rows) (tC T.l) s))∧v = .agg [P,.rd rows.length ((rows.map fun r=>Rw.mk (r.map (dT lv)) false).map Rw.iv) false,T.iv])∧Sep h' [j4 h0]):=by
 refine ba (fun _=>false) rfl L.f101 ?_
 repeat' first|apply ac|(apply gw;first|refine am rfl hg_ Lm b_ pv_ ?_|refine aH rfl nt_ ?_|(refine bV ?_;intro id hid;try simp only[ad.set_none]at hid)|(refine gQ (v:=AV.agg _) rfl rfl ?_;intro id hid;try simp only[ad.set_none]at hid))|(apply gx;first|apply af|refine ae rfl ?_)|apply aa
 rename_i ib hib
 have hS2:=(hS.new (o := .cells 0 [P,.own inx 1 1 0 rows.length none,T.iv]) hib).new (id:=id) (o := .cells 0 [.rd 0 [] true,.rd 0 [] true,.rd 0 [] true]) (by simp only[ad.set_none];exact hid)
 refine ci (IL L (T:=T) (P:=P) (hS2.get (i:=1) rfl) hT hn hp hr) ?_
 rintro _ h2 ⟨⟨os,rfl,hosl,hos⟩,hold⟩
 have hS3:=hS2.ext hold
 clear hS2 hold
 have hbox:h2.get ib=some (.cells 0 [P,.own inx 1 1 0 rows.length none,T.iv]):=hS3.get (i:=2) rfl
 generalize hlv:(fun s:Int=>os.getD s.toNat false)=lv
 have hlvx:∀ {x:Int} {o:Bool},os[x.toNat]?=some o→lv x=o:=fun hx=>by rw[← hlv];simp[List.getD_eq_getElem?_getD,hx]
 have hlive:∀ s,In rows.length s→(lv s=true↔lD rows.length (ly rows) (tC T.l) s):=by rw[← hlv];exact hos
 have e5:AV.rd rows.length (bC os) false = .rd os.length (bC os) false:=by rw[hosl]
 rw[e5]
 repeat' first|apply ac|(apply gw;first|(apply gq0;first|refine aq rfl ?_|refine aG rfl ?_)|refine am rfl hg_ Lm b_ pv_ ?_|refine ar rfl (Nat.zero_add _) ?_|refine eS rfl ?_)|(apply gx;first|apply af|refine ae rfl ?_|apply al)|apply aa
 refine bD rows.length (fun i env h'=>∃ ws,Sep h' [j4 h0,nm inx ws ((gN lv rows i).map iC),bU ib (.cells 0 [P,.own inx 1 1 0 rows.length none,T.iv]),bU id (.cells 0 [.rd 0 [] true,.rd 0 [] true,.rd 0 [] true])]∧env.has [(1,.ptr ib 0 0),(2,.ptr id 0 0),(3,.rd os.length (bC os) false),(11,.own inx 1 1 0 rows.length none),(12,.int .i64 rows.length),(13,.int .i64 i)]) ⟨ws,by rw[xS];exact hS3,hh_⟩ ?_
 clear hS3 hbox hS
 rintro i env h' hi ⟨ws,hS,he⟩
 obtain⟨env,rfl⟩:=he.ex
 clear he
 have hgr:eG h' inx ws _:=hS.get (i:=1) rfl
 have hwl:=hgr.len
 rw[List.length_map,ub]at hwl
 have hat:=hgr.at_
 by_cases hi2:i<rows.length
 ·obtain⟨r,hri⟩:=aK hi2
  obtain⟨rl,rto⟩:=hr r (List.mem_of_getElem? hri)
  obtain⟨w,hw⟩:=aK (l:=ws) (i:=i) Ll
  have hrow:=hgr.row (r:=iC r) hw (by rw[List.getElem?_map,zx hri];rfl)
  rw[List.length_map]at hrow
  have hnt:=hrow.notTup
  have hns:w.isStr=false:=hrow.app.notStr
  repeat' first|apply ac|(apply gw;first|(apply gq0;first|refine aq rfl ?_|refine au rv_ ?_)|refine jW (g:=_) rfl hg_ hw eq_ Lm ?_|(refine aA rfl rfl rfl ?_ ?_<;>(intro hc;try omega))|refine bv rfl rfl Ll Ll ?_|refine aH rfl nt_ ?_)|(apply gx;first|apply af|refine ae rfl ?_|apply ay|apply al|refine ak rfl ?_)|apply aa
  refine ci (HC L (gd hrow) Lm hns hnt Ll) ?_
  rintro v h2 ⟨hv,hold,hfresh⟩
  have hS2:=hS.add (cA v 1 r.length (iC r)) hv hold hfresh
  have hnt2:=hv.notTup
  repeat' first|apply ac|(apply gw;first|(apply gq0;first|refine aq rfl ?_|refine au rv_ ?_)|refine eR rv_ (by assumption) ?_)|(apply gx;first|apply af|refine ae rfl ?_|apply al)|apply aa
  refine bD r.length (fun k env h'=>Sep h' [j4 h0,nm inx ws ((gN lv rows i).map iC),bU ib (.cells 0 [P,.own inx 1 1 0 rows.length none,T.iv]),bU id (.cells 0 [.rd 0 [] true,.rd 0 [] true,.rd 0 [] true]),cA v 1 r.length (iC (eW lv r k))]∧env.has [(1,.ptr ib 0 0),(2,.ptr id 0 0),(3,.rd os.length (bC os) false),(4,.int .i64 i),(5,v),(11,.own inx 1 1 0 rows.length none),(12,.int .i64 rows.length),(13,.int .i64 i),(20,v),(21,.int .i64 r.length),(22,.int .i64 k)]) ⟨by simpa[eW] using hS2,hh_⟩ ?_
  clear hS hS2 hgr hat hrow hnt hns hold hfresh hv hnt2
  rintro k env h' hk ⟨hS,he⟩
  obtain⟨env,rfl⟩:=he.ex
  clear he
  have hv:aD h' v 1 r.length (iC (eW lv r k)):=hS.get (i:=4) rfl
  have hnt2:=hv.notTup
  by_cases hk2:k<r.length
  ·obtain⟨x,hx⟩:=aK hk2
   have hxo:=rto x (List.mem_of_getElem? hx)
   have hx2:=xQ (lv:=lv) hx
   have hpl:=nQ lv r k
   have hsc:=vA (lv:=lv) hx
   by_cases hx1:x = -1
   ·have hpx:dT lv x=x:=by simp[dT,hx1]
    have e1:eW lv r (k+1)=eW lv r k:=by
     rw[hsc,hpx]
     obtain⟨h1,h3⟩:=List.getElem?_eq_some_iff.1 hx2
     rw[← h3,List.set_getElem_self]
    repeat' first|apply ac|(apply gw;first|(apply gq0;first|refine aq rfl ?_|refine bl rfl ?_)|refine cf rfl ?_|refine eH (g:=_) rfl hg_ hx2 eq_ ?_|(apply gq3;first|refine aT rfl rfl rfl Ll Ll ?_|((first|refine aA rfl rfl rfl ?_ ?_|refine eK rfl rfl rfl ?_ ?_)<;>(intro hc;try omega)))|(refine cY rv_ (by assumption) rfl Ll Ll ?_;intro ir gr hvr hgr hgp;have hner:=ad.ne_of hgr;have hner2:=ad.ne_of2 hgr)|refine bb rfl rfl ?_)|(apply gx;first|apply af|refine ae rfl ?_|apply ay|apply al|refine ak rfl ?_|refine ai rfl ?_)|apply aa|apply aI
    refine aR hk2 ⟨by rw[e1];exact hS,hh_⟩
   ·have hxi:=hxo.resolve_left hx1
    obtain⟨o,ho⟩:=aK (l:=os) (i:=x.toNat) (by unfold In at hxi;omega)
    have hlo:=hlvx ho
    have hx0:x=(x.toNat:Int):=by unfold In at hxi;omega
    cases o
    ·have hpx:dT lv x = -1:=by simp[dT,hx1,hlo]
     rw[hpx]at hsc
     repeat' first|apply ac|(apply gw;first|(apply gq0;first|refine aq rfl ?_|refine bl rfl ?_|refine aG rfl ?_|refine au rv_ ?_)|refine cj rfl ?_|(apply gq2;first|refine eH (g:=_) rfl hg_ hx2 eq_ ?_|refine aB rfl b_ pv_ ?_)|(apply gq3;first|refine aT rfl rfl rfl Ll Ll ?_|((first|refine aA rfl rfl rfl ?_ ?_|refine eK rfl rfl rfl ?_ ?_)<;>(intro hc;try omega)))|(apply gq5;first|refine ah rfl rfl ho Ll rfl ?_|(refine cY rv_ (by assumption) rfl Ll Ll ?_;intro ir gr hvr hgr hgp;have hner:=ad.ne_of hgr;have hner2:=ad.ne_of2 hgr))|refine bi rfl rfl ?_|refine rC (g:=_) rfl rfl hg_ (by simp only[Nat.zero_add,Nat.mul_one];exact rfl) Ll rfl rfl (by exact rfl) ?_|refine dh (b:=false) rfl ?_)|(apply gx;first|apply af|refine ae rfl ?_|apply ay|apply al|refine ak rfl ?_)|apply aa|apply aI
     refine aR hk2 ⟨?_,hh_⟩
     rw[hsc]
     have hS2:=hS.rowset 4 (iC ((eW lv r k).set k (-1))) rfl hvr hgp (by simp[nQ])
     exact hS2
    ·have hpx:dT lv x=x:=by simp[dT,hx1,hlo]
     have e1:eW lv r (k+1)=eW lv r k:=by
      rw[hsc,hpx]
      obtain⟨h1,h3⟩:=List.getElem?_eq_some_iff.1 hx2
      rw[← h3,List.set_getElem_self]
     repeat' first|apply ac|(apply gw;first|(apply gq0;first|refine aq rfl ?_|refine bl rfl ?_|refine aG rfl ?_)|refine cj rfl ?_|(apply gq2;first|refine eH (g:=_) rfl hg_ hx2 eq_ ?_|refine aB rfl b_ pv_ ?_)|(apply gq3;first|refine aT rfl rfl rfl Ll Ll ?_|((first|refine aA rfl rfl rfl ?_ ?_|refine eK rfl rfl rfl ?_ ?_)<;>(intro hc;try omega)))|(apply gq5;first|refine ah rfl rfl ho Ll rfl ?_|(refine cY rv_ (by assumption) rfl Ll Ll ?_;intro ir gr hvr hgr hgp;have hner:=ad.ne_of hgr;have hner2:=ad.ne_of2 hgr))|refine bi rfl rfl ?_|refine dh (b:=true) rfl ?_)|(apply gx;first|apply af|refine ae rfl ?_|apply ay|apply al|refine ak rfl ?_|refine ai rfl ?_)|apply aa|apply aI
     refine aR hk2 ⟨by rw[e1];exact hS,hh_⟩
  ·have hk3:k=r.length:=by omega
   subst hk3
   rw[xR]at hv hS
   have hbox:h'.get ib=some (.cells 0 [P,.own inx 1 1 0 rows.length none,T.iv]):=hS.get (i:=2) rfl
   obtain⟨hS3,hat2⟩:=hS.gtake 1 1 4 (q:=i) (va:=v) (r:=iC (r.map (dT lv))) (by rw[show(iC (r.map (dT lv))).length=r.length by simp];rfl) rfl hw
   repeat' first|apply ac|(apply gw;first|(apply gq0;first|refine aq rfl ?_|refine au rv_ ?_)|refine am rfl hg_ Lm b_ pv_ ?_|(apply gq3;first|refine aT rfl rfl rfl Ll Ll ?_|(refine aA rfl rfl rfl ?_ ?_<;>(intro hc;try omega)))|refine ar rfl (Nat.zero_add _) ?_|refine bv rfl rfl Ll Ll ?_|refine ck rfl rv_ (by assumption) hg_ b_ (by first|(simp only[List.set_cons_zero,List.set_cons_succ]<;>exact rfl)|exact rfl) ?_)|(apply gx;first|apply af|refine ae rfl ?_|apply aN|refine ai rfl ?_)|apply aa|apply aO|apply aI|apply aP|apply aX
   refine aR hi2 ⟨ws.set i v,?_,hh_⟩
   rw[← zw hri,List.map_set]
   rw[show(0+(i:Int).toNat)*1=i by omega]
   exact hS3
 ·have hi3:i=rows.length:=by omega
  subst hi3
  rw[zy]at hS hgr
  have hbox:h'.get ib=some (.cells 0 [P,.own inx 1 1 0 rows.length none,T.iv]):=hS.get (i:=2) rfl
  have hres:h'.get id=some (.cells 0 [.rd 0 [] true,.rd 0 [] true,.rd 0 [] true]):=hS.get (i:=3) rfl
  repeat' first|apply ac|(apply gw;first|refine am rfl hg_ Lm b_ pv_ ?_|(refine aA rfl rfl rfl ?_ ?_<;>(intro hc;try omega))|refine bh (v:=AV.agg _) rfl rfl hg_ rfl rfl b_ sv_ ?_)|(apply gx;first|apply af|refine ae rfl ?_|apply aM|apply aN|refine ai rfl ?_)|apply aa|apply aO|apply aP|apply aX
  have hS2:=hS.put 3 (.cells 0 [P,.own inx 1 1 0 rows.length none,T.iv]) rfl
  have hgr2:eG _ inx ws _:=hS2.get (i:=1) rfl
  have hfz:=hgr2.fz (S:=fX inx ws) (lim:=none) fun _ h=>h
  rw[List.length_map,List.length_map]at hfz
  refine fP (fX inx ws) (mY rfl (ad.get_set_self _ _ _) rfl) (.agg (.cons (.same _) (.cons hfz (.cons (.same _) .nil)))) ⟨⟨lv,hlive,?_⟩,?_⟩
  ·congr 3
   rw[List.map_map,List.map_map,List.map_map]
   congr 2
   funext r
   simp[Function.comp]
  ·have hS3:=hS2.drop 1 (h':=(h'.set id (.cells 0 [P,.own inx 1 1 0 rows.length none,T.iv])).drop (fX inx ws)) rfl fun k hk=>by
    simp only[ad.drop]
    rw[if_neg hk]
   exact hS3.weak Lm
end
section
open Go
theorem uF {α β:Type}[DecidableEq β](f:α→β)(t:β):∀ (G:List α),G.findIdx? (fun a=>decide (f a=t))=if t∈G.map f then some (dg (G.map f) t) else none
 | []=>rfl
 | a::G=>by
  have ih:=uF f t G
  rw[List.findIdx?_cons]
  by_cases h:f a=t
  ·subst h
   simp[dg]
  ·have h3:¬ t=f a:=fun e=>h e.symm
   have hb:(f a == t)=false:=by simpa using h
   simp only[h,decide_false,Bool.false_eq_true,if_false,ih,List.map_cons,List.mem_cons,h3,false_or]
   split
   ·simp[dg,List.idxOf_cons,hb]
   ·rfl
def kf (κ:Int→Int)(R:Int→List Int)(L:List Int)(ks:List Nat):List UInt8:=cq (vec κ R L (ks.headD 0))
theorem uW {κ:Int→Int}{R:Int→List Int}{L:List Int}{k:Nat}(G:List (List Nat)):(cq (vec κ R L k)∈G.map (kf κ R L)→G.findIdx? (fun ks=>en κ R L (ks.headD 0) k)=some (dg (G.map (kf κ R L)) (cq (vec κ R L k))))∧(cq (vec κ R L k)∉G.map (kf κ R L)→G.findIdx? (fun ks=>en κ R L (ks.headD 0) k)=none):=by
 have h:=uF (kf κ R L) (cq (vec κ R L k)) G
 have e:(fun ks:List Nat=>en κ R L (ks.headD 0) k)=fun a=>decide (kf κ R L a=cq (vec κ R L k)):=by
  funext ks
  unfold en kf
  exact decide_eq_decide.2 ⟨fun e=>by rw[e],fun e=>pQ e⟩
 rw[e,h]
 exact⟨fun hm=>if_pos hm,fun hm=>if_neg hm⟩
theorem AY {s:aj}(h:∀ x,s.lo≤x→x≤s.hi→cv x=true):(bW s).length≤1:=by
 unfold bW my jR
 dsimp only
 split<;>split
 ·rename_i h1 h2
  have:=cx.1 (h 55296 Ll Ll)
  omega
 ·simp
 ·simp
 ·simp
theorem E7 {l:List aj}(h:∀ s∈l,∀ x,s.lo≤x→x≤s.hi→cv x=true):(bd l).length≤l.length:=by
 have h1:∀ (p r:List aj),(p.foldl fw r).length≤r.length+p.length:=by
  intro p
  induction p with
  | nil=>intro r;simp
  | cons s p ih =>
   intro r
   have:=ih (fw r s)
   have h2:(fw r s).length≤r.length+1:=by
    cases r with
    | nil=>simp[fw]
    | cons a r=>simp only[fw];split<;>simp
   rw[List.foldl_cons,List.length_cons]
   omega
 have h2:∀ k:List aj,(∀ s∈k,∀ x,s.lo≤x→x≤s.hi→cv x=true)→(k.flatMap bW).length≤k.length:=fun k=>by
  induction k with
  | nil=>simp
  | cons a k ih =>
   intro hk
   have h3:=AY (hk a Lm)
   have h4:=ih fun s hs=>hk s (by simp[hs])
   simp only[List.flatMap_cons,List.length_append,List.length_cons];omega
 have h3:=h1 ((l.flatMap bW).mergeSort fun a b=>decide (a.lo≤b.lo)) []
 have h4:=h2 l h
 unfold bd ov
 rw[List.length_reverse]
 rw[List.length_mergeSort]at h3
 simp only[List.length_nil,Nat.zero_add]at h3
 omega
theorem ul {l:List aj}(h:bd l=l):∀ s∈l,∀ x,s.lo≤x→x≤s.hi→cv x=true:=fun s hs x h1 h2=>gS h ⟨s,hs,h1,h2⟩
theorem v9 {a b:List aj}(ha:bd a=a)(hb:bd b=b):(bd (a++b)).length≤a.length+b.length:=by
 rw[← List.length_append]
 refine E7 fun s hs=>?_
 rcases List.mem_append.1 hs with hs|hs
 ·exact ul ha s hs
 ·exact ul hb s hs
theorem HF {P:List (Rw aj)}{g:Nat}{a:Rw aj}(h:P[g]?=some a)(u:Rw aj):(cV (P.set g u)).length+a.l.length=(cV P).length+u.l.length:=by
 induction P generalizing g with
 | nil=>simp at h
 | cons p P ih =>
  cases g with
  | zero =>
   simp at h
   subst h
   simp[cV]
   omega
  | succ g =>
   simp at h
   have:=ih h
   simp[cV]at this ⊢
   omega
theorem Am (P:List (Rw aj))(p:Rw aj):(cV (P++[p])).length=(cV P).length+p.l.length:=by simp[cV]
theorem v7 (d:PD)(G:List (List Nat))(k:Nat):iu d (G++[[k]])=iu d G++[d.part k]:=by
 simp[iu,mT]
theorem yU (d:PD){G:List (List Nat)}{g:Nat}{ks:List Nat}(h:G[g]?=some ks)(hne:ks≠[])(k:Nat):iu d (G.set g (ks++[k]))=(iu d G).set g (bd (mT (ks.map d.part)++d.part k)):=by
 unfold iu
 rw[List.map_set,List.map_append,List.map_singleton,Db (by simpa using hne)]
theorem v8 {d:PD}{G:List (List Nat)}{g:Nat}{ks:List Nat}(h:G[g]?=some ks):(iu d G)[g]?=some (mT (ks.map d.part)):=by
 unfold iu
 rw[List.getElem?_map,h];rfl
theorem oD (lv:Nat→Bool)(E:Nat→Nat→Bool)(p:Nat):dF lv E (p+1)=qX lv E (dF lv E p) p:=by simp[dF,List.range_succ]
theorem uA (lv:Nat→Bool)(E:Nat→Nat→Bool):∀ p,(dF lv E p).length≤p
 | 0=>by simp[dF]
 | p+1=>by
  have ih:=uA lv E p
  rw[oD,qX]
  split
  ·split
   ·rw[List.length_set];omega
   ·simp;omega
  ·omega
theorem su {ks:List Nat}(h:ks≠[])(k:Nat):(ks++[k]).headD 0=ks.headD 0:=by
 cases ks with
 | nil=>exact absurd rfl h
 | cons a l=>rfl
theorem qS {α β:Type}{f:α→β}{l:List α}{i:Nat}{a b:α}(h:l[i]?=some a)(e:f b=f a):(l.set i b).map f=l.map f:=by
 rw[List.map_set,e]
 obtain⟨h1,rfl⟩:=List.getElem?_eq_some_iff.1 h
 have h2:i<(l.map f).length:=by simpa using h1
 have:f l[i]=(l.map f)[i]:=by simp
 rw[this,List.set_getElem_self]
theorem JJ {m:Nat}{key:Nat→Int}{zs:List Int}(hp:zs.Perm ((List.range m).map fun i:Nat=>(i:Int)))(hs:zs.Pairwise fun a b=>key a.toNat≤key b.toNat)(hi:∀ a∈vB m key,∀ b∈vB m key,key a=key b→a=b):zs=(vB m key).map fun i:Nat=>(i:Int):=by
 have h1:(zs.map Int.toNat).Perm (List.range m):=by
  have:=hp.map Int.toNat
  rw[List.map_map]at this
  have e:(List.range m).map (Int.toNat∘fun i:Nat=>(i:Int))=List.range m:=by
   refine Eq.trans ?_ (List.map_id _)
   apply List.map_congr_left
   intro i _
   simp
  rwa [e]at this
 have h2:vB m key=zs.map Int.toNat:=pJ (key:=key) ((mZ m key).trans h1.symm) (zG m key) (by rw[List.pairwise_map];exact hs) hi
 rw[h2,List.map_map]
 refine Eq.trans (List.map_id _).symm ?_
 apply List.map_congr_left
 intro z hz
 have:z∈(List.range m).map fun i:Nat=>(i:Int):=hp.mem_iff.1 hz
 obtain⟨i,_,rfl⟩:=List.mem_map.1 this
 simp
end
section
open Go
set_option maxHeartbeats 4000000
attribute [local irreducible] az bf bm de bz cw dH bJ wop cz bc
@[reducible] def mN:iQ := .cells 0 [.rd 0 [] true,.rd 0 [] true,.rd 0 [] true]
@[reducible] def nJ (h:ad)(i4 im inx io n:Nat)(ws:List AV)(rows:List (List AV))(T vp vk:AV)(V:List (List UInt8))(PL:List (Rw aj))(ks:List Nat):List cT :=
 [j4 h,bU i4 mN,bU im (.map none (bS AV.str 0 V)),nm inx ws rows,bU io (.cells 0 [vp,.own inx 1 1 0 n none,T]),cA vp 1 PL.length (PL.map Rw.sv),cA vk 1 ks.length (ks.map gm)]
structure jD (Φ:Lib):Prop where
 lo:Φ 120=some (.ext (ni 121))
theorem rH (d:Dfa):d.plain.row=lX d.next.l:=by
 funext s
 unfold PD.row lX Dfa.plain cG
 by_cases h:s.toNat<d.next.l.length
 ·rw[cS _ _ _ ⟨[],false⟩ _ h]
 ·rw[gh (by simpa using h),gh h]
set_option maxRecDepth 100000 in
theorem zX {Φ:Lib}(L:cJ Φ)(L1:il Φ)(S:fv Φ)(G:fV Φ)(J:jD Φ){h:ad}{iw:Nat}{d:Dfa}{K:Rw Int}(hw:WAt h iw d K)(hf:d.Fit K)(hfs:d.Fits)(hok:d.plain.Ok)(hne:∀ q∈d.plain.parts,q≠[])(hK:jK d.plain.n d.plain.row d.plain.tag (bG K.l)) :
  bc Φ 104 [.ptr iw 0 0,gK (d.plain.L1 (bG K.l))] h (fun v h'=>(∃ PL:List (Rw aj),PL.map (·.l)=(d.plain.O (bG K.l)).map (fun g=>(iu d.plain (d.plain.G (bG K.l))).getD g [])∧v = .agg [.rd PL.length (PL.map Rw.sv) false,.rd d.next.l.length (((List.range d.next.l.length).map fun s:Nat=>Rw.mk (d.plain.R2 (bG K.l) s) false).map Rw.iv) false,d.tags.iv])∧∀ k,h.get k≠none→h'.get k=h.get k):=by
 have hw':h.get iw=some (.cells 0 [d.parts.mv Rw.sv,d.next.mv Rw.iv,d.tags.iv,K.iv]):=hw
 have hiw:h.get iw≠none:=by rw[hw'];simp
 have hpl:d.plain.p=d.parts.l.length:=by simp[Dfa.plain,cu,PD.p]
 have hnl:d.plain.n=d.tags.l.length:=by simp[Dfa.plain,PD.n]
 have hn2:=hf.n2
 have hp2:=hf.p2
 have hkl:=hf.kl
 have htl:=hf.tl
 have hnn:d.plain.n=d.next.l.length:=by omega
 have hcat:=hfs.cat
 obtain⟨hcome,hclosed⟩:=H2 hok hK
 have hLm:=hcome.most
 have hLin:=hcome.inn
 have hkind:∀ {h':ad} {x:Int},h'.get iw=h.get iw→x = -1∨In d.plain.n x→bc Φ 107 [.ptr iw 0 0,.int .i64 x] h' (fun v h2=>v = .int .i64 (bG K.l x)∧h'.Ext h2):=fun {h' x} he hx=>by
  refine ta L (K:=K) (hw.keep he) x ?_
  rcases hx with h1|h1
  ·exact .inl h1
  ·right;unfold In at h1;omega
 have hkr:=fun x=>oy hf x
 have htab:=hok.tab
 generalize hLs:d.plain.L1 (bG K.l)=Ls at hLm hLin
 generalize hκ:bG K.l=κ at hkind hkr hK hLs
 have hrw:∀ {s:Int},In d.plain.n s→∃ row,d.next.l[s.toNat]?=some row∧row.l=d.plain.row s∧row.l.length=d.parts.l.length:=fun {s} hs=>by
  obtain⟨row,hr⟩:=aK (l:=d.next.l) (i:=s.toNat) (by unfold In at hs;omega)
  refine⟨row,hr,?_,hf.rows row (List.mem_of_getElem? hr)⟩
  rw[rH,qK (m:=s.toNat) (by unfold In at hs;omega) hr]
 refine ba (fun _=>false) rfl L.f104 ?_
 repeat' first|apply ac|(apply gw;first|refine au rx_ ?_|(apply gq2;first|refine aF rx_ ?_|refine am rfl hg_ Lm b_ pv_ ?_)|(apply jI;first|refine bq rx_ ?_|refine bp rx_ ?_|refine bh (v:=AV.agg _) rfl rfl hg_ rfl rfl b_ sv_ ?_)|(apply gq6;first|refine bk rx_ ?_|refine aw rfl ?_)|(apply gq4;first|refine aL rx_ ?_|refine ar rfl (Nat.zero_add _) ?_)|refine br rfl ?_|(refine bV ?_;intro id hid;try simp only[ad.set_none]at hid)|refine cO rfl ?_|(refine ix rfl rfl Ll Ll ?_;intro id hid;try simp only[ad.set_none]at hid)|(refine lQ ?_;intro id hid;try simp only[ad.set_none]at hid))|(apply gx;first|apply af|refine ae rfl ?_)|apply aa
 rename_i i4 hi4 im him inx hinx
 obtain⟨io,rfl⟩:∃ io,io=id:=⟨_,rfl⟩
 refine Il (nJ h i4 im inx io d.next.l.length (List.replicate d.next.l.length (.rd 0 [] true)) (List.replicate d.next.l.length []) d.tags.iv (.rd 0 [] true) (.rd 0 [] true) [] [] []) ?_ ?_
 ·have s1:=(Sep.old h).new (o:=mN) hi4
  have s2:=s1.new (id:=im) (o := .map none []) (by simp only[ad.set_none];exact him)
  have s3:=(s2.new (id:=inx) (o := .cells 1 (List.replicate d.next.l.length (.rd 0 [] true))) (by simp only[ad.set_none];exact hinx)).grid0 3 rfl
  have s4:=(s3.new (id:=io) (o:=mN) (by simp only[ad.set_none];exact hid)).put 4 (.cells 0 [.rd 0 [] true,.own inx 1 1 0 d.next.l.length none,d.tags.iv]) rfl
  have e1:(List.replicate (d.next.l.length:Int).toNat [AV.rd 0 [] true]).flatten=List.replicate d.next.l.length (.rd 0 [] true):=jn _ _
  rw[e1]
  exact(s4.nil 1).nil 1
 intro h1 hS
 have hold:=hS.get (i:=0) rfl
 have hw1:h1.get iw=_:=(hold iw hiw).trans hw'
 repeat' first|apply ac|(apply gw;first|refine au rx_ ?_|(apply gq6;first|refine bk rx_ ?_|refine aw rfl ?_)|refine am rfl hq_ Lm b_ pv_ ?_)|apply al|apply aa
 refine bD d.parts.l.length (fun k env h'=>∃ vp vk PL,PL.map (·.l)=iu d.plain (dF (mg d.plain.row Ls) (en κ d.plain.row Ls) k)∧(cV PL).length≤(cV (d.parts.l.take k)).length∧Sep h' (nJ h i4 im inx io d.next.l.length (List.replicate d.next.l.length (.rd 0 [] true)) (List.replicate d.next.l.length []) d.tags.iv vp vk ((dF (mg d.plain.row Ls) (en κ d.plain.row Ls) k).map (kf κ d.plain.row Ls)) PL ((dF (mg d.plain.row Ls) (en κ d.plain.row Ls) k).map fun ks=>ks.headD 0))∧env.has [(0,.ptr iw 0 0),(1,gK Ls),(4,.ptr i4 0 0),(5,.map im),(6,.ptr io 0 0),(7,vk),(41,d.parts.mv Rw.sv),(42,.int .i64 d.parts.l.length),(43,.int .i64 k)]) ⟨_,_,[],rfl,by simp[cV],hS,hh_⟩ ?_
 clear hS hold hw1
 rintro k env h' hk ⟨vp,vk,PL,hPL,hcl,hS,he⟩
 obtain⟨env,rfl⟩:=he.ex
 clear he
 have hold:=hS.get (i:=0) rfl
 have hw1:h'.get iw=_:=(hold iw hiw).trans hw'
 have hglen:=uA (mg d.plain.row Ls) (en κ d.plain.row Ls) k
 have hgsucc:=oD (mg d.plain.row Ls) (en κ d.plain.row Ls) k
 have hG2:=pm (lv:=mg d.plain.row Ls) (mh (κ:=κ) (R:=d.plain.row) (L:=Ls)) mG lL k
 by_cases hk2:k<d.parts.l.length
 ·obtain⟨p,hp⟩:=aK hk2
  generalize hGg:dF (mg d.plain.row Ls) (en κ d.plain.row Ls) k=GG at *
  repeat' first|apply ac|(apply gw;first|refine au rx_ ?_|(apply gq2;first|refine aF rx_ ?_|refine aB rfl b_ pv_ ?_)|(apply gq3;first|refine aC rx_ ?_|refine aQ rx_ ?_|(refine aA rfl rfl rfl ?_ ?_<;>(intro hc;try omega)))|(apply gq5;first|refine aS rx_ ?_|refine aU rx_ ?_|refine ah rfl rfl hp Ll rfl ?_)|(apply gq6;first|refine bk rx_ ?_|refine aw rfl ?_)|refine bj rfl rfl ?_)|(apply gx;first|apply af|refine ae rfl ?_|apply ay|apply al|refine ak rfl ?_)|apply aa
  refine bD Ls.length (fun j env h'=>∃ vb,Sep h' (nJ h i4 im inx io d.next.l.length (List.replicate d.next.l.length (.rd 0 [] true)) (List.replicate d.next.l.length []) d.tags.iv vp vk (GG.map (kf κ d.plain.row Ls)) PL (GG.map fun ks=>ks.headD 0)++[cA vb 1 (cq (vec κ d.plain.row (Ls.take j) k)).length (bn (cq (vec κ d.plain.row (Ls.take j) k)))])∧env.has [(0,.ptr iw 0 0),(1,gK Ls),(4,.ptr i4 0 0),(5,.map im),(6,.ptr io 0 0),(7,vk),(8,.int .i64 k),(9,p.sv),(10,vb),(11,.bool (mg d.plain.row (Ls.take j) k)),(41,d.parts.mv Rw.sv),(42,.int .i64 d.parts.l.length),(43,.int .i64 k),(49,gK Ls),(50,.int .i64 Ls.length),(51,.int .i64 j)]) ⟨_,hS.nil 1,hh_⟩ ?_
  clear hS hold hw1
  rintro j env h' hj ⟨vb,hS,he⟩
  obtain⟨env,rfl⟩:=he.ex
  clear he
  have hold:=hS.get (i:=0) rfl
  have hw1:h'.get iw=_:=(hold iw hiw).trans hw'
  have hvb:aD h' vb 1 _ _:=hS.get (i:=7) rfl
  have hnb:=hvb.notTup
  have hwl:(cq (vec κ d.plain.row (Ls.take j) k)).length≤20000:=by
   have h1:=pC (l:=vec κ d.plain.row (Ls.take j) k) fun x hx=>by
    obtain⟨s,_,rfl⟩:=List.mem_map.1 hx
    exact hkr _
   have h2:(vec κ d.plain.row (Ls.take j) k).length≤2000:=by
    unfold vec
    rw[List.length_map,List.length_take]
    omega
   omega
  by_cases hj2:j<Ls.length
  ·obtain⟨s,hs⟩:=aK hj2
   have hsi:=hLin s (List.mem_of_getElem? hs)
   obtain⟨row,hrow,hrr,hrl⟩:=hrw hsi
   have hs0:(s.toNat:Int)=s:=by unfold In at hsi;omega
   obtain⟨x,hx⟩:=aK (l:=row.l) (i:=k) Ll
   have hxc:col d.plain.row s k=x:=by unfold col;rw[← hrr];simp[List.getD_eq_getElem?_getD,hx]
   have hxo:=htab.col hsi k
   rw[hxc]at hxo
   have hxr:=hkr x
   have hvn:cq (vec κ d.plain.row (Ls.take (j+1)) k)=cq (vec κ d.plain.row (Ls.take j) k)++(32::dP (κ x)):=by
    unfold vec
    rw[aV hs,List.map_append,pD,List.map_singleton,hxc]
    simp[cq]
   have han:mg d.plain.row (Ls.take (j+1)) k=if x = -1 then mg d.plain.row (Ls.take j) k else true:=by
    unfold mg
    rw[aV hs,List.any_append]
    by_cases e:x = -1<;>simp[hxc,e]
   generalize hW:cq (vec κ d.plain.row (Ls.take j) k)=W at *
   generalize hso:mg d.plain.row (Ls.take j) k=so at *
   by_cases hx1:x = -1<;>cases so
   all_goals
    repeat' first|apply ac|(apply gw;first|refine au rx_ ?_|(apply gq2;first|refine aF rx_ ?_|refine aB rfl b_ pv_ ?_|refine am rfl hq_ Lm b_ pv_ ?_)|(apply gq3;first|refine aC rx_ ?_|refine aQ rx_ ?_|((first|refine aA rfl rfl rfl ?_ ?_|refine eK rfl rfl rfl ?_ ?_)<;>(intro hc;try omega)))|(apply gq5;first|refine aS rx_ ?_|refine aU rx_ ?_|refine ah rfl rfl hrow Ll rfl ?_|refine ah rfl rfl hx Ll rfl ?_|refine dN rfl rfl rfl (by assumption) rfl ?_)|(apply lp;first|refine cn rx_ ?_|refine cm rx_ ?_|(refine aY (m:=1) rx_ iq_ rfl rfl Ll ?_;intro va hpa hra hka hria))|(apply gq4;first|refine aL rx_ ?_|refine ar rfl (Nat.zero_add _) ?_)|(apply gq1;first|refine cf rfl ?_|refine cj rfl ?_)|(apply gq7;first|refine bi rfl rfl ?_|refine bb rfl rfl ?_)|refine br rfl ?_|refine bj (cs:=[AV.int _ _]) rfl rfl ?_)|(apply gx;first|apply af|refine ae rfl ?_|apply ay|apply al|refine ak rfl ?_)|apply aa
    have hS2:=hS.upd 7 (cA va 1 (W.length+1) (bn W++[.int .u8 32])) rfl hra hka hria
    have hold2:=hS2.get (i:=0) rfl
    have hw2:hpa.get iw=_:=(hold2 iw hiw).trans hw'
    repeat' first|(apply gw;first|refine au rx_ ?_|(apply gq2;first|refine aF rx_ ?_|refine aB rfl b_ pv_ ?_|refine am rfl hq_ Lm b_ pv_ ?_)|(apply gq5;first|refine aS rx_ ?_|refine aU rx_ ?_|refine ah rfl rfl hrow Ll rfl ?_|refine ah rfl rfl hx Ll rfl ?_)|refine aH rfl nt_ ?_)
    refine kL Ll (hkind (hold2 iw hiw) hxo) ?_
    repeat' first|refine aH rfl nt_ ?_
    refine ci (kC L hra Ll (κ x) Ll Ll) ?_
    rintro v2 h2 ⟨hv2,hk3,hi3⟩
    have hnt2:=hv2.notTup
    have hS3:=hS2.upd 7 (cA v2 1 (W.length+1+(dP (κ x)).length) (bn W++[.int .u8 32]++bn (dP (κ x)))) rfl hv2 hk3 hi3
    repeat' first|apply ac|(apply gw;first|refine au rx_ ?_|(apply gq3;first|refine aC rx_ ?_|refine aT rfl rfl rfl Ll Ll ?_))|refine ae rfl ?_|apply aa|apply aI
    refine aR hj2 ?_
    rw[han]
    first
     | rw[if_pos hx1]
     | rw[if_neg hx1]
    refine⟨v2,?_,hh_⟩
    rw[hvn]
    have e1:(W++(32::dP (κ x))).length=W.length+1+(dP (κ x)).length:=by simp;omega
    have e2:bn (W++(32::dP (κ x)))=bn W++[AV.int .u8 32]++bn (dP (κ x)):=by simp[bn]
    rw[e1,e2]
    exact hS3
  ·rw[List.take_of_length_le Ll]at hS hvb hwl ⊢
   have hm:=hS.get (i:=2) rfl
   have hns:vb.isStr=false:=hvb.app.notStr
   cases hso:mg d.plain.row Ls k
   ·have hg2:dF (mg d.plain.row Ls) (en κ d.plain.row Ls) (k+1)=GG:=by
     rw[hgsucc,qX,hso];rfl
    have hSx:=hS.drop 7 (h':=h') rfl fun _ _=>rfl
    apply af
    repeat' first|apply ac|(apply gw;first|refine au rx_ ?_|(apply gq3;first|refine aC rx_ ?_|refine aQ rx_ ?_|(refine aA rfl rfl rfl ?_ ?_<;>(intro hc;try omega))))|(apply gx;first|apply af|refine ae rfl ?_|apply aN|refine ai rfl ?_)|apply aa|apply aO|apply aP|apply aX
    refine lP rfl hns (gd hvb) ?_
    refine jk (key:=AV.str (cq (vec κ d.plain.row Ls k))) rfl rfl rfl hm ?_
    generalize iN _ _=o
    cases o
    all_goals
     repeat' first|apply ac|(apply gw;first|refine au rx_ ?_|(apply gq3;first|refine aC rx_ ?_|refine aT rfl rfl rfl Ll Ll ?_)|refine dh (b:=false) rfl ?_|refine ce rfl rfl ?_)|(apply gx;first|apply af|refine ae rfl ?_|apply ay|apply al|refine ak rfl ?_)|apply aa|apply aI
     refine aR hk2 ⟨vp,vk,PL,?_,?_,?_,hh_⟩
     ·rw[hg2];exact hPL
     ·exact Nat.le_trans hcl (by rw[j0 hp];simp)
     ·rw[hg2];exact hSx
   ·have hPLl:PL.length=GG.length:=by
     have:=congrArg List.length hPL
     simpa[iu] using this
    have hpp:d.plain.part k=p.l:=by simp[PD.part,Dfa.plain,cu,List.getD_eq_getElem?_getD,hp]
    have hvk:aD h' vk 1 _ _:=hS.get (i:=6) rfl
    have hvp:aD h' vp 1 _ _:=hS.get (i:=5) rfl
    have hio:h'.get io=some (.cells 0 [vp,.own inx 1 1 0 d.next.l.length none,d.tags.iv]):=hS.get (i:=4) rfl
    have hnk:=hvk.notTup
    have hnp:=hvp.notTup
    rw[List.length_map]at hvk
    apply af
    repeat' first|apply ac|(apply gw;first|refine au rx_ ?_|(apply gq3;first|refine aC rx_ ?_|refine aQ rx_ ?_|(refine aA rfl rfl rfl ?_ ?_<;>(intro hc;try omega))))|(apply gx;first|apply af|refine ae rfl ?_|apply aN|refine ai rfl ?_)|apply aa|apply aO|apply aP|apply aX
    refine lP rfl hns (gd hvb) ?_
    refine jk (key:=AV.str (cq (vec κ d.plain.row Ls k))) rfl rfl rfl hm ?_
    rw[jT oX]
    by_cases hmem:cq (vec κ d.plain.row Ls k)∈GG.map (kf κ d.plain.row Ls)
    ·rw[if_pos hmem]
     have hfind:=(uW GG).1 hmem
     have hlt:=nC hmem
     generalize dg (GG.map (kf κ d.plain.row Ls)) (cq (vec κ d.plain.row Ls k))=g at *
     rw[List.length_map]at hlt
     obtain⟨ks,hks⟩:=aK hlt
     obtain⟨a,ha⟩:=aK (l:=PL) (i:=g) Ll
     have hksne:=hG2.ne ks (List.mem_of_getElem? hks)
     have hg2:dF (mg d.plain.row Ls) (en κ d.plain.row Ls) (k+1)=GG.set g (ks++[k]):=by
      rw[hgsucc,qX,hso,if_pos rfl,hfind]
      simp[List.getD_eq_getElem?_getD,hks]
     have hal:a.l=mT (ks.map d.plain.part):=by
      have h1:=v8 (d:=d.plain) hks
      rw[← hPL,List.getElem?_map,ha]at h1
      exact Option.some.inj h1
     have hsz:=pq ha
     have hcs:=j0 hp
     have hcs2:=jC d.parts.l (k+1)
     rw[hcs,List.length_append]at hcs2
     have hcat2:cV [a,p]=a.l++p.l:=by simp[cV]
     have hu:=yV L L1 S G [a,p] true Lm (by rw[hcat2,List.length_append];omega)
     rw[hcat2]at hu
     have hu:eQ Φ 119 [.rd 2 [a.sv,p.sv] true] (.rd (bd (a.l++p.l)).length ((bd (a.l++p.l)).flatMap aj.av) false):=hu
     rw[Nat.zero_add]
     repeat' first|apply ac|(apply gw;first|refine au rx_ ?_|(apply gq2;first|refine aF rx_ ?_|refine eH (g:=_) rfl hq_ ha eq_ ?_|refine am rfl hq_ Lm b_ pv_ ?_)|(apply gq3;first|refine aC rx_ ?_|refine aT rfl rfl rfl Ll Ll ?_)|(apply gq5;first|refine aS rx_ ?_|refine aU rx_ ?_|(refine cY rx_ (by assumption) rfl Ll Ll ?_;intro ir gr hvr hgr hgp;have hner:=ad.ne_of hgr;have hner2:=ad.ne_of2 hgr))|(apply jI;first|refine bq rx_ ?_|refine bp rx_ ?_|refine bh (v:=AV.rd _ _ _) rfl rfl hq_ rfl rfl b_ sv_ ?_)|(apply gq4;first|refine aL rx_ ?_|refine ar rfl (Nat.zero_add _) ?_)|refine aH rfl nt_ ?_|refine bj rfl rfl ?_|refine dh (b:=true) rfl ?_|refine ce rfl rfl ?_)|(apply gx;first|apply af|refine ae rfl ?_|apply al|refine ak rfl ?_|refine ai rfl ?_)|apply aa|apply aI|refine aW (by assumption) fz_ fz_ ?_
     refine aR hk2 ⟨vp,vk,PL.set g ⟨bd (a.l++p.l),false⟩,?_,?_,?_,hh_⟩
     ·rw[hg2,yU d.plain hks hksne,← hal,hpp,List.map_set,hPL]
     ·have h1:=HF ha ⟨bd (a.l++p.l),false⟩
      have h2:=v9 (a:=a.l) (b:=p.l) (by rw[hal];exact n7 hok ks) (by rw[← hpp];exact ga hok k)
      rw[hcs,List.length_append]
      dsimp only at h1
      omega
     ·rw[hg2,qS hks (show kf κ d.plain.row Ls (ks++[k])=kf κ d.plain.row Ls ks by unfold kf;rw[su hksne]),qS hks (su hksne k)]
      have hS2:=(hS.rowset 5 ((PL.set g ⟨bd (a.l++p.l),false⟩).map Rw.sv) rfl hvr hgp Lm).drop 7 rfl fun _ _=>rfl
      have e7:(PL.map Rw.sv).set ((g:Int).toNat*1) (.rd (bd (a.l++p.l)).length ((bd (a.l++p.l)).flatMap aj.av) false)=(PL.set g ⟨bd (a.l++p.l),false⟩).map Rw.sv:=by
       rw[show(g:Int).toNat*1=g by omega,List.map_set]
      simp only[nJ,List.length_set]
      rw[e7]
      exact hS2
    ·rw[if_neg hmem]
     have hfind:=(uW GG).2 hmem
     have hg2:dF (mg d.plain.row Ls) (en κ d.plain.row Ls) (k+1)=GG++[[k]]:=by
      rw[hgsucc,qX,hso,if_pos rfl,hfind]
     repeat' first|apply ac|(apply gw;first|refine au rx_ ?_|refine dh (b:=true) rfl ?_|refine ce rfl rfl ?_)|(apply gx;first|apply af|refine ae rfl ?_|apply al|refine ai rfl ?_)|apply aa
     refine lP rfl hns (gd hvb) ?_
     repeat' first|(apply gw;first|refine au rx_ ?_|(apply gq6;first|refine bk rx_ ?_|refine eR rx_ (by assumption) ?_))
     refine gP (key:=AV.str (cq (vec κ d.plain.row Ls k))) (v:=AV.int .i64 GG.length) rfl rfl rfl rfl rfl hm ?_
     have he2:=kN oX (cq (vec κ d.plain.row Ls k)) (GG.map (kf κ d.plain.row Ls)) 0 hmem
     rw[Nat.zero_add,List.length_map]at he2
     rw[he2]
     have hS2:=hS.put 2 (.map none (bS AV.str 0 (GG.map (kf κ d.plain.row Ls)++[cq (vec κ d.plain.row Ls k)]))) rfl
     have hvk2:aD _ vk 1 _ _:=hS2.get (i:=6) rfl
     rw[List.length_map]at hvk2
     repeat' first|apply ac|(apply gw;first|refine au rx_ ?_|refine aF rx_ ?_|(apply lp;first|refine cn rx_ ?_|refine cm rx_ ?_|(refine aY (m:=1) rx_ iq_ rfl rfl Ll ?_;intro va hpa hra hka hria))|(apply gq4;first|refine aL rx_ ?_|refine ar rfl (Nat.zero_add _) ?_)|refine bj (cs:=[AV.int _ _]) rfl rfl ?_)|(apply gx;first|apply af|refine ae rfl ?_)|apply aa
     have hS3:=hS2.upd 6 (cA va 1 (GG.length+1) ((GG.map fun ks=>ks.headD 0).map gm++[.int .i64 k])) rfl hra hka hria
     have hio3:hpa.get io=some (.cells 0 [vp,.own inx 1 1 0 d.next.l.length none,d.tags.iv]):=hS3.get (i:=4) rfl
     have hvp3:aD hpa vp 1 _ _:=hS3.get (i:=5) rfl
     clear hS2 hvk2 hka hria hS hra
     repeat' first|(apply gw;first|refine au rx_ ?_|(apply jI;first|refine bq rx_ ?_|refine bp rx_ ?_)|(apply lp;first|refine cn rx_ ?_|refine cm rx_ ?_|(refine aY (m:=1) rx_ iq_ rfl rfl Ll ?_;intro va hpa hra hka hria))|(apply gq4;first|refine aL rx_ ?_|refine ar rfl (Nat.zero_add _) ?_)|refine am rfl hq_ Lm b_ pv_ ?_|refine bj (cs:=[AV.rd _ _ _]) rfl rfl ?_)
     rename_i vk2 hpa1
     have hS4:=hS3.upd 5 (cA va 1 (PL.length+1) (PL.map Rw.sv++[p.sv])) rfl hra hka hria
     have hio4:hpa.get io=some (.cells 0 [vp,.own inx 1 1 0 d.next.l.length none,d.tags.iv]):=hS4.get (i:=4) rfl
     refine ck (v:=va) (cs':=[va,.own inx 1 1 0 d.next.l.length none,d.tags.iv]) rfl rfl hra hio4 Lm rfl ?_
     have hS5:=(hS4.put 4 (.cells 0 [va,.own inx 1 1 0 d.next.l.length none,d.tags.iv]) rfl).drop 7 rfl fun _ _=>rfl
     repeat' first|apply ac|(apply gw;first|refine au rx_ ?_|(apply gq3;first|refine aC rx_ ?_|refine aT rfl rfl rfl Ll Ll ?_))|refine ae rfl ?_|apply aa|apply aI
     refine aR hk2 ⟨va,vk2,PL++[p],?_,?_,?_,hh_⟩
     ·rw[hg2,v7,List.map_append,hPL,hpp];rfl
     ·rw[Am,j0 hp,List.length_append];omega
     ·rw[hg2]
      simp only[nJ,List.map_append,List.map_singleton,List.length_append,List.length_map,List.length_singleton]
      exact hS5
 ·have hk3:k=d.parts.l.length:=by omega
  have hGd:dF (mg d.plain.row Ls) (en κ d.plain.row Ls) k=d.plain.G κ:=by
   unfold PD.G
   rw[hLs,hpl,hk3]
  rw[hGd]at hPL hS hglen hG2
  clear hgsucc
  have hvk:aD h' vk 1 _ _:=hS.get (i:=6) rfl
  rw[List.length_map]at hvk
  have hPLl:PL.length=(d.plain.G κ).length:=by
   have:=congrArg List.length hPL
   simpa[iu] using this
  repeat' first|apply ac|(apply gw;first|refine au rx_ ?_|(apply gq3;first|refine aC rx_ ?_|refine aQ rx_ ?_|(refine aA rfl rfl rfl ?_ ?_<;>(intro hc;try omega)))|(apply gq6;first|refine bk rx_ ?_|refine eS rfl ?_|refine eR rx_ (by assumption) ?_)|(refine ix rfl rfl Ll Ll ?_;intro id hid;try simp only[ad.set_none]at hid))|(apply gx;first|apply af|refine ae rfl ?_|apply al|apply aN|refine ai rfl ?_)|apply aa|apply aO|apply aP|apply aX
  have e1:(List.replicate ((d.plain.G κ).length:Int).toNat [AV.int .i64 0]).flatten=List.replicate (d.plain.G κ).length (.int .i64 0):=jn _ _
  rw[e1]
  generalize hm:(d.plain.G κ).length=m at *
  have hS1:=hS.new (o := .cells 1 (List.replicate m (.int .i64 0))) hid
  clear e1 hS hvk
  refine bD m (fun j env h'=>Sep h' (nJ h i4 im inx io d.next.l.length (List.replicate d.next.l.length (.rd 0 [] true)) (List.replicate d.next.l.length []) d.tags.iv vp vk ((d.plain.G κ).map (kf κ d.plain.row Ls)) PL ((d.plain.G κ).map fun ks=>ks.headD 0)++[bU id (.cells 1 ((List.range j).map gm++List.replicate (m-j) (.int .i64 0)))])∧env.has [(0,.ptr iw 0 0),(4,.ptr i4 0 0),(6,.ptr io 0 0),(7,vk),(16,.own id 1 1 0 m none),(132,.int .i64 m),(133,.int .i64 j)]) ⟨by simpa using hS1,hh_⟩ ?_
  clear hS1 hid
  rintro j env h' hj ⟨hS,he⟩
  obtain⟨env,rfl⟩:=he.ex
  clear he
  have hat:h'.get id=some (.cells 1 ((List.range j).map gm++List.replicate (m-j) (.int .i64 0))):=hS.get (i:=7) rfl
  by_cases hj2:j<m
  ·repeat' first|apply ac|(apply gw;first|refine au rx_ ?_|(apply gq3;first|refine aC rx_ ?_|refine aQ rx_ ?_|refine aT rfl rfl rfl Ll Ll ?_|(refine aA rfl rfl rfl ?_ ?_<;>(intro hc;try omega)))|(apply gq5;first|refine aS rx_ ?_|refine aU rx_ ?_|refine bv rfl rfl Ll Ll ?_)|(apply jI;first|refine bq rx_ ?_|refine bp rx_ ?_|refine bh (v:=AV.int _ _) rfl rfl hq_ rfl rfl b_ sv_ ?_))|(apply gx;first|apply af|refine ae rfl ?_|apply ay|apply al|refine ak rfl ?_)|apply aa|apply aI
   refine aR hj2 ⟨?_,hh_⟩
   have hS2:=hS.put 7 (.cells 1 (((List.range j).map gm++List.replicate (m-j) (AV.int .i64 0)).set j (gm j))) rfl
   rw[lg Lm hj2]at hS2
   rw[List.range_succ,List.map_append,List.map_singleton]
   have e8:((List.range j).map gm++List.replicate (m-j) (AV.int .i64 0)).set ((j:Int).toNat*1) (AV.int .i64 j)=(List.range j).map gm++[gm j]++List.replicate (m-(j+1)) (.int .i64 0):=by
    rw[show(j:Int).toNat*1=j by omega]
    exact lg Lm hj2
   rw[e8]
   exact hS2
  ·have hj3:j=m:=by omega
   subst hj3
   rw[Nat.sub_self,List.replicate_zero,List.append_nil]at hS hat
   have hvp:aD h' vp 1 PL.length (PL.map Rw.sv):=hS.get (i:=5) rfl
   have hio:h'.get io=some (.cells 0 [vp,.own inx 1 1 0 d.next.l.length none,d.tags.iv]):=hS.get (i:=4) rfl
   have hdio:id≠io:=fun e=>hS.disj (i:=7) (j:=4) rfl rfl (by decide) id rfl e
   have hsort:bc Φ 120 [.own id 1 1 0 j none,.fn 121 [.ptr io 0 0]] h' (fun _ h2=>Sep h2 (nJ h i4 im inx io d.next.l.length (List.replicate d.next.l.length (.rd 0 [] true)) (List.replicate d.next.l.length []) d.tags.iv vp vk ((d.plain.G κ).map (kf κ d.plain.row Ls)) PL ((d.plain.G κ).map fun ks=>ks.headD 0)++[bU id (.cells 1 ((d.plain.O κ).map gm))])):=by
    refine bc.ext rfl J.lo ⟨rfl,rfl,rfl,rfl,?_⟩
    have hOl:(d.plain.O κ).length=j:=by rw[AD];exact hm
    rcases hvp with⟨rfl,h0,_⟩|⟨ip,gp,rfl,hip,hgp1,_⟩
    ·left
     refine⟨by omega,⟨_,hat⟩,?_⟩
     have h1:d.plain.O κ=[]:=List.eq_nil_of_length_eq_zero Ll
     have h2:j=0:=by omega
     subst h2
     rw[h1]
     exact hS
    ·right
     refine⟨_,(List.range j).map (fun i:Nat=>(i:Int)),ip,gp,PL.length,PL.map Rw.sv,_,hat,by simp,by omega,?_,hdio,fun e=>hS.disj (i:=7) (j:=5) rfl rfl (by decide) id rfl (by rw[e];rfl),hio,hip,by simp,fun z hz=>?_,fun v hv=>?_,fun zs' hp hs=>?_⟩
     ·rw[List.take_of_length_le Lm,fC,List.map_map];rfl
     ·obtain⟨i,hi,rfl⟩:=List.mem_map.1 hz
      rw[List.mem_range]at hi
      omega
     ·obtain⟨r,hr,rfl⟩:=List.mem_map.1 hv
      have hrl:r.l∈iu d.plain (d.plain.G κ):=hPL ▸ List.mem_map.2 ⟨r,hr,rfl⟩
      obtain⟨g,hg,hge⟩:=List.getElem_of_mem hrl
      have hg2:g<(d.plain.G κ).length:=by simpa[iu] using hg
      have hnn:=xq hok hne hK hg2
      rw[show(iu d.plain (d.plain.G κ)).getD g []=r.l by rw[← hge];simp[List.getD_eq_getElem?_getD,hg]]at hnn
      obtain⟨rl,rf⟩:=r
      cases rl with
      | nil=>exact absurd rfl hnn
      | cons a l=>exact⟨l.length+1,a.lo,a.hi,l.flatMap aj.av,rf,rfl,by omega⟩
     ·have hz:zs'=(d.plain.O κ).map fun i:Nat=>(i:Int):=by
       have h1:=JJ (m:=(d.plain.G κ).length) (key:=fun g=>iJ ((iu d.plain (d.plain.G κ)).getD g [])) (zs:=zs') (by rw[hm];exact hp) (by
        refine List.Pairwise.imp_of_mem (fun {a b} ha hb hab=>?_) hs
        have key:∀ {a:Int},a∈zs'→fM ((PL.map Rw.sv).getD a.toNat .undef)=iJ ((iu d.plain (d.plain.G κ)).getD a.toNat []):=fun {a} ha=>by
         have ha2:=hp.mem_iff.1 ha
         obtain⟨i,hi,rfl⟩:=List.mem_map.1 ha2
         rw[List.mem_range]at hi
         obtain⟨r,hr⟩:=aK (l:=PL) (i:=i) Ll
         rw[← hPL]
         simp only[List.getD_eq_getElem?_getD,List.getElem?_map,Int.toNat_natCast,hr,Option.map_some,Option.getD_some]
         obtain⟨rl,rf⟩:=r
         cases rl<;>rfl
        rw[key ha,key hb]at hab
        exact hab) (JP hok hne hK)
       exact h1
      have hS2:=hS.put 7 (.cells 1 ((d.plain.O κ).map gm)) rfl
      have e9:fC zs'++((List.range j).map gm).drop j=(d.plain.O κ).map gm:=by
       rw[List.drop_of_length_le Lm,List.append_nil,hz,fC,List.map_map];rfl
      rw[e9]
      exact hS2
   repeat' first|apply ac|(apply gw;first|refine au rx_ ?_|(apply gq3;first|refine aC rx_ ?_|refine aQ rx_ ?_|(refine aA rfl rfl rfl ?_ ?_<;>(intro hc;try omega)))|refine aH rfl nt_ ?_|refine qC (vs:=[AV.ptr _ _ _]) rfl rfl ?_)|(apply gx;first|apply af|refine ae rfl ?_|apply aN|refine ai rfl ?_)|apply aa|apply aO|apply aP|apply aX
   refine ci hsort ?_
   clear hsort hS hat hvp hio
   rintro _ h2 hS
   have hOl:(d.plain.O κ).length=j:=by rw[AD];exact hm
   have hCl:(d.plain.cols κ).length=j:=by rw[Aj];exact hm
   repeat' first|apply ac|(apply gw;first|refine au rx_ ?_|(apply gq6;first|refine bk rx_ ?_|refine eS rfl ?_))|(apply gx;first|apply af|refine ae rfl ?_|apply al)|apply aa
   refine bD j (fun i env h'=>∃ vpp ws,Sep h' (nJ h i4 im inx io d.next.l.length ws ((eL d.plain.next d.next.l.length ((d.plain.cols κ).take i) ((d.plain.cols κ).take i) 0).map iC) d.tags.iv vp vk ((d.plain.G κ).map (kf κ d.plain.row Ls)) PL ((d.plain.G κ).map fun ks=>ks.headD 0)++[bU id (.cells 1 ((d.plain.O κ).map gm)),cA vpp 1 i (((d.plain.O κ).take i).map fun g=>(PL.getD g ⟨[],false⟩).sv)])∧env.has [(0,.ptr iw 0 0),(4,.ptr i4 0 0),(6,.ptr io 0 0),(7,vk),(18,vpp),(144,.own id 1 1 0 j none),(145,.int .i64 j),(146,.int .i64 i)]) ⟨_,List.replicate d.next.l.length (.rd 0 [] true),?_,hh_⟩ ?_
   ·have e1:(eL d.plain.next d.next.l.length ((d.plain.cols κ).take 0) ((d.plain.cols κ).take 0) 0).map iC=List.replicate d.next.l.length []:=by
     refine List.ext_getElem (by simp[eL]) fun q h1 h2=>?_
     simp[eL]
    rw[e1]
    exact hS.nil 1
   clear hS
   rintro i env h' hi ⟨vpp,ws,hS,he⟩
   obtain⟨env,rfl⟩:=he.ex
   clear he
   have hold:=hS.get (i:=0) rfl
   have hio:h'.get io=some (.cells 0 [vp,.own inx 1 1 0 d.next.l.length none,d.tags.iv]):=hS.get (i:=4) rfl
   have hvp:aD h' vp 1 PL.length (PL.map Rw.sv):=hS.get (i:=5) rfl
   have hord:h'.get id=some (.cells 1 ((d.plain.O κ).map gm)):=hS.get (i:=7) rfl
   have hvpp:aD h' vpp 1 i _:=hS.get (i:=8) rfl
   have hnpp:=hvpp.notTup
   by_cases hi2:i<j
   ·obtain⟨g,hg⟩:=aK (l:=d.plain.O κ) (i:=i) Ll
    have hgl:g<(d.plain.G κ).length:=iI.1 (List.mem_of_getElem? hg)
    obtain⟨pg,hpg⟩:=aK (l:=PL) (i:=g) Ll
    have hpgd:PL.getD g ⟨[],false⟩=pg:=by simp[List.getD_eq_getElem?_getD,hpg]
    repeat' first|apply ac|(apply gw;first|refine au rx_ ?_|(apply gq2;first|refine aF rx_ ?_|refine eH (g:=_) rfl hq_ hg eq_ ?_|refine eH (g:=_) rfl hq_ hpg eq_ ?_|refine am rfl hq_ Lm b_ pv_ ?_)|(apply gq3;first|refine aC rx_ ?_|refine aQ rx_ ?_|(refine aA rfl rfl rfl ?_ ?_<;>(intro hc;try omega)))|(apply gq5;first|refine aS rx_ ?_|refine aU rx_ ?_|refine bv rfl rfl Ll Ll ?_|(refine cY rx_ (by assumption) rfl Ll Ll ?_;intro ir gr hvr hgr hgp;have hner:=ad.ne_of hgr;have hner2:=ad.ne_of2 hgr))|(apply lp;first|refine cn rx_ ?_|refine cm rx_ ?_|(refine aY (m:=1) rx_ iq_ rfl rfl Ll ?_;intro va hpa hra hka hria))|(apply gq4;first|refine aL rx_ ?_|refine ar rfl (Nat.zero_add _) ?_)|refine br rfl ?_|refine bj (cs:=[AV.rd _ _ _]) rfl rfl ?_)|(apply gx;first|apply af|refine ae rfl ?_|apply ay|apply al|refine ak rfl ?_)|apply aa
    have hS2:=hS.upd 8 (cA va 1 (i+1) ((((d.plain.O κ).take i).map fun g=>(PL.getD g ⟨[],false⟩).sv)++[pg.sv])) rfl hra hka hria
    have hold2:=hS2.get (i:=0) rfl
    have hw2:hpa.get iw=_:=(hold2 iw hiw).trans hw'
    clear hS hold hio hvp hord hvpp hnpp hra hka hria
    repeat' first|apply ac|(apply gw;first|refine au rx_ ?_|(apply gq6;first|refine bk rx_ ?_|refine aw rfl ?_)|refine am rfl hq_ Lm b_ pv_ ?_)|apply al|apply aa
    obtain⟨c,hc⟩:=aK (l:=d.plain.cols κ) (i:=i) Ll
    have hkg:((d.plain.G κ).map fun ks=>ks.headD 0)[g]?=some c:=by
     have h1:(d.plain.cols κ)[i]?=some (((d.plain.G κ).getD g []).headD 0):=by
      unfold PD.cols
      rw[List.getElem?_map,hg];rfl
     rw[hc]at h1
     rw[Option.some.inj h1,List.getElem?_map,List.getElem?_eq_getElem hgl]
     simp[List.getD_eq_getElem?_getD,hgl]
    have hcp:c<d.parts.l.length:=by
     have:=(yu hok hK (List.mem_of_getElem? hc)).1
     omega
    have htk:(d.plain.cols κ).take (i+1)=(d.plain.cols κ).take i++[c]:=aV hc
    refine bD d.next.l.length (fun q env h'=>∃ ws,Sep h' (nJ h i4 im inx io d.next.l.length ws ((eL d.plain.next d.next.l.length ((d.plain.cols κ).take i) ((d.plain.cols κ).take i++[c]) q).map iC) d.tags.iv vp vk ((d.plain.G κ).map (kf κ d.plain.row Ls)) PL ((d.plain.G κ).map fun ks=>ks.headD 0)++[bU id (.cells 1 ((d.plain.O κ).map gm)),cA va 1 (i+1) ((((d.plain.O κ).take i).map fun g=>(PL.getD g ⟨[],false⟩).sv)++[pg.sv])])∧env.has [(0,.ptr iw 0 0),(4,.ptr i4 0 0),(6,.ptr io 0 0),(7,vk),(18,va),(20,.int .i64 g),(144,.own id 1 1 0 j none),(145,.int .i64 j),(146,.int .i64 i),(162,d.next.mv Rw.iv),(163,.int .i64 d.next.l.length),(164,.int .i64 q)]) ⟨ws,by rw[oe _ _ _ _ ((d.plain.cols κ).take i)];exact hS2,hh_⟩ ?_
    clear hS2 hold2 hw2
    rintro q env h' hq ⟨ws,hS,he⟩
    obtain⟨env,rfl⟩:=he.ex
    clear he
    have hio:h'.get io=some (.cells 0 [vp,.own inx 1 1 0 d.next.l.length none,d.tags.iv]):=hS.get (i:=4) rfl
    have hvk:aD h' vk 1 _ _:=hS.get (i:=6) rfl
    have hgr:eG h' inx ws _:=hS.get (i:=3) rfl
    have hwl:=hgr.len
    rw[List.length_map,mJ]at hwl
    rw[List.length_map]at hvk
    by_cases hq2:q<d.next.l.length
    ·obtain⟨r,hr⟩:=aK hq2
     obtain⟨w,hw⟩:=aK (l:=ws) (i:=q) Ll
     have hrl:=hf.rows r (List.mem_of_getElem? hr)
     obtain⟨x,hx⟩:=aK (l:=r.l) (i:=c) Ll
     have hrx:(d.plain.next.getD q []).getD c (-1)=x:=by
      have:d.plain.next.getD q []=r.l:=by simp[Dfa.plain,cG,List.getD_eq_getElem?_getD,hr]
      rw[this];simp[List.getD_eq_getElem?_getD,hx]
     have hat:=hgr.at_
     have hrow:=hgr.row hw (by rw[List.getElem?_map,tS hq2];rfl)
     rw[List.length_map,List.length_map,List.length_take]at hrow
     have hmin:min i (d.plain.cols κ).length=i:=by omega
     rw[hmin]at hrow
     repeat' first|apply ac|(apply gw;first|refine au rx_ ?_|(apply gq2;first|refine aF rx_ ?_|refine jW (g:=_) rfl hq_ hw eq_ Lm ?_|refine eH (g:=_) rfl hq_ hkg eq_ ?_|refine aB rfl b_ pv_ ?_|refine am rfl hq_ Lm b_ pv_ ?_)|(apply gq3;first|refine aC rx_ ?_|refine aQ rx_ ?_|(refine aA rfl rfl rfl ?_ ?_<;>(intro hc;try omega)))|(apply gq5;first|refine aS rx_ ?_|refine aU rx_ ?_|refine ah rfl rfl hr Ll rfl ?_|refine ah rfl rfl hx Ll rfl ?_|refine bv rfl rfl Ll Ll ?_|(refine cY rx_ (by assumption) rfl Ll Ll ?_;intro ir gr hvr hgr hgp;have hner:=ad.ne_of hgr;have hner2:=ad.ne_of2 hgr))|(apply jI;first|refine bq rx_ ?_|refine bp rx_ ?_)|(apply lp;first|refine cn rx_ ?_|refine cm rx_ ?_|(refine aY (m:=1) rx_ iq_ rfl rfl Ll ?_;intro va hpa hra hka hria))|(apply gq4;first|refine aL rx_ ?_|refine ar rfl (Nat.zero_add _) ?_)|refine bj (cs:=[AV.int _ _]) rfl rfl ?_)|(apply gx;first|apply af|refine ae rfl ?_|apply ay|apply al|refine ak rfl ?_)|apply aa
     obtain⟨hS2,hg2⟩:=hS.gput 3 (j:=q) (r:=iC (((d.plain.cols κ).take i).map fun k=>(d.plain.next.getD q []).getD k (-1))++[.int .i64 x]) rfl hw (by
      rw[List.length_append,List.length_map,List.length_map,List.length_take,hmin]
      exact hra) hka hria
     refine ck (v:=va) (cs':=ws.set q va) rfl rfl hra hg2 Ll (by rw[show(0+(q:Int).toNat)*1=q by omega]) ?_
     repeat' first|apply ac|(apply gw;first|refine au rx_ ?_|(apply gq3;first|refine aC rx_ ?_|refine aT rfl rfl rfl Ll Ll ?_))|refine ae rfl ?_|apply aa|apply aI
     refine aR hq2 ⟨ws.set q va,?_,hh_⟩
     have e4:iC (((d.plain.cols κ).take i).map (fun k=>(d.plain.next.getD q []).getD k (-1))++[(d.plain.next.getD q []).getD c (-1)])=iC (((d.plain.cols κ).take i).map fun k=>(d.plain.next.getD q []).getD k (-1))++[.int .i64 x]:=by
      rw[hrx];simp[iC]
     rw[← tR hq2,List.map_set,e4]
     exact hS2
    ·have hq3:q=d.next.l.length:=by omega
     subst hq3
     rw[tT,← htk]at hS
     repeat' first|apply ac|(apply gw;first|refine au rx_ ?_|(apply gq3;first|refine aC rx_ ?_|refine aQ rx_ ?_|refine aT rfl rfl rfl Ll Ll ?_|(refine aA rfl rfl rfl ?_ ?_<;>(intro hc;try omega))))|(apply gx;first|apply af|refine ae rfl ?_|apply aN|refine ai rfl ?_)|apply aa|apply aO|apply aI|apply aP|apply aX
     refine aR hi2 ⟨va,ws,?_,hh_⟩
     rw[aV hg,List.map_append,List.map_singleton,hpgd]
     exact hS
   ·have hi3:i=j:=by omega
    subst hi3
    rw[List.take_of_length_le Ll,List.take_of_length_le Ll]at hS
    rw[List.take_of_length_le Ll]at hvpp
    have hres:h'.get i4=some mN:=hS.get (i:=1) rfl
    repeat' first|apply ac|(apply gw;first|refine au rx_ ?_|refine aF rx_ ?_|(apply gq3;first|refine aC rx_ ?_|refine aQ rx_ ?_|(refine aA rfl rfl rfl ?_ ?_<;>(intro hc;try omega)))|(apply jI;first|refine bq rx_ ?_|refine bp rx_ ?_|refine ck rfl rx_ (by assumption) hq_ b_ (by first|(simp only[List.set_cons_zero,List.set_cons_succ]<;>exact rfl)|exact rfl) ?_)|(apply gq4;first|refine aL rx_ ?_|refine ar rfl (Nat.zero_add _) ?_))|(apply gx;first|apply af|refine ae rfl ?_|apply aN|refine ai rfl ?_)|apply aa|apply aO|apply aP|apply aX
    have hS2:=hS.put 4 (.cells 0 [vpp,.own inx 1 1 0 d.next.l.length none,d.tags.iv]) rfl
    have hio2:(h'.set io (.cells 0 [vpp,.own inx 1 1 0 d.next.l.length none,d.tags.iv])).get io=some (.cells 0 [vpp,.own inx 1 1 0 d.next.l.length none,d.tags.iv]):=hS2.get (i:=4) rfl
    have hres2:(h'.set io (.cells 0 [vpp,.own inx 1 1 0 d.next.l.length none,d.tags.iv])).get i4=some mN:=hS2.get (i:=1) rfl
    repeat' first|apply ac|(apply gw;first|(apply jI;first|refine bq rx_ ?_|refine bp rx_ ?_|refine bh (v:=AV.agg _) rfl rfl hq_ rfl rfl b_ sv_ ?_)|refine am rfl hq_ Lm b_ pv_ ?_)|apply aM|apply aa
    have hS3:=hS2.put 1 (.cells 0 [vpp,.own inx 1 1 0 d.next.l.length none,d.tags.iv]) rfl
    have hvpp3:aD _ vpp 1 i _:=hS3.get (i:=8) rfl
    have hgr3:eG _ inx ws _:=hS3.get (i:=3) rfl
    have hfz:=hgr3.fz (S:=fun k=>fX inx ws k∨vpp.rowId=some k) (lim:=none) fun _ h => .inl h
    rw[List.length_map,mJ]at hfz
    refine fP (fun k=>fX inx ws k∨vpp.rowId=some k) (mY rfl (ad.get_set_self _ _ _) rfl) (.agg (.cons (hvpp3.fz _ (fun _ h => .inr h) (FzL.same _)) (.cons hfz (.cons (.same _) .nil)))) ⟨⟨(d.plain.O κ).map fun g=>PL.getD g ⟨[],false⟩,?_,?_⟩,fun k hk=>?_⟩
    ·rw[← hPL,List.map_map]
     apply List.map_congr_left
     intro g hg
     have hgl:g<PL.length:=by rw[hPLl];exact Nat.lt_of_lt_of_eq (iI.1 hg) hm
     exact(cS (fun x:Rw aj=>x.l) PL g ⟨[],false⟩ [] hgl).symm
    ·rw[List.length_map,hOl,List.map_map,List.map_map,List.map_map]
     congr 3
     unfold eL
     rw[List.map_map]
     congr 1
     apply List.map_congr_left
     intro q hq
     rw[List.mem_range]at hq
     simp only[Function.comp,Nat.not_lt_zero,if_false]
     rw[show(iC ((d.plain.cols κ).map fun k=>(d.plain.next.getD q []).getD k (-1))).length=(d.plain.R2 κ q).length by simp[PD.R2]]
     rfl
    ·have h1:¬ (fX inx ws k∨vpp.rowId=some k):=by
      rintro(h1|h1)
      ·exact hS3.disj (i:=0) (j:=3) rfl rfl (by decide) k hk h1
      ·exact hS3.disj (i:=0) (j:=8) rfl rfl (by decide) k hk h1
     simp only[ad.drop]
     rw[if_neg h1]
     exact hS3.get (i:=0) rfl k hk
end
end Go.Proofs.YtlnobeojgifojaaGreatDoor
