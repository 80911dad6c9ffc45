/- Without what is dead. Parts together: the plain law of the walk. Parts together. -/
import Derived.Test.YtlnobeojgifojaaGreatDoorE4
import Derived.Test.YtlnobeojgifojaaGreatDoorE3
import Derived.Test.YtlnobeojgifojaaGreatDoorE2
set_option linter.unusedVariables false
set_option linter.unusedSimpArgs false
namespace Go.Proofs.YtlnobeojgifojaaGreatDoor
section
open Go
set_option maxHeartbeats 4000000
attribute [local irreducible] aj bc bj dn bz cn dz bL wop cq aU
def fM (lv:Int→Bool)(rows:List (List Int))(i:Nat):List (List Int):=(List.range rows.length).map fun q=>if q<i then(rows.getD q []).map (c6 lv) else rows.getD q []
theorem rM (lv:Int→Bool)(rows:List (List Int))(i:Nat):(fM lv rows i).length=rows.length:=by simp[fM]
theorem vd (lv:Int→Bool)(rows:List (List Int)):fM lv rows 0=rows:=by
 refine List.ext_getElem (by simp[fM]) fun q h1 h2=>?_
 simp[fM,List.getD_eq_getElem?_getD,h2]
theorem wU (lv:Int→Bool)(rows:List (List Int)):fM lv rows rows.length=rows.map fun r=>r.map (c6 lv):=by
 refine List.ext_getElem (by simp[fM]) fun q h1 h2=>?_
 have:q<rows.length:=by simpa using h2
 simp[fM,List.getD_eq_getElem?_getD,this]
theorem wT {lv:Int→Bool}{rows:List (List Int)}{i:Nat}{r:List Int}(h:rows[i]?=some r):(fM lv rows i)[i]?=some r:=by
 have hi:=(List.getElem?_eq_some_iff.1 h).1
 simp only[fM,List.getElem?_map,List.getElem?_range hi,Option.map_some]
 rw[if_neg HT,List.getD_eq_getElem?_getD,h];rfl
theorem wS {lv:Int→Bool}{rows:List (List Int)}{i:Nat}{r:List Int}(h:rows[i]?=some r):(fM lv rows i).set i (r.map (c6 lv))=fM lv rows (i+1):=by
 have hi:=(List.getElem?_eq_some_iff.1 h).1
 refine List.ext_getElem (by simp[fM]) fun q h1 h2=>?_
 rw[List.getElem_set]
 simp only[fM,List.getElem_map,List.getElem_range]
 by_cases e:i=q
 ·subst e
  rw[if_pos rfl,if_pos HT,List.getD_eq_getElem?_getD,h];rfl
 ·rw[if_neg e]
  by_cases h3:q<i
  ·rw[if_pos h3,if_pos HT]
  ·rw[if_neg h3,if_neg HT]
def dZ (lv:Int→Bool)(r:List Int)(k:Nat):List Int:=(r.take k).map (c6 lv)++r.drop k
theorem mb (lv:Int→Bool)(r:List Int)(k:Nat):(dZ lv r k).length=r.length:=by
 simp[dZ];omega
theorem u7 {lv:Int→Bool}{r:List Int}{k:Nat}{x:Int}(h:r[k]?=some x):(dZ lv r k)[k]?=some x:=by
 have hk:=(List.getElem?_eq_some_iff.1 h).1
 unfold dZ
 rw[List.getElem?_append_right (by simp;omega)]
 simp only[List.length_map,List.length_take]
 rw[Nat.min_eq_left HT,Nat.sub_self,List.getElem?_drop,Nat.add_zero,h]
theorem sZ {lv:Int→Bool}{r:List Int}{k:Nat}{x:Int}(h:r[k]?=some x):dZ lv r (k+1)=(dZ lv r k).set k (c6 lv x):=by
 have hk:=(List.getElem?_eq_some_iff.1 h).1
 unfold dZ
 rw[List.set_append_right _ _ (by simp;omega)]
 simp only[List.length_map,List.length_take]
 rw[Nat.min_eq_left HT,Nat.sub_self,aX h,List.map_append]
 have hd:r.drop k=x::r.drop (k+1):=by
  obtain⟨h1,rfl⟩:=List.getElem?_eq_some_iff.1 h
  exact List.drop_eq_getElem_cons h1
 rw[hd,List.set_cons_zero]
 simp
theorem u9 (lv:Int→Bool)(r:List Int):dZ lv r r.length=r.map (c6 lv):=by simp[dZ]
set_option maxRecDepth 100000 in
theorem wQ {Φ:Lib}(L:cZ Φ){h0 h:aa}{P:AV}{T:Rw Int}{inx p:Nat}{ws:List AV}{rows:List (List Int)}(hS:Sep h [jA h0,lL inx ws (rows.map iC)])(hT:T.l.length=rows.length)(hn:rows.length≤2000)(hp:p≤2000)(hr:∀ r∈rows,r.length=p∧∀ x∈r,x = -1∨In rows.length x) :
  aU Φ 101 [.agg [P,.own inx 1 1 0 rows.length none,T.iv]] h (fun v h'=>(∃ lv:Int→Bool,(∀ s,In rows.length s→(lv s=true↔j0 rows.length (jW rows) (rb T.l) s))∧v = .agg [P,.rd rows.length ((rows.map fun r=>Rw.mk (r.map (c6 lv)) false).map Rw.iv) false,T.iv])∧Sep h' [jA h0]):=by
 refine bb (fun _=>false) rfl L.f101 ?_
 repeat' first|apply ad|(apply gw;first|refine ak rfl hg_ HU b_ pv_ ?_|refine aL rfl nt_ ?_|(refine cd ?_;intro id hid;try simp only[aa.set_none]at hid)|(refine gJ (v:=AV.agg _) rfl rfl ?_;intro id hid;try simp only[aa.set_none]at hid))|(apply gx;first|apply af|refine ae rfl ?_)|apply ac
 rename_i ib hib
 have hS2:=(hS.new (o := .cells 0 [P,.own inx 1 1 0 rows.length none,T.iv]) hib).new (id:=id) (o := .cells 0 [.rd 0 [] true,.rd 0 [] true,.rd 0 [] true]) (by simp only[aa.set_none];exact hid)
 refine bS (Fr L (T:=T) (P:=P) (hS2.get (i:=1) rfl) hT hn hp hr) ?_
 rintro _ h2 ⟨⟨os,rfl,hosl,hos⟩,hold⟩
 have hS3:=hS2.ext hold
 clear hS2 hold
 have hbox:h2.get ib=some (.cells 0 [P,.own inx 1 1 0 rows.length none,T.iv]):=hS3.get (i:=2) rfl
 generalize hlv:(fun s:Int=>os.getD s.toNat false)=lv
 have hlvx:∀ {x:Int} {o:Bool},os[x.toNat]?=some o→lv x=o:=fun hx=>by rw[← hlv];simp[List.getD_eq_getElem?_getD,hx]
 have hlive:∀ s,In rows.length s→(lv s=true↔j0 rows.length (jW rows) (rb T.l) s):=by rw[← hlv];exact hos
 have e5:AV.rd rows.length (bC os) false = .rd os.length (bC os) false:=by rw[hosl]
 rw[e5]
 repeat' first|apply ad|(apply gw;first|(apply gq0;first|refine aw rfl ?_|refine bm rfl ?_)|refine ak rfl hg_ HU b_ pv_ ?_|refine aq rfl (Nat.zero_add _) ?_|refine dW rfl ?_)|(apply gx;first|apply af|refine ae rfl ?_|apply au)|apply ac
 refine cl rows.length (fun i env h'=>∃ ws,Sep h' [jA h0,lL inx ws ((fM lv rows i).map iC),ck ib (.cells 0 [P,.own inx 1 1 0 rows.length none,T.iv]),ck id (.cells 0 [.rd 0 [] true,.rd 0 [] true,.rd 0 [] true])]∧env.has [(1,.ptr ib 0 0),(2,.ptr id 0 0),(3,.rd os.length (bC os) false),(11,.own inx 1 1 0 rows.length none),(12,.int .i64 rows.length),(13,.int .i64 i)]) ⟨ws,by rw[vd];exact hS3,hh_⟩ ?_
 clear hS3 hbox hS
 rintro i env h' hi ⟨ws,hS,he⟩
 obtain⟨env,rfl⟩:=he.ex
 clear he
 have hgr:dN h' inx ws _:=hS.get (i:=1) rfl
 have hwl:=hgr.len
 rw[List.length_map,rM]at hwl
 have hat:=hgr.at_
 by_cases hi2:i<rows.length
 ·obtain⟨r,hri⟩:=aK hi2
  obtain⟨rl,rto⟩:=hr r (List.mem_of_getElem? hri)
  obtain⟨w,hw⟩:=aK (l:=ws) (i:=i) HT
  have hrow:=hgr.row (r:=iC r) hw (by rw[List.getElem?_map,wT hri];rfl)
  rw[List.length_map]at hrow
  have hnt:=hrow.notTup
  have hns:w.isStr=false:=hrow.app.notStr
  repeat' first|apply ad|(apply gw;first|(apply gq0;first|refine aw rfl ?_|refine ai rv_ ?_)|refine iP (g:=_) rfl hg_ hw eq_ HU ?_|(refine aB rfl rfl rfl ?_ ?_<;>(intro hc;try omega))|refine bk rfl rfl HT HT ?_|refine aL rfl nt_ ?_)|(apply gx;first|apply af|refine ae rfl ?_|apply ay|apply au|refine al rfl ?_)|apply ac
  refine bS (Ek L (fk hrow) HU hns hnt HT) ?_
  rintro v h2 ⟨hv,hold,hfresh⟩
  have hS2:=hS.add (cP v 1 r.length (iC r)) hv hold hfresh
  have hnt2:=hv.notTup
  repeat' first|apply ad|(apply gw;first|(apply gq0;first|refine aw rfl ?_|refine ai rv_ ?_)|refine eP rv_ (by assumption) ?_)|(apply gx;first|apply af|refine ae rfl ?_|apply au)|apply ac
  refine cl r.length (fun k env h'=>Sep h' [jA h0,lL inx ws ((fM lv rows i).map iC),ck ib (.cells 0 [P,.own inx 1 1 0 rows.length none,T.iv]),ck id (.cells 0 [.rd 0 [] true,.rd 0 [] true,.rd 0 [] true]),cP v 1 r.length (iC (dZ lv r k))]∧env.has [(1,.ptr ib 0 0),(2,.ptr id 0 0),(3,.rd os.length (bC os) false),(4,.int .i64 i),(5,v),(11,.own inx 1 1 0 rows.length none),(12,.int .i64 rows.length),(13,.int .i64 i),(20,v),(21,.int .i64 r.length),(22,.int .i64 k)]) ⟨by simpa[dZ] using hS2,hh_⟩ ?_
  clear hS hS2 hgr hat hrow hnt hns hold hfresh hv hnt2
  rintro k env h' hk ⟨hS,he⟩
  obtain⟨env,rfl⟩:=he.ex
  clear he
  have hv:aA h' v 1 r.length (iC (dZ lv r k)):=hS.get (i:=4) rfl
  have hnt2:=hv.notTup
  by_cases hk2:k<r.length
  ·obtain⟨x,hx⟩:=aK hk2
   have hxo:=rto x (List.mem_of_getElem? hx)
   have hx2:=u7 (lv:=lv) hx
   have hpl:=mb lv r k
   have hsc:=sZ (lv:=lv) hx
   by_cases hx1:x = -1
   ·have hpx:c6 lv x=x:=by simp[c6,hx1]
    have e1:dZ lv r (k+1)=dZ lv r k:=by
     rw[hsc,hpx]
     obtain⟨h1,h3⟩:=List.getElem?_eq_some_iff.1 hx2
     rw[← h3,List.set_getElem_self]
    repeat' first|apply ad|(apply gw;first|(apply gq0;first|refine aw rfl ?_|refine bV rfl ?_)|refine cI rfl ?_|refine dP (g:=_) rfl hg_ hx2 eq_ ?_|(apply gq3;first|refine a8 rfl rfl rfl HT HT ?_|((first|refine aB rfl rfl rfl ?_ ?_|refine eM rfl rfl rfl ?_ ?_)<;>(intro hc;try omega)))|(refine cM rv_ (by assumption) rfl HT HT ?_;intro ir gr hvr hgr hgp;have hner:=aa.ne_of hgr;have hner2:=aa.ne_of2 hgr)|refine bh rfl rfl ?_)|(apply gx;first|apply af|refine ae rfl ?_|apply ay|apply au|refine al rfl ?_|refine ah rfl ?_)|apply ac|apply aJ
    refine aW hk2 ⟨by rw[e1];exact hS,hh_⟩
   ·have hxi:=hxo.resolve_left hx1
    obtain⟨o,ho⟩:=aK (l:=os) (i:=x.toNat) (by unfold In at hxi;omega)
    have hlo:=hlvx ho
    have hx0:x=(x.toNat:Int):=by unfold In at hxi;omega
    cases o
    ·have hpx:c6 lv x = -1:=by simp[c6,hx1,hlo]
     rw[hpx]at hsc
     repeat' first|apply ad|(apply gw;first|(apply gq0;first|refine aw rfl ?_|refine bV rfl ?_|refine bm rfl ?_|refine ai rv_ ?_)|refine cD rfl ?_|(apply gq2;first|refine dP (g:=_) rfl hg_ hx2 eq_ ?_|refine aI rfl b_ pv_ ?_)|(apply gq3;first|refine a8 rfl rfl rfl HT HT ?_|((first|refine aB rfl rfl rfl ?_ ?_|refine eM rfl rfl rfl ?_ ?_)<;>(intro hc;try omega)))|(apply gq5;first|refine ar rfl rfl ho HT rfl ?_|(refine cM rv_ (by assumption) rfl HT HT ?_;intro ir gr hvr hgr hgp;have hner:=aa.ne_of hgr;have hner2:=aa.ne_of2 hgr))|refine bU rfl rfl ?_|refine pv (g:=_) rfl rfl hg_ (by simp only[Nat.zero_add,Nat.mul_one];exact rfl) HT rfl rfl (by exact rfl) ?_|refine dm (b:=false) rfl ?_)|(apply gx;first|apply af|refine ae rfl ?_|apply ay|apply au|refine al rfl ?_)|apply ac|apply aJ
     refine aW hk2 ⟨?_,hh_⟩
     rw[hsc]
     have hS2:=hS.rowset 4 (iC ((dZ lv r k).set k (-1))) rfl hvr hgp (by simp[mb])
     exact hS2
    ·have hpx:c6 lv x=x:=by simp[c6,hx1,hlo]
     have e1:dZ lv r (k+1)=dZ lv r k:=by
      rw[hsc,hpx]
      obtain⟨h1,h3⟩:=List.getElem?_eq_some_iff.1 hx2
      rw[← h3,List.set_getElem_self]
     repeat' first|apply ad|(apply gw;first|(apply gq0;first|refine aw rfl ?_|refine bV rfl ?_|refine bm rfl ?_)|refine cD rfl ?_|(apply gq2;first|refine dP (g:=_) rfl hg_ hx2 eq_ ?_|refine aI rfl b_ pv_ ?_)|(apply gq3;first|refine a8 rfl rfl rfl HT HT ?_|((first|refine aB rfl rfl rfl ?_ ?_|refine eM rfl rfl rfl ?_ ?_)<;>(intro hc;try omega)))|(apply gq5;first|refine ar rfl rfl ho HT rfl ?_|(refine cM rv_ (by assumption) rfl HT HT ?_;intro ir gr hvr hgr hgp;have hner:=aa.ne_of hgr;have hner2:=aa.ne_of2 hgr))|refine bU rfl rfl ?_|refine dm (b:=true) rfl ?_)|(apply gx;first|apply af|refine ae rfl ?_|apply ay|apply au|refine al rfl ?_|refine ah rfl ?_)|apply ac|apply aJ
     refine aW hk2 ⟨by rw[e1];exact hS,hh_⟩
  ·have hk3:k=r.length:=by omega
   subst hk3
   rw[u9]at hv hS
   have hbox:h'.get ib=some (.cells 0 [P,.own inx 1 1 0 rows.length none,T.iv]):=hS.get (i:=2) rfl
   obtain⟨hS3,hat2⟩:=hS.gtake 1 1 4 (q:=i) (va:=v) (r:=iC (r.map (c6 lv))) (by rw[show(iC (r.map (c6 lv))).length=r.length by simp];rfl) rfl hw
   repeat' first|apply ad|(apply gw;first|(apply gq0;first|refine aw rfl ?_|refine ai rv_ ?_)|refine ak rfl hg_ HU b_ pv_ ?_|(apply gq3;first|refine a8 rfl rfl rfl HT HT ?_|(refine aB rfl rfl rfl ?_ ?_<;>(intro hc;try omega)))|refine aq rfl (Nat.zero_add _) ?_|refine bk rfl rfl HT HT ?_|refine cr rfl rv_ (by assumption) hg_ b_ (by first|(simp only[List.set_cons_zero,List.set_cons_succ]<;>exact rfl)|exact rfl) ?_)|(apply gx;first|apply af|refine ae rfl ?_|apply aP|refine ah rfl ?_)|apply ac|apply aQ|apply aJ|apply aR|apply ba
   refine aW hi2 ⟨ws.set i v,?_,hh_⟩
   rw[← wS hri,List.map_set]
   rw[show(0+(i:Int).toNat)*1=i by omega]
   exact hS3
 ·have hi3:i=rows.length:=by omega
  subst hi3
  rw[wU]at hS hgr
  have hbox:h'.get ib=some (.cells 0 [P,.own inx 1 1 0 rows.length none,T.iv]):=hS.get (i:=2) rfl
  have hres:h'.get id=some (.cells 0 [.rd 0 [] true,.rd 0 [] true,.rd 0 [] true]):=hS.get (i:=3) rfl
  repeat' first|apply ad|(apply gw;first|refine ak rfl hg_ HU b_ pv_ ?_|(refine aB rfl rfl rfl ?_ ?_<;>(intro hc;try omega))|refine aY (v:=AV.agg _) rfl rfl hg_ rfl rfl b_ sv_ ?_)|(apply gx;first|apply af|refine ae rfl ?_|apply aM|apply aP|refine ah rfl ?_)|apply ac|apply aQ|apply aR|apply ba
  have hS2:=hS.put 3 (.cells 0 [P,.own inx 1 1 0 rows.length none,T.iv]) rfl
  have hgr2:dN _ inx ws _:=hS2.get (i:=1) rfl
  have hfz:=hgr2.fz (S:=eX inx ws) (lim:=none) fun _ h=>h
  rw[List.length_map,List.length_map]at hfz
  refine fA (eX inx ws) (mA rfl (aa.get_set_self _ _ _) rfl) (.agg (.cons (.same _) (.cons hfz (.cons (.same _) .nil)))) ⟨⟨lv,hlive,?_⟩,?_⟩
  ·congr 3
   rw[List.map_map,List.map_map,List.map_map]
   congr 2
   funext r
   simp[Function.comp]
  ·have hS3:=hS2.drop 1 (h':=(h'.set id (.cells 0 [P,.own inx 1 1 0 rows.length none,T.iv])).drop (eX inx ws)) rfl fun k hk=>by
    simp only[aa.drop]
    rw[if_neg hk]
   exact hS3.weak HU
end
section
open Go
theorem si {α β:Type}[DecidableEq β](f:α→β)(t:β):∀ (G:List α),G.findIdx? (fun a=>decide (f a=t))=if t∈G.map f then some (cH (G.map f) t) else none
 | []=>rfl
 | a::G=>by
  have ih:=si f t G
  rw[List.findIdx?_cons]
  by_cases h:f a=t
  ·subst h
   simp[cH]
  ·have h3:¬ t=f a:=fun e=>h e.symm
   have hb:(f a == t)=false:=by simpa using h
   simp only[h,decide_false,Bool.false_eq_true,if_false,ih,List.map_cons,List.mem_cons,h3,false_or]
   split
   ·simp[cH,List.idxOf_cons,hb]
   ·rfl
def jf (κ:Int→Int)(R:Int→List Int)(L:List Int)(ks:List Nat):List UInt8:=bZ (vec κ R L (ks.headD 0))
theorem sF {κ:Int→Int}{R:Int→List Int}{L:List Int}{k:Nat}(G:List (List Nat)):(bZ (vec κ R L k)∈G.map (jf κ R L)→G.findIdx? (fun ks=>dw κ R L (ks.headD 0) k)=some (cH (G.map (jf κ R L)) (bZ (vec κ R L k))))∧(bZ (vec κ R L k)∉G.map (jf κ R L)→G.findIdx? (fun ks=>dw κ R L (ks.headD 0) k)=none):=by
 have h:=si (jf κ R L) (bZ (vec κ R L k)) G
 have e:(fun ks:List Nat=>dw κ R L (ks.headD 0) k)=fun a=>decide (jf κ R L a=bZ (vec κ R L k)):=by
  funext ks
  unfold dw jf
  exact decide_eq_decide.2 ⟨fun e=>by rw[e],fun e=>nU e⟩
 rw[e,h]
 exact⟨fun hm=>if_pos hm,fun hm=>if_neg hm⟩
theorem yk {s:am}(h:∀ x,s.lo≤x→x≤s.hi→eI x=true):(bN s).length≤1:=by
 unfold bN kU iI
 dsimp only
 split<;>split
 ·rename_i h1 h2
  have:=er.1 (h 55296 HT HT)
  omega
 ·simp
 ·simp
 ·simp
theorem B6 {l:List am}(h:∀ s∈l,∀ x,s.lo≤x→x≤s.hi→eI x=true):(aZ l).length≤l.length:=by
 have h1:∀ (p r:List am),(p.foldl eo r).length≤r.length+p.length:=by
  intro p
  induction p with
  | nil=>intro r;simp
  | cons s p ih =>
   intro r
   have:=ih (eo r s)
   have h2:(eo r s).length≤r.length+1:=by
    cases r with
    | nil=>simp[eo]
    | cons a r=>simp only[eo];split<;>simp
   rw[List.foldl_cons,List.length_cons]
   omega
 have h2:∀ k:List am,(∀ s∈k,∀ x,s.lo≤x→x≤s.hi→eI x=true)→(k.flatMap bN).length≤k.length:=fun k=>by
  induction k with
  | nil=>simp
  | cons a k ih =>
   intro hk
   have h3:=yk (hk a HU)
   have h4:=ih fun s hs=>hk s (by simp[hs])
   simp only[List.flatMap_cons,List.length_append,List.length_cons];omega
 have h3:=h1 ((l.flatMap bN).mergeSort fun a b=>decide (a.lo≤b.lo)) []
 have h4:=h2 l h
 unfold aZ mI
 rw[List.length_reverse]
 rw[List.length_mergeSort]at h3
 simp only[List.length_nil,Nat.zero_add]at h3
 omega
theorem rW {l:List am}(h:aZ l=l):∀ s∈l,∀ x,s.lo≤x→x≤s.hi→eI x=true:=fun s hs x h1 h2=>ju h ⟨s,hs,h1,h2⟩
theorem tC {a b:List am}(ha:aZ a=a)(hb:aZ b=b):(aZ (a++b)).length≤a.length+b.length:=by
 rw[← List.length_append]
 refine B6 fun s hs=>?_
 rcases List.mem_append.1 hs with hs|hs
 ·exact rW ha s hs
 ·exact rW hb s hs
theorem En {P:List (Rw am)}{g:Nat}{a:Rw am}(h:P[g]?=some a)(u:Rw am):(dA (P.set g u)).length+a.l.length=(dA P).length+u.l.length:=by
 induction P generalizing g with
 | nil=>simp at h
 | cons p P ih =>
  cases g with
  | zero =>
   simp at h
   subst h
   simp[dA]
   omega
  | succ g =>
   simp at h
   have:=ih h
   simp[dA]at this ⊢
   omega
theorem xE (P:List (Rw am))(p:Rw am):(dA (P++[p])).length=(dA P).length+p.l.length:=by simp[dA]
theorem tA (d:PD)(G:List (List Nat))(k:Nat):ga d (G++[[k]])=ga d G++[d.part k]:=by
 simp[ga,lr]
theorem wn (d:PD){G:List (List Nat)}{g:Nat}{ks:List Nat}(h:G[g]?=some ks)(hne:ks≠[])(k:Nat):ga d (G.set g (ks++[k]))=(ga d G).set g (aZ (lr (ks.map d.part)++d.part k)):=by
 unfold ga
 rw[List.map_set,List.map_append,List.map_singleton,Am (by simpa using hne)]
theorem tB {d:PD}{G:List (List Nat)}{g:Nat}{ks:List Nat}(h:G[g]?=some ks):(ga d G)[g]?=some (lr (ks.map d.part)):=by
 unfold ga
 rw[List.getElem?_map,h];rfl
theorem mP (lv:Nat→Bool)(E:Nat→Nat→Bool)(p:Nat):cT lv E (p+1)=o6 lv E (cT lv E p) p:=by simp[cT,List.range_succ]
theorem sf (lv:Nat→Bool)(E:Nat→Nat→Bool):∀ p,(cT lv E p).length≤p
 | 0=>by simp[cT]
 | p+1=>by
  have ih:=sf lv E p
  rw[mP,o6]
  split
  ·split
   ·rw[List.length_set];omega
   ·simp;omega
  ·omega
theorem qh {ks:List Nat}(h:ks≠[])(k:Nat):(ks++[k]).headD 0=ks.headD 0:=by
 cases ks with
 | nil=>exact absurd rfl h
 | cons a l=>rfl
theorem oX {α β:Type}{f:α→β}{l:List α}{i:Nat}{a b:α}(h:l[i]?=some a)(e:f b=f a):(l.set i b).map f=l.map f:=by
 rw[List.map_set,e]
 obtain⟨h1,rfl⟩:=List.getElem?_eq_some_iff.1 h
 have h2:i<(l.map f).length:=by simpa using h1
 have:f l[i]=(l.map f)[i]:=by simp
 rw[this,List.set_getElem_self]
theorem Gk {m:Nat}{key:Nat→Int}{zs:List Int}(hp:zs.Perm ((List.range m).map fun i:Nat=>(i:Int)))(hs:zs.Pairwise fun a b=>key a.toNat≤key b.toNat)(hi:∀ a∈s7 m key,∀ b∈s7 m key,key a=key b→a=b):zs=(s7 m key).map fun i:Nat=>(i:Int):=by
 have h1:(zs.map Int.toNat).Perm (List.range m):=by
  have:=hp.map Int.toNat
  rw[List.map_map]at this
  have e:(List.range m).map (Int.toNat∘fun i:Nat=>(i:Int))=List.range m:=by
   refine Eq.trans ?_ (List.map_id _)
   apply List.map_congr_left
   intro i _
   simp
  rwa [e]at this
 have h2:s7 m key=zs.map Int.toNat:=nO (key:=key) ((lz m key).trans h1.symm) (w0 m key) (by rw[List.pairwise_map];exact hs) hi
 rw[h2,List.map_map]
 refine Eq.trans (List.map_id _).symm ?_
 apply List.map_congr_left
 intro z hz
 have:z∈(List.range m).map fun i:Nat=>(i:Int):=hp.mem_iff.1 hz
 obtain⟨i,_,rfl⟩:=List.mem_map.1 this
 simp
end
section
open Go
set_option maxHeartbeats 4000000
attribute [local irreducible] aj bc bj dn bz cn dz bL wop cq aU
@[reducible] def vv:gB := .cells 0 [.rd 0 [] true,.rd 0 [] true,.rd 0 [] true]
@[reducible] def l4 (h:aa)(i4 im inx io n:Nat)(ws:List AV)(rows:List (List AV))(T vp vk:AV)(V:List (List UInt8))(PL:List (Rw am))(ks:List Nat):List cC :=
 [jA h,ck i4 vv,ck im (.map none (bJ AV.str 0 V)),lL inx ws rows,ck io (.cells 0 [vp,.own inx 1 1 0 n none,T]),cP vp 1 PL.length (PL.map Rw.sv),cP vk 1 ks.length (ks.map fu)]
structure iG (Φ:Lib):Prop where
 lo:Φ 120=some (.ext (lI 121))
theorem pA (d:Dfa):d.plain.row=kz d.next.l:=by
 funext s
 unfold PD.row kz Dfa.plain cR
 by_cases h:s.toNat<d.next.l.length
 ·rw[cV _ _ _ ⟨[],false⟩ _ h]
 ·rw[gn (by simpa using h),gn h]
set_option maxRecDepth 100000 in
theorem xi {Φ:Lib}(L:cZ Φ)(L1:gC Φ)(S:eG Φ)(G:fq Φ)(J:iG Φ){h:aa}{iw:Nat}{d:Dfa}{K:Rw Int}(hw:WAt h iw d K)(hf:d.Fit K)(hfs:d.Fits)(hok:d.plain.Ok)(hne:∀ q∈d.plain.parts,q≠[])(hK:iV d.plain.n d.plain.row d.plain.tag (bt K.l)) :
  aU Φ 104 [.ptr iw 0 0,kK (d.plain.L1 (bt K.l))] h (fun v h'=>(∃ PL:List (Rw am),PL.map (·.l)=(d.plain.O (bt K.l)).map (fun g=>(ga d.plain (d.plain.G (bt K.l))).getD g [])∧v = .agg [.rd PL.length (PL.map Rw.sv) false,.rd d.next.l.length (((List.range d.next.l.length).map fun s:Nat=>Rw.mk (d.plain.R2 (bt K.l) s) false).map Rw.iv) false,d.tags.iv])∧∀ k,h.get k≠none→h'.get k=h.get k):=by
 have hw':h.get iw=some (.cells 0 [d.parts.mv Rw.sv,d.next.mv Rw.iv,d.tags.iv,K.iv]):=hw
 have hiw:h.get iw≠none:=by rw[hw'];simp
 have hpl:d.plain.p=d.parts.l.length:=by simp[Dfa.plain,dF,PD.p]
 have hnl:d.plain.n=d.tags.l.length:=by simp[Dfa.plain,PD.n]
 have hn2:=hf.n2
 have hp2:=hf.p2
 have hkl:=hf.kl
 have htl:=hf.tl
 have hnn:d.plain.n=d.next.l.length:=by omega
 have hcat:=hfs.cat
 obtain⟨hcome,hclosed⟩:=EK hok hK
 have hLm:=hcome.most
 have hLin:=hcome.inn
 have hkind:∀ {h':aa} {x:Int},h'.get iw=h.get iw→x = -1∨In d.plain.n x→aU Φ 107 [.ptr iw 0 0,.int .i64 x] h' (fun v h2=>v = .int .i64 (bt K.l x)∧h'.Ext h2):=fun {h' x} he hx=>by
  refine qH L (K:=K) (hw.keep he) x ?_
  rcases hx with h1|h1
  ·exact .inl h1
  ·right;unfold In at h1;omega
 have hkr:=fun x=>mK hf x
 have htab:=hok.tab
 generalize hLs:d.plain.L1 (bt K.l)=Ls at hLm hLin
 generalize hκ:bt K.l=κ at hkind hkr hK hLs
 have hrw:∀ {s:Int},In d.plain.n s→∃ row,d.next.l[s.toNat]?=some row∧row.l=d.plain.row s∧row.l.length=d.parts.l.length:=fun {s} hs=>by
  obtain⟨row,hr⟩:=aK (l:=d.next.l) (i:=s.toNat) (by unfold In at hs;omega)
  refine⟨row,hr,?_,hf.rows row (List.mem_of_getElem? hr)⟩
  rw[pA,oP (m:=s.toNat) (by unfold In at hs;omega) hr]
 refine bb (fun _=>false) rfl L.f104 ?_
 repeat' first|apply ad|(apply gw;first|refine ai rx_ ?_|(apply gq2;first|refine aC rx_ ?_|refine ak rfl hg_ HU b_ pv_ ?_)|(apply iA;first|refine bg rx_ ?_|refine bf rx_ ?_|refine aY (v:=AV.agg _) rfl rfl hg_ rfl rfl b_ sv_ ?_)|(apply gq6;first|refine bM rx_ ?_|refine aD rfl ?_)|(apply gq4;first|refine aG rx_ ?_|refine aq rfl (Nat.zero_add _) ?_)|refine bi rfl ?_|(refine cd ?_;intro id hid;try simp only[aa.set_none]at hid)|refine dE rfl ?_|(refine gb rfl rfl HT HT ?_;intro id hid;try simp only[aa.set_none]at hid)|(refine ki ?_;intro id hid;try simp only[aa.set_none]at hid))|(apply gx;first|apply af|refine ae rfl ?_)|apply ac
 rename_i i4 hi4 im him inx hinx
 obtain⟨io,rfl⟩:∃ io,io=id:=⟨_,rfl⟩
 refine E4 (l4 h i4 im inx io d.next.l.length (List.replicate d.next.l.length (.rd 0 [] true)) (List.replicate d.next.l.length []) d.tags.iv (.rd 0 [] true) (.rd 0 [] true) [] [] []) ?_ ?_
 ·have s1:=(Sep.old h).new (o:=vv) hi4
  have s2:=s1.new (id:=im) (o := .map none []) (by simp only[aa.set_none];exact him)
  have s3:=(s2.new (id:=inx) (o := .cells 1 (List.replicate d.next.l.length (.rd 0 [] true))) (by simp only[aa.set_none];exact hinx)).grid0 3 rfl
  have s4:=(s3.new (id:=io) (o:=vv) (by simp only[aa.set_none];exact hid)).put 4 (.cells 0 [.rd 0 [] true,.own inx 1 1 0 d.next.l.length none,d.tags.iv]) rfl
  have e1:(List.replicate (d.next.l.length:Int).toNat [AV.rd 0 [] true]).flatten=List.replicate d.next.l.length (.rd 0 [] true):=gW _ _
  rw[e1]
  exact(s4.nil 1).nil 1
 intro h1 hS
 have hold:=hS.get (i:=0) rfl
 have hw1:h1.get iw=_:=(hold iw hiw).trans hw'
 repeat' first|apply ad|(apply gw;first|refine ai rx_ ?_|(apply gq6;first|refine bM rx_ ?_|refine aD rfl ?_)|refine ak rfl hq_ HU b_ pv_ ?_)|apply au|apply ac
 refine cl d.parts.l.length (fun k env h'=>∃ vp vk PL,PL.map (·.l)=ga d.plain (cT (kI d.plain.row Ls) (dw κ d.plain.row Ls) k)∧(dA PL).length≤(dA (d.parts.l.take k)).length∧Sep h' (l4 h i4 im inx io d.next.l.length (List.replicate d.next.l.length (.rd 0 [] true)) (List.replicate d.next.l.length []) d.tags.iv vp vk ((cT (kI d.plain.row Ls) (dw κ d.plain.row Ls) k).map (jf κ d.plain.row Ls)) PL ((cT (kI d.plain.row Ls) (dw κ d.plain.row Ls) k).map fun ks=>ks.headD 0))∧env.has [(0,.ptr iw 0 0),(1,kK Ls),(4,.ptr i4 0 0),(5,.map im),(6,.ptr io 0 0),(7,vk),(41,d.parts.mv Rw.sv),(42,.int .i64 d.parts.l.length),(43,.int .i64 k)]) ⟨_,_,[],rfl,by simp[dA],hS,hh_⟩ ?_
 clear hS hold hw1
 rintro k env h' hk ⟨vp,vk,PL,hPL,hcl,hS,he⟩
 obtain⟨env,rfl⟩:=he.ex
 clear he
 have hold:=hS.get (i:=0) rfl
 have hw1:h'.get iw=_:=(hold iw hiw).trans hw'
 have hglen:=sf (kI d.plain.row Ls) (dw κ d.plain.row Ls) k
 have hgsucc:=mP (kI d.plain.row Ls) (dw κ d.plain.row Ls) k
 have hG2:=nv (lv:=kI d.plain.row Ls) (kJ (κ:=κ) (R:=d.plain.row) (L:=Ls)) lb j9 k
 by_cases hk2:k<d.parts.l.length
 ·obtain⟨p,hp⟩:=aK hk2
  generalize hGg:cT (kI d.plain.row Ls) (dw κ d.plain.row Ls) k=GG at *
  repeat' first|apply ad|(apply gw;first|refine ai rx_ ?_|(apply gq2;first|refine aC rx_ ?_|refine aI rfl b_ pv_ ?_)|(apply gq3;first|refine az rx_ ?_|refine aN rx_ ?_|(refine aB rfl rfl rfl ?_ ?_<;>(intro hc;try omega)))|(apply gq5;first|refine aO rx_ ?_|refine aS rx_ ?_|refine ar rfl rfl hp HT rfl ?_)|(apply gq6;first|refine bM rx_ ?_|refine aD rfl ?_)|refine bF rfl rfl ?_)|(apply gx;first|apply af|refine ae rfl ?_|apply ay|apply au|refine al rfl ?_)|apply ac
  refine cl Ls.length (fun j env h'=>∃ vb,Sep h' (l4 h i4 im inx io d.next.l.length (List.replicate d.next.l.length (.rd 0 [] true)) (List.replicate d.next.l.length []) d.tags.iv vp vk (GG.map (jf κ d.plain.row Ls)) PL (GG.map fun ks=>ks.headD 0)++[cP vb 1 (bZ (vec κ d.plain.row (Ls.take j) k)).length (bd (bZ (vec κ d.plain.row (Ls.take j) k)))])∧env.has [(0,.ptr iw 0 0),(1,kK Ls),(4,.ptr i4 0 0),(5,.map im),(6,.ptr io 0 0),(7,vk),(8,.int .i64 k),(9,p.sv),(10,vb),(11,.bool (kI d.plain.row (Ls.take j) k)),(41,d.parts.mv Rw.sv),(42,.int .i64 d.parts.l.length),(43,.int .i64 k),(49,kK Ls),(50,.int .i64 Ls.length),(51,.int .i64 j)]) ⟨_,hS.nil 1,hh_⟩ ?_
  clear hS hold hw1
  rintro j env h' hj ⟨vb,hS,he⟩
  obtain⟨env,rfl⟩:=he.ex
  clear he
  have hold:=hS.get (i:=0) rfl
  have hw1:h'.get iw=_:=(hold iw hiw).trans hw'
  have hvb:aA h' vb 1 _ _:=hS.get (i:=7) rfl
  have hnb:=hvb.notTup
  have hwl:(bZ (vec κ d.plain.row (Ls.take j) k)).length≤20000:=by
   have h1:=nG (l:=vec κ d.plain.row (Ls.take j) k) fun x hx=>by
    obtain⟨s,_,rfl⟩:=List.mem_map.1 hx
    exact hkr _
   have h2:(vec κ d.plain.row (Ls.take j) k).length≤2000:=by
    unfold vec
    rw[List.length_map,List.length_take]
    omega
   omega
  by_cases hj2:j<Ls.length
  ·obtain⟨s,hs⟩:=aK hj2
   have hsi:=hLin s (List.mem_of_getElem? hs)
   obtain⟨row,hrow,hrr,hrl⟩:=hrw hsi
   have hs0:(s.toNat:Int)=s:=by unfold In at hsi;omega
   obtain⟨x,hx⟩:=aK (l:=row.l) (i:=k) HT
   have hxc:col d.plain.row s k=x:=by unfold col;rw[← hrr];simp[List.getD_eq_getElem?_getD,hx]
   have hxo:=htab.col hsi k
   rw[hxc]at hxo
   have hxr:=hkr x
   have hvn:bZ (vec κ d.plain.row (Ls.take (j+1)) k)=bZ (vec κ d.plain.row (Ls.take j) k)++(32::cX (κ x)):=by
    unfold vec
    rw[aX hs,List.map_append,nH,List.map_singleton,hxc]
    simp[bZ]
   have han:kI d.plain.row (Ls.take (j+1)) k=if x = -1 then kI d.plain.row (Ls.take j) k else true:=by
    unfold kI
    rw[aX hs,List.any_append]
    by_cases e:x = -1<;>simp[hxc,e]
   generalize hW:bZ (vec κ d.plain.row (Ls.take j) k)=W at *
   generalize hso:kI d.plain.row (Ls.take j) k=so at *
   by_cases hx1:x = -1<;>cases so
   all_goals
    repeat' first|apply ad|(apply gw;first|refine ai rx_ ?_|(apply gq2;first|refine aC rx_ ?_|refine aI rfl b_ pv_ ?_|refine ak rfl hq_ HU b_ pv_ ?_)|(apply gq3;first|refine az rx_ ?_|refine aN rx_ ?_|((first|refine aB rfl rfl rfl ?_ ?_|refine eM rfl rfl rfl ?_ ?_)<;>(intro hc;try omega)))|(apply gq5;first|refine aO rx_ ?_|refine aS rx_ ?_|refine ar rfl rfl hrow HT rfl ?_|refine ar rfl rfl hx HT rfl ?_|refine ig rfl rfl rfl (by assumption) rfl ?_)|(apply lE;first|refine bX rx_ ?_|refine bW rx_ ?_|(refine br (m:=1) rx_ iq_ rfl rfl HT ?_;intro va hpa hra hka hria))|(apply gq4;first|refine aG rx_ ?_|refine aq rfl (Nat.zero_add _) ?_)|(apply gq1;first|refine cI rfl ?_|refine cD rfl ?_)|(apply gq7;first|refine bU rfl rfl ?_|refine bh rfl rfl ?_)|refine bi rfl ?_|refine bF (cs:=[AV.int _ _]) rfl rfl ?_)|(apply gx;first|apply af|refine ae rfl ?_|apply ay|apply au|refine al rfl ?_)|apply ac
    have hS2:=hS.upd 7 (cP va 1 (W.length+1) (bd W++[.int .u8 32])) rfl hra hka hria
    have hold2:=hS2.get (i:=0) rfl
    have hw2:hpa.get iw=_:=(hold2 iw hiw).trans hw'
    repeat' first|(apply gw;first|refine ai rx_ ?_|(apply gq2;first|refine aC rx_ ?_|refine aI rfl b_ pv_ ?_|refine ak rfl hq_ HU b_ pv_ ?_)|(apply gq5;first|refine aO rx_ ?_|refine aS rx_ ?_|refine ar rfl rfl hrow HT rfl ?_|refine ar rfl rfl hx HT rfl ?_)|refine aL rfl nt_ ?_)
    refine jz HT (hkind (hold2 iw hiw) hxo) ?_
    repeat' first|refine aL rfl nt_ ?_
    refine bS (jo L hra HT (κ x) HT HT) ?_
    rintro v2 h2 ⟨hv2,hk3,hi3⟩
    have hnt2:=hv2.notTup
    have hS3:=hS2.upd 7 (cP v2 1 (W.length+1+(cX (κ x)).length) (bd W++[.int .u8 32]++bd (cX (κ x)))) rfl hv2 hk3 hi3
    repeat' first|apply ad|(apply gw;first|refine ai rx_ ?_|(apply gq3;first|refine az rx_ ?_|refine a8 rfl rfl rfl HT HT ?_))|refine ae rfl ?_|apply ac|apply aJ
    refine aW hj2 ?_
    rw[han]
    first
     | rw[if_pos hx1]
     | rw[if_neg hx1]
    refine⟨v2,?_,hh_⟩
    rw[hvn]
    have e1:(W++(32::cX (κ x))).length=W.length+1+(cX (κ x)).length:=by simp;omega
    have e2:bd (W++(32::cX (κ x)))=bd W++[AV.int .u8 32]++bd (cX (κ x)):=by simp[bd]
    rw[e1,e2]
    exact hS3
  ·rw[List.take_of_length_le HT]at hS hvb hwl ⊢
   have hm:=hS.get (i:=2) rfl
   have hns:vb.isStr=false:=hvb.app.notStr
   cases hso:kI d.plain.row Ls k
   ·have hg2:cT (kI d.plain.row Ls) (dw κ d.plain.row Ls) (k+1)=GG:=by
     rw[hgsucc,o6,hso];rfl
    have hSx:=hS.drop 7 (h':=h') rfl fun _ _=>rfl
    apply af
    repeat' first|apply ad|(apply gw;first|refine ai rx_ ?_|(apply gq3;first|refine az rx_ ?_|refine aN rx_ ?_|(refine aB rfl rfl rfl ?_ ?_<;>(intro hc;try omega))))|(apply gx;first|apply af|refine ae rfl ?_|apply aP|refine ah rfl ?_)|apply ac|apply aQ|apply aR|apply ba
    refine kh rfl hns (fk hvb) ?_
    refine gV (key:=AV.str (bZ (vec κ d.plain.row Ls k))) rfl rfl rfl hm ?_
    generalize gu _ _=o
    cases o
    all_goals
     repeat' first|apply ad|(apply gw;first|refine ai rx_ ?_|(apply gq3;first|refine az rx_ ?_|refine a8 rfl rfl rfl HT HT ?_)|refine dm (b:=false) rfl ?_|refine bY rfl rfl ?_)|(apply gx;first|apply af|refine ae rfl ?_|apply ay|apply au|refine al rfl ?_)|apply ac|apply aJ
     refine aW hk2 ⟨vp,vk,PL,?_,?_,?_,hh_⟩
     ·rw[hg2];exact hPL
     ·exact Nat.le_trans hcl (by rw[iU hp];simp)
     ·rw[hg2];exact hSx
   ·have hPLl:PL.length=GG.length:=by
     have:=congrArg List.length hPL
     simpa[ga] using this
    have hpp:d.plain.part k=p.l:=by simp[PD.part,Dfa.plain,dF,List.getD_eq_getElem?_getD,hp]
    have hvk:aA h' vk 1 _ _:=hS.get (i:=6) rfl
    have hvp:aA h' vp 1 _ _:=hS.get (i:=5) rfl
    have hio:h'.get io=some (.cells 0 [vp,.own inx 1 1 0 d.next.l.length none,d.tags.iv]):=hS.get (i:=4) rfl
    have hnk:=hvk.notTup
    have hnp:=hvp.notTup
    rw[List.length_map]at hvk
    apply af
    repeat' first|apply ad|(apply gw;first|refine ai rx_ ?_|(apply gq3;first|refine az rx_ ?_|refine aN rx_ ?_|(refine aB rfl rfl rfl ?_ ?_<;>(intro hc;try omega))))|(apply gx;first|apply af|refine ae rfl ?_|apply aP|refine ah rfl ?_)|apply ac|apply aQ|apply aR|apply ba
    refine kh rfl hns (fk hvb) ?_
    refine gV (key:=AV.str (bZ (vec κ d.plain.row Ls k))) rfl rfl rfl hm ?_
    rw[iK nc]
    by_cases hmem:bZ (vec κ d.plain.row Ls k)∈GG.map (jf κ d.plain.row Ls)
    ·rw[if_pos hmem]
     have hfind:=(sF GG).1 hmem
     have hlt:=lU hmem
     generalize cH (GG.map (jf κ d.plain.row Ls)) (bZ (vec κ d.plain.row Ls k))=g at *
     rw[List.length_map]at hlt
     obtain⟨ks,hks⟩:=aK hlt
     obtain⟨a,ha⟩:=aK (l:=PL) (i:=g) HT
     have hksne:=hG2.ne ks (List.mem_of_getElem? hks)
     have hg2:cT (kI d.plain.row Ls) (dw κ d.plain.row Ls) (k+1)=GG.set g (ks++[k]):=by
      rw[hgsucc,o6,hso,if_pos rfl,hfind]
      simp[List.getD_eq_getElem?_getD,hks]
     have hal:a.l=lr (ks.map d.plain.part):=by
      have h1:=tB (d:=d.plain) hks
      rw[← hPL,List.getElem?_map,ha]at h1
      exact Option.some.inj h1
     have hsz:=nz ha
     have hcs:=iU hp
     have hcs2:=ij d.parts.l (k+1)
     rw[hcs,List.length_append]at hcs2
     have hcat2:dA [a,p]=a.l++p.l:=by simp[dA]
     have hu:=wo L L1 S G [a,p] true HU (by rw[hcat2,List.length_append];omega)
     rw[hcat2]at hu
     have hu:ia Φ 119 [.rd 2 [a.sv,p.sv] true] (.rd (aZ (a.l++p.l)).length ((aZ (a.l++p.l)).flatMap am.av) false):=hu
     rw[Nat.zero_add]
     repeat' first|apply ad|(apply gw;first|refine ai rx_ ?_|(apply gq2;first|refine aC rx_ ?_|refine dP (g:=_) rfl hq_ ha eq_ ?_|refine ak rfl hq_ HU b_ pv_ ?_)|(apply gq3;first|refine az rx_ ?_|refine a8 rfl rfl rfl HT HT ?_)|(apply gq5;first|refine aO rx_ ?_|refine aS rx_ ?_|(refine cM rx_ (by assumption) rfl HT HT ?_;intro ir gr hvr hgr hgp;have hner:=aa.ne_of hgr;have hner2:=aa.ne_of2 hgr))|(apply iA;first|refine bg rx_ ?_|refine bf rx_ ?_|refine aY (v:=AV.rd _ _ _) rfl rfl hq_ rfl rfl b_ sv_ ?_)|(apply gq4;first|refine aG rx_ ?_|refine aq rfl (Nat.zero_add _) ?_)|refine aL rfl nt_ ?_|refine bF rfl rfl ?_|refine dm (b:=true) rfl ?_|refine bY rfl rfl ?_)|(apply gx;first|apply af|refine ae rfl ?_|apply au|refine al rfl ?_|refine ah rfl ?_)|apply ac|apply aJ|refine bu (by assumption) fz_ fz_ ?_
     refine aW hk2 ⟨vp,vk,PL.set g ⟨aZ (a.l++p.l),false⟩,?_,?_,?_,hh_⟩
     ·rw[hg2,wn d.plain hks hksne,← hal,hpp,List.map_set,hPL]
     ·have h1:=En ha ⟨aZ (a.l++p.l),false⟩
      have h2:=tC (a:=a.l) (b:=p.l) (by rw[hal];exact mp hok ks) (by rw[← hpp];exact gG hok k)
      rw[hcs,List.length_append]
      dsimp only at h1
      omega
     ·rw[hg2,oX hks (show jf κ d.plain.row Ls (ks++[k])=jf κ d.plain.row Ls ks by unfold jf;rw[qh hksne]),oX hks (qh hksne k)]
      have hS2:=(hS.rowset 5 ((PL.set g ⟨aZ (a.l++p.l),false⟩).map Rw.sv) rfl hvr hgp HU).drop 7 rfl fun _ _=>rfl
      have e7:(PL.map Rw.sv).set ((g:Int).toNat*1) (.rd (aZ (a.l++p.l)).length ((aZ (a.l++p.l)).flatMap am.av) false)=(PL.set g ⟨aZ (a.l++p.l),false⟩).map Rw.sv:=by
       rw[show(g:Int).toNat*1=g by omega,List.map_set]
      simp only[l4,List.length_set]
      rw[e7]
      exact hS2
    ·rw[if_neg hmem]
     have hfind:=(sF GG).2 hmem
     have hg2:cT (kI d.plain.row Ls) (dw κ d.plain.row Ls) (k+1)=GG++[[k]]:=by
      rw[hgsucc,o6,hso,if_pos rfl,hfind]
     repeat' first|apply ad|(apply gw;first|refine ai rx_ ?_|refine dm (b:=true) rfl ?_|refine bY rfl rfl ?_)|(apply gx;first|apply af|refine ae rfl ?_|apply au|refine ah rfl ?_)|apply ac
     refine kh rfl hns (fk hvb) ?_
     repeat' first|(apply gw;first|refine ai rx_ ?_|(apply gq6;first|refine bM rx_ ?_|refine eP rx_ (by assumption) ?_))
     refine fQ (key:=AV.str (bZ (vec κ d.plain.row Ls k))) (v:=AV.int .i64 GG.length) rfl rfl rfl rfl rfl hm ?_
     have he2:=jC nc (bZ (vec κ d.plain.row Ls k)) (GG.map (jf κ d.plain.row Ls)) 0 hmem
     rw[Nat.zero_add,List.length_map]at he2
     rw[he2]
     have hS2:=hS.put 2 (.map none (bJ AV.str 0 (GG.map (jf κ d.plain.row Ls)++[bZ (vec κ d.plain.row Ls k)]))) rfl
     have hvk2:aA _ vk 1 _ _:=hS2.get (i:=6) rfl
     rw[List.length_map]at hvk2
     repeat' first|apply ad|(apply gw;first|refine ai rx_ ?_|refine aC rx_ ?_|(apply lE;first|refine bX rx_ ?_|refine bW rx_ ?_|(refine br (m:=1) rx_ iq_ rfl rfl HT ?_;intro va hpa hra hka hria))|(apply gq4;first|refine aG rx_ ?_|refine aq rfl (Nat.zero_add _) ?_)|refine bF (cs:=[AV.int _ _]) rfl rfl ?_)|(apply gx;first|apply af|refine ae rfl ?_)|apply ac
     have hS3:=hS2.upd 6 (cP va 1 (GG.length+1) ((GG.map fun ks=>ks.headD 0).map fu++[.int .i64 k])) rfl hra hka hria
     have hio3:hpa.get io=some (.cells 0 [vp,.own inx 1 1 0 d.next.l.length none,d.tags.iv]):=hS3.get (i:=4) rfl
     have hvp3:aA hpa vp 1 _ _:=hS3.get (i:=5) rfl
     clear hS2 hvk2 hka hria hS hra
     repeat' first|(apply gw;first|refine ai rx_ ?_|(apply iA;first|refine bg rx_ ?_|refine bf rx_ ?_)|(apply lE;first|refine bX rx_ ?_|refine bW rx_ ?_|(refine br (m:=1) rx_ iq_ rfl rfl HT ?_;intro va hpa hra hka hria))|(apply gq4;first|refine aG rx_ ?_|refine aq rfl (Nat.zero_add _) ?_)|refine ak rfl hq_ HU b_ pv_ ?_|refine bF (cs:=[AV.rd _ _ _]) rfl rfl ?_)
     rename_i vk2 hpa1
     have hS4:=hS3.upd 5 (cP va 1 (PL.length+1) (PL.map Rw.sv++[p.sv])) rfl hra hka hria
     have hio4:hpa.get io=some (.cells 0 [vp,.own inx 1 1 0 d.next.l.length none,d.tags.iv]):=hS4.get (i:=4) rfl
     refine cr (v:=va) (cs':=[va,.own inx 1 1 0 d.next.l.length none,d.tags.iv]) rfl rfl hra hio4 HU rfl ?_
     have hS5:=(hS4.put 4 (.cells 0 [va,.own inx 1 1 0 d.next.l.length none,d.tags.iv]) rfl).drop 7 rfl fun _ _=>rfl
     repeat' first|apply ad|(apply gw;first|refine ai rx_ ?_|(apply gq3;first|refine az rx_ ?_|refine a8 rfl rfl rfl HT HT ?_))|refine ae rfl ?_|apply ac|apply aJ
     refine aW hk2 ⟨va,vk2,PL++[p],?_,?_,?_,hh_⟩
     ·rw[hg2,tA,List.map_append,hPL,hpp];rfl
     ·rw[xE,iU hp,List.length_append];omega
     ·rw[hg2]
      simp only[l4,List.map_append,List.map_singleton,List.length_append,List.length_map,List.length_singleton]
      exact hS5
 ·have hk3:k=d.parts.l.length:=by omega
  have hGd:cT (kI d.plain.row Ls) (dw κ d.plain.row Ls) k=d.plain.G κ:=by
   unfold PD.G
   rw[hLs,hpl,hk3]
  rw[hGd]at hPL hS hglen hG2
  clear hgsucc
  have hvk:aA h' vk 1 _ _:=hS.get (i:=6) rfl
  rw[List.length_map]at hvk
  have hPLl:PL.length=(d.plain.G κ).length:=by
   have:=congrArg List.length hPL
   simpa[ga] using this
  repeat' first|apply ad|(apply gw;first|refine ai rx_ ?_|(apply gq3;first|refine az rx_ ?_|refine aN rx_ ?_|(refine aB rfl rfl rfl ?_ ?_<;>(intro hc;try omega)))|(apply gq6;first|refine bM rx_ ?_|refine dW rfl ?_|refine eP rx_ (by assumption) ?_)|(refine gb rfl rfl HT HT ?_;intro id hid;try simp only[aa.set_none]at hid))|(apply gx;first|apply af|refine ae rfl ?_|apply au|apply aP|refine ah rfl ?_)|apply ac|apply aQ|apply aR|apply ba
  have e1:(List.replicate ((d.plain.G κ).length:Int).toNat [AV.int .i64 0]).flatten=List.replicate (d.plain.G κ).length (.int .i64 0):=gW _ _
  rw[e1]
  generalize hm:(d.plain.G κ).length=m at *
  have hS1:=hS.new (o := .cells 1 (List.replicate m (.int .i64 0))) hid
  clear e1 hS hvk
  refine cl m (fun j env h'=>Sep h' (l4 h i4 im inx io d.next.l.length (List.replicate d.next.l.length (.rd 0 [] true)) (List.replicate d.next.l.length []) d.tags.iv vp vk ((d.plain.G κ).map (jf κ d.plain.row Ls)) PL ((d.plain.G κ).map fun ks=>ks.headD 0)++[ck id (.cells 1 ((List.range j).map fu++List.replicate (m-j) (.int .i64 0)))])∧env.has [(0,.ptr iw 0 0),(4,.ptr i4 0 0),(6,.ptr io 0 0),(7,vk),(16,.own id 1 1 0 m none),(132,.int .i64 m),(133,.int .i64 j)]) ⟨by simpa using hS1,hh_⟩ ?_
  clear hS1 hid
  rintro j env h' hj ⟨hS,he⟩
  obtain⟨env,rfl⟩:=he.ex
  clear he
  have hat:h'.get id=some (.cells 1 ((List.range j).map fu++List.replicate (m-j) (.int .i64 0))):=hS.get (i:=7) rfl
  by_cases hj2:j<m
  ·repeat' first|apply ad|(apply gw;first|refine ai rx_ ?_|(apply gq3;first|refine az rx_ ?_|refine aN rx_ ?_|refine a8 rfl rfl rfl HT HT ?_|(refine aB rfl rfl rfl ?_ ?_<;>(intro hc;try omega)))|(apply gq5;first|refine aO rx_ ?_|refine aS rx_ ?_|refine bk rfl rfl HT HT ?_)|(apply iA;first|refine bg rx_ ?_|refine bf rx_ ?_|refine aY (v:=AV.int _ _) rfl rfl hq_ rfl rfl b_ sv_ ?_))|(apply gx;first|apply af|refine ae rfl ?_|apply ay|apply au|refine al rfl ?_)|apply ac|apply aJ
   refine aW hj2 ⟨?_,hh_⟩
   have hS2:=hS.put 7 (.cells 1 (((List.range j).map fu++List.replicate (m-j) (AV.int .i64 0)).set j (fu j))) rfl
   rw[jP HU hj2]at hS2
   rw[List.range_succ,List.map_append,List.map_singleton]
   have e8:((List.range j).map fu++List.replicate (m-j) (AV.int .i64 0)).set ((j:Int).toNat*1) (AV.int .i64 j)=(List.range j).map fu++[fu j]++List.replicate (m-(j+1)) (.int .i64 0):=by
    rw[show(j:Int).toNat*1=j by omega]
    exact jP HU hj2
   rw[e8]
   exact hS2
  ·have hj3:j=m:=by omega
   subst hj3
   rw[Nat.sub_self,List.replicate_zero,List.append_nil]at hS hat
   have hvp:aA h' vp 1 PL.length (PL.map Rw.sv):=hS.get (i:=5) rfl
   have hio:h'.get io=some (.cells 0 [vp,.own inx 1 1 0 d.next.l.length none,d.tags.iv]):=hS.get (i:=4) rfl
   have hdio:id≠io:=fun e=>hS.disj (i:=7) (j:=4) rfl rfl (by decide) id rfl e
   have hsort:aU Φ 120 [.own id 1 1 0 j none,.fn 121 [.ptr io 0 0]] h' (fun _ h2=>Sep h2 (l4 h i4 im inx io d.next.l.length (List.replicate d.next.l.length (.rd 0 [] true)) (List.replicate d.next.l.length []) d.tags.iv vp vk ((d.plain.G κ).map (jf κ d.plain.row Ls)) PL ((d.plain.G κ).map fun ks=>ks.headD 0)++[ck id (.cells 1 ((d.plain.O κ).map fu))])):=by
    refine aU.ext rfl J.lo ⟨rfl,rfl,rfl,rfl,?_⟩
    have hOl:(d.plain.O κ).length=j:=by rw[xT];exact hm
    rcases hvp with⟨rfl,h0,_⟩|⟨ip,gp,rfl,hip,hgp1,_⟩
    ·left
     refine⟨by omega,⟨_,hat⟩,?_⟩
     have h1:d.plain.O κ=[]:=List.eq_nil_of_length_eq_zero HT
     have h2:j=0:=by omega
     subst h2
     rw[h1]
     exact hS
    ·right
     refine⟨_,(List.range j).map (fun i:Nat=>(i:Int)),ip,gp,PL.length,PL.map Rw.sv,_,hat,by simp,by omega,?_,hdio,fun e=>hS.disj (i:=7) (j:=5) rfl rfl (by decide) id rfl (by rw[e];rfl),hio,hip,by simp,fun z hz=>?_,fun v hv=>?_,fun zs' hp hs=>?_⟩
     ·rw[List.take_of_length_le HU,ey,List.map_map];rfl
     ·obtain⟨i,hi,rfl⟩:=List.mem_map.1 hz
      rw[List.mem_range]at hi
      omega
     ·obtain⟨r,hr,rfl⟩:=List.mem_map.1 hv
      have hrl:r.l∈ga d.plain (d.plain.G κ):=hPL ▸ List.mem_map.2 ⟨r,hr,rfl⟩
      obtain⟨g,hg,hge⟩:=List.getElem_of_mem hrl
      have hg2:g<(d.plain.G κ).length:=by simpa[ga] using hg
      have hnn:=uH hok hne hK hg2
      rw[show(ga d.plain (d.plain.G κ)).getD g []=r.l by rw[← hge];simp[List.getD_eq_getElem?_getD,hg]]at hnn
      obtain⟨rl,rf⟩:=r
      cases rl with
      | nil=>exact absurd rfl hnn
      | cons a l=>exact⟨l.length+1,a.lo,a.hi,l.flatMap am.av,rf,rfl,by omega⟩
     ·have hz:zs'=(d.plain.O κ).map fun i:Nat=>(i:Int):=by
       have h1:=Gk (m:=(d.plain.G κ).length) (key:=fun g=>vC ((ga d.plain (d.plain.G κ)).getD g [])) (zs:=zs') (by rw[hm];exact hp) (by
        refine List.Pairwise.imp_of_mem (fun {a b} ha hb hab=>?_) hs
        have key:∀ {a:Int},a∈zs'→eR ((PL.map Rw.sv).getD a.toNat .undef)=vC ((ga d.plain (d.plain.G κ)).getD a.toNat []):=fun {a} ha=>by
         have ha2:=hp.mem_iff.1 ha
         obtain⟨i,hi,rfl⟩:=List.mem_map.1 ha2
         rw[List.mem_range]at hi
         obtain⟨r,hr⟩:=aK (l:=PL) (i:=i) HT
         rw[← hPL]
         simp only[List.getD_eq_getElem?_getD,List.getElem?_map,Int.toNat_natCast,hr,Option.map_some,Option.getD_some]
         obtain⟨rl,rf⟩:=r
         cases rl<;>rfl
        rw[key ha,key hb]at hab
        exact hab) (Gr hok hne hK)
       exact h1
      have hS2:=hS.put 7 (.cells 1 ((d.plain.O κ).map fu)) rfl
      have e9:ey zs'++((List.range j).map fu).drop j=(d.plain.O κ).map fu:=by
       rw[List.drop_of_length_le HU,List.append_nil,hz,ey,List.map_map];rfl
      rw[e9]
      exact hS2
   repeat' first|apply ad|(apply gw;first|refine ai rx_ ?_|(apply gq3;first|refine az rx_ ?_|refine aN rx_ ?_|(refine aB rfl rfl rfl ?_ ?_<;>(intro hc;try omega)))|refine aL rfl nt_ ?_|refine oI (vs:=[AV.ptr _ _ _]) rfl rfl ?_)|(apply gx;first|apply af|refine ae rfl ?_|apply aP|refine ah rfl ?_)|apply ac|apply aQ|apply aR|apply ba
   refine bS hsort ?_
   clear hsort hS hat hvp hio
   rintro _ h2 hS
   have hOl:(d.plain.O κ).length=j:=by rw[xT];exact hm
   have hCl:(d.plain.cols κ).length=j:=by rw[xz];exact hm
   repeat' first|apply ad|(apply gw;first|refine ai rx_ ?_|(apply gq6;first|refine bM rx_ ?_|refine dW rfl ?_))|(apply gx;first|apply af|refine ae rfl ?_|apply au)|apply ac
   refine cl j (fun i env h'=>∃ vpp ws,Sep h' (l4 h i4 im inx io d.next.l.length ws ((dT d.plain.next d.next.l.length ((d.plain.cols κ).take i) ((d.plain.cols κ).take i) 0).map iC) d.tags.iv vp vk ((d.plain.G κ).map (jf κ d.plain.row Ls)) PL ((d.plain.G κ).map fun ks=>ks.headD 0)++[ck id (.cells 1 ((d.plain.O κ).map fu)),cP vpp 1 i (((d.plain.O κ).take i).map fun g=>(PL.getD g ⟨[],false⟩).sv)])∧env.has [(0,.ptr iw 0 0),(4,.ptr i4 0 0),(6,.ptr io 0 0),(7,vk),(18,vpp),(144,.own id 1 1 0 j none),(145,.int .i64 j),(146,.int .i64 i)]) ⟨_,List.replicate d.next.l.length (.rd 0 [] true),?_,hh_⟩ ?_
   ·have e1:(dT d.plain.next d.next.l.length ((d.plain.cols κ).take 0) ((d.plain.cols κ).take 0) 0).map iC=List.replicate d.next.l.length []:=by
     refine List.ext_getElem (by simp[dT]) fun q h1 h2=>?_
     simp[dT]
    rw[e1]
    exact hS.nil 1
   clear hS
   rintro i env h' hi ⟨vpp,ws,hS,he⟩
   obtain⟨env,rfl⟩:=he.ex
   clear he
   have hold:=hS.get (i:=0) rfl
   have hio:h'.get io=some (.cells 0 [vp,.own inx 1 1 0 d.next.l.length none,d.tags.iv]):=hS.get (i:=4) rfl
   have hvp:aA h' vp 1 PL.length (PL.map Rw.sv):=hS.get (i:=5) rfl
   have hord:h'.get id=some (.cells 1 ((d.plain.O κ).map fu)):=hS.get (i:=7) rfl
   have hvpp:aA h' vpp 1 i _:=hS.get (i:=8) rfl
   have hnpp:=hvpp.notTup
   by_cases hi2:i<j
   ·obtain⟨g,hg⟩:=aK (l:=d.plain.O κ) (i:=i) HT
    have hgl:g<(d.plain.G κ).length:=gm.1 (List.mem_of_getElem? hg)
    obtain⟨pg,hpg⟩:=aK (l:=PL) (i:=g) HT
    have hpgd:PL.getD g ⟨[],false⟩=pg:=by simp[List.getD_eq_getElem?_getD,hpg]
    repeat' first|apply ad|(apply gw;first|refine ai rx_ ?_|(apply gq2;first|refine aC rx_ ?_|refine dP (g:=_) rfl hq_ hg eq_ ?_|refine dP (g:=_) rfl hq_ hpg eq_ ?_|refine ak rfl hq_ HU b_ pv_ ?_)|(apply gq3;first|refine az rx_ ?_|refine aN rx_ ?_|(refine aB rfl rfl rfl ?_ ?_<;>(intro hc;try omega)))|(apply gq5;first|refine aO rx_ ?_|refine aS rx_ ?_|refine bk rfl rfl HT HT ?_|(refine cM rx_ (by assumption) rfl HT HT ?_;intro ir gr hvr hgr hgp;have hner:=aa.ne_of hgr;have hner2:=aa.ne_of2 hgr))|(apply lE;first|refine bX rx_ ?_|refine bW rx_ ?_|(refine br (m:=1) rx_ iq_ rfl rfl HT ?_;intro va hpa hra hka hria))|(apply gq4;first|refine aG rx_ ?_|refine aq rfl (Nat.zero_add _) ?_)|refine bi rfl ?_|refine bF (cs:=[AV.rd _ _ _]) rfl rfl ?_)|(apply gx;first|apply af|refine ae rfl ?_|apply ay|apply au|refine al rfl ?_)|apply ac
    have hS2:=hS.upd 8 (cP va 1 (i+1) ((((d.plain.O κ).take i).map fun g=>(PL.getD g ⟨[],false⟩).sv)++[pg.sv])) rfl hra hka hria
    have hold2:=hS2.get (i:=0) rfl
    have hw2:hpa.get iw=_:=(hold2 iw hiw).trans hw'
    clear hS hold hio hvp hord hvpp hnpp hra hka hria
    repeat' first|apply ad|(apply gw;first|refine ai rx_ ?_|(apply gq6;first|refine bM rx_ ?_|refine aD rfl ?_)|refine ak rfl hq_ HU b_ pv_ ?_)|apply au|apply ac
    obtain⟨c,hc⟩:=aK (l:=d.plain.cols κ) (i:=i) HT
    have hkg:((d.plain.G κ).map fun ks=>ks.headD 0)[g]?=some c:=by
     have h1:(d.plain.cols κ)[i]?=some (((d.plain.G κ).getD g []).headD 0):=by
      unfold PD.cols
      rw[List.getElem?_map,hg];rfl
     rw[hc]at h1
     rw[Option.some.inj h1,List.getElem?_map,List.getElem?_eq_getElem hgl]
     simp[List.getD_eq_getElem?_getD,hgl]
    have hcp:c<d.parts.l.length:=by
     have:=(vO hok hK (List.mem_of_getElem? hc)).1
     omega
    have htk:(d.plain.cols κ).take (i+1)=(d.plain.cols κ).take i++[c]:=aX hc
    refine cl d.next.l.length (fun q env h'=>∃ ws,Sep h' (l4 h i4 im inx io d.next.l.length ws ((dT d.plain.next d.next.l.length ((d.plain.cols κ).take i) ((d.plain.cols κ).take i++[c]) q).map iC) d.tags.iv vp vk ((d.plain.G κ).map (jf κ d.plain.row Ls)) PL ((d.plain.G κ).map fun ks=>ks.headD 0)++[ck id (.cells 1 ((d.plain.O κ).map fu)),cP va 1 (i+1) ((((d.plain.O κ).take i).map fun g=>(PL.getD g ⟨[],false⟩).sv)++[pg.sv])])∧env.has [(0,.ptr iw 0 0),(4,.ptr i4 0 0),(6,.ptr io 0 0),(7,vk),(18,va),(20,.int .i64 g),(144,.own id 1 1 0 j none),(145,.int .i64 j),(146,.int .i64 i),(162,d.next.mv Rw.iv),(163,.int .i64 d.next.l.length),(164,.int .i64 q)]) ⟨ws,by rw[mz _ _ _ _ ((d.plain.cols κ).take i)];exact hS2,hh_⟩ ?_
    clear hS2 hold2 hw2
    rintro q env h' hq ⟨ws,hS,he⟩
    obtain⟨env,rfl⟩:=he.ex
    clear he
    have hio:h'.get io=some (.cells 0 [vp,.own inx 1 1 0 d.next.l.length none,d.tags.iv]):=hS.get (i:=4) rfl
    have hvk:aA h' vk 1 _ _:=hS.get (i:=6) rfl
    have hgr:dN h' inx ws _:=hS.get (i:=3) rfl
    have hwl:=hgr.len
    rw[List.length_map,lh]at hwl
    rw[List.length_map]at hvk
    by_cases hq2:q<d.next.l.length
    ·obtain⟨r,hr⟩:=aK hq2
     obtain⟨w,hw⟩:=aK (l:=ws) (i:=q) HT
     have hrl:=hf.rows r (List.mem_of_getElem? hr)
     obtain⟨x,hx⟩:=aK (l:=r.l) (i:=c) HT
     have hrx:(d.plain.next.getD q []).getD c (-1)=x:=by
      have:d.plain.next.getD q []=r.l:=by simp[Dfa.plain,cR,List.getD_eq_getElem?_getD,hr]
      rw[this];simp[List.getD_eq_getElem?_getD,hx]
     have hat:=hgr.at_
     have hrow:=hgr.row hw (by rw[List.getElem?_map,rx hq2];rfl)
     rw[List.length_map,List.length_map,List.length_take]at hrow
     have hmin:min i (d.plain.cols κ).length=i:=by omega
     rw[hmin]at hrow
     repeat' first|apply ad|(apply gw;first|refine ai rx_ ?_|(apply gq2;first|refine aC rx_ ?_|refine iP (g:=_) rfl hq_ hw eq_ HU ?_|refine dP (g:=_) rfl hq_ hkg eq_ ?_|refine aI rfl b_ pv_ ?_|refine ak rfl hq_ HU b_ pv_ ?_)|(apply gq3;first|refine az rx_ ?_|refine aN rx_ ?_|(refine aB rfl rfl rfl ?_ ?_<;>(intro hc;try omega)))|(apply gq5;first|refine aO rx_ ?_|refine aS rx_ ?_|refine ar rfl rfl hr HT rfl ?_|refine ar rfl rfl hx HT rfl ?_|refine bk rfl rfl HT HT ?_|(refine cM rx_ (by assumption) rfl HT HT ?_;intro ir gr hvr hgr hgp;have hner:=aa.ne_of hgr;have hner2:=aa.ne_of2 hgr))|(apply iA;first|refine bg rx_ ?_|refine bf rx_ ?_)|(apply lE;first|refine bX rx_ ?_|refine bW rx_ ?_|(refine br (m:=1) rx_ iq_ rfl rfl HT ?_;intro va hpa hra hka hria))|(apply gq4;first|refine aG rx_ ?_|refine aq rfl (Nat.zero_add _) ?_)|refine bF (cs:=[AV.int _ _]) rfl rfl ?_)|(apply gx;first|apply af|refine ae rfl ?_|apply ay|apply au|refine al rfl ?_)|apply ac
     obtain⟨hS2,hg2⟩:=hS.gput 3 (j:=q) (r:=iC (((d.plain.cols κ).take i).map fun k=>(d.plain.next.getD q []).getD k (-1))++[.int .i64 x]) rfl hw (by
      rw[List.length_append,List.length_map,List.length_map,List.length_take,hmin]
      exact hra) hka hria
     refine cr (v:=va) (cs':=ws.set q va) rfl rfl hra hg2 HT (by rw[show(0+(q:Int).toNat)*1=q by omega]) ?_
     repeat' first|apply ad|(apply gw;first|refine ai rx_ ?_|(apply gq3;first|refine az rx_ ?_|refine a8 rfl rfl rfl HT HT ?_))|refine ae rfl ?_|apply ac|apply aJ
     refine aW hq2 ⟨ws.set q va,?_,hh_⟩
     have e4:iC (((d.plain.cols κ).take i).map (fun k=>(d.plain.next.getD q []).getD k (-1))++[(d.plain.next.getD q []).getD c (-1)])=iC (((d.plain.cols κ).take i).map fun k=>(d.plain.next.getD q []).getD k (-1))++[.int .i64 x]:=by
      rw[hrx];simp[iC]
     rw[← ru hq2,List.map_set,e4]
     exact hS2
    ·have hq3:q=d.next.l.length:=by omega
     subst hq3
     rw[ry,← htk]at hS
     repeat' first|apply ad|(apply gw;first|refine ai rx_ ?_|(apply gq3;first|refine az rx_ ?_|refine aN rx_ ?_|refine a8 rfl rfl rfl HT HT ?_|(refine aB rfl rfl rfl ?_ ?_<;>(intro hc;try omega))))|(apply gx;first|apply af|refine ae rfl ?_|apply aP|refine ah rfl ?_)|apply ac|apply aQ|apply aJ|apply aR|apply ba
     refine aW hi2 ⟨va,ws,?_,hh_⟩
     rw[aX hg,List.map_append,List.map_singleton,hpgd]
     exact hS
   ·have hi3:i=j:=by omega
    subst hi3
    rw[List.take_of_length_le HT,List.take_of_length_le HT]at hS
    rw[List.take_of_length_le HT]at hvpp
    have hres:h'.get i4=some vv:=hS.get (i:=1) rfl
    repeat' first|apply ad|(apply gw;first|refine ai rx_ ?_|refine aC rx_ ?_|(apply gq3;first|refine az rx_ ?_|refine aN rx_ ?_|(refine aB rfl rfl rfl ?_ ?_<;>(intro hc;try omega)))|(apply iA;first|refine bg rx_ ?_|refine bf rx_ ?_|refine cr rfl rx_ (by assumption) hq_ b_ (by first|(simp only[List.set_cons_zero,List.set_cons_succ]<;>exact rfl)|exact rfl) ?_)|(apply gq4;first|refine aG rx_ ?_|refine aq rfl (Nat.zero_add _) ?_))|(apply gx;first|apply af|refine ae rfl ?_|apply aP|refine ah rfl ?_)|apply ac|apply aQ|apply aR|apply ba
    have hS2:=hS.put 4 (.cells 0 [vpp,.own inx 1 1 0 d.next.l.length none,d.tags.iv]) rfl
    have hio2:(h'.set io (.cells 0 [vpp,.own inx 1 1 0 d.next.l.length none,d.tags.iv])).get io=some (.cells 0 [vpp,.own inx 1 1 0 d.next.l.length none,d.tags.iv]):=hS2.get (i:=4) rfl
    have hres2:(h'.set io (.cells 0 [vpp,.own inx 1 1 0 d.next.l.length none,d.tags.iv])).get i4=some vv:=hS2.get (i:=1) rfl
    repeat' first|apply ad|(apply gw;first|(apply iA;first|refine bg rx_ ?_|refine bf rx_ ?_|refine aY (v:=AV.agg _) rfl rfl hq_ rfl rfl b_ sv_ ?_)|refine ak rfl hq_ HU b_ pv_ ?_)|apply aM|apply ac
    have hS3:=hS2.put 1 (.cells 0 [vpp,.own inx 1 1 0 d.next.l.length none,d.tags.iv]) rfl
    have hvpp3:aA _ vpp 1 i _:=hS3.get (i:=8) rfl
    have hgr3:dN _ inx ws _:=hS3.get (i:=3) rfl
    have hfz:=hgr3.fz (S:=fun k=>eX inx ws k∨vpp.rowId=some k) (lim:=none) fun _ h => .inl h
    rw[List.length_map,lh]at hfz
    refine fA (fun k=>eX inx ws k∨vpp.rowId=some k) (mA rfl (aa.get_set_self _ _ _) rfl) (.agg (.cons (hvpp3.fz _ (fun _ h => .inr h) (FzL.same _)) (.cons hfz (.cons (.same _) .nil)))) ⟨⟨(d.plain.O κ).map fun g=>PL.getD g ⟨[],false⟩,?_,?_⟩,fun k hk=>?_⟩
    ·rw[← hPL,List.map_map]
     apply List.map_congr_left
     intro g hg
     have hgl:g<PL.length:=by rw[hPLl];exact Nat.lt_of_lt_of_eq (gm.1 hg) hm
     exact(cV (fun x:Rw am=>x.l) PL g ⟨[],false⟩ [] hgl).symm
    ·rw[List.length_map,hOl,List.map_map,List.map_map,List.map_map]
     congr 3
     unfold dT
     rw[List.map_map]
     congr 1
     apply List.map_congr_left
     intro q hq
     rw[List.mem_range]at hq
     simp only[Function.comp,Nat.not_lt_zero,if_false]
     rw[show(iC ((d.plain.cols κ).map fun k=>(d.plain.next.getD q []).getD k (-1))).length=(d.plain.R2 κ q).length by simp[PD.R2]]
     rfl
    ·have h1:¬ (eX inx ws k∨vpp.rowId=some k):=by
      rintro(h1|h1)
      ·exact hS3.disj (i:=0) (j:=3) rfl rfl (by decide) k hk h1
      ·exact hS3.disj (i:=0) (j:=8) rfl rfl (by decide) k hk h1
     simp only[aa.drop]
     rw[if_neg h1]
     exact hS3.get (i:=0) rfl k hk
end
end Go.Proofs.YtlnobeojgifojaaGreatDoor
