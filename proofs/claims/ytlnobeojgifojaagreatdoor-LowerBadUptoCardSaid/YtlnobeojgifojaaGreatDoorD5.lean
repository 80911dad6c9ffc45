/- The document's sets. The document's sets: Make, Norm. -/
import Derived.Test.YtlnobeojgifojaaGreatDoorC
import Derived.Test.YtlnobeojgifojaaGreatDoorD1
import Derived.Test.YtlnobeojgifojaaGreatDoorD4
import Derived.Test.YtlnobeojgifojaaGreatDoorB2
set_option linter.unusedVariables false
set_option linter.unusedSimpArgs false
namespace Go.Proofs.YtlnobeojgifojaaGreatDoor
section
open Go
set_option maxHeartbeats 4000000
attribute [local irreducible] aw bg bm dg bz cw dO bH wop cz a8
theorem ry {Φ:Lib}(L:l9 Φ)(x:Int):fg Φ 44 [.int .i64 x] (.bool (cv x)):=by
 refine aY (fun _=>false) rfl L.f44 ?_
 repeat' first|apply ad|(apply gw;first|(apply gq0;first|refine am rfl ?_|refine bj rfl ?_)|(apply gq1;first|refine cr rfl ?_|refine bP rfl ?_|refine FX rfl ?_)|(apply gq3;first|(refine aA rfl rfl rfl ?_ ?_<;>(intro hc;try (exfalso;omega)))|(refine ix rfl rfl rfl ?_ ?_<;>(intro hc;try (exfalso;omega)))|(refine cY rfl rfl rfl ?_ ?_<;>(intro hc;try (exfalso;omega)))|(refine fp rfl rfl rfl ?_ ?_<;>(intro hc;try (exfalso;omega))))|(apply gq7;first|refine aZ rfl rfl ?_|refine bc rfl rfl ?_))|(apply gx;first|apply af|refine ae rfl ?_|apply aJ)|apply aa|refine aH (v:=AV.bool _) rfl ?_
 all_goals simp[cv, *]
theorem B5 {Φ:Lib}(L:l9 Φ)(l:List ai)(fl:Bool)(r:Int)(hl:l.length≤1073741824):fg Φ 31 [.rd l.length (l.flatMap ai.av) fl,.int .i64 r] (.bool (jO l r)):=by
 refine aY (fun _=>false) rfl L.f31 ?_
 repeat' first|apply ad|(apply gq0;first|refine am rfl ?_|refine bj rfl ?_)|(apply gx;first|apply af|refine ae rfl ?_|apply al)|apply aa
 refine bG l.length (fun i env h'=>(∀ s∈l.take i,¬ (s.lo≤r∧r≤s.hi))∧env.has [(0,.rd l.length (l.flatMap ai.av) fl),(1,.int .i64 r),(5,.int .i64 i)]) ⟨by simp,hh_⟩ ?_
 rintro i env h' hi ⟨hpre,he⟩
 obtain⟨env,rfl⟩:=he.ex
 clear he
 by_cases hi2:i<l.length
 ·obtain⟨s,hs⟩:=aK hi2
  have hgo:¬ (s.lo≤r∧r≤s.hi)→∀ t∈l.take (i+1),¬ (t.lo≤r∧r≤t.hi):=fun hn t ht=>by
   rw[aS hs]at ht
   rcases List.mem_append.1 ht with ht|ht
   ·exact hpre t ht
   ·simp only[List.mem_singleton]at ht
    subst ht;exact hn
  repeat' first|apply ad|(apply gw;first|(apply gq0;first|refine am rfl ?_|refine bj rfl ?_|refine aG rfl ?_)|(apply gq1;first|refine cr rfl ?_|refine bP rfl ?_)|refine aB rfl b_ pv_ ?_|(apply gq3;first|refine aQ rfl rfl rfl (by omega) (by omega) ?_|(refine aA rfl rfl rfl ?_ ?_<;>(intro hc;try (exfalso;omega)))|(refine ix rfl rfl rfl ?_ ?_<;>(intro hc;try (exfalso;omega)))|(refine fp rfl rfl rfl ?_ ?_<;>(intro hc;try (exfalso;omega))))|refine kz rfl (by simp) rfl ?_|refine iS rfl fl_ rfl rfl (by assumption) rfl ?_|refine az rfl ?_|(apply gq7;first|refine aZ rfl rfl ?_|refine bc rfl rfl ?_)|refine aI rfl nt_ ?_)|(apply gx;first|apply af|refine ae rfl ?_|apply ay|apply al|apply aJ|refine ak rfl ?_|refine ah rfl ?_)|apply aa|apply cu|apply aF|apply fT|apply ld|refine aU (ry L _) fz_ fz_ ?_|refine aH (v:=AV.bool _) rfl ?_
  ·have:(l.any fun s=>decide (s.lo≤r)&&decide (r≤s.hi))=true:=List.any_eq_true.2 ⟨s,List.mem_of_getElem? hs,by simp[*]⟩
   rw[jO,this,Bool.and_true]
  ·exact aP hi2 ⟨hgo (by omega),hh_⟩
  ·exact aP hi2 ⟨hgo (by omega),hh_⟩
 ·repeat' first|apply ad|(apply gw;first|(apply gq0;first|refine am rfl ?_|refine bj rfl ?_|refine aG rfl ?_)|(refine aA rfl rfl rfl ?_ ?_<;>(intro hc;try (exfalso;omega)))|refine az rfl ?_)|(apply gx;first|apply af|refine ae rfl ?_|apply aJ|apply aL|refine ah rfl ?_)|apply aa|apply aM|apply aN|apply aR|refine aH (v:=AV.bool _) rfl ?_
  rw[List.take_of_length_le (by omega)]at hpre
  have:(l.any fun s=>decide (s.lo≤r)&&decide (r≤s.hi))=false:=by
   rw[List.any_eq_false]
   intro s hs
   have:=hpre s hs
   simpa using this
  rw[jO,this,Bool.and_false]
theorem xU {Φ:Lib}(L:l9 Φ)(l:List Int)(fl:Bool)(x:Int)(hl:l.length≤1073741824):fg Φ 58 [.rd l.length (l.map (.int .i64)) fl,.int .i64 x] (gK (kh l x)):=by
 refine aY (fun _=>false) rfl L.f58 ?_
 repeat' first|apply ad|(apply gq0;first|refine am rfl ?_|refine aG rfl ?_)|(apply gx;first|apply af|refine ae rfl ?_|apply al)|apply aa
 refine bG l.length (fun i env h'=>∃ v,(∀ y∈l.take i,y<x)∧aC h' v 1 i ((l.take i).map (.int .i64))∧env.has [(0,.rd l.length (l.map (.int .i64)) fl),(1,.int .i64 x),(5,v),(6,.int .i64 i)]) ⟨_,by simp,aC.nil _ _,hh_⟩ ?_
 rintro i env h' hi ⟨v,hpre,hrow,he⟩
 obtain⟨env,rfl⟩:=he.ex
 clear he
 have hlay:=IA hpre
 by_cases hi2:i<l.length
 ·obtain⟨a,ha⟩:=aK hi2
  have hd:l.drop i=a::l.drop (i+1):=by
   obtain⟨h1,rfl⟩:=List.getElem?_eq_some_iff.1 ha
   exact List.drop_eq_getElem_cons h1
  rw[hd,kh]at hlay
  have e1:(i:Int).toNat=i:=by omega
  have e2:((i:Int)+1).toNat=i+1:=by omega
  repeat' first|apply ad|(apply gw;first|(apply gq0;first|refine am rfl ?_|refine bj rfl ?_|refine aG rfl ?_|refine aq rv_ ?_)|refine bP rfl ?_|refine aB rfl b_ pv_ ?_|(apply gq3;first|refine aQ rfl rfl rfl (by omega) (by omega) ?_|(refine aA rfl rfl rfl ?_ ?_<;>(intro hc;try (exfalso;omega)))|(refine cq rfl rfl rfl ?_ ?_<;>(intro hc;try (exfalso;omega))))|refine gd rfl rfl rfl (by assumption) rfl ?_|refine az rfl ?_|refine aZ rfl rfl ?_|(apply lg;first|(refine aX (m:=1) rv_ ir_ rfl rfl (by omega) ?_;intro va hpa hra hka hria)|(refine aX rv_ ir_ rfl (by simp) (by first|omega|(simp;omega)) ?_;intro va hpa hra hka hria))|refine bk (cs:=[AV.int _ _]) rfl rfl ?_|refine iG rfl rfl rfl (by omega) (by omega) ?_)|(apply gx;first|apply af|refine ae rfl ?_|apply ay|apply al|apply aJ|apply aL|refine ak rfl ?_|refine ah rfl ?_)|apply aa|apply aM|apply aF|apply aN|apply aR
  ·refine aP hi2 ⟨va,(fun y hy=>?_),?_,hh_⟩
   ·rw[aS ha]at hy
    rcases List.mem_append.1 hy with hy|hy
    ·exact hpre y hy
    ·simp only[List.mem_singleton]at hy
     omega
   ·rw[aS ha,List.map_append]
    exact hra
  ·rw[if_neg (by omega),if_pos ‹_›]at hlay
   refine fj rfl hra fun _=>?_
   have e3:(l.drop (i+1)).length=l.length-(i+1):=by simp
   simp only[gK,hlay,e2,List.length_append,List.length_take,List.length_cons,List.map_append,List.map_cons,List.append_assoc,List.cons_append,List.nil_append,e3,‹a=x›]
   congr 1;omega
  ·rw[if_neg (by omega),if_neg ‹_›,← hd]at hlay
   refine fj rfl hra fun _=>?_
   have e3:(l.drop i).length=l.length-i:=by simp
   simp only[gK,hlay,e1,List.length_append,List.length_take,List.length_cons,List.map_append,List.map_cons,List.append_assoc,List.cons_append,List.nil_append,e3]
   congr 1;omega
 ·have e1:(i:Int).toNat=i:=by omega
  repeat' first|apply ad|(apply gw;first|(apply gq0;first|refine am rfl ?_|refine bj rfl ?_|refine aG rfl ?_|refine aq rv_ ?_)|refine cr rfl ?_|(refine aA rfl rfl rfl ?_ ?_<;>(intro hc;try (exfalso;omega)))|refine az rfl ?_|refine bc rfl rfl ?_|(apply lg;first|(refine aX (m:=1) rv_ ir_ rfl rfl (by omega) ?_;intro va hpa hra hka hria)|(refine aX rv_ ir_ rfl (by simp) (by first|omega|(simp;omega)) ?_;intro va hpa hra hka hria))|refine bk (cs:=[AV.int _ _]) rfl rfl ?_|refine iG rfl rfl rfl (by omega) (by omega) ?_)|(apply gx;first|apply af|refine ae rfl ?_|apply ay|apply aJ|apply aL|refine ah rfl ?_)|apply aa|apply aM|apply aN|apply aR
  rw[List.drop_of_length_le (by omega),kh]at hlay
  refine fj rfl hra fun _=>?_
  simp only[gK,hlay,e1,List.length_append,List.length_take,List.length_cons,List.map_append,List.map_cons,List.append_assoc,List.cons_append,List.nil_append,List.drop_of_length_le (show l.length≤i by omega),List.length_nil,List.map_nil]
  congr 1;omega
theorem mr (l:List ai):∀ out:List Int,(l.foldl jt out).length≤out.length+2*l.length:=by
 induction l with
 | nil=>intro out;simp
 | cons s l ih =>
  intro out
  have h1:=ih (jt out s)
  have h2:(jt out s).length≤out.length+2:=by
   simp only[jt]
   have a:=kU out s.lo
   have b:=kU out (s.hi+1)
   have c:=kU (kh out s.lo) (s.hi+1)
   split<;>split<;>omega
  rw[List.foldl_cons,List.length_cons]
  omega
theorem pE (l:List ai):(eW l).length≤2+2*l.length:=mr l _
theorem zY {Φ:Lib}(L:l9 Φ)(l:List ai)(fl:Bool)(hl:l.length≤67108864)(hw:∀ s∈l,-9223372036854775808≤s.hi):fg Φ 57 [.rd l.length (l.flatMap ai.av) fl] (gK (eW l)):=by
 refine aY (fun _=>false) rfl L.f57 ?_
 repeat' first|apply ad|(apply gw;first|(apply gq0;first|refine am rfl ?_|refine aG rfl ?_)|refine aI rfl nt_ ?_)|(apply gx;first|apply af|refine ae rfl ?_|apply al)|apply aa|refine aU (xU L [] _ _ (by simp)) fz_ fz_ ?_|refine aU (xU L _ _ _ (by first|omega|(simp;omega)|decide|fail)) fz_ fz_ ?_
 refine bG l.length (fun i env h'=>env.has [(0,.rd l.length (l.flatMap ai.av) fl),(3,gK ((l.take i).foldl jt [0,57344])),(4,.int .i64 i)]) (hh_) ?_
 rintro i env h' hi he
 obtain⟨env,rfl⟩:=he.ex
 clear he
 have hlen:=mr (l.take i) [0,57344]
 rw[List.length_take]at hlen
 simp only[List.length_cons,List.length_nil]at hlen
 by_cases hi2:i<l.length
 ·obtain⟨s,hs⟩:=aK hi2
  have hws:=hw s (List.mem_of_getElem? hs)
  have hnx:(l.take (i+1)).foldl jt [0,57344]=jt ((l.take i).foldl jt [0,57344]) s:=by
   rw[aS hs,List.foldl_append];rfl
  generalize (l.take i).foldl jt [0,57344]=out at *
  have hll:=kU out s.lo
  have k1:=ry L s.lo
  have k2:=ry L (s.hi+1)
  cases hsc:cv s.lo<;>cases hsh:cv (s.hi+1)
  all_goals
   rw[hsc]at k1
   rw[hsh]at k2
   by_cases hh:s.hi<1114111
  all_goals
   repeat' first|apply ad|(apply gw;first|(apply gq0;first|refine am rfl ?_|refine bj rfl ?_|refine aG rfl ?_)|(apply gq1;first|refine cr rfl ?_|refine bP rfl ?_)|refine aB rfl b_ pv_ ?_|(apply gq3;first|refine aQ rfl rfl rfl (by omega) (by omega) ?_|(refine aA rfl rfl rfl ?_ ?_<;>(intro hc;try (exfalso;omega))))|refine kz rfl (by simp) rfl ?_|refine iS rfl fl_ rfl rfl (by assumption) rfl ?_|refine az rfl ?_|(apply gq7;first|refine aZ rfl rfl ?_|refine bc rfl rfl ?_)|refine aI rfl nt_ ?_)|(apply gx;first|apply af|refine ae rfl ?_|apply ay|apply al|refine ak rfl ?_|refine ah rfl ?_)|apply aa|apply aF|refine aU (by assumption) fz_ fz_ ?_|refine aU (xU L _ _ _ (by first|omega|(simp;omega)|decide|fail)) fz_ fz_ ?_
  all_goals
   refine aP hi2 ?_
   rw[hnx]
   simp only[jt,hsc,hsh,hh,if_true,if_false,and_self,and_true,and_false,Bool.false_eq_true]
   exact hh_
 ·repeat' first|apply ad|(apply gw;first|(apply gq0;first|refine am rfl ?_|refine aG rfl ?_)|(refine aA rfl rfl rfl ?_ ?_<;>(intro hc;try (exfalso;omega)))|refine az rfl ?_)|(apply gx;first|apply af|refine ae rfl ?_|apply aJ|apply aL|refine ah rfl ?_)|apply aa|apply aM|apply aN|apply aR|refine aH (v:=AV.rd _ _ _) rfl ?_
  rw[List.take_of_length_le (by omega)]
  rfl
end
section
open Go
set_option maxHeartbeats 4000000
attribute [local irreducible] aw bg bm dg bz cw dO bH wop cz a8
def Aq (out:List ai)(s:ai):List ai:=match out.getLast? with
 | some a=>if a.hi=s.lo-1 then out.set (out.length-1) ⟨a.lo,s.hi⟩ else out++[s]
 | none=>[s]
theorem IT (r:List ai)(s:ai):Aq r.reverse s=(rW r s).reverse:=by
 cases r with
 | nil=>rfl
 | cons a r =>
  simp only[Aq,rW,List.reverse_cons,List.getLast?_append,List.getLast?_singleton,Option.some_or]
  split
  ·simp
  ·simp
theorem Ap (r:List ai)(s:ai):(rW r s).length≤r.length+1:=by
 cases r with
 | nil=>simp[rW]
 | cons a r =>
  simp only[rW]
  split<;>simp
theorem xi (a b:List ai)(inn:Int)(E:List Int)(r:List ai)(i:Nat):(ln a b inn E r i).length≤r.length+1:=by
 unfold ln
 split
 ·exact Ap r _
 ·omega
theorem uY (a b:List ai)(inn:Int)(E:List Int)(i:Nat):((List.range i).foldl (ln a b inn E) []).length≤i:=by
 induction i with
 | zero=>simp
 | succ i ih =>
  rw[List.range_succ,List.foldl_append,List.foldl_cons,List.foldl_nil]
  have:=xi a b inn E ((List.range i).foldl (ln a b inn E) []) i
  omega
theorem mX (f:List Int):∀ e:List Int,(f.foldl kh e).length≤e.length+f.length:=by
 induction f with
 | nil=>intro e;simp
 | cons x f ih =>
  intro e
  have h1:=ih (kh e x)
  have h2:=kU e x
  rw[List.foldl_cons,List.length_cons]
  omega
theorem Ci {Φ:Lib}(L:l9 Φ)(a b:List ai)(fa fb:Bool)(inn:Int)(h0:0≤inn)(h15:inn≤15)(ha:a.length≤67108864)(hwa:∀ s∈a,-9223372036854775808≤s.hi)(hb:b.length≤67108864)(hwb:∀ s∈b,-9223372036854775808≤s.hi) :
  fg Φ 45 [.rd a.length (a.flatMap ai.av) fa,.rd b.length (b.flatMap ai.av) fb,.int .i64 inn] (.rd (mU a b inn).length ((mU a b inn).flatMap ai.av) false):=by
 have ea:=zY L a fa ha hwa
 have eb:=zY L b fb hb hwb
 have la:=pE a
 have lb:=pE b
 refine aY (fun o=>o == some 36||o == some 47||o == some 54||o == some 62||o == some 70) rfl L.f45 ?_
 repeat' first|apply ad|(apply gw;first|(apply gq0;first|refine am rfl ?_|refine aG rfl ?_)|refine aI rfl nt_ ?_)|(apply gx;first|apply af|refine ae rfl ?_|apply al)|apply aa|refine aU (by assumption) fz_ fz_ ?_
 refine bG (eW b).length (fun i env h'=>env.has [(0,.rd a.length (a.flatMap ai.av) fa),(1,.rd b.length (b.flatMap ai.av) fb),(2,.int .i64 inn),(7,gK (((eW b).take i).foldl kh (eW a))),(8,gK (eW b)),(9,.int .i64 i)]) (hh_) ?_
 rintro i env h' hi he
 obtain⟨env,rfl⟩:=he.ex
 clear he
 by_cases hi2:i<(eW b).length
 ·obtain⟨x,hx⟩:=aK hi2
  have l1:=mX ((eW b).take i) (eW a)
  rw[List.length_take]at l1
  have hl:=xU L (((eW b).take i).foldl kh (eW a)) false x (by omega)
  repeat' first|apply ad|(apply gw;first|(apply gq0;first|refine am rfl ?_|refine aG rfl ?_)|refine aB rfl b_ pv_ ?_|(apply gq3;first|refine aQ rfl rfl rfl (by omega) (by omega) ?_|(refine aA rfl rfl rfl ?_ ?_<;>(intro hc;try (exfalso;omega))))|refine gd rfl rfl rfl (by assumption) rfl ?_|refine az rfl ?_|refine aI rfl nt_ ?_)|(apply gx;first|apply af|refine ae rfl ?_|apply ay|apply al|refine ak rfl ?_)|apply aa|apply aF|refine aU (by assumption) fz_ fz_ ?_
  refine aP hi2 ?_
  rw[aS hx,List.foldl_append]
  exact hh_
 ·rw[List.take_of_length_le (by omega),← lV]
  have lE:(lV a b).length≤268435460:=by
   have:=mX (eW b) (eW a)
   unfold lV
   omega
  have hEr:=(uu (eW b) (eW a) (qW a))
  have hEs:∀ y∈lV a b,cv y=true:=fun y hy=>by
   rcases (hEr.2 y).1 hy with h|h<;>exact su h
  have hms:mU a b inn=((List.range (lV a b).length).foldl (ln a b inn (lV a b)) []).reverse:=rfl
  generalize lV a b=E at *
  repeat' first|apply ad|(apply gw;first|(apply gq0;first|refine am rfl ?_|refine aG rfl ?_)|(refine aA rfl rfl rfl ?_ ?_<;>(intro hc;try (exfalso;omega)))|refine az rfl ?_)|(apply gx;first|apply af|refine ae rfl ?_|apply al|apply aL|refine ah rfl ?_)|apply aa|apply aM|apply aN|apply aR
  refine bG E.length (fun i env h'=>∃ v out,out=((List.range i).foldl (ln a b inn E) []).reverse∧aC h' v 2 out.length (out.flatMap ai.av)∧env.has [(0,.rd a.length (a.flatMap ai.av) fa),(1,.rd b.length (b.flatMap ai.av) fb),(2,.int .i64 inn),(7,gK E),(10,v),(11,.int .i64 i)]) ⟨_,[],rfl,aC.nil _ _,hh_⟩ ?_
  rintro i env h' hi ⟨v,out,hout,hrow,he⟩
  obtain⟨env,rfl⟩:=he.ex
  clear he
  by_cases hi2:i<E.length
  ·obtain⟨x,hx⟩:=aK hi2
   have hxs:=cx.1 (hEs x (List.mem_of_getElem? hx))
   have hra:=B5 L a fa x (by omega)
   have hrb:=B5 L b fb x (by omega)
   have hol:out.length≤i:=by rw[hout,List.length_reverse];exact uY _ _ _ _ _
   have hnx:((List.range (i+1)).foldl (ln a b inn E) []).reverse=if mt inn (kOf a b x)=true then Aq out (gZ E i) else out:=by
    rw[List.range_succ,List.foldl_append,List.foldl_cons,List.foldl_nil,hout,IT]
    have:E.getD i 0=x:=by rw[List.getD_eq_getElem?_getD,hx];rfl
    generalize (List.range i).foldl (ln a b inn E) []=r
    rw[ln,this]
    split<;>rfl
   have hcut:gZ E i=⟨x,if x<55296 then min (if i+1<E.length then E.getD (i+1) 0-1 else 1114111) 55295 else(if i+1<E.length then E.getD (i+1) 0-1 else 1114111)⟩:=by
    rw[gZ]
    have:E.getD i 0=x:=by rw[List.getD_eq_getElem?_getD,hx];rfl
    simp only[this]
   repeat' first|apply ad|(apply gw;first|(apply gq0;first|refine am rfl ?_|refine aG rfl ?_)|(refine aA rfl rfl rfl ?_ ?_<;>(intro hc;try (exfalso;omega)))|refine az rfl ?_)|(apply gx;first|apply af|refine ae rfl ?_|apply ay|apply al|refine ak rfl ?_)|apply aa
   refine oO (fun e h2=>aC h2 v 2 out.length (out.flatMap ai.av)∧e.has [(0,.rd a.length (a.flatMap ai.av) fa),(1,.rd b.length (b.flatMap ai.av) fb),(2,.int .i64 inn),(7,gK E),(10,v),(11,.int .i64 i),(12,.int .i64 (if i+1<E.length then E.getD (i+1) 0-1 else 1114111))]) ?_ ?_
   ·refine af (jJ rfl ?_)
    by_cases hn:i+1<E.length
    ·obtain⟨y,hy⟩:=aK hn
     have hys:=cx.1 (hEs y (List.mem_of_getElem? hy))
     have e1:E.getD (i+1) 0=y:=by rw[List.getD_eq_getElem?_getD,hy];rfl
     rw[if_pos hn,e1]
     repeat' first|apply ad|(apply gw;first|(apply gq0;first|refine am rfl ?_|refine aG rfl ?_)|refine aB rfl b_ pv_ ?_|(apply gq3;first|refine aQ rfl rfl rfl (by omega) (by omega) ?_|refine eS rfl rfl rfl (by omega) (by omega) ?_|(refine aA rfl rfl rfl ?_ ?_<;>(intro hc;try (exfalso;omega))))|refine aj rfl rfl hy (by omega) rfl ?_|refine az rfl ?_)|(apply gx;first|refine ae rfl ?_|refine ak rfl ?_)|apply aa
     exact⟨hrow,hh_⟩
    ·rw[if_neg hn]
     repeat' first|apply ad|(apply gw;first|(apply gq0;first|refine am rfl ?_|refine aG rfl ?_)|(apply gq3;first|refine aQ rfl rfl rfl (by omega) (by omega) ?_|(refine aA rfl rfl rfl ?_ ?_<;>(intro hc;try (exfalso;omega))))|refine az rfl ?_)|(apply gx;first|apply ay|refine ah rfl ?_)|apply aa
     exact⟨hrow,hh_⟩
   have hhi : -1≤(if i+1<E.length then E.getD (i+1) 0-1 else 1114111)∧(if i+1<E.length then E.getD (i+1) 0-1 else 1114111)≤1114111:=by
    split
    ·rename_i hn
     obtain⟨y,hy⟩:=aK hn
     have hys:=cx.1 (hEs y (List.mem_of_getElem? hy))
     have e1:E.getD (i+1) 0=y:=by rw[List.getD_eq_getElem?_getD,hy];rfl
     rw[e1];omega
    ·omega
   generalize (if i+1<E.length then E.getD (i+1) 0-1 else 1114111)=hi1 at *
   rintro e h' ⟨hrow,he⟩
   obtain⟨env,rfl⟩:=he.ex
   clear he
   repeat' first|apply af
   refine oO (fun e h2=>aC h2 v 2 out.length (out.flatMap ai.av)∧e.has [(0,.rd a.length (a.flatMap ai.av) fa),(1,.rd b.length (b.flatMap ai.av) fb),(2,.int .i64 inn),(7,gK E),(10,v),(11,.int .i64 i),(12,.int .i64 (gZ E i).hi)]) ?_ ?_
   ·refine af (jJ rfl ?_)
    rw[hcut]
    by_cases hn:x<55296
    ·rw[if_pos hn]
     repeat' first|apply ad|(apply gw;first|(apply gq0;first|refine am rfl ?_|refine aG rfl ?_)|refine aB rfl b_ pv_ ?_|(refine aA rfl rfl rfl ?_ ?_<;>(intro hc;try (exfalso;omega)))|refine aj rfl rfl hx (by omega) rfl ?_|refine FZ rfl rfl rfl ?_)|(apply gx;first|refine ae rfl ?_|refine ak rfl ?_)|apply aa
     exact⟨hrow,hh_⟩
    ·rw[if_neg hn]
     repeat' first|apply ad|(apply gw;first|(apply gq0;first|refine am rfl ?_|refine aG rfl ?_)|refine aB rfl b_ pv_ ?_|(refine aA rfl rfl rfl ?_ ?_<;>(intro hc;try (exfalso;omega)))|refine aj rfl rfl hx (by omega) rfl ?_)|(apply gx;first|apply ay|refine ah rfl ?_)|apply aa
     exact⟨hrow,hh_⟩
   have hclo:(gZ E i).lo=x:=by rw[hcut]
   generalize gZ E i=cut at *
   rintro e h' ⟨hrow,he⟩
   obtain⟨env,rfl⟩:=he.ex
   clear he
   repeat' first|apply ad|refine am rfl ?_|(apply gx;first|apply af|refine ae rfl ?_)|apply aa
   refine oO (fun e h2=>aC h2 v 2 out.length (out.flatMap ai.av)∧e.has [(0,.rd a.length (a.flatMap ai.av) fa),(1,.rd b.length (b.flatMap ai.av) fb),(2,.int .i64 inn),(7,gK E),(10,v),(11,.int .i64 i),(12,.int .i64 cut.hi),(13,.int .i64 (if jO a x=true then 1 else 0))]) ?_ ?_
   ·refine af (jJ rfl ?_)
    cases hh:jO a x
    all_goals
     rw[hh]at hra
     repeat' first|apply ad|(apply gw;first|(apply gq0;first|refine am rfl ?_|refine aG rfl ?_)|refine aB rfl b_ pv_ ?_|refine aQ rfl rfl rfl (by omega) (by omega) ?_|refine aj rfl rfl hx (by omega) rfl ?_|refine aI rfl nt_ ?_)|(apply gx;first|refine ae rfl ?_|apply ay|refine ak rfl ?_|refine ah rfl ?_)|apply aa|refine aU (by assumption) fz_ fz_ ?_
    all_goals exact⟨hrow,hh_⟩
   rintro e h' ⟨hrow,he⟩
   obtain⟨env,rfl⟩:=he.ex
   clear he
   repeat' first|apply af
   refine oO (fun e h2=>aC h2 v 2 out.length (out.flatMap ai.av)∧e.has [(0,.rd a.length (a.flatMap ai.av) fa),(1,.rd b.length (b.flatMap ai.av) fb),(2,.int .i64 inn),(7,gK E),(10,v),(11,.int .i64 i),(12,.int .i64 cut.hi),(13,.int .i64 (kOf a b x:Nat))]) ?_ ?_
   ·refine af (jJ rfl ?_)
    unfold kOf
    cases hh:jO a x
    all_goals cases hh2:jO b x
    all_goals
     rw[hh2]at hrb
     repeat' first|apply ad|(apply gw;first|(apply gq0;first|refine am rfl ?_|refine aG rfl ?_)|refine aB rfl b_ pv_ ?_|refine aQ rfl rfl rfl (by omega) (by omega) ?_|refine aj rfl rfl hx (by omega) rfl ?_|refine aI rfl nt_ ?_)|(apply gx;first|refine ae rfl ?_|apply ay|refine ak rfl ?_|refine ah rfl ?_)|apply aa|refine aU (by assumption) fz_ fz_ ?_
    all_goals exact⟨hrow,hh_⟩
   have hk4:kOf a b x≤3:=by unfold kOf;split<;>split<;>omega
   generalize kOf a b x=kk at *
   rintro e h' ⟨hrow,he⟩
   obtain⟨env,rfl⟩:=he.ex
   clear he
   repeat' first|apply af
   have hbit:mt inn kk=false∨mt inn kk=true:=by cases mt inn kk<;>simp
   refine oO (fun e h2=>aC h2 v 2 out.length (out.flatMap ai.av)∧mt inn kk=true∧e.has [(0,.rd a.length (a.flatMap ai.av) fa),(1,.rd b.length (b.flatMap ai.av) fb),(2,.int .i64 inn),(7,gK E),(10,v),(11,.int .i64 i),(12,.int .i64 cut.hi)]) ?_ ?_
   ·refine af (jJ rfl ?_)
    have hk:kk=0∨kk=1∨kk=2∨kk=3:=by omega
    rcases hk with rfl|rfl|rfl|rfl
    all_goals
     repeat' first|apply ad|(apply gw;first|refine am rfl ?_|refine aB rfl b_ pv_ ?_|(apply gq3;first|refine aQ rfl rfl rfl (by omega) (by omega) ?_|(refine cq rfl rfl rfl ?_ ?_<;>(intro hc;try (exfalso;omega)))|refine tv rfl rfl rfl (by omega) (by omega) ?_|refine Ju rfl rfl (by omega) (by omega) (by omega) ?_)|refine ji (cs':=[_]) rfl rfl (by omega) (by omega) rfl ?_|refine bk (cs:=[AV.int _ _,AV.int _ _,AV.int _ _,AV.int _ _]) rfl rfl ?_)|(apply gx;first|refine ae rfl ?_|apply ay|apply aL|refine ak rfl ?_|refine ah rfl ?_)|apply aa|apply aM|apply aN
    all_goals first
     | (refine aP hi2 ⟨v,out,?_,hrow,hh_⟩;rw[hnx,if_neg (by simp[mt];omega)])
     | exact⟨hrow,by simp[mt];omega,hh_⟩
   rintro e h' ⟨hrow,hbt,he⟩
   obtain⟨env,rfl⟩:=he.ex
   clear he
   rw[if_pos hbt]at hnx
   rcases hlb:out[out.length-1]? with _|s
   ·have h0:out=[]:=by
     rw[List.getElem?_eq_none_iff]at hlb
     exact List.eq_nil_of_length_eq_zero (by omega)
    have h00:out.length=0:=by rw[h0];rfl
    repeat' first|apply ad|(apply gw;first|(apply gq0;first|refine am rfl ?_|refine bj rfl ?_|refine aG rfl ?_|refine aq rv_ ?_)|refine cr rfl ?_|refine aB rfl b_ pv_ ?_|(apply gq3;first|refine aQ rfl rfl rfl (by omega) (by omega) ?_|(refine cY rfl rfl rfl ?_ ?_<;>(intro hc;try (exfalso;omega))))|refine aj rfl rfl hx (by omega) rfl ?_|refine eL rv_ (by assumption) ?_|refine bc rfl rfl ?_|(refine aX (m:=1) rv_ ir_ rfl rfl (by omega) ?_;intro va hpa hra hka hria)|refine cJ (cs:=[AV.int _ _,AV.int _ _]) rfl ?_|refine bk (cs:=[AV.int _ _,AV.int _ _]) rfl rfl ?_)|(apply gx;first|apply af|refine ae rfl ?_|refine ah rfl ?_)|apply aa|apply aF
    have e:Aq out cut=out++[cut]:=by rw[h0];rfl
    refine aP hi2 ⟨va,_,hnx.symm,?_,hh_⟩
    rw[e,List.length_append,List.flatMap_append]
    simpa[ai.av,hclo] using hra
   ·have hol2:=lt_of_getElem? hlb
    have hlast:out.getLast?=some s:=by rw[List.getLast?_eq_getElem?,hlb]
    repeat' first|apply ad|(apply gw;first|(apply gq0;first|refine am rfl ?_|refine bj rfl ?_|refine aG rfl ?_|refine aq rv_ ?_)|refine bP rfl ?_|(apply gq2;first|refine pw (e:=2) (j:=1) (g:=_) rfl hg_ hlb fl_ eq_ (by decide) rfl ?_|refine aB rfl b_ pv_ ?_)|(apply gq3;first|refine aQ rfl rfl rfl (by omega) (by omega) ?_|refine eS rfl rfl rfl (by omega) (by omega) ?_|(refine cY rfl rfl rfl ?_ ?_<;>(intro hc;try (exfalso;omega)))|(refine cq rfl rfl rfl ?_ ?_<;>(intro hc;try (exfalso;omega))))|refine au rfl rfl ?_|(apply gq5;first|refine aj rfl rfl hx (by omega) rfl ?_|(refine cW rv_ (by assumption) rfl (by omega) (by omega) ?_;intro ir gr hvr hgr hgp;have hner:=ac.ne_of hgr;have hner2:=ac.ne_of2 hgr))|refine eL rv_ (by assumption) ?_|refine aZ rfl rfl ?_|(refine aX (m:=1) rv_ ir_ rfl rfl (by omega) ?_;intro va hpa hra hka hria)|refine cJ (cs:=[AV.int _ _,AV.int _ _]) rfl ?_|refine bk (cs:=[AV.int _ _,AV.int _ _]) rfl rfl ?_)|(apply gx;first|apply af|refine ae rfl ?_|refine ak rfl ?_|refine ah rfl ?_)|apply aa|apply aF
    ·refine nW (e:=2) (j:=1) (a':=⟨s.lo,cut.hi⟩) rfl rfl hg_ hlb ai.av_length (by omega) (by decide) rfl rfl rfl ?_
     repeat' first|apply ad|(apply gw;first|refine am rfl ?_|refine aQ rfl rfl rfl (by omega) (by omega) ?_)|refine ae rfl ?_|apply aa|apply aF
     have e:Aq out cut=out.set (out.length-1) ⟨s.lo,cut.hi⟩:=by
      simp only[Aq,hlast]
      rw[if_pos (by omega)]
     refine aP hi2 ⟨v,_,hnx.symm,?_,hh_⟩
     rw[e,List.length_set]
     exact aC.set_row hvr hgp (by rw[js ai.av 2 ai.av_length,List.length_set])
    ·have e:Aq out cut=out++[cut]:=by
      simp only[Aq,hlast]
      rw[if_neg (by omega)]
     refine aP hi2 ⟨va,_,hnx.symm,?_,hh_⟩
     rw[e,List.length_append,List.flatMap_append]
     simpa[ai.av,hclo] using hra
  ·repeat' first|apply ad|(apply gw;first|(apply gq0;first|refine am rfl ?_|refine aG rfl ?_|refine aq rv_ ?_)|(refine aA rfl rfl rfl ?_ ?_<;>(intro hc;try (exfalso;omega)))|refine az rfl ?_)|(apply gx;first|apply af|refine ae rfl ?_|apply aJ|apply aL|refine ah rfl ?_)|apply aa|apply aM|apply aN|apply aR
   have:i=E.length:=by omega
   subst this
   rw[← hms]at hout
   subst hout
   exact fj rfl hrow (fun _=>rfl)
end
end Go.Proofs.YtlnobeojgifojaaGreatDoor
