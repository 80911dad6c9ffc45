/- The document's sets. -/
import Derived.Test.YtlnobeojgifojaaGreatDoorC
import Derived.Test.YtlnobeojgifojaaGreatDoorD1
import Derived.Test.YtlnobeojgifojaaGreatDoorD4
import Derived.Test.YtlnobeojgifojaaGreatDoorB2
set_option linter.unusedVariables false
set_option linter.unusedSimpArgs false
namespace Go.Proofs.YtlnobeojgifojaaGreatDoor
section
open Go
set_option maxHeartbeats 4000000
attribute [local irreducible] az bf bm de bz cw dH bJ wop cz bc
theorem rF {Φ:Lib}(L:jM Φ)(x:Int):eQ Φ 44 [.int .i64 x] (.bool (cv x)):=by
 refine ba (fun _=>false) rfl L.f44 ?_
 repeat' first|apply ac|(apply gw;first|(apply gq0;first|refine aq rfl ?_|refine bl rfl ?_)|(apply gq1;first|refine cf rfl ?_|refine cj rfl ?_|refine yZ rfl ?_)|(apply gq3;first|((first|refine aA rfl rfl rfl ?_ ?_|refine kD rfl rfl rfl ?_ ?_|refine cN rfl rfl rfl ?_ ?_|refine iy rfl rfl rfl ?_ ?_)<;>(intro hc;try omega)))|(apply gq7;first|refine bi rfl rfl ?_|refine bb rfl rfl ?_))|(apply gx;first|apply af|refine ae rfl ?_|apply aM)|apply aa|refine aJ (v:=AV.bool _) rfl ?_
 all_goals simp[cv, *]
theorem xM {Φ:Lib}(L:jM Φ)(l:List aj)(fl:Bool)(r:Int)(hl:l.length≤1073741824):eQ Φ 31 [.rd l.length (l.flatMap aj.av) fl,.int .i64 r] (.bool (iY l r)):=by
 refine ba (fun _=>false) rfl L.f31 ?_
 repeat' first|apply ac|(apply gq0;first|refine aq rfl ?_|refine bl rfl ?_)|(apply gx;first|apply af|refine ae rfl ?_|apply al)|apply aa
 refine bD l.length (fun i env h'=>(∀ s∈l.take i,¬ (s.lo≤r∧r≤s.hi))∧env.has [(0,.rd l.length (l.flatMap aj.av) fl),(1,.int .i64 r),(5,.int .i64 i)]) ⟨by simp,hh_⟩ ?_
 rintro i env h' hi ⟨hpre,he⟩
 obtain⟨env,rfl⟩:=he.ex
 clear he
 by_cases hi2:i<l.length
 ·obtain⟨s,hs⟩:=aK hi2
  have hgo:¬ (s.lo≤r∧r≤s.hi)→∀ t∈l.take (i+1),¬ (t.lo≤r∧r≤t.hi):=fun hn t ht=>by
   rw[aV hs]at ht
   rcases List.mem_append.1 ht with ht|ht
   ·exact hpre t ht
   ·simp only[List.mem_singleton]at ht
    subst ht;exact hn
  repeat' first|apply ac|(apply gw;first|(apply gq0;first|refine aq rfl ?_|refine bl rfl ?_|refine aG rfl ?_)|(apply gq1;first|refine cf rfl ?_|refine cj rfl ?_)|refine aB rfl b_ pv_ ?_|(apply gq3;first|refine aT rfl rfl rfl Ll Ll ?_|((first|refine aA rfl rfl rfl ?_ ?_|refine kD rfl rfl rfl ?_ ?_|refine iy rfl rfl rfl ?_ ?_)<;>(intro hc;try omega)))|refine jQ rfl Lm rfl ?_|refine iT rfl fl_ rfl rfl (by assumption) rfl ?_|refine aw rfl ?_|(apply gq7;first|refine bi rfl rfl ?_|refine bb rfl rfl ?_)|refine aH rfl nt_ ?_)|(apply gx;first|apply af|refine ae rfl ?_|apply ay|apply al|apply aM|refine ak rfl ?_|refine ai rfl ?_)|apply aa|apply cp|apply aI|apply gH|apply iX|refine aW (rF L _) fz_ fz_ ?_|refine aJ (v:=AV.bool _) rfl ?_
  ·have:(l.any fun s=>decide (s.lo≤r)&&decide (r≤s.hi))=true:=List.any_eq_true.2 ⟨s,List.mem_of_getElem? hs,by simp[*]⟩
   rw[iY,this,Bool.and_true]
  ·exact aR hi2 ⟨hgo Ll,hh_⟩
  ·exact aR hi2 ⟨hgo Ll,hh_⟩
 ·repeat' first|apply ac|(apply gw;first|(apply gq0;first|refine aq rfl ?_|refine bl rfl ?_|refine aG rfl ?_)|(refine aA rfl rfl rfl ?_ ?_<;>(intro hc;try omega))|refine aw rfl ?_)|(apply gx;first|apply af|refine ae rfl ?_|apply aM|apply aN|refine ai rfl ?_)|apply aa|apply aO|apply aP|apply aX|refine aJ (v:=AV.bool _) rfl ?_
  rw[List.take_of_length_le Ll]at hpre
  have:(l.any fun s=>decide (s.lo≤r)&&decide (r≤s.hi))=false:=by
   rw[List.any_eq_false]
   intro s hs
   have:=hpre s hs
   simpa using this
  rw[iY,this,Bool.and_false]
theorem HY {Φ:Lib}(L:jM Φ)(a b:List aj)(f g:Bool)(ha:a.length≤1073741824):eQ Φ 32 [.rd a.length (a.flatMap aj.av) f,.rd b.length (b.flatMap aj.av) g] (.bool (decide (a=b))):=by
 refine ba (fun _=>false) rfl L.f32 ?_
 repeat' first|apply ac|(apply gw;first|(apply gq0;first|refine aq rfl ?_|refine bl rfl ?_|refine aG rfl ?_)|(refine eK rfl rfl rfl ?_ ?_<;>(intro hc;try omega))|refine aw rfl ?_)|(apply gx;first|apply af|refine ae rfl ?_|apply ay|apply al|apply aM|refine ak rfl ?_|refine ai rfl ?_)|apply aa|apply cp|refine aJ (v:=AV.bool _) rfl ?_
 ·rw[decide_eq_false]
  rintro rfl
  exact hc rfl
 ·have hlen:a.length=b.length:=by omega
  refine bD a.length (fun i env h'=>a.take i=b.take i∧env.has [(0,.rd a.length (a.flatMap aj.av) f),(1,.rd b.length (b.flatMap aj.av) g),(5,.int .i64 i)]) ⟨rfl,hh_⟩ ?_
  rintro i env h' hi ⟨hpre,he⟩
  obtain⟨env,rfl⟩:=he.ex
  clear he
  by_cases hi2:i<a.length
  ·obtain⟨x,hx⟩:=aK hi2
   obtain⟨y,hy⟩:=aK (show i<b.length by omega)
   repeat' first|apply ac|(apply gw;first|(apply gq0;first|refine aq rfl ?_|refine bl rfl ?_|refine aG rfl ?_)|refine jl rfl (by first|rfl|(simp[*];done)|fail) ?_|(apply gq3;first|refine aT rfl rfl rfl Ll Ll ?_|(refine aA rfl rfl rfl ?_ ?_<;>(intro hc;try omega)))|refine iT rfl fl_ rfl rfl (by assumption) rfl ?_|refine aw rfl ?_|(refine se (neg:=true) rfl rfl ?_ ?_<;>intro hc))|(apply gx;first|apply af|refine ae rfl ?_|apply ay|apply al|apply aM|refine ak rfl ?_|refine ai rfl ?_)|apply aa|apply cp|apply aI|apply gH|apply iX|refine aJ (v:=AV.bool _) rfl ?_
   ·exact aR hi2 ⟨by rw[aV hx,aV hy,hpre,‹x=y›],hh_⟩
   ·rw[decide_eq_false]
    rintro rfl
    rw[hx]at hy
    cases hy
    exact ‹¬ _=_› rfl
  ·repeat' first|apply ac|(apply gw;first|(apply gq0;first|refine aq rfl ?_|refine bl rfl ?_|refine aG rfl ?_)|(refine aA rfl rfl rfl ?_ ?_<;>(intro hc;try omega))|refine aw rfl ?_)|(apply gx;first|apply af|refine ae rfl ?_|apply aM|apply aN|refine ai rfl ?_)|apply aa|apply aO|apply aP|apply aX|refine aJ (v:=AV.bool _) rfl ?_
   rw[List.take_of_length_le Ll,List.take_of_length_le Ll]at hpre
   simp[hpre]
theorem yg {Φ:Lib}(L:jM Φ)(l:List Int)(fl:Bool)(x:Int)(hl:l.length≤1073741824):eQ Φ 58 [.rd l.length (l.map (.int .i64)) fl,.int .i64 x] (gK (ko l x)):=by
 refine ba (fun _=>false) rfl L.f58 ?_
 repeat' first|apply ac|(apply gq0;first|refine aq rfl ?_|refine aG rfl ?_)|(apply gx;first|apply af|refine ae rfl ?_|apply al)|apply aa
 refine bD l.length (fun i env h'=>∃ v,(∀ y∈l.take i,y<x)∧aD h' v 1 i ((l.take i).map (.int .i64))∧env.has [(0,.rd l.length (l.map (.int .i64)) fl),(1,.int .i64 x),(5,v),(6,.int .i64 i)]) ⟨_,by simp,aD.nil _ _,hh_⟩ ?_
 rintro i env h' hi ⟨v,hpre,hrow,he⟩
 obtain⟨env,rfl⟩:=he.ex
 clear he
 have hlay:=IQ hpre
 by_cases hi2:i<l.length
 ·obtain⟨a,ha⟩:=aK hi2
  have hd:l.drop i=a::l.drop (i+1):=by
   obtain⟨h1,rfl⟩:=List.getElem?_eq_some_iff.1 ha
   exact List.drop_eq_getElem_cons h1
  rw[hd,ko]at hlay
  have e1:(i:Int).toNat=i:=by omega
  have e2:((i:Int)+1).toNat=i+1:=by omega
  repeat' first|apply ac|(apply gw;first|(apply gq0;first|refine aq rfl ?_|refine bl rfl ?_|refine aG rfl ?_|refine au rv_ ?_)|refine cj rfl ?_|refine aB rfl b_ pv_ ?_|(apply gq3;first|refine aT rfl rfl rfl Ll Ll ?_|((first|refine aA rfl rfl rfl ?_ ?_|refine dd rfl rfl rfl ?_ ?_)<;>(intro hc;try omega)))|refine dN rfl rfl rfl (by assumption) rfl ?_|refine aw rfl ?_|refine bi rfl rfl ?_|(apply lp;first|(refine aY (m:=1) rv_ ir_ rfl rfl Ll ?_;intro va hpa hra hka hria)|(refine aY rv_ ir_ rfl Lm (by first|omega|(simp;omega)) ?_;intro va hpa hra hka hria))|refine bj (cs:=[AV.int _ _]) rfl rfl ?_|refine jO rfl rfl rfl Ll Ll ?_)|(apply gx;first|apply af|refine ae rfl ?_|apply ay|apply al|apply aM|apply aN|refine ak rfl ?_|refine ai rfl ?_)|apply aa|apply aO|apply aI|apply aP|apply aX
  ·refine aR hi2 ⟨va,(fun y hy=>?_),?_,hh_⟩
   ·rw[aV ha]at hy
    rcases List.mem_append.1 hy with hy|hy
    ·exact hpre y hy
    ·simp only[List.mem_singleton]at hy
     omega
   ·rw[aV ha,List.map_append]
    exact hra
  ·rw[if_neg Ll,if_pos ‹_›]at hlay
   refine fq rfl hra fun _=>?_
   have e3:(l.drop (i+1)).length=l.length-(i+1):=by simp
   simp only[gK,hlay,e2,List.length_append,List.length_take,List.length_cons,List.map_append,List.map_cons,List.append_assoc,List.cons_append,List.nil_append,e3,‹a=x›]
   congr 1;omega
  ·rw[if_neg Ll,if_neg ‹_›,← hd]at hlay
   refine fq rfl hra fun _=>?_
   have e3:(l.drop i).length=l.length-i:=by simp
   simp only[gK,hlay,e1,List.length_append,List.length_take,List.length_cons,List.map_append,List.map_cons,List.append_assoc,List.cons_append,List.nil_append,e3]
   congr 1;omega
 ·have e1:(i:Int).toNat=i:=by omega
  repeat' first|apply ac|(apply gw;first|(apply gq0;first|refine aq rfl ?_|refine bl rfl ?_|refine aG rfl ?_|refine au rv_ ?_)|refine cf rfl ?_|(refine aA rfl rfl rfl ?_ ?_<;>(intro hc;try omega))|refine aw rfl ?_|refine bb rfl rfl ?_|(apply lp;first|(refine aY (m:=1) rv_ ir_ rfl rfl Ll ?_;intro va hpa hra hka hria)|(refine aY rv_ ir_ rfl Lm (by first|omega|(simp;omega)) ?_;intro va hpa hra hka hria))|refine bj (cs:=[AV.int _ _]) rfl rfl ?_|refine jO rfl rfl rfl Ll Ll ?_)|(apply gx;first|apply af|refine ae rfl ?_|apply ay|apply aM|apply aN|refine ai rfl ?_)|apply aa|apply aO|apply aP|apply aX
  rw[List.drop_of_length_le Ll,ko]at hlay
  refine fq rfl hra fun _=>?_
  simp only[gK,hlay,e1,List.length_append,List.length_take,List.length_cons,List.map_append,List.map_cons,List.append_assoc,List.cons_append,List.nil_append,List.drop_of_length_le (show l.length≤i by omega),List.length_nil,List.map_nil]
  congr 1;omega
theorem mD (l:List aj):∀ out:List Int,(l.foldl jw out).length≤out.length+2*l.length:=by
 induction l with
 | nil=>intro out;simp
 | cons s l ih =>
  intro out
  have h1:=ih (jw out s)
  have h2:(jw out s).length≤out.length+2:=by
   simp only[jw]
   have a:=kZ out s.lo
   have b:=kZ out (s.hi+1)
   have c:=kZ (ko out s.lo) (s.hi+1)
   split<;>split<;>omega
  rw[List.foldl_cons,List.length_cons]
  omega
theorem pN (l:List aj):(fd l).length≤2+2*l.length:=mD l _
theorem Ae {Φ:Lib}(L:jM Φ)(l:List aj)(fl:Bool)(hl:l.length≤67108864)(hw:∀ s∈l,-9223372036854775808≤s.hi):eQ Φ 57 [.rd l.length (l.flatMap aj.av) fl] (gK (fd l)):=by
 refine ba (fun _=>false) rfl L.f57 ?_
 repeat' first|apply ac|(apply gw;first|(apply gq0;first|refine aq rfl ?_|refine aG rfl ?_)|refine aH rfl nt_ ?_)|(apply gx;first|apply af|refine ae rfl ?_|apply al)|apply aa|refine aW (yg L [] _ _ Lm) fz_ fz_ ?_|refine aW (yg L _ _ _ (by first|omega|(simp;omega)|decide|fail)) fz_ fz_ ?_
 refine bD l.length (fun i env h'=>env.has [(0,.rd l.length (l.flatMap aj.av) fl),(3,gK ((l.take i).foldl jw [0,57344])),(4,.int .i64 i)]) (hh_) ?_
 rintro i env h' hi he
 obtain⟨env,rfl⟩:=he.ex
 clear he
 have hlen:=mD (l.take i) [0,57344]
 rw[List.length_take]at hlen
 simp only[List.length_cons,List.length_nil]at hlen
 by_cases hi2:i<l.length
 ·obtain⟨s,hs⟩:=aK hi2
  have hws:=hw s (List.mem_of_getElem? hs)
  have hnx:(l.take (i+1)).foldl jw [0,57344]=jw ((l.take i).foldl jw [0,57344]) s:=by
   rw[aV hs,List.foldl_append];rfl
  generalize (l.take i).foldl jw [0,57344]=out at *
  have hll:=kZ out s.lo
  have k1:=rF L s.lo
  have k2:=rF L (s.hi+1)
  cases hsc:cv s.lo<;>cases hsh:cv (s.hi+1)
  all_goals
   rw[hsc]at k1
   rw[hsh]at k2
   by_cases hh:s.hi<1114111
  all_goals
   repeat' first|apply ac|(apply gw;first|(apply gq0;first|refine aq rfl ?_|refine bl rfl ?_|refine aG rfl ?_)|(apply gq1;first|refine cf rfl ?_|refine cj rfl ?_)|refine aB rfl b_ pv_ ?_|(apply gq3;first|refine aT rfl rfl rfl Ll Ll ?_|(refine aA rfl rfl rfl ?_ ?_<;>(intro hc;try omega)))|refine jQ rfl Lm rfl ?_|refine iT rfl fl_ rfl rfl (by assumption) rfl ?_|refine aw rfl ?_|(apply gq7;first|refine bi rfl rfl ?_|refine bb rfl rfl ?_)|refine aH rfl nt_ ?_)|(apply gx;first|apply af|refine ae rfl ?_|apply ay|apply al|refine ak rfl ?_|refine ai rfl ?_)|apply aa|apply aI|refine aW (by assumption) fz_ fz_ ?_|refine aW (yg L _ _ _ (by first|omega|(simp;omega)|decide|fail)) fz_ fz_ ?_
  all_goals
   refine aR hi2 ?_
   rw[hnx]
   simp only[jw,hsc,hsh,hh,if_true,if_false,and_self,and_true,and_false,Bool.false_eq_true]
   exact hh_
 ·repeat' first|apply ac|(apply gw;first|(apply gq0;first|refine aq rfl ?_|refine aG rfl ?_)|(refine aA rfl rfl rfl ?_ ?_<;>(intro hc;try omega))|refine aw rfl ?_)|(apply gx;first|apply af|refine ae rfl ?_|apply aM|apply aN|refine ai rfl ?_)|apply aa|apply aO|apply aP|apply aX|refine aJ (v:=AV.rd _ _ _) rfl ?_
  rw[List.take_of_length_le Ll]
  rfl
end
section
open Go
set_option maxHeartbeats 4000000
attribute [local irreducible] az bf bm de bz cw dH bJ wop cz bc
def AB (out:List aj)(s:aj):List aj:=match out.getLast? with
 | some a=>if a.hi=s.lo-1 then out.set (out.length-1) ⟨a.lo,s.hi⟩ else out++[s]
 | none=>[s]
theorem I8 (r:List aj)(s:aj):AB r.reverse s=(r7 r s).reverse:=by
 cases r with
 | nil=>rfl
 | cons a r =>
  simp only[AB,r7,List.reverse_cons,List.getLast?_append,List.getLast?_singleton,Option.some_or]
  split
  ·simp
  ·simp
theorem AA (r:List aj)(s:aj):(r7 r s).length≤r.length+1:=by
 cases r with
 | nil=>simp[r7]
 | cons a r =>
  simp only[r7]
  split<;>simp
theorem xt (a b:List aj)(inn:Int)(E:List Int)(r:List aj)(i:Nat):(lw a b inn E r i).length≤r.length+1:=by
 unfold lw
 split
 ·exact AA r _
 ·omega
theorem vf (a b:List aj)(inn:Int)(E:List Int)(i:Nat):((List.range i).foldl (lw a b inn E) []).length≤i:=by
 induction i with
 | zero=>simp
 | succ i ih =>
  rw[List.range_succ,List.foldl_append,List.foldl_cons,List.foldl_nil]
  have:=xt a b inn E ((List.range i).foldl (lw a b inn E) []) i
  omega
theorem nc (f:List Int):∀ e:List Int,(f.foldl ko e).length≤e.length+f.length:=by
 induction f with
 | nil=>intro e;simp
 | cons x f ih =>
  intro e
  have h1:=ih (ko e x)
  have h2:=kZ e x
  rw[List.foldl_cons,List.length_cons]
  omega
theorem yc {Φ:Lib}(L:jM Φ)(a b:List aj)(fa fb:Bool)(inn:Int)(h0:0≤inn)(h15:inn≤15)(ha:a.length≤67108864)(hwa:∀ s∈a,-9223372036854775808≤s.hi)(hb:b.length≤67108864)(hwb:∀ s∈b,-9223372036854775808≤s.hi) :
  eQ Φ 45 [.rd a.length (a.flatMap aj.av) fa,.rd b.length (b.flatMap aj.av) fb,.int .i64 inn] (.rd (mw a b inn).length ((mw a b inn).flatMap aj.av) false):=by
 have ea:=Ae L a fa ha hwa
 have eb:=Ae L b fb hb hwb
 have la:=pN a
 have lb:=pN b
 refine ba (fun o=>o == some 36||o == some 47||o == some 54||o == some 62||o == some 70) rfl L.f45 ?_
 repeat' first|apply ac|(apply gw;first|(apply gq0;first|refine aq rfl ?_|refine aG rfl ?_)|refine aH rfl nt_ ?_)|(apply gx;first|apply af|refine ae rfl ?_|apply al)|apply aa|refine aW (by assumption) fz_ fz_ ?_
 refine bD (fd b).length (fun i env h'=>env.has [(0,.rd a.length (a.flatMap aj.av) fa),(1,.rd b.length (b.flatMap aj.av) fb),(2,.int .i64 inn),(7,gK (((fd b).take i).foldl ko (fd a))),(8,gK (fd b)),(9,.int .i64 i)]) (hh_) ?_
 rintro i env h' hi he
 obtain⟨env,rfl⟩:=he.ex
 clear he
 by_cases hi2:i<(fd b).length
 ·obtain⟨x,hx⟩:=aK hi2
  have l1:=nc ((fd b).take i) (fd a)
  rw[List.length_take]at l1
  have hl:=yg L (((fd b).take i).foldl ko (fd a)) false x Ll
  repeat' first|apply ac|(apply gw;first|(apply gq0;first|refine aq rfl ?_|refine aG rfl ?_)|refine aB rfl b_ pv_ ?_|(apply gq3;first|refine aT rfl rfl rfl Ll Ll ?_|(refine aA rfl rfl rfl ?_ ?_<;>(intro hc;try omega)))|refine dN rfl rfl rfl (by assumption) rfl ?_|refine aw rfl ?_|refine aH rfl nt_ ?_)|(apply gx;first|apply af|refine ae rfl ?_|apply ay|apply al|refine ak rfl ?_)|apply aa|apply aI|refine aW (by assumption) fz_ fz_ ?_
  refine aR hi2 ?_
  rw[aV hx,List.foldl_append]
  exact hh_
 ·rw[List.take_of_length_le Ll,← l6]
  have lE:(l6 a b).length≤268435460:=by
   have:=nc (fd b) (fd a)
   unfold l6
   omega
  have hEr:=(uC (fd b) (fd a) (rb a))
  have hEs:∀ y∈l6 a b,cv y=true:=fun y hy=>by
   rcases (hEr.2 y).1 hy with h|h<;>exact sE h
  have hms:mw a b inn=((List.range (l6 a b).length).foldl (lw a b inn (l6 a b)) []).reverse:=rfl
  generalize l6 a b=E at *
  repeat' first|apply ac|(apply gw;first|(apply gq0;first|refine aq rfl ?_|refine aG rfl ?_)|(refine aA rfl rfl rfl ?_ ?_<;>(intro hc;try omega))|refine aw rfl ?_)|(apply gx;first|apply af|refine ae rfl ?_|apply al|apply aN|refine ai rfl ?_)|apply aa|apply aO|apply aP|apply aX
  refine bD E.length (fun i env h'=>∃ v out,out=((List.range i).foldl (lw a b inn E) []).reverse∧aD h' v 2 out.length (out.flatMap aj.av)∧env.has [(0,.rd a.length (a.flatMap aj.av) fa),(1,.rd b.length (b.flatMap aj.av) fb),(2,.int .i64 inn),(7,gK E),(10,v),(11,.int .i64 i)]) ⟨_,[],rfl,aD.nil _ _,hh_⟩ ?_
  rintro i env h' hi ⟨v,out,hout,hrow,he⟩
  obtain⟨env,rfl⟩:=he.ex
  clear he
  by_cases hi2:i<E.length
  ·obtain⟨x,hx⟩:=aK hi2
   have hxs:=cx.1 (hEs x (List.mem_of_getElem? hx))
   have hra:=xM L a fa x Ll
   have hrb:=xM L b fb x Ll
   have hol:out.length≤i:=by rw[hout,List.length_reverse];exact vf _ _ _ _ _
   have hnx:((List.range (i+1)).foldl (lw a b inn E) []).reverse=if me inn (kOf a b x)=true then AB out (gZ E i) else out:=by
    rw[List.range_succ,List.foldl_append,List.foldl_cons,List.foldl_nil,hout,I8]
    have:E.getD i 0=x:=by rw[List.getD_eq_getElem?_getD,hx];rfl
    generalize (List.range i).foldl (lw a b inn E) []=r
    rw[lw,this]
    split<;>rfl
   have hcut:gZ E i=⟨x,if x<55296 then min (if i+1<E.length then E.getD (i+1) 0-1 else 1114111) 55295 else(if i+1<E.length then E.getD (i+1) 0-1 else 1114111)⟩:=by
    rw[gZ]
    have:E.getD i 0=x:=by rw[List.getD_eq_getElem?_getD,hx];rfl
    simp only[this]
   repeat' first|apply ac|(apply gw;first|(apply gq0;first|refine aq rfl ?_|refine aG rfl ?_)|(refine aA rfl rfl rfl ?_ ?_<;>(intro hc;try omega))|refine aw rfl ?_)|(apply gx;first|apply af|refine ae rfl ?_|apply ay|apply al|refine ak rfl ?_)|apply aa
   refine oW (fun e h2=>aD h2 v 2 out.length (out.flatMap aj.av)∧e.has [(0,.rd a.length (a.flatMap aj.av) fa),(1,.rd b.length (b.flatMap aj.av) fb),(2,.int .i64 inn),(7,gK E),(10,v),(11,.int .i64 i),(12,.int .i64 (if i+1<E.length then E.getD (i+1) 0-1 else 1114111))]) ?_ ?_
   ·refine af (jN rfl ?_)
    by_cases hn:i+1<E.length
    ·obtain⟨y,hy⟩:=aK hn
     have hys:=cx.1 (hEs y (List.mem_of_getElem? hy))
     have e1:E.getD (i+1) 0=y:=by rw[List.getD_eq_getElem?_getD,hy];rfl
     rw[if_pos hn,e1]
     repeat' first|apply ac|(apply gw;first|(apply gq0;first|refine aq rfl ?_|refine aG rfl ?_)|refine aB rfl b_ pv_ ?_|(apply gq3;first|refine aT rfl rfl rfl Ll Ll ?_|refine jj rfl rfl rfl Ll Ll ?_|(refine aA rfl rfl rfl ?_ ?_<;>(intro hc;try omega)))|refine ah rfl rfl hy Ll rfl ?_|refine aw rfl ?_)|(apply gx;first|refine ae rfl ?_|refine ak rfl ?_)|apply aa
     exact⟨hrow,hh_⟩
    ·rw[if_neg hn]
     repeat' first|apply ac|(apply gw;first|(apply gq0;first|refine aq rfl ?_|refine aG rfl ?_)|(apply gq3;first|refine aT rfl rfl rfl Ll Ll ?_|(refine aA rfl rfl rfl ?_ ?_<;>(intro hc;try omega)))|refine aw rfl ?_)|(apply gx;first|apply ay|refine ai rfl ?_)|apply aa
     exact⟨hrow,hh_⟩
   have hhi : -1≤(if i+1<E.length then E.getD (i+1) 0-1 else 1114111)∧(if i+1<E.length then E.getD (i+1) 0-1 else 1114111)≤1114111:=by
    split
    ·rename_i hn
     obtain⟨y,hy⟩:=aK hn
     have hys:=cx.1 (hEs y (List.mem_of_getElem? hy))
     have e1:E.getD (i+1) 0=y:=by rw[List.getD_eq_getElem?_getD,hy];rfl
     rw[e1];omega
    ·omega
   generalize (if i+1<E.length then E.getD (i+1) 0-1 else 1114111)=hi1 at *
   rintro e h' ⟨hrow,he⟩
   obtain⟨env,rfl⟩:=he.ex
   clear he
   repeat' first|apply af
   refine oW (fun e h2=>aD h2 v 2 out.length (out.flatMap aj.av)∧e.has [(0,.rd a.length (a.flatMap aj.av) fa),(1,.rd b.length (b.flatMap aj.av) fb),(2,.int .i64 inn),(7,gK E),(10,v),(11,.int .i64 i),(12,.int .i64 (gZ E i).hi)]) ?_ ?_
   ·refine af (jN rfl ?_)
    rw[hcut]
    by_cases hn:x<55296
    ·rw[if_pos hn]
     repeat' first|apply ac|(apply gw;first|(apply gq0;first|refine aq rfl ?_|refine aG rfl ?_)|refine aB rfl b_ pv_ ?_|(refine aA rfl rfl rfl ?_ ?_<;>(intro hc;try omega))|refine ah rfl rfl hx Ll rfl ?_|refine F9 rfl rfl rfl ?_)|(apply gx;first|refine ae rfl ?_|refine ak rfl ?_)|apply aa
     exact⟨hrow,hh_⟩
    ·rw[if_neg hn]
     repeat' first|apply ac|(apply gw;first|(apply gq0;first|refine aq rfl ?_|refine aG rfl ?_)|refine aB rfl b_ pv_ ?_|(refine aA rfl rfl rfl ?_ ?_<;>(intro hc;try omega))|refine ah rfl rfl hx Ll rfl ?_)|(apply gx;first|apply ay|refine ai rfl ?_)|apply aa
     exact⟨hrow,hh_⟩
   have hclo:(gZ E i).lo=x:=by rw[hcut]
   generalize gZ E i=cut at *
   rintro e h' ⟨hrow,he⟩
   obtain⟨env,rfl⟩:=he.ex
   clear he
   repeat' first|apply ac|refine aq rfl ?_|(apply gx;first|apply af|refine ae rfl ?_)|apply aa
   refine oW (fun e h2=>aD h2 v 2 out.length (out.flatMap aj.av)∧e.has [(0,.rd a.length (a.flatMap aj.av) fa),(1,.rd b.length (b.flatMap aj.av) fb),(2,.int .i64 inn),(7,gK E),(10,v),(11,.int .i64 i),(12,.int .i64 cut.hi),(13,.int .i64 (if iY a x=true then 1 else 0))]) ?_ ?_
   ·refine af (jN rfl ?_)
    cases hh:iY a x
    all_goals
     rw[hh]at hra
     repeat' first|apply ac|(apply gw;first|(apply gq0;first|refine aq rfl ?_|refine aG rfl ?_)|refine aB rfl b_ pv_ ?_|refine aT rfl rfl rfl Ll Ll ?_|refine ah rfl rfl hx Ll rfl ?_|refine aH rfl nt_ ?_)|(apply gx;first|refine ae rfl ?_|apply ay|refine ak rfl ?_|refine ai rfl ?_)|apply aa|refine aW (by assumption) fz_ fz_ ?_
    all_goals exact⟨hrow,hh_⟩
   rintro e h' ⟨hrow,he⟩
   obtain⟨env,rfl⟩:=he.ex
   clear he
   repeat' first|apply af
   refine oW (fun e h2=>aD h2 v 2 out.length (out.flatMap aj.av)∧e.has [(0,.rd a.length (a.flatMap aj.av) fa),(1,.rd b.length (b.flatMap aj.av) fb),(2,.int .i64 inn),(7,gK E),(10,v),(11,.int .i64 i),(12,.int .i64 cut.hi),(13,.int .i64 (kOf a b x:Nat))]) ?_ ?_
   ·refine af (jN rfl ?_)
    unfold kOf
    cases hh:iY a x
    all_goals cases hh2:iY b x
    all_goals
     rw[hh2]at hrb
     repeat' first|apply ac|(apply gw;first|(apply gq0;first|refine aq rfl ?_|refine aG rfl ?_)|refine aB rfl b_ pv_ ?_|refine aT rfl rfl rfl Ll Ll ?_|refine ah rfl rfl hx Ll rfl ?_|refine aH rfl nt_ ?_)|(apply gx;first|refine ae rfl ?_|apply ay|refine ak rfl ?_|refine ai rfl ?_)|apply aa|refine aW (by assumption) fz_ fz_ ?_
    all_goals exact⟨hrow,hh_⟩
   have hk4:kOf a b x≤3:=by unfold kOf;split<;>split<;>omega
   generalize kOf a b x=kk at *
   rintro e h' ⟨hrow,he⟩
   obtain⟨env,rfl⟩:=he.ex
   clear he
   repeat' first|apply af
   have hbit:me inn kk=false∨me inn kk=true:=by cases me inn kk<;>simp
   refine oW (fun e h2=>aD h2 v 2 out.length (out.flatMap aj.av)∧me inn kk=true∧e.has [(0,.rd a.length (a.flatMap aj.av) fa),(1,.rd b.length (b.flatMap aj.av) fb),(2,.int .i64 inn),(7,gK E),(10,v),(11,.int .i64 i),(12,.int .i64 cut.hi)]) ?_ ?_
   ·refine af (jN rfl ?_)
    have hk:kk=0∨kk=1∨kk=2∨kk=3:=by omega
    rcases hk with rfl|rfl|rfl|rfl
    all_goals
     repeat' first|apply ac|(apply gw;first|refine aq rfl ?_|refine aB rfl b_ pv_ ?_|(apply gq3;first|refine aT rfl rfl rfl Ll Ll ?_|(refine dd rfl rfl rfl ?_ ?_<;>(intro hc;try omega))|refine ny rfl rfl rfl Ll Ll ?_|refine xz rfl rfl Ll Ll Ll ?_)|refine mr (cs':=[_]) rfl rfl Ll Ll rfl ?_|refine bj (cs:=[AV.int _ _,AV.int _ _,AV.int _ _,AV.int _ _]) rfl rfl ?_)|(apply gx;first|refine ae rfl ?_|apply ay|apply aN|refine ak rfl ?_|refine ai rfl ?_)|apply aa|apply aO|apply aP
    all_goals first
     | (refine aR hi2 ⟨v,out,?_,hrow,hh_⟩;rw[hnx,if_neg (by simp[me];omega)])
     | exact⟨hrow,by simp[me];omega,hh_⟩
   rintro e h' ⟨hrow,hbt,he⟩
   obtain⟨env,rfl⟩:=he.ex
   clear he
   rw[if_pos hbt]at hnx
   rcases hlb:out[out.length-1]? with _|s
   ·have h0:out=[]:=by
     rw[List.getElem?_eq_none_iff]at hlb
     exact List.eq_nil_of_length_eq_zero Ll
    have h00:out.length=0:=by rw[h0];rfl
    repeat' first|apply ac|(apply gw;first|(apply gq0;first|refine aq rfl ?_|refine bl rfl ?_|refine aG rfl ?_|refine au rv_ ?_)|refine cf rfl ?_|refine aB rfl b_ pv_ ?_|(apply gq3;first|refine aT rfl rfl rfl Ll Ll ?_|(refine cN rfl rfl rfl ?_ ?_<;>(intro hc;try omega)))|refine ah rfl rfl hx Ll rfl ?_|refine eR rv_ (by assumption) ?_|refine bb rfl rfl ?_|(refine aY (m:=1) rv_ ir_ rfl rfl Ll ?_;intro va hpa hra hka hria)|refine cO (cs:=[AV.int _ _,AV.int _ _]) rfl ?_|refine bj (cs:=[AV.int _ _,AV.int _ _]) rfl rfl ?_)|(apply gx;first|apply af|refine ae rfl ?_|refine ai rfl ?_)|apply aa|apply aI
    have e:AB out cut=out++[cut]:=by rw[h0];rfl
    refine aR hi2 ⟨va,_,hnx.symm,?_,hh_⟩
    rw[e,List.length_append,List.flatMap_append]
    simpa[aj.av,hclo] using hra
   ·have hol2:=lt_of_getElem? hlb
    have hlast:out.getLast?=some s:=by rw[List.getLast?_eq_getElem?,hlb]
    repeat' first|apply ac|(apply gw;first|(apply gq0;first|refine aq rfl ?_|refine bl rfl ?_|refine aG rfl ?_|refine au rv_ ?_)|refine cj rfl ?_|(apply gq2;first|refine pH (e:=2) (j:=1) (g:=_) rfl hg_ hlb fl_ eq_ (by decide) rfl ?_|refine aB rfl b_ pv_ ?_)|(apply gq3;first|refine aT rfl rfl rfl Ll Ll ?_|refine jj rfl rfl rfl Ll Ll ?_|((first|refine cN rfl rfl rfl ?_ ?_|refine dd rfl rfl rfl ?_ ?_)<;>(intro hc;try omega)))|refine ar rfl rfl ?_|(apply gq5;first|refine ah rfl rfl hx Ll rfl ?_|(refine cY rv_ (by assumption) rfl Ll Ll ?_;intro ir gr hvr hgr hgp;have hner:=ad.ne_of hgr;have hner2:=ad.ne_of2 hgr))|refine eR rv_ (by assumption) ?_|refine bi rfl rfl ?_|(refine aY (m:=1) rv_ ir_ rfl rfl Ll ?_;intro va hpa hra hka hria)|refine cO (cs:=[AV.int _ _,AV.int _ _]) rfl ?_|refine bj (cs:=[AV.int _ _,AV.int _ _]) rfl rfl ?_)|(apply gx;first|apply af|refine ae rfl ?_|refine ak rfl ?_|refine ai rfl ?_)|apply aa|apply aI
    ·refine n8 (e:=2) (j:=1) (a':=⟨s.lo,cut.hi⟩) rfl rfl hg_ hlb aj.av_length Ll (by decide) rfl rfl rfl ?_
     repeat' first|apply ac|(apply gw;first|refine aq rfl ?_|refine aT rfl rfl rfl Ll Ll ?_)|refine ae rfl ?_|apply aa|apply aI
     have e:AB out cut=out.set (out.length-1) ⟨s.lo,cut.hi⟩:=by
      simp only[AB,hlast]
      rw[if_pos Ll]
     refine aR hi2 ⟨v,_,hnx.symm,?_,hh_⟩
     rw[e,List.length_set]
     exact aD.set_row hvr hgp (by rw[jv aj.av 2 aj.av_length,List.length_set])
    ·have e:AB out cut=out++[cut]:=by
      simp only[AB,hlast]
      rw[if_neg Ll]
     refine aR hi2 ⟨va,_,hnx.symm,?_,hh_⟩
     rw[e,List.length_append,List.flatMap_append]
     simpa[aj.av,hclo] using hra
  ·repeat' first|apply ac|(apply gw;first|(apply gq0;first|refine aq rfl ?_|refine aG rfl ?_|refine au rv_ ?_)|(refine aA rfl rfl rfl ?_ ?_<;>(intro hc;try omega))|refine aw rfl ?_)|(apply gx;first|apply af|refine ae rfl ?_|apply aM|apply aN|refine ai rfl ?_)|apply aa|apply aO|apply aP|apply aX
   have:i=E.length:=by omega
   subst this
   rw[← hms]at hout
   subst hout
   exact fq rfl hrow (fun _=>rfl)
theorem GF {Φ:Lib}(L:jM Φ)(l:List aj)(fl:Bool)(ha:l.length≤67108864)(hw:∀ s∈l,-9223372036854775808≤s.hi) :
  eQ Φ 33 [.rd l.length (l.flatMap aj.av) fl] (.rd (bd l).length ((bd l).flatMap aj.av) false):=by
 have hm:=yc L l [] fl true 2 (by decide) (by decide) ha hw Lm (fun s h=>by cases h)
 rw[Bj]at hm
 refine ba (fun _=>false) rfl L.f33 ?_
 repeat' first|apply ac|(apply gw;first|refine aG rfl ?_|refine aH rfl nt_ ?_)|(apply gx;first|apply af|refine ae rfl ?_|apply aM)|apply aa|refine aW (by assumption) fz_ fz_ ?_|refine aJ (v:=AV.rd _ _ _) rfl ?_
 rfl
end
end Go.Proofs.YtlnobeojgifojaaGreatDoor
