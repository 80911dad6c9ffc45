/- The document's atoms: some, sorted. The document's atoms: the plain law. The document's atoms walked. -/
import Derived.Test.YtlnobeojgifojaaGreatDoorF2
set_option linter.unusedVariables false
set_option linter.unusedSimpArgs false
namespace Go.Proofs.YtlnobeojgifojaaGreatDoor
section
open Go
set_option maxHeartbeats 4000000
attribute [local irreducible] aw bg bm dg bz cw dO bH wop cz a8
def kj (l:Rw (Rw ai))(s:Rw ai):Rw (Rw ai):=if s.l=[] then l else⟨l.l++[s],false⟩
theorem xw {Φ:Lib}(L:cP Φ)(l:Rw (Rw ai))(s:Rw ai)(hl:l.l.length≤2000000):fg Φ 108 [l.mv Rw.sv,s.sv] ((kj l s).mv Rw.sv):=by
 refine aY (fun _=>false) rfl L.f108 ?_
 cases hs:s.l with
 | nil =>
  have h0:s.l.length=0:=by rw[hs];rfl
  rw[kj,if_pos hs]
  repeat' first|apply ad|(apply gw;first|refine aG rfl ?_|(refine cq rfl rfl rfl ?_ ?_<;>(intro hc;try (exfalso;omega)))|refine az rfl ?_)|(apply gx;first|apply af|refine ae rfl ?_|apply aJ|refine ak rfl ?_)|apply aa|apply cu|refine aH (v:=AV.rd _ _ _) rfl ?_
  all_goals rfl
 | cons a r =>
  have h0:s.l.length=r.length+1:=by rw[hs];rfl
  rw[kj,if_neg (by rw[hs];simp)]
  repeat' first|apply ad|(apply gw;first|(apply gq0;first|refine aG rfl ?_|refine aq rv_ ?_)|(refine cq rfl rfl rfl ?_ ?_<;>(intro hc;try (exfalso;omega)))|refine az rfl ?_|(apply lg;first|(refine aX (m:=1) rv_ ir_ rfl rfl (by omega) ?_;intro va hpa hra hka hria)|(refine aX rv_ ir_ rfl (by simp) (by first|omega|(simp;omega)) ?_;intro va hpa hra hka hria))|refine bk (cs:=[AV.rd _ _ _]) rfl rfl ?_)|(apply gx;first|apply af|refine ae rfl ?_|apply ay|apply aJ|refine ah rfl ?_)|apply aa
  refine fj rfl hra fun _=>?_
  simp
def Bi (P:List (Rw ai))(p:Rw ai):List (Rw ai):=P.takeWhile (fun q=>decide (iI q.l<iI p.l))++p::P.dropWhile (fun q=>decide (iI q.l<iI p.l))
def ki (l:List (Rw ai)):List (Rw ai):=l.foldl Bi []
theorem Fg (P:List (Rw ai))(p:Rw ai):(Bi P p).Perm (P++[p]):=by
 unfold Bi
 have h:(P.takeWhile (fun q=>decide (iI q.l<iI p.l))++p::P.dropWhile (fun q=>decide (iI q.l<iI p.l))).Perm (p::P):=by
  have:=List.perm_middle (a:=p) (l₁:=P.takeWhile (fun q=>decide (iI q.l<iI p.l))) (l₂:=P.dropWhile (fun q=>decide (iI q.l<iI p.l)))
  rwa [List.takeWhile_append_dropWhile]at this
 exact h.trans (List.perm_append_comm (l₁:=[p]) (l₂:=P))
theorem sI (l:List (Rw ai)):∀ P:List (Rw ai),(l.foldl Bi P).Perm (P++l):=by
 induction l with
 | nil=>intro P;simp
 | cons p l ih =>
  intro P
  rw[List.foldl_cons]
  refine(ih _).trans ?_
  have:=(Fg P p).append_right l
  simpa using this
theorem pO (l:List (Rw ai)):(ki l).Perm l:=by
 have:=sI l []
 unfold ki
 simpa using this
theorem FP {P:List (Rw ai)}{p:Rw ai}{j:Nat}(h1:∀ q∈P.take j,iI q.l<iI p.l)(h2:∀ q,P[j]?=some q→¬ iI q.l<iI p.l):Bi P p=P.take j++p::P.drop j:=by
 have key:∀ (P:List (Rw ai)) (j:Nat),(∀ q∈P.take j,iI q.l<iI p.l)→(∀ q,P[j]?=some q→¬ iI q.l<iI p.l)→P.takeWhile (fun q=>decide (iI q.l<iI p.l))=P.take j∧P.dropWhile (fun q=>decide (iI q.l<iI p.l))=P.drop j:=by
  intro P
  induction P with
  | nil=>intro j _ _;simp
  | cons q P ih =>
   intro j h1 h2
   cases j with
   | zero =>
    have:=h2 q rfl
    rw[List.takeWhile_cons_of_neg (by simpa using this),List.dropWhile_cons_of_neg (by simpa using this)]
    simp
   | succ j =>
    have h3:=h1 q (by simp)
    obtain⟨a,b⟩:=ih j (fun r hr=>h1 r (by simp[hr])) (fun r hr=>h2 r (by simpa using hr))
    rw[List.takeWhile_cons_of_pos (by simpa using h3),List.dropWhile_cons_of_pos (by simpa using h3),a,b]
    simp
 obtain⟨a,b⟩:=key P j h1 h2
 unfold Bi
 rw[a,b]
theorem zF {l:List ai}{a:ai}(h:l[0]?=some a):iI l=a.lo:=by
 cases l with
 | nil=>cases h
 | cons b l=>simp at h;subst h;rfl
def sS (l:Rw (Rw ai)):Rw (Rw ai):=⟨ki l.l,l.l.isEmpty⟩
theorem De {Φ:Lib}(L:cP Φ)(l:Rw (Rw ai))(hl:l.l.length≤2000000)(hne:∀ q∈l.l,q.l≠[]):fg Φ 111 [l.mv Rw.sv] ((sS l).mv Rw.sv):=by
 refine aY (fun o=>o == some 55) rfl L.f111 ?_
 repeat' first|apply ad|(apply gq0;first|refine am rfl ?_|refine aG rfl ?_)|(apply gx;first|apply af|refine ae rfl ?_|apply al)|apply aa
 refine bG l.l.length (fun i env h'=>∃ fl:Bool,(i=0→fl=true)∧(0<i→fl=false)∧env.has [(0,l.mv Rw.sv),(3,.rd (ki (l.l.take i)).length ((ki (l.l.take i)).map Rw.sv) fl),(4,.int .i64 i)]) ⟨true,fun _=>rfl,by omega,hh_⟩ ?_
 rintro i env h' hi ⟨fl,hf0,hf1,he⟩
 by_cases hi2:i<l.l.length
 ·obtain⟨p,hp⟩:=aK hi2
  obtain⟨b,hb⟩:=aK (l:=p.l) (i:=0) (by have:=List.length_pos_iff.2 (hne p (List.mem_of_getElem? hp));omega)
  have hlb:=zF hb
  have hsn:ki (l.l.take (i+1))=Bi (ki (l.l.take i)) p:=by
   rw[aS hp,ki,List.foldl_append];rfl
  have hPl:(ki (l.l.take i)).length≤2000000:=by
   have:=(pO (l.l.take i)).length_eq
   rw[List.length_take]at this
   omega
  have hPn:∀ q∈ki (l.l.take i),q.l≠[]:=fun q hq=>hne q (List.mem_of_mem_take ((pO _).mem_iff.1 hq))
  generalize hP:ki (l.l.take i)=P at *
  obtain⟨env,rfl⟩:=he.ex
  clear he
  repeat' first|apply ad|(apply gw;first|(apply gq0;first|refine am rfl ?_|refine aG rfl ?_)|(refine aA rfl rfl rfl ?_ ?_<;>(intro hc;try (exfalso;omega)))|refine az rfl ?_)|(apply gx;first|apply af|refine ae rfl ?_|apply ay|apply al|refine ak rfl ?_)|apply aa
  refine iq (fun m env h'=>∃ (j:Nat) (v:AV),m=P.length-j∧j≤P.length∧(∀ q∈P.take j,iI q.l<iI p.l)∧aC h' v 1 j ((P.take j).map Rw.sv)∧env.has [(0,l.mv Rw.sv),(3,.rd P.length (P.map Rw.sv) fl),(4,.int .i64 i),(5,v),(6,.int .i64 j)]) _ ⟨0,_,rfl,by omega,by simp,aC.nil _ _,hh_⟩ ?_
  rintro m env h' ⟨j,v,rfl,hj,hpre,hrow,he⟩
  obtain⟨env,rfl⟩:=he.ex
  clear he
  have hfin:∀ {ws:List (Rw ai)},ws=P.take j++[p]++P.drop j→(∀ q,P[j]?=some q→¬ iI q.l<iI p.l)→ki (l.l.take (i+1))=ws:=fun e h=>by rw[hsn,FP hpre h,e];simp
  by_cases hj2:j<P.length
  ·obtain⟨q,hq⟩:=aK hj2
   obtain⟨a,ha⟩:=aK (l:=q.l) (i:=0) (by have:=List.length_pos_iff.2 (hPn q (List.mem_of_getElem? hq));omega)
   have hla:=zF ha
   by_cases hab:a.lo<b.lo
   ·repeat' first|apply ad|(apply gw;first|(apply gq0;first|refine am rfl ?_|refine bj rfl ?_|refine aG rfl ?_|refine aq rv_ ?_)|refine bP rfl ?_|refine aB rfl b_ pv_ ?_|(apply gq3;first|refine aQ rfl rfl rfl (by omega) (by omega) ?_|(refine aA rfl rfl rfl ?_ ?_<;>(intro hc;try (exfalso;omega))))|refine kz rfl (by simp) rfl ?_|(apply gq5;first|refine aj rfl rfl hp (by omega) rfl ?_|refine aj rfl rfl hq (by omega) rfl ?_|refine dF rfl fl_ rfl ha (by omega) rfl ?_|refine dF rfl fl_ rfl hb (by omega) rfl ?_)|refine az rfl ?_|refine aZ rfl rfl ?_|(refine aX (m:=1) rv_ ir_ rfl rfl (by omega) ?_;intro va hpa hra hka hria)|refine bk (cs:=[AV.rd _ _ _]) rfl rfl ?_)|(apply gx;first|apply af|refine ae rfl ?_|apply ay|apply al|refine ak rfl ?_)|apply aa|apply aF
    refine fA (P.length-(j+1)) (by omega) ⟨j+1,va,rfl,by omega,fun r hr=>?_,?_,hh_⟩
    ·rw[aS hq]at hr
     rcases List.mem_append.1 hr with hr|hr
     ·exact hpre r hr
     ·simp at hr;subst hr;rw[hla,hlb];exact hab
    ·rw[aS hq]
     simpa using hra
   ·repeat' first|apply ad|(apply gw;first|(apply gq0;first|refine am rfl ?_|refine bj rfl ?_|refine aG rfl ?_|refine aq rv_ ?_)|refine bP rfl ?_|refine aB rfl b_ pv_ ?_|(refine aA rfl rfl rfl ?_ ?_<;>(intro hc;try (exfalso;omega)))|refine kz rfl (by simp) rfl ?_|(apply gq5;first|refine aj rfl rfl hp (by omega) rfl ?_|refine aj rfl rfl hq (by omega) rfl ?_|refine dF rfl fl_ rfl ha (by omega) rfl ?_|refine dF rfl fl_ rfl hb (by omega) rfl ?_)|refine az rfl ?_|refine aZ rfl rfl ?_|(apply lg;first|(refine aX (m:=1) rv_ ir_ rfl rfl (by omega) ?_;intro va hpa hra hka hria)|(refine aX rv_ ir_ rfl (by simp) (by first|omega|(simp;omega)) ?_;intro va hpa hra hka hria))|refine bk (cs:=[AV.rd _ _ _]) rfl rfl ?_|refine iG rfl rfl rfl (by omega) (by omega) ?_)|(apply gx;first|apply af|refine ae rfl ?_|apply aL|refine ah rfl ?_)|apply aa|apply aM|apply aN|apply aR
    have hra2:aC hpa va 1 (ki (l.l.take (i+1))).length ((ki (l.l.take (i+1))).map Rw.sv):=by
     rw[hfin rfl (fun r hr=>by rw[hq]at hr;cases hr;rw[hla,hlb];exact hab),List.map_append,List.map_append,List.length_append,List.length_append,List.length_take,Nat.min_eq_left hj]
     simp only[Int.toNat_natCast]at hra
     exact hra
    refine ga 5 (v:=va) rfl rfl hra2 ?_
    intro h2 hk2
    repeat' first|apply ad|(apply gw;first|(apply gq0;first|refine am rfl ?_|refine aG rfl ?_)|refine aQ rfl rfl rfl (by omega) (by omega) ?_)|refine ae rfl ?_|apply aa|apply aF
    exact aP hi2 ⟨false,by omega,fun _=>rfl,hh_⟩
  ·repeat' first|apply ad|(apply gw;first|(apply gq0;first|refine am rfl ?_|refine bj rfl ?_|refine aG rfl ?_|refine aq rv_ ?_)|refine cr rfl ?_|refine aB rfl b_ pv_ ?_|(refine aA rfl rfl rfl ?_ ?_<;>(intro hc;try (exfalso;omega)))|refine aj rfl rfl hp (by omega) rfl ?_|refine az rfl ?_|refine bc rfl rfl ?_|(apply lg;first|(refine aX (m:=1) rv_ ir_ rfl rfl (by omega) ?_;intro va hpa hra hka hria)|(refine aX rv_ ir_ rfl (by simp) (by first|omega|(simp;omega)) ?_;intro va hpa hra hka hria))|refine bk (cs:=[AV.rd _ _ _]) rfl rfl ?_|refine iG rfl rfl rfl (by omega) (by omega) ?_)|(apply gx;first|apply af|refine ae rfl ?_|apply aL|refine ah rfl ?_)|apply aa|apply aM|apply aN|apply aR
   have hra2:aC hpa va 1 (ki (l.l.take (i+1))).length ((ki (l.l.take (i+1))).map Rw.sv):=by
    rw[hfin rfl (fun r hr=>by have:=(List.getElem?_eq_some_iff.1 hr).1;omega),List.map_append,List.map_append,List.length_append,List.length_append,List.length_take,Nat.min_eq_left hj]
    simp only[Int.toNat_natCast]at hra
    exact hra
   refine ga 5 (v:=va) rfl rfl hra2 ?_
   intro h2 hk2
   repeat' first|apply ad|(apply gw;first|(apply gq0;first|refine am rfl ?_|refine aG rfl ?_)|refine aQ rfl rfl rfl (by omega) (by omega) ?_)|refine ae rfl ?_|apply aa|apply aF
   exact aP hi2 ⟨false,by omega,fun _=>rfl,hh_⟩
 ·have hi3:i=l.l.length:=by omega
  obtain⟨env,rfl⟩:=he.ex
  clear he
  repeat' first|apply ad|(apply gw;first|(apply gq0;first|refine am rfl ?_|refine aG rfl ?_)|(refine aA rfl rfl rfl ?_ ?_<;>(intro hc;try (exfalso;omega)))|refine az rfl ?_)|(apply gx;first|apply af|refine ae rfl ?_|apply aJ|apply aL|refine ah rfl ?_)|apply aa|apply aM|apply aN|apply aR
  rw[List.take_of_length_le (by omega)]
  refine aH (v := .rd (ki l.l).length ((ki l.l).map Rw.sv) fl) rfl ?_
  have:fl=l.l.isEmpty:=by
   cases hll:l.l with
   | nil=>exact hf0 (by rw[hll]at hi;simpa using hi)
   | cons a r=>rw[hll]at hi2;exact hf1 (by simp at hi2;omega)
  rw[this]
  rfl
end
section
open Go
@[reducible] def jB (p s:Rw ai):Rw ai:=⟨rH p.l s.l,false⟩
@[reducible] def lU (p s:Rw ai):Rw ai:=⟨pX p.l s.l,false⟩
def Jv (s:Rw ai)(out:Rw (Rw ai))(p:Rw ai):Rw (Rw ai):=kj (kj out (jB p s)) (lU p s)
def jj (P:List (Rw ai))(s:Rw ai):Rw (Rw ai):=P.foldl (Jv s) ⟨[],true⟩
def v8 (st:Rw (Rw ai)×Rw ai)(s:Rw ai):Rw (Rw ai)×Rw ai:=(kj (jj st.1.l s) (jB st.2 s),lU st.2 s)
def JU:Rw ai:=⟨[⟨0,1114111⟩],true⟩
def ko (l:List (Rw ai)):Rw (Rw ai)×Rw ai:=l.foldl v8 (⟨[],true⟩,JU)
def ofR (l:List (Rw ai)):Rw (Rw ai):=sS (ko l).1
def InU (P:List (Rw ai))(x:Int):Prop:=∃ q∈P,inS q.l x
def uQ (l:List (Rw ai))(x y:Int):Prop:=∀ s∈l,jO s.l x=jO s.l y
structure Ats (l P:List (Rw ai)):Prop where
 good:∀ q∈P,q.l≠[]∧bi q.l=q.l
 apart:P.Pairwise fun a b=>∀ x,¬ (inS a.l x∧inS b.l x)
 same:∀ x y,cv x=true→cv y=true→uQ l x y→∀ q∈P,inS q.l x→inS q.l y
theorem Ats.nil (l:List (Rw ai)):Ats l []:=⟨by simp,List.Pairwise.nil,by simp⟩
theorem CE {P Q:List (Rw ai)}{x:Int}:InU (P++Q) x↔InU P x∨InU Q x:=by
 unfold InU
 constructor
 ·rintro⟨q,hq,hx⟩
  rcases List.mem_append.1 hq with hq|hq
  ·exact .inl ⟨q,hq,hx⟩
  ·exact .inr ⟨q,hq,hx⟩
 ·rintro(⟨q,hq,hx⟩|⟨q,hq,hx⟩)
  ·exact⟨q,List.mem_append.2 (.inl hq),hx⟩
  ·exact⟨q,List.mem_append.2 (.inr hq),hx⟩
theorem CD {q:Rw ai}{x:Int}:InU [q] x↔inS q.l x:=by simp[InU]
theorem Ats.some {l:List (Rw ai)}{P:Rw (Rw ai)}(h:Ats l P.l){s:Rw ai}(hn:bi s.l=s.l)(hd:∀ x,¬ (InU P.l x∧inS s.l x))(hs:∀ x y,cv x=true→cv y=true→uQ l x y→inS s.l x→inS s.l y):Ats l (kj P s).l∧∀ x,InU (kj P s).l x↔InU P.l x∨inS s.l x:=by
 unfold kj
 by_cases he:s.l=[]
 ·rw[if_pos he]
  refine⟨h,fun x=>⟨.inl,fun h=>?_⟩⟩
  rcases h with h|⟨t,ht,_⟩
  ·exact h
  ·rw[he]at ht;cases ht
 ·rw[if_neg he]
  refine⟨⟨fun q hq=>?_,?_,fun x y hx hy hxy q hq=>?_⟩,fun x=>by rw[CE,CD]⟩
  ·rcases List.mem_append.1 hq with hq|hq
   ·exact h.good q hq
   ·simp at hq;subst hq;exact⟨he,hn⟩
  ·rw[List.pairwise_append]
   refine⟨h.apart,List.pairwise_singleton _ _,fun a ha b hb x hx=>?_⟩
   simp at hb;subst hb
   exact hd x ⟨⟨a,ha,hx.1⟩,hx.2⟩
  ·rcases List.mem_append.1 hq with hq|hq
   ·exact h.same x y hx hy hxy q hq
   ·simp at hq;subst hq;exact hs x y hx hy hxy
theorem o9 {s:List ai}{x:Int}(hx:cv x=true):jO s x=true↔inS s x:=by
 rw[ov]
 exact⟨fun h=>h.2,fun h=>⟨hx,h⟩⟩
theorem pP {l:List (Rw ai)}{s p:Rw ai}(hp:∀ x y,cv x=true→cv y=true→uQ l x y→inS p.l x→inS p.l y){x y:Int}(hx:cv x=true)(hy:cv y=true)(h:uQ (l++[s]) x y):(inS (rH p.l s.l) x→inS (rH p.l s.l) y)∧(inS (pX p.l s.l) x→inS (pX p.l s.l) y):=by
 have h1:uQ l x y:=fun t ht=>h t (List.mem_append.2 (.inl ht))
 have h2:=h s (by simp)
 have h3:inS s.l x↔inS s.l y:=by rw[← o9 hx,← o9 hy,h2]
 rw[kE,kE,mW,mW,h3]
 exact⟨fun⟨_,a,b⟩=>⟨hy,hp x y hx hy h1 a,b⟩,fun⟨_,a,b⟩=>⟨hy,hp x y hx hy h1 a,b⟩⟩
theorem tC {l:List (Rw ai)}{P:List (Rw ai)}(h:Ats l P)(s:Rw ai):∀ n,n≤P.length→Ats (l++[s]) (jj (P.take n) s).l∧∀ x,InU (jj (P.take n) s).l x↔InU (P.take n) x
 | 0,_=>⟨by simpa[jj] using Ats.nil _,fun x=>by simp[jj,InU]⟩
 | n+1,hn=>by
  obtain⟨h1,h2⟩:=tC h s n (by omega)
  obtain⟨p,hp⟩:=aK (l:=P) (i:=n) hn
  have hpm:=List.mem_of_getElem? hp
  have hpn:=(h.good p hpm).2
  have hsame:=fun x y a b c=>h.same x y a b c p hpm
  have hdis:∀ x,¬ (InU (P.take n) x∧inS p.l x):=fun x ⟨⟨q,hq,hx⟩,hx2⟩=>by
   have h3:=h.apart
   rw[← List.take_append_drop n P,List.pairwise_append]at h3
   have h4:p∈P.drop n:=by
    rw[List.drop_eq_getElem_cons (show n<P.length by omega),(List.getElem?_eq_some_iff.1 hp).2]
    simp
   exact h3.2.2 q hq p h4 x ⟨hx,hx2⟩
  have e:jj (P.take (n+1)) s=kj (kj (jj (P.take n) s) (jB p s)) (lU p s):=by
   rw[aS hp,jj,List.foldl_append];rfl
  obtain⟨a1,a2⟩:=Ats.some h1 (s:=jB p s) (o7 _ _ _) (fun x ⟨hx,hi⟩=>hdis x ⟨(h2 x).1 hx,(kE.1 hi).2.1⟩) (fun x y hx hy hxy=>(pP hsame hx hy hxy).1)
  obtain⟨b1,b2⟩:=Ats.some a1 (s:=lU p s) (o7 _ _ _) (fun x ⟨hx,hi⟩=>by
   have hm:=mW.1 hi
   rcases (a2 x).1 hx with hx|hx
   ·exact hdis x ⟨(h2 x).1 hx,hm.2.1⟩
   ·exact hm.2.2 (kE.1 hx).2.2) (fun x y hx hy hxy=>(pP hsame hx hy hxy).2)
  rw[e]
  refine⟨b1,fun x=>?_⟩
  rw[b2,a2,h2,aS hp,CE,CD,kE,mW]
  constructor
  ·rintro((h|h)|h)
   ·exact .inl h
   ·exact .inr h.2.1
   ·exact .inr h.2.1
  ·rintro(h|h)
   ·exact .inl (.inl h)
   ·by_cases hs:inS s.l x
    ·exact .inl (.inr ⟨gS hpn h,h,hs⟩)
    ·exact .inr ⟨gS hpn h,h,hs⟩
structure uV (l:List (Rw ai))(st:Rw (Rw ai)×Rw ai):Prop where
 ats:Ats l st.1.l
 rest:∀ x,cv x=true→(inS st.2.l x↔∀ s∈l,¬ inS s.l x)
 un:∀ x,InU st.1.l x↔cv x=true∧∃ s∈l,inS s.l x
theorem EC {l:List (Rw ai)}{st:Rw (Rw ai)×Rw ai}(h:uV l st):∀ x y,cv x=true→cv y=true→uQ l x y→inS st.2.l x→inS st.2.l y:=fun x y hx hy hxy h1=>by
 rw[h.rest y hy]
 intro s hs hys
 refine(h.rest x hx).1 h1 s hs ?_
 have:=hxy s hs
 rw[← o9 hx,this,o9 hy]
 exact hys
theorem BG {l:List (Rw ai)}{st:Rw (Rw ai)×Rw ai}(h:uV l st)(s:Rw ai):uV (l++[s]) (v8 st s):=by
 obtain⟨h1,h2⟩:=tC h.ats s st.1.l.length (Nat.le_refl _)
 rw[List.take_length]at h1 h2
 obtain⟨a1,a2⟩:=Ats.some h1 (s:=jB st.2 s) (o7 _ _ _) (fun x ⟨hx,hi⟩=>by
  have hi2:=kE.1 hi
  obtain⟨hsx,t,ht,htx⟩:=(h.un x).1 ((h2 x).1 hx)
  exact(h.rest x hsx).1 hi2.2.1 t ht htx) (fun x y hx hy hxy=>(pP (EC h) hx hy hxy).1)
 refine⟨a1,fun x hx=>?_,fun x=>?_⟩
 ·show inS (pX st.2.l s.l) x↔_
  rw[mW,h.rest x hx]
  constructor
  ·rintro⟨_,h3,h4⟩ t ht
   rcases List.mem_append.1 ht with ht|ht
   ·exact h3 t ht
   ·simp at ht;subst ht;exact h4
  ·exact fun h3=>⟨hx,fun t ht=>h3 t (List.mem_append.2 (.inl ht)),h3 s (by simp)⟩
 ·show InU (kj (jj st.1.l s) (jB st.2 s)).l x↔_
  rw[a2,h2,h.un,kE]
  constructor
  ·rintro(⟨hx,t,ht,htx⟩|⟨hx,_,h3⟩)
   ·exact⟨hx,t,List.mem_append.2 (.inl ht),htx⟩
   ·exact⟨hx,s,by simp,h3⟩
  ·rintro⟨hx,t,ht,htx⟩
   by_cases h4:∃ t∈l,inS t.l x
   ·exact .inl ⟨hx,h4⟩
   ·refine .inr ⟨hx,(h.rest x hx).2 fun t ht h5=>h4 ⟨t,ht,h5⟩,?_⟩
    rcases List.mem_append.1 ht with ht|ht
    ·exact absurd ⟨t,ht,htx⟩ h4
    ·simp at ht;subst ht;exact htx
theorem BF:uV [] (⟨[],true⟩,JU):=by
 refine⟨Ats.nil _,fun x hx=>?_,fun x=>by simp[InU]⟩
 have:=cx.1 hx
 simp[JU,inS]
 omega
theorem ra (l:List (Rw ai)):uV l (ko l):=by
 have key:∀ (m k:List (Rw ai)) (st:Rw (Rw ai)×Rw ai),uV k st→uV (k++m) (m.foldl v8 st):=by
  intro m
  induction m with
  | nil=>intro k st h;simpa using h
  | cons s m ih =>
   intro k st h
   have:=ih (k++[s]) _ (BG h s)
   simpa using this
 simpa[ko] using key l [] _ BF
theorem Ats.sub {l P Q:List (Rw ai)}(h:Ats l P)(hp:Q.Perm P):Ats l Q :=
 ⟨fun q hq=>h.good q (hp.mem_iff.1 hq),hp.symm.pairwise h.apart fun h x hx=>h x ⟨hx.2,hx.1⟩,fun x y hx hy hxy q hq=>h.same x y hx hy hxy q (hp.mem_iff.1 hq)⟩
def rO (l:List (Rw ai)):List Int:=[0,57344]++l.flatMap fun s=>s.l.flatMap fun t=>[t.lo,t.hi+1]
theorem Iv {l P:List (Rw ai)}(h:Ats l P){q:Rw ai}(hq:q∈P){t:ai}(ht:t∈q.l):t.lo∈rO l:=by
 have hn:=(h.good q hq).2
 have hc:=eQ hn
 have ht1:=hc.2 t ht
 have hlo:inS q.l t.lo:=⟨t,ht,Int.le_refl _,ht1⟩
 have hs1:=gS hn hlo
 have hs2:=cx.1 hs1
 unfold rO
 by_cases h0:t.lo=0∨t.lo=57344
 ·rcases h0 with h0|h0<;>rw[h0]<;>simp
 ·have hs3:cv (t.lo-1)=true:=cx.2 (by omega)
  have hno:¬ inS q.l (t.lo-1):=by
   rintro⟨u,hu,h1,h2⟩
   have hut:u=t∨u≠t:=Classical.em _
   rcases hut with rfl|hut
   ·omega
   ·obtain⟨i,hi,rfl⟩:=List.getElem_of_mem hu
    obtain⟨j,hj,rfl⟩:=List.getElem_of_mem ht
    have hpw:=List.pairwise_iff_getElem.1 hc.1
    rcases Nat.lt_trichotomy i j with hij|hij|hij
    ·have:=hpw i j hi hj hij
     omega
    ·subst hij;exact hut rfl
    ·have:=hpw j i hj hi hij
     omega
  have hdiff:¬ uQ l t.lo (t.lo-1):=fun hs=>hno (h.same _ _ hs1 hs3 hs q hq hlo)
  obtain⟨s,hs⟩:=Classical.not_forall.1 hdiff
  obtain⟨hsm,hne⟩:=Classical.not_imp.1 hs
  refine List.mem_append.2 (.inr (List.mem_flatMap.2 ⟨s,hsm,?_⟩))
  have key:∃ u∈s.l,t.lo=u.lo∨t.lo=u.hi+1:=by
   apply Classical.byContradiction
   intro hx
   apply hne
   have:inS s.l t.lo↔inS s.l (t.lo-1):=by
    constructor
    ·rintro⟨u,hu,a,b⟩
     have:¬ t.lo=u.lo:=fun e=>hx ⟨u,hu,.inl e⟩
     exact⟨u,hu,by omega,by omega⟩
    ·rintro⟨u,hu,a,b⟩
     have:¬ t.lo=u.hi+1:=fun e=>hx ⟨u,hu,.inr e⟩
     exact⟨u,hu,by omega,by omega⟩
   rw[Bool.eq_iff_iff,o9 hs1,o9 hs3,this]
  obtain⟨u,hu,h1⟩:=key
  refine List.mem_flatMap.2 ⟨u,hu,?_⟩
  rcases h1 with h1|h1<;>rw[h1]<;>simp
theorem rD {l m:List Int}(h:l.Nodup)(hs:∀ x∈l,x∈m):l.length≤m.length:=by
 induction l generalizing m with
 | nil=>simp
 | cons a l ih =>
  obtain⟨h1,h2⟩:=List.nodup_cons.1 h
  have ha:=hs a (by simp)
  have:=ih (m:=m.erase a) h2 fun x hx=>by
   have hne:x≠a:=fun e=>h1 (e ▸ hx)
   exact(List.mem_erase_of_ne hne).2 (hs x (by simp[hx]))
  rw[List.length_erase_of_mem ha]at this
  have:=List.length_pos_of_mem ha
  simp only[List.length_cons]
  omega
theorem Ats.cat {l P:List (Rw ai)}(h:Ats l P):(cT P).length≤(rO l).length:=by
 have h1:((cT P).map fun t=>t.lo).Nodup:=by
  unfold cT
  rw[List.map_flatMap]
  rw[List.Nodup,List.pairwise_flatMap]
  refine⟨fun q hq=>?_,?_⟩
  ·have hc:=eQ (h.good q hq).2
   rw[List.pairwise_map]
   refine hc.1.imp_of_mem ?_
   intro a b ha hb hab e
   have:=hc.2 a ha
   omega
  ·refine h.apart.imp_of_mem ?_
   intro a b ha hb hab x hx y hy e
   obtain⟨t,ht,rfl⟩:=List.mem_map.1 hx
   obtain⟨u,hu,rfl⟩:=List.mem_map.1 hy
   have e2:t.lo=u.lo:=e
   have hc:=eQ (h.good a ha).2
   have hc2:=eQ (h.good b hb).2
   exact hab t.lo ⟨⟨t,ht,Int.le_refl _,hc.2 t ht⟩,⟨u,hu,by omega,by rw[e2];exact hc2.2 u hu⟩⟩
 have h2:=rD h1 (m:=rO l) fun x hx=>by
  obtain⟨t,ht,rfl⟩:=List.mem_map.1 hx
  obtain⟨q,hq,htq⟩:=List.mem_flatMap.1 ht
  exact Iv h hq htq
 simpa using h2
theorem Ats.count {l P:List (Rw ai)}(h:Ats l P):P.length≤(cT P).length:=by
 have:∀ P:List (Rw ai),(∀ q∈P,q.l≠[])→P.length≤(cT P).length:=by
  intro P
  induction P with
  | nil=>simp
  | cons p P ih =>
   intro hg
   have h1:=ih fun q hq=>hg q (by simp[hq])
   have h2:=List.length_pos_iff.2 (hg p (by simp))
   simp[cT]at h1 ⊢
   omega
 exact this P fun q hq=>(h.good q hq).1
theorem mF (l:List (Rw ai)):(rO l).length=2+2*(cT l).length:=by
 unfold rO cT
 rw[List.length_append]
 congr 1
 induction l with
 | nil=>rfl
 | cons s l ih =>
  rw[List.flatMap_cons,List.flatMap_cons,List.length_append,List.length_append,ih]
  have:(s.l.flatMap fun t=>[t.lo,t.hi+1]).length=2*s.l.length:=by
   induction s.l with
   | nil=>rfl
   | cons t r ih=>rw[List.flatMap_cons,List.length_append,ih,List.length_cons];simp;omega
  omega
end
section
open Go
set_option maxHeartbeats 4000000
attribute [local irreducible] aw bg bm dg bz cw dO bH wop cz a8
theorem vM {s:List ai}(h:bi s=s):sD s:=by
 have h4:=oe h
 refine⟨by omega,fun t ht=>?_⟩
 have h5:=pW h t ht
 have h6:=(eQ h).2 t ht
 omega
theorem uv (l:List (Rw ai))(s:Rw ai):ko (l++[s])=v8 (ko l) s:=by
 unfold ko
 rw[List.foldl_append];rfl
theorem Bo (l:List (Rw ai)):sD (ko l).2.l:=by
 rcases List.eq_nil_or_concat l with rfl|⟨k,s,rfl⟩
 ·exact⟨by decide,fun s hs=>by
   have:s∈[(⟨0,1114111⟩:ai)]:=hs
   simp at this;subst this;decide⟩
 ·rw[List.concat_eq_append,uv]
  exact vM (o7 _ _ _)
theorem yY (P:Rw (Rw ai))(s:Rw ai):(kj P s).l.length≤P.l.length+1:=by
 unfold kj
 split
 ·omega
 ·simp
theorem rT (l:List (Rw ai))(i:Nat):(cT (l.take i)).length≤(cT l).length:=by
 have h:cT l=cT (l.take i)++cT (l.drop i):=by
  unfold cT
  rw[← List.flatMap_append,List.take_append_drop]
 rw[h,List.length_append]
 omega
theorem Ik {Φ:Lib}(L:cP Φ)(L2:l9 Φ)(l:Rw (Rw ai))(hl:l.l.length≤1048576)(hw:∀ s∈l.l,sD s.l)(hc:(cT l.l).length≤524288):fg Φ 97 [l.mv Rw.sv] ((ofR l.l).mv Rw.sv):=by
 have hlen:∀ i,(ko (l.l.take i)).1.l.length≤1048578:=fun i=>by
  have h1:=(ra (l.l.take i)).ats
  have h2:=h1.count
  have h3:=h1.cat
  have h4:=rT l.l i
  rw[mF]at h3
  omega
 refine aY (fun _=>false) rfl L.f97 ?_
 repeat' first|apply ad|(apply gw;first|(apply gq0;first|refine am rfl ?_|refine aG rfl ?_)|refine cJ (cs:=[AV.int _ _,AV.int _ _]) rfl ?_|refine bk (cs:=[AV.int _ _,AV.int _ _]) rfl rfl ?_)|(apply gx;first|apply af|refine ae rfl ?_|apply al)|apply aa
 refine bG l.l.length (fun i env h'=>env.has [(0,l.mv Rw.sv),(3,(ko (l.l.take i)).1.mv Rw.sv),(4,(ko (l.l.take i)).2.sv),(5,.int .i64 i)]) (hh_) ?_
 rintro i env h' hi he
 by_cases hi2:i<l.l.length
 ·obtain⟨s,hs⟩:=aK hi2
  have hsw:=hw s (List.mem_of_getElem? hs)
  have hat:=ra (l.l.take i)
  have hrw:=Bo (l.l.take i)
  have hPl:=hlen i
  have hnext:ko (l.l.take (i+1))=v8 (ko (l.l.take i)) s:=by rw[aS hs,uv]
  have hsl:∀ n,n≤(ko (l.l.take i)).1.l.length→(jj ((ko (l.l.take i)).1.l.take n) s).l.length≤1048578:=fun n hn=>by
   have h1:=(tC hat.ats s n hn).1
   have h2:=h1.count
   have h3:=h1.cat
   have h4:=rT l.l (i+1)
   rw[← aS hs,mF]at h3
   omega
  generalize hst:ko (l.l.take i)=st at *
  obtain⟨P,rest⟩:=st
  simp only at *
  obtain⟨env,rfl⟩:=he.ex
  clear he
  repeat' first|apply ad|(apply gw;first|(apply gq0;first|refine am rfl ?_|refine aG rfl ?_)|(refine aA rfl rfl rfl ?_ ?_<;>(intro hc;try (exfalso;omega)))|refine az rfl ?_)|(apply gx;first|apply af|refine ae rfl ?_|apply ay|apply al|refine ak rfl ?_)|apply aa
  refine bG P.l.length (fun j env h'=>env.has [(0,l.mv Rw.sv),(3,P.mv Rw.sv),(4,rest.sv),(5,.int .i64 i),(6,(jj (P.l.take j) s).mv Rw.sv),(7,.int .i64 j)]) (hh_) ?_
  rintro j env h' hj he
  have hsj:=hsl j hj
  by_cases hj2:j<P.l.length
  ·obtain⟨p,hp⟩:=aK hj2
   have hpw:=vM (hat.ats.good p (List.mem_of_getElem? hp)).2
   have hnx:jj (P.l.take (j+1)) s=kj (kj (jj (P.l.take j) s) (jB p s)) (lU p s):=by rw[aS hp,jj,List.foldl_append];rfl
   generalize jj (P.l.take j) s=out at *
   have hso:=yY out (jB p s)
   have k1:fg Φ 109 [p.sv,s.sv] (jB p s).sv:=zM L L2 p s hpw hsw
   have k2:=xw L out (jB p s) (by omega)
   have k3:fg Φ 110 [p.sv,s.sv] (lU p s).sv:=zz L L2 p s hpw hsw
   have k4:=xw L (kj out (jB p s)) (lU p s) (by omega)
   generalize hq1:jB p s=q1 at *
   generalize hq2:lU p s=q2 at *
   obtain⟨env,rfl⟩:=he.ex
   clear he
   repeat' first|apply ad|(apply gw;first|(apply gq0;first|refine am rfl ?_|refine aG rfl ?_)|refine aB rfl b_ pv_ ?_|(apply gq3;first|refine aQ rfl rfl rfl (by omega) (by omega) ?_|(refine aA rfl rfl rfl ?_ ?_<;>(intro hc;try (exfalso;omega))))|(apply gq5;first|refine aj rfl rfl hs (by omega) rfl ?_|refine aj rfl rfl hp (by omega) rfl ?_)|refine az rfl ?_|refine aI rfl nt_ ?_)|(apply gx;first|apply af|refine ae rfl ?_|apply ay|apply al|refine ak rfl ?_)|apply aa|apply aF|refine aU (by assumption) fz_ fz_ ?_
   refine aP hj2 ?_
   rw[hnx]
   exact hh_
  ·have hjj:j=P.l.length:=by omega
   rw[hjj,List.take_length]at he hsj
   have hnx:v8 (P,rest) s=(kj (jj P.l s) (jB rest s),lU rest s):=rfl
   generalize jj P.l s=out at *
   have k1:fg Φ 109 [rest.sv,s.sv] (jB rest s).sv:=zM L L2 rest s hrw hsw
   have k2:=xw L out (jB rest s) (by omega)
   have k3:fg Φ 110 [rest.sv,s.sv] (lU rest s).sv:=zz L L2 rest s hrw hsw
   generalize hq1:jB rest s=q1 at *
   generalize hq2:lU rest s=q2 at *
   obtain⟨env,rfl⟩:=he.ex
   clear he
   repeat' first|apply ad|(apply gw;first|(apply gq0;first|refine am rfl ?_|refine aG rfl ?_)|refine aB rfl b_ pv_ ?_|(apply gq3;first|refine aQ rfl rfl rfl (by omega) (by omega) ?_|(refine aA rfl rfl rfl ?_ ?_<;>(intro hc;try (exfalso;omega))))|refine aj rfl rfl hs (by omega) rfl ?_|refine az rfl ?_|refine aI rfl nt_ ?_)|(apply gx;first|apply af|refine ae rfl ?_|apply aL|refine ah rfl ?_)|apply aa|apply aM|apply aF|apply aN|apply aR|refine aU (by assumption) fz_ fz_ ?_
   refine aP hi2 ?_
   rw[hnext,hnx]
   exact hh_
 ·rw[List.take_of_length_le (by omega)]at he
  have hii:i=l.l.length:=by omega
  have hPl:=hlen i
  rw[List.take_of_length_le (by omega)]at hPl
  have k1:=De L (ko l.l).1 (by omega) (fun q hq=>((ra l.l).ats.good q hq).1)
  have hof:ofR l.l=sS (ko l.l).1:=rfl
  rw[hof]
  generalize ko l.l=st at *
  obtain⟨env,rfl⟩:=he.ex
  clear he
  repeat' first|apply ad|(apply gw;first|(apply gq0;first|refine am rfl ?_|refine aG rfl ?_)|(refine aA rfl rfl rfl ?_ ?_<;>(intro hc;try (exfalso;omega)))|refine az rfl ?_|refine aI rfl nt_ ?_)|(apply gx;first|apply af|refine ae rfl ?_|apply aJ|apply aL|refine ah rfl ?_)|apply aa|apply aM|apply aN|apply aR|refine aU (by assumption) fz_ fz_ ?_
  exact aH (v:=(sS st.1).mv Rw.sv) rfl rfl
end
end Go.Proofs.YtlnobeojgifojaaGreatDoor
