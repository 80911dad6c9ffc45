/- The document's atoms: some, sorted. -/
import Derived.Test.YtlnobeojgifojaaGreatDoorF2
set_option linter.unusedVariables false
set_option linter.unusedSimpArgs false
namespace Go.Proofs.YtlnobeojgifojaaGreatDoor
section
open Go
set_option maxHeartbeats 4000000
attribute [local irreducible] az bf bm de bz cw dH bJ wop cz bc
def ku (l:Rw (Rw aj))(s:Rw aj):Rw (Rw aj):=if s.l=[] then l else⟨l.l++[s],false⟩
theorem xI {Φ:Lib}(L:cJ Φ)(l:Rw (Rw aj))(s:Rw aj)(hl:l.l.length≤2000000):eQ Φ 108 [l.mv Rw.sv,s.sv] ((ku l s).mv Rw.sv):=by
 refine ba (fun _=>false) rfl L.f108 ?_
 cases hs:s.l with
 | nil =>
  have h0:s.l.length=0:=by rw[hs];rfl
  rw[ku,if_pos hs]
  repeat' first|apply ac|(apply gw;first|refine aG rfl ?_|(refine dd rfl rfl rfl ?_ ?_<;>(intro hc;try omega))|refine aw rfl ?_)|(apply gx;first|apply af|refine ae rfl ?_|apply aM|refine ak rfl ?_)|apply aa|apply cp|refine aJ (v:=AV.rd _ _ _) rfl ?_
  all_goals rfl
 | cons a r =>
  have h0:s.l.length=r.length+1:=by rw[hs];rfl
  rw[ku,if_neg (by rw[hs];simp)]
  repeat' first|apply ac|(apply gw;first|(apply gq0;first|refine aG rfl ?_|refine au rv_ ?_)|(refine dd rfl rfl rfl ?_ ?_<;>(intro hc;try omega))|refine aw rfl ?_|(apply lp;first|(refine aY (m:=1) rv_ ir_ rfl rfl Ll ?_;intro va hpa hra hka hria)|(refine aY rv_ ir_ rfl Lm (by first|omega|(simp;omega)) ?_;intro va hpa hra hka hria))|refine bj (cs:=[AV.rd _ _ _]) rfl rfl ?_)|(apply gx;first|apply af|refine ae rfl ?_|apply ay|apply aM|refine ai rfl ?_)|apply aa
  refine fq rfl hra fun _=>?_
  simp
def Bx (P:List (Rw aj))(p:Rw aj):List (Rw aj):=P.takeWhile (fun q=>decide (iJ q.l<iJ p.l))++p::P.dropWhile (fun q=>decide (iJ q.l<iJ p.l))
def kp (l:List (Rw aj)):List (Rw aj):=l.foldl Bx []
theorem Fo (P:List (Rw aj))(p:Rw aj):(Bx P p).Perm (P++[p]):=by
 unfold Bx
 have h:(P.takeWhile (fun q=>decide (iJ q.l<iJ p.l))++p::P.dropWhile (fun q=>decide (iJ q.l<iJ p.l))).Perm (p::P):=by
  have:=List.perm_middle (a:=p) (l₁:=P.takeWhile (fun q=>decide (iJ q.l<iJ p.l))) (l₂:=P.dropWhile (fun q=>decide (iJ q.l<iJ p.l)))
  rwa [List.takeWhile_append_dropWhile]at this
 exact h.trans (List.perm_append_comm (l₁:=[p]) (l₂:=P))
theorem sO (l:List (Rw aj)):∀ P:List (Rw aj),(l.foldl Bx P).Perm (P++l):=by
 induction l with
 | nil=>intro P;simp
 | cons p l ih =>
  intro P
  rw[List.foldl_cons]
  refine(ih _).trans ?_
  have:=(Fo P p).append_right l
  simpa using this
theorem pX (l:List (Rw aj)):(kp l).Perm l:=by
 have:=sO l []
 unfold kp
 simpa using this
theorem F0 {P:List (Rw aj)}{p:Rw aj}{j:Nat}(h1:∀ q∈P.take j,iJ q.l<iJ p.l)(h2:∀ q,P[j]?=some q→¬ iJ q.l<iJ p.l):Bx P p=P.take j++p::P.drop j:=by
 have key:∀ (P:List (Rw aj)) (j:Nat),(∀ q∈P.take j,iJ q.l<iJ p.l)→(∀ q,P[j]?=some q→¬ iJ q.l<iJ p.l)→P.takeWhile (fun q=>decide (iJ q.l<iJ p.l))=P.take j∧P.dropWhile (fun q=>decide (iJ q.l<iJ p.l))=P.drop j:=by
  intro P
  induction P with
  | nil=>intro j _ _;simp
  | cons q P ih =>
   intro j h1 h2
   cases j with
   | zero =>
    have:=h2 q rfl
    rw[List.takeWhile_cons_of_neg (by simpa using this),List.dropWhile_cons_of_neg (by simpa using this)]
    simp
   | succ j =>
    have h3:=h1 q Lm
    obtain⟨a,b⟩:=ih j (fun r hr=>h1 r (by simp[hr])) (fun r hr=>h2 r (by simpa using hr))
    rw[List.takeWhile_cons_of_pos (by simpa using h3),List.dropWhile_cons_of_pos (by simpa using h3),a,b]
    simp
 obtain⟨a,b⟩:=key P j h1 h2
 unfold Bx
 rw[a,b]
theorem zT {l:List aj}{a:aj}(h:l[0]?=some a):iJ l=a.lo:=by
 cases l with
 | nil=>cases h
 | cons b l=>simp at h;subst h;rfl
def sY (l:Rw (Rw aj)):Rw (Rw aj):=⟨kp l.l,l.l.isEmpty⟩
theorem Dp {Φ:Lib}(L:cJ Φ)(l:Rw (Rw aj))(hl:l.l.length≤2000000)(hne:∀ q∈l.l,q.l≠[]):eQ Φ 111 [l.mv Rw.sv] ((sY l).mv Rw.sv):=by
 refine ba (fun o=>o == some 55) rfl L.f111 ?_
 repeat' first|apply ac|(apply gq0;first|refine aq rfl ?_|refine aG rfl ?_)|(apply gx;first|apply af|refine ae rfl ?_|apply al)|apply aa
 refine bD l.l.length (fun i env h'=>∃ fl:Bool,(i=0→fl=true)∧(0<i→fl=false)∧env.has [(0,l.mv Rw.sv),(3,.rd (kp (l.l.take i)).length ((kp (l.l.take i)).map Rw.sv) fl),(4,.int .i64 i)]) ⟨true,fun _=>rfl,by omega,hh_⟩ ?_
 rintro i env h' hi ⟨fl,hf0,hf1,he⟩
 by_cases hi2:i<l.l.length
 ·obtain⟨p,hp⟩:=aK hi2
  obtain⟨b,hb⟩:=aK (l:=p.l) (i:=0) (by have:=List.length_pos_iff.2 (hne p (List.mem_of_getElem? hp));omega)
  have hlb:=zT hb
  have hsn:kp (l.l.take (i+1))=Bx (kp (l.l.take i)) p:=by
   rw[aV hp,kp,List.foldl_append];rfl
  have hPl:(kp (l.l.take i)).length≤2000000:=by
   have:=(pX (l.l.take i)).length_eq
   rw[List.length_take]at this
   omega
  have hPn:∀ q∈kp (l.l.take i),q.l≠[]:=fun q hq=>hne q (List.mem_of_mem_take ((pX _).mem_iff.1 hq))
  generalize hP:kp (l.l.take i)=P at *
  obtain⟨env,rfl⟩:=he.ex
  clear he
  repeat' first|apply ac|(apply gw;first|(apply gq0;first|refine aq rfl ?_|refine aG rfl ?_)|(refine aA rfl rfl rfl ?_ ?_<;>(intro hc;try omega))|refine aw rfl ?_)|(apply gx;first|apply af|refine ae rfl ?_|apply ay|apply al|refine ak rfl ?_)|apply aa
  refine gL (fun m env h'=>∃ (j:Nat) (v:AV),m=P.length-j∧j≤P.length∧(∀ q∈P.take j,iJ q.l<iJ p.l)∧aD h' v 1 j ((P.take j).map Rw.sv)∧env.has [(0,l.mv Rw.sv),(3,.rd P.length (P.map Rw.sv) fl),(4,.int .i64 i),(5,v),(6,.int .i64 j)]) _ ⟨0,_,rfl,by omega,by simp,aD.nil _ _,hh_⟩ ?_
  rintro m env h' ⟨j,v,rfl,hj,hpre,hrow,he⟩
  obtain⟨env,rfl⟩:=he.ex
  clear he
  have hfin:∀ {ws:List (Rw aj)},ws=P.take j++[p]++P.drop j→(∀ q,P[j]?=some q→¬ iJ q.l<iJ p.l)→kp (l.l.take (i+1))=ws:=fun e h=>by rw[hsn,F0 hpre h,e];simp
  by_cases hj2:j<P.length
  ·obtain⟨q,hq⟩:=aK hj2
   obtain⟨a,ha⟩:=aK (l:=q.l) (i:=0) (by have:=List.length_pos_iff.2 (hPn q (List.mem_of_getElem? hq));omega)
   have hla:=zT ha
   by_cases hab:a.lo<b.lo
   ·repeat' first|apply ac|(apply gw;first|(apply gq0;first|refine aq rfl ?_|refine bl rfl ?_|refine aG rfl ?_|refine au rv_ ?_)|refine cj rfl ?_|refine aB rfl b_ pv_ ?_|(apply gq3;first|refine aT rfl rfl rfl Ll Ll ?_|(refine aA rfl rfl rfl ?_ ?_<;>(intro hc;try omega)))|refine jQ rfl Lm rfl ?_|(apply gq5;first|refine ah rfl rfl hp Ll rfl ?_|refine ah rfl rfl hq Ll rfl ?_|refine cM rfl fl_ rfl ha Ll rfl ?_|refine cM rfl fl_ rfl hb Ll rfl ?_)|refine aw rfl ?_|refine bi rfl rfl ?_|(refine aY (m:=1) rv_ ir_ rfl rfl Ll ?_;intro va hpa hra hka hria)|refine bj (cs:=[AV.rd _ _ _]) rfl rfl ?_)|(apply gx;first|apply af|refine ae rfl ?_|apply ay|apply al|refine ak rfl ?_)|apply aa|apply aI
    refine fp (P.length-(j+1)) Ll ⟨j+1,va,rfl,by omega,fun r hr=>?_,?_,hh_⟩
    ·rw[aV hq]at hr
     rcases List.mem_append.1 hr with hr|hr
     ·exact hpre r hr
     ·simp at hr;subst hr;rw[hla,hlb];exact hab
    ·rw[aV hq]
     simpa using hra
   ·repeat' first|apply ac|(apply gw;first|(apply gq0;first|refine aq rfl ?_|refine bl rfl ?_|refine aG rfl ?_|refine au rv_ ?_)|refine cj rfl ?_|refine aB rfl b_ pv_ ?_|(refine aA rfl rfl rfl ?_ ?_<;>(intro hc;try omega))|refine jQ rfl Lm rfl ?_|(apply gq5;first|refine ah rfl rfl hp Ll rfl ?_|refine ah rfl rfl hq Ll rfl ?_|refine cM rfl fl_ rfl ha Ll rfl ?_|refine cM rfl fl_ rfl hb Ll rfl ?_)|refine aw rfl ?_|refine bi rfl rfl ?_|(apply lp;first|(refine aY (m:=1) rv_ ir_ rfl rfl Ll ?_;intro va hpa hra hka hria)|(refine aY rv_ ir_ rfl Lm (by first|omega|(simp;omega)) ?_;intro va hpa hra hka hria))|refine bj (cs:=[AV.rd _ _ _]) rfl rfl ?_|refine jO rfl rfl rfl Ll Ll ?_)|(apply gx;first|apply af|refine ae rfl ?_|apply aN|refine ai rfl ?_)|apply aa|apply aO|apply aP|apply aX
    have hra2:aD hpa va 1 (kp (l.l.take (i+1))).length ((kp (l.l.take (i+1))).map Rw.sv):=by
     rw[hfin rfl (fun r hr=>by rw[hq]at hr;cases hr;rw[hla,hlb];exact hab),List.map_append,List.map_append,List.length_append,List.length_append,List.length_take,Nat.min_eq_left hj]
     simp only[Int.toNat_natCast]at hra
     exact hra
    refine fk 5 (v:=va) rfl rfl hra2 ?_
    intro h2 hk2
    repeat' first|apply ac|(apply gw;first|(apply gq0;first|refine aq rfl ?_|refine aG rfl ?_)|refine aT rfl rfl rfl Ll Ll ?_)|refine ae rfl ?_|apply aa|apply aI
    exact aR hi2 ⟨false,by omega,fun _=>rfl,hh_⟩
  ·repeat' first|apply ac|(apply gw;first|(apply gq0;first|refine aq rfl ?_|refine bl rfl ?_|refine aG rfl ?_|refine au rv_ ?_)|refine cf rfl ?_|refine aB rfl b_ pv_ ?_|(refine aA rfl rfl rfl ?_ ?_<;>(intro hc;try omega))|refine ah rfl rfl hp Ll rfl ?_|refine aw rfl ?_|refine bb rfl rfl ?_|(apply lp;first|(refine aY (m:=1) rv_ ir_ rfl rfl Ll ?_;intro va hpa hra hka hria)|(refine aY rv_ ir_ rfl Lm (by first|omega|(simp;omega)) ?_;intro va hpa hra hka hria))|refine bj (cs:=[AV.rd _ _ _]) rfl rfl ?_|refine jO rfl rfl rfl Ll Ll ?_)|(apply gx;first|apply af|refine ae rfl ?_|apply aN|refine ai rfl ?_)|apply aa|apply aO|apply aP|apply aX
   have hra2:aD hpa va 1 (kp (l.l.take (i+1))).length ((kp (l.l.take (i+1))).map Rw.sv):=by
    rw[hfin rfl (fun r hr=>by have:=(List.getElem?_eq_some_iff.1 hr).1;omega),List.map_append,List.map_append,List.length_append,List.length_append,List.length_take,Nat.min_eq_left hj]
    simp only[Int.toNat_natCast]at hra
    exact hra
   refine fk 5 (v:=va) rfl rfl hra2 ?_
   intro h2 hk2
   repeat' first|apply ac|(apply gw;first|(apply gq0;first|refine aq rfl ?_|refine aG rfl ?_)|refine aT rfl rfl rfl Ll Ll ?_)|refine ae rfl ?_|apply aa|apply aI
   exact aR hi2 ⟨false,by omega,fun _=>rfl,hh_⟩
 ·have hi3:i=l.l.length:=by omega
  obtain⟨env,rfl⟩:=he.ex
  clear he
  repeat' first|apply ac|(apply gw;first|(apply gq0;first|refine aq rfl ?_|refine aG rfl ?_)|(refine aA rfl rfl rfl ?_ ?_<;>(intro hc;try omega))|refine aw rfl ?_)|(apply gx;first|apply af|refine ae rfl ?_|apply aM|apply aN|refine ai rfl ?_)|apply aa|apply aO|apply aP|apply aX
  rw[List.take_of_length_le Ll]
  refine aJ (v := .rd (kp l.l).length ((kp l.l).map Rw.sv) fl) rfl ?_
  have:fl=l.l.isEmpty:=by
   cases hll:l.l with
   | nil=>exact hf0 (by rw[hll]at hi;simpa using hi)
   | cons a r=>rw[hll]at hi2;exact hf1 (by simp at hi2;omega)
  rw[this]
  rfl
end
section
open Go
@[reducible] def jF (p s:Rw aj):Rw aj:=⟨mO p.l s.l,false⟩
@[reducible] def l5 (p s:Rw aj):Rw aj:=⟨qc p.l s.l,false⟩
def JI (s:Rw aj)(out:Rw (Rw aj))(p:Rw aj):Rw (Rw aj):=ku (ku out (jF p s)) (l5 p s)
def jm (P:List (Rw aj))(s:Rw aj):Rw (Rw aj):=P.foldl (JI s) ⟨[],true⟩
def wk (st:Rw (Rw aj)×Rw aj)(s:Rw aj):Rw (Rw aj)×Rw aj:=(ku (jm st.1.l s) (jF st.2 s),l5 st.2 s)
def J7:Rw aj:=⟨[⟨0,1114111⟩],true⟩
def kz (l:List (Rw aj)):Rw (Rw aj)×Rw aj:=l.foldl wk (⟨[],true⟩,J7)
def ofR (l:List (Rw aj)):Rw (Rw aj):=sY (kz l).1
def InU (P:List (Rw aj))(x:Int):Prop:=∃ q∈P,inS q.l x
def uY (l:List (Rw aj))(x y:Int):Prop:=∀ s∈l,iY s.l x=iY s.l y
structure Ats (l P:List (Rw aj)):Prop where
 good:∀ q∈P,q.l≠[]∧bd q.l=q.l
 apart:P.Pairwise fun a b=>∀ x,¬ (inS a.l x∧inS b.l x)
 same:∀ x y,cv x=true→cv y=true→uY l x y→∀ q∈P,inS q.l x→inS q.l y
theorem Ats.nil (l:List (Rw aj)):Ats l []:=⟨by simp,List.Pairwise.nil,by simp⟩
theorem CQ {P Q:List (Rw aj)}{x:Int}:InU (P++Q) x↔InU P x∨InU Q x:=by
 unfold InU
 constructor
 ·rintro⟨q,hq,hx⟩
  rcases List.mem_append.1 hq with hq|hq
  ·exact .inl ⟨q,hq,hx⟩
  ·exact .inr ⟨q,hq,hx⟩
 ·rintro(⟨q,hq,hx⟩|⟨q,hq,hx⟩)
  ·exact⟨q,List.mem_append.2 (.inl hq),hx⟩
  ·exact⟨q,List.mem_append.2 (.inr hq),hx⟩
theorem CP {q:Rw aj}{x:Int}:InU [q] x↔inS q.l x:=by simp[InU]
theorem Ats.some {l:List (Rw aj)}{P:Rw (Rw aj)}(h:Ats l P.l){s:Rw aj}(hn:bd s.l=s.l)(hd:∀ x,¬ (InU P.l x∧inS s.l x))(hs:∀ x y,cv x=true→cv y=true→uY l x y→inS s.l x→inS s.l y):Ats l (ku P s).l∧∀ x,InU (ku P s).l x↔InU P.l x∨inS s.l x:=by
 unfold ku
 by_cases he:s.l=[]
 ·rw[if_pos he]
  refine⟨h,fun x=>⟨.inl,fun h=>?_⟩⟩
  rcases h with h|⟨t,ht,_⟩
  ·exact h
  ·rw[he]at ht;cases ht
 ·rw[if_neg he]
  refine⟨⟨fun q hq=>?_,?_,fun x y hx hy hxy q hq=>?_⟩,fun x=>by rw[CQ,CP]⟩
  ·rcases List.mem_append.1 hq with hq|hq
   ·exact h.good q hq
   ·simp at hq;subst hq;exact⟨he,hn⟩
  ·rw[List.pairwise_append]
   refine⟨h.apart,List.pairwise_singleton _ _,fun a ha b hb x hx=>?_⟩
   simp at hb;subst hb
   exact hd x ⟨⟨a,ha,hx.1⟩,hx.2⟩
  ·rcases List.mem_append.1 hq with hq|hq
   ·exact h.same x y hx hy hxy q hq
   ·simp at hq;subst hq;exact hs x y hx hy hxy
theorem pk {s:List aj}{x:Int}(hx:cv x=true):iY s x=true↔inS s x:=by
 rw[oB]
 exact⟨fun h=>h.2,fun h=>⟨hx,h⟩⟩
theorem pY {l:List (Rw aj)}{s p:Rw aj}(hp:∀ x y,cv x=true→cv y=true→uY l x y→inS p.l x→inS p.l y){x y:Int}(hx:cv x=true)(hy:cv y=true)(h:uY (l++[s]) x y):(inS (mO p.l s.l) x→inS (mO p.l s.l) y)∧(inS (qc p.l s.l) x→inS (qc p.l s.l) y):=by
 have h1:uY l x y:=fun t ht=>h t (List.mem_append.2 (.inl ht))
 have h2:=h s Lm
 have h3:inS s.l x↔inS s.l y:=by rw[← pk hx,← pk hy,h2]
 rw[jA,jA,m9,m9,h3]
 exact⟨fun⟨_,a,b⟩=>⟨hy,hp x y hx hy h1 a,b⟩,fun⟨_,a,b⟩=>⟨hy,hp x y hx hy h1 a,b⟩⟩
theorem tI {l:List (Rw aj)}{P:List (Rw aj)}(h:Ats l P)(s:Rw aj):∀ n,n≤P.length→Ats (l++[s]) (jm (P.take n) s).l∧∀ x,InU (jm (P.take n) s).l x↔InU (P.take n) x
 | 0,_=>⟨by simpa[jm] using Ats.nil _,fun x=>by simp[jm,InU]⟩
 | n+1,hn=>by
  obtain⟨h1,h2⟩:=tI h s n Ll
  obtain⟨p,hp⟩:=aK (l:=P) (i:=n) hn
  have hpm:=List.mem_of_getElem? hp
  have hpn:=(h.good p hpm).2
  have hsame:=fun x y a b c=>h.same x y a b c p hpm
  have hdis:∀ x,¬ (InU (P.take n) x∧inS p.l x):=fun x ⟨⟨q,hq,hx⟩,hx2⟩=>by
   have h3:=h.apart
   rw[← List.take_append_drop n P,List.pairwise_append]at h3
   have h4:p∈P.drop n:=by
    rw[List.drop_eq_getElem_cons (show n<P.length by omega),(List.getElem?_eq_some_iff.1 hp).2]
    simp
   exact h3.2.2 q hq p h4 x ⟨hx,hx2⟩
  have e:jm (P.take (n+1)) s=ku (ku (jm (P.take n) s) (jF p s)) (l5 p s):=by
   rw[aV hp,jm,List.foldl_append];rfl
  obtain⟨a1,a2⟩:=Ats.some h1 (s:=jF p s) (pi _ _ _) (fun x ⟨hx,hi⟩=>hdis x ⟨(h2 x).1 hx,(jA.1 hi).2.1⟩) (fun x y hx hy hxy=>(pY hsame hx hy hxy).1)
  obtain⟨b1,b2⟩:=Ats.some a1 (s:=l5 p s) (pi _ _ _) (fun x ⟨hx,hi⟩=>by
   have hm:=m9.1 hi
   rcases (a2 x).1 hx with hx|hx
   ·exact hdis x ⟨(h2 x).1 hx,hm.2.1⟩
   ·exact hm.2.2 (jA.1 hx).2.2) (fun x y hx hy hxy=>(pY hsame hx hy hxy).2)
  rw[e]
  refine⟨b1,fun x=>?_⟩
  rw[b2,a2,h2,aV hp,CQ,CP,jA,m9]
  constructor
  ·rintro((h|h)|h)
   ·exact .inl h
   ·exact .inr h.2.1
   ·exact .inr h.2.1
  ·rintro(h|h)
   ·exact .inl (.inl h)
   ·by_cases hs:inS s.l x
    ·exact .inl (.inr ⟨gS hpn h,h,hs⟩)
    ·exact .inr ⟨gS hpn h,h,hs⟩
structure u9 (l:List (Rw aj))(st:Rw (Rw aj)×Rw aj):Prop where
 ats:Ats l st.1.l
 rest:∀ x,cv x=true→(inS st.2.l x↔∀ s∈l,¬ inS s.l x)
 un:∀ x,InU st.1.l x↔cv x=true∧∃ s∈l,inS s.l x
theorem EL {l:List (Rw aj)}{st:Rw (Rw aj)×Rw aj}(h:u9 l st):∀ x y,cv x=true→cv y=true→uY l x y→inS st.2.l x→inS st.2.l y:=fun x y hx hy hxy h1=>by
 rw[h.rest y hy]
 intro s hs hys
 refine(h.rest x hx).1 h1 s hs ?_
 have:=hxy s hs
 rw[← pk hx,this,pk hy]
 exact hys
theorem BW {l:List (Rw aj)}{st:Rw (Rw aj)×Rw aj}(h:u9 l st)(s:Rw aj):u9 (l++[s]) (wk st s):=by
 obtain⟨h1,h2⟩:=tI h.ats s st.1.l.length (Nat.le_refl _)
 rw[List.take_length]at h1 h2
 obtain⟨a1,a2⟩:=Ats.some h1 (s:=jF st.2 s) (pi _ _ _) (fun x ⟨hx,hi⟩=>by
  have hi2:=jA.1 hi
  obtain⟨hsx,t,ht,htx⟩:=(h.un x).1 ((h2 x).1 hx)
  exact(h.rest x hsx).1 hi2.2.1 t ht htx) (fun x y hx hy hxy=>(pY (EL h) hx hy hxy).1)
 refine⟨a1,fun x hx=>?_,fun x=>?_⟩
 ·show inS (qc st.2.l s.l) x↔_
  rw[m9,h.rest x hx]
  constructor
  ·rintro⟨_,h3,h4⟩ t ht
   rcases List.mem_append.1 ht with ht|ht
   ·exact h3 t ht
   ·simp at ht;subst ht;exact h4
  ·exact fun h3=>⟨hx,fun t ht=>h3 t (List.mem_append.2 (.inl ht)),h3 s Lm⟩
 ·show InU (ku (jm st.1.l s) (jF st.2 s)).l x↔_
  rw[a2,h2,h.un,jA]
  constructor
  ·rintro(⟨hx,t,ht,htx⟩|⟨hx,_,h3⟩)
   ·exact⟨hx,t,List.mem_append.2 (.inl ht),htx⟩
   ·exact⟨hx,s,by simp,h3⟩
  ·rintro⟨hx,t,ht,htx⟩
   by_cases h4:∃ t∈l,inS t.l x
   ·exact .inl ⟨hx,h4⟩
   ·refine .inr ⟨hx,(h.rest x hx).2 fun t ht h5=>h4 ⟨t,ht,h5⟩,?_⟩
    rcases List.mem_append.1 ht with ht|ht
    ·exact absurd ⟨t,ht,htx⟩ h4
    ·simp at ht;subst ht;exact htx
theorem BV:u9 [] (⟨[],true⟩,J7):=by
 refine⟨Ats.nil _,fun x hx=>?_,fun x=>by simp[InU]⟩
 have:=cx.1 hx
 simp[J7,inS]
 omega
theorem ri (l:List (Rw aj)):u9 l (kz l):=by
 have key:∀ (m k:List (Rw aj)) (st:Rw (Rw aj)×Rw aj),u9 k st→u9 (k++m) (m.foldl wk st):=by
  intro m
  induction m with
  | nil=>intro k st h;simpa using h
  | cons s m ih =>
   intro k st h
   have:=ih (k++[s]) _ (BW h s)
   simpa using this
 simpa[kz] using key l [] _ BV
theorem Ats.sub {l P Q:List (Rw aj)}(h:Ats l P)(hp:Q.Perm P):Ats l Q :=
 ⟨fun q hq=>h.good q (hp.mem_iff.1 hq),hp.symm.pairwise h.apart fun h x hx=>h x ⟨hx.2,hx.1⟩,fun x y hx hy hxy q hq=>h.same x y hx hy hxy q (hp.mem_iff.1 hq)⟩
def rV (l:List (Rw aj)):List Int:=[0,57344]++l.flatMap fun s=>s.l.flatMap fun t=>[t.lo,t.hi+1]
theorem IJ {l P:List (Rw aj)}(h:Ats l P){q:Rw aj}(hq:q∈P){t:aj}(ht:t∈q.l):t.lo∈rV l:=by
 have hn:=(h.good q hq).2
 have hc:=eT hn
 have ht1:=hc.2 t ht
 have hlo:inS q.l t.lo:=⟨t,ht,Int.le_refl _,ht1⟩
 have hs1:=gS hn hlo
 have hs2:=cx.1 hs1
 unfold rV
 by_cases h0:t.lo=0∨t.lo=57344
 ·rcases h0 with h0|h0<;>rw[h0]<;>simp
 ·have hs3:cv (t.lo-1)=true:=cx.2 Ll
  have hno:¬ inS q.l (t.lo-1):=by
   rintro⟨u,hu,h1,h2⟩
   have hut:u=t∨u≠t:=Classical.em _
   rcases hut with rfl|hut
   ·omega
   ·obtain⟨i,hi,rfl⟩:=List.getElem_of_mem hu
    obtain⟨j,hj,rfl⟩:=List.getElem_of_mem ht
    have hpw:=List.pairwise_iff_getElem.1 hc.1
    rcases Nat.lt_trichotomy i j with hij|hij|hij
    ·have:=hpw i j hi hj hij
     omega
    ·subst hij;exact hut rfl
    ·have:=hpw j i hj hi hij
     omega
  have hdiff:¬ uY l t.lo (t.lo-1):=fun hs=>hno (h.same _ _ hs1 hs3 hs q hq hlo)
  obtain⟨s,hs⟩:=Classical.not_forall.1 hdiff
  obtain⟨hsm,hne⟩:=Classical.not_imp.1 hs
  refine List.mem_append.2 (.inr (List.mem_flatMap.2 ⟨s,hsm,?_⟩))
  have key:∃ u∈s.l,t.lo=u.lo∨t.lo=u.hi+1:=by
   apply Classical.byContradiction
   intro hx
   apply hne
   have:inS s.l t.lo↔inS s.l (t.lo-1):=by
    constructor
    ·rintro⟨u,hu,a,b⟩
     have:¬ t.lo=u.lo:=fun e=>hx ⟨u,hu,.inl e⟩
     exact⟨u,hu,by omega,by omega⟩
    ·rintro⟨u,hu,a,b⟩
     have:¬ t.lo=u.hi+1:=fun e=>hx ⟨u,hu,.inr e⟩
     exact⟨u,hu,by omega,by omega⟩
   rw[Bool.eq_iff_iff,pk hs1,pk hs3,this]
  obtain⟨u,hu,h1⟩:=key
  refine List.mem_flatMap.2 ⟨u,hu,?_⟩
  rcases h1 with h1|h1<;>rw[h1]<;>simp
theorem rK {l m:List Int}(h:l.Nodup)(hs:∀ x∈l,x∈m):l.length≤m.length:=by
 induction l generalizing m with
 | nil=>simp
 | cons a l ih =>
  obtain⟨h1,h2⟩:=List.nodup_cons.1 h
  have ha:=hs a Lm
  have:=ih (m:=m.erase a) h2 fun x hx=>by
   have hne:x≠a:=fun e=>h1 (e ▸ hx)
   exact(List.mem_erase_of_ne hne).2 (hs x (by simp[hx]))
  rw[List.length_erase_of_mem ha]at this
  have:=List.length_pos_of_mem ha
  simp only[List.length_cons]
  omega
theorem Ats.cat {l P:List (Rw aj)}(h:Ats l P):(cV P).length≤(rV l).length:=by
 have h1:((cV P).map fun t=>t.lo).Nodup:=by
  unfold cV
  rw[List.map_flatMap]
  rw[List.Nodup,List.pairwise_flatMap]
  refine⟨fun q hq=>?_,?_⟩
  ·have hc:=eT (h.good q hq).2
   rw[List.pairwise_map]
   refine hc.1.imp_of_mem ?_
   intro a b ha hb hab e
   have:=hc.2 a ha
   omega
  ·refine h.apart.imp_of_mem ?_
   intro a b ha hb hab x hx y hy e
   obtain⟨t,ht,rfl⟩:=List.mem_map.1 hx
   obtain⟨u,hu,rfl⟩:=List.mem_map.1 hy
   have e2:t.lo=u.lo:=e
   have hc:=eT (h.good a ha).2
   have hc2:=eT (h.good b hb).2
   exact hab t.lo ⟨⟨t,ht,Int.le_refl _,hc.2 t ht⟩,⟨u,hu,by omega,by rw[e2];exact hc2.2 u hu⟩⟩
 have h2:=rK h1 (m:=rV l) fun x hx=>by
  obtain⟨t,ht,rfl⟩:=List.mem_map.1 hx
  obtain⟨q,hq,htq⟩:=List.mem_flatMap.1 ht
  exact IJ h hq htq
 simpa using h2
theorem Ats.count {l P:List (Rw aj)}(h:Ats l P):P.length≤(cV P).length:=by
 have:∀ P:List (Rw aj),(∀ q∈P,q.l≠[])→P.length≤(cV P).length:=by
  intro P
  induction P with
  | nil=>simp
  | cons p P ih =>
   intro hg
   have h1:=ih fun q hq=>hg q (by simp[hq])
   have h2:=List.length_pos_iff.2 (hg p Lm)
   simp[cV]at h1 ⊢
   omega
 exact this P fun q hq=>(h.good q hq).1
theorem mP (l:List (Rw aj)):(rV l).length=2+2*(cV l).length:=by
 unfold rV cV
 rw[List.length_append]
 congr 1
 induction l with
 | nil=>rfl
 | cons s l ih =>
  rw[List.flatMap_cons,List.flatMap_cons,List.length_append,List.length_append,ih]
  have:(s.l.flatMap fun t=>[t.lo,t.hi+1]).length=2*s.l.length:=by
   induction s.l with
   | nil=>rfl
   | cons t r ih=>rw[List.flatMap_cons,List.length_append,ih,List.length_cons];simp;omega
  omega
end
section
open Go
set_option maxHeartbeats 4000000
attribute [local irreducible] az bf bm de bz cw dH bJ wop cz bc
theorem vX {s:List aj}(h:bd s=s):sK s:=by
 have h4:=oo h
 refine⟨by omega,fun t ht=>?_⟩
 have h5:=qb h t ht
 have h6:=(eT h).2 t ht
 omega
theorem uD (l:List (Rw aj))(s:Rw aj):kz (l++[s])=wk (kz l) s:=by
 unfold kz
 rw[List.foldl_append];rfl
theorem BC (l:List (Rw aj)):sK (kz l).2.l:=by
 rcases List.eq_nil_or_concat l with rfl|⟨k,s,rfl⟩
 ·exact⟨by decide,fun s hs=>by
   have:s∈[(⟨0,1114111⟩:aj)]:=hs
   simp at this;subst this;decide⟩
 ·rw[List.concat_eq_append,uD]
  exact vX (pi _ _ _)
theorem zg (P:Rw (Rw aj))(s:Rw aj):(ku P s).l.length≤P.l.length+1:=by
 unfold ku
 split
 ·omega
 ·simp
theorem r5 (l:List (Rw aj))(i:Nat):(cV (l.take i)).length≤(cV l).length:=by
 have h:cV l=cV (l.take i)++cV (l.drop i):=by
  unfold cV
  rw[← List.flatMap_append,List.take_append_drop]
 rw[h,List.length_append]
 omega
theorem Iz {Φ:Lib}(L:cJ Φ)(L2:jM Φ)(l:Rw (Rw aj))(hl:l.l.length≤1048576)(hw:∀ s∈l.l,sK s.l)(hc:(cV l.l).length≤524288):eQ Φ 97 [l.mv Rw.sv] ((ofR l.l).mv Rw.sv):=by
 have hlen:∀ i,(kz (l.l.take i)).1.l.length≤1048578:=fun i=>by
  have h1:=(ri (l.l.take i)).ats
  have h2:=h1.count
  have h3:=h1.cat
  have h4:=r5 l.l i
  rw[mP]at h3
  omega
 refine ba (fun _=>false) rfl L.f97 ?_
 repeat' first|apply ac|(apply gw;first|(apply gq0;first|refine aq rfl ?_|refine aG rfl ?_)|refine cO (cs:=[AV.int _ _,AV.int _ _]) rfl ?_|refine bj (cs:=[AV.int _ _,AV.int _ _]) rfl rfl ?_)|(apply gx;first|apply af|refine ae rfl ?_|apply al)|apply aa
 refine bD l.l.length (fun i env h'=>env.has [(0,l.mv Rw.sv),(3,(kz (l.l.take i)).1.mv Rw.sv),(4,(kz (l.l.take i)).2.sv),(5,.int .i64 i)]) (hh_) ?_
 rintro i env h' hi he
 by_cases hi2:i<l.l.length
 ·obtain⟨s,hs⟩:=aK hi2
  have hsw:=hw s (List.mem_of_getElem? hs)
  have hat:=ri (l.l.take i)
  have hrw:=BC (l.l.take i)
  have hPl:=hlen i
  have hnext:kz (l.l.take (i+1))=wk (kz (l.l.take i)) s:=by rw[aV hs,uD]
  have hsl:∀ n,n≤(kz (l.l.take i)).1.l.length→(jm ((kz (l.l.take i)).1.l.take n) s).l.length≤1048578:=fun n hn=>by
   have h1:=(tI hat.ats s n hn).1
   have h2:=h1.count
   have h3:=h1.cat
   have h4:=r5 l.l (i+1)
   rw[← aV hs,mP]at h3
   omega
  generalize hst:kz (l.l.take i)=st at *
  obtain⟨P,rest⟩:=st
  simp only at *
  obtain⟨env,rfl⟩:=he.ex
  clear he
  repeat' first|apply ac|(apply gw;first|(apply gq0;first|refine aq rfl ?_|refine aG rfl ?_)|(refine aA rfl rfl rfl ?_ ?_<;>(intro hc;try omega))|refine aw rfl ?_)|(apply gx;first|apply af|refine ae rfl ?_|apply ay|apply al|refine ak rfl ?_)|apply aa
  refine bD P.l.length (fun j env h'=>env.has [(0,l.mv Rw.sv),(3,P.mv Rw.sv),(4,rest.sv),(5,.int .i64 i),(6,(jm (P.l.take j) s).mv Rw.sv),(7,.int .i64 j)]) (hh_) ?_
  rintro j env h' hj he
  have hsj:=hsl j hj
  by_cases hj2:j<P.l.length
  ·obtain⟨p,hp⟩:=aK hj2
   have hpw:=vX (hat.ats.good p (List.mem_of_getElem? hp)).2
   have hnx:jm (P.l.take (j+1)) s=ku (ku (jm (P.l.take j) s) (jF p s)) (l5 p s):=by rw[aV hp,jm,List.foldl_append];rfl
   generalize jm (P.l.take j) s=out at *
   have hso:=zg out (jF p s)
   have k1:eQ Φ 109 [p.sv,s.sv] (jF p s).sv:=ux L L2 p s hpw hsw
   have k2:=xI L out (jF p s) Ll
   have k3:eQ Φ 110 [p.sv,s.sv] (l5 p s).sv:=zM L L2 p s hpw hsw
   have k4:=xI L (ku out (jF p s)) (l5 p s) Ll
   generalize hq1:jF p s=q1 at *
   generalize hq2:l5 p s=q2 at *
   obtain⟨env,rfl⟩:=he.ex
   clear he
   repeat' first|apply ac|(apply gw;first|(apply gq0;first|refine aq rfl ?_|refine aG rfl ?_)|refine aB rfl b_ pv_ ?_|(apply gq3;first|refine aT rfl rfl rfl Ll Ll ?_|(refine aA rfl rfl rfl ?_ ?_<;>(intro hc;try omega)))|(apply gq5;first|refine ah rfl rfl hs Ll rfl ?_|refine ah rfl rfl hp Ll rfl ?_)|refine aw rfl ?_|refine aH rfl nt_ ?_)|(apply gx;first|apply af|refine ae rfl ?_|apply ay|apply al|refine ak rfl ?_)|apply aa|apply aI|refine aW (by assumption) fz_ fz_ ?_
   refine aR hj2 ?_
   rw[hnx]
   exact hh_
  ·have hjj:j=P.l.length:=by omega
   rw[hjj,List.take_length]at he hsj
   have hnx:wk (P,rest) s=(ku (jm P.l s) (jF rest s),l5 rest s):=rfl
   generalize jm P.l s=out at *
   have k1:eQ Φ 109 [rest.sv,s.sv] (jF rest s).sv:=ux L L2 rest s hrw hsw
   have k2:=xI L out (jF rest s) Ll
   have k3:eQ Φ 110 [rest.sv,s.sv] (l5 rest s).sv:=zM L L2 rest s hrw hsw
   generalize hq1:jF rest s=q1 at *
   generalize hq2:l5 rest s=q2 at *
   obtain⟨env,rfl⟩:=he.ex
   clear he
   repeat' first|apply ac|(apply gw;first|(apply gq0;first|refine aq rfl ?_|refine aG rfl ?_)|refine aB rfl b_ pv_ ?_|(apply gq3;first|refine aT rfl rfl rfl Ll Ll ?_|(refine aA rfl rfl rfl ?_ ?_<;>(intro hc;try omega)))|refine ah rfl rfl hs Ll rfl ?_|refine aw rfl ?_|refine aH rfl nt_ ?_)|(apply gx;first|apply af|refine ae rfl ?_|apply aN|refine ai rfl ?_)|apply aa|apply aO|apply aI|apply aP|apply aX|refine aW (by assumption) fz_ fz_ ?_
   refine aR hi2 ?_
   rw[hnext,hnx]
   exact hh_
 ·rw[List.take_of_length_le Ll]at he
  have hii:i=l.l.length:=by omega
  have hPl:=hlen i
  rw[List.take_of_length_le Ll]at hPl
  have k1:=Dp L (kz l.l).1 Ll (fun q hq=>((ri l.l).ats.good q hq).1)
  have hof:ofR l.l=sY (kz l.l).1:=rfl
  rw[hof]
  generalize kz l.l=st at *
  obtain⟨env,rfl⟩:=he.ex
  clear he
  repeat' first|apply ac|(apply gw;first|(apply gq0;first|refine aq rfl ?_|refine aG rfl ?_)|(refine aA rfl rfl rfl ?_ ?_<;>(intro hc;try omega))|refine aw rfl ?_|refine aH rfl nt_ ?_)|(apply gx;first|apply af|refine ae rfl ?_|apply aM|apply aN|refine ai rfl ?_)|apply aa|apply aO|apply aP|apply aX|refine aW (by assumption) fz_ fz_ ?_
  exact aJ (v:=(sY st.1).mv Rw.sv) rfl rfl
end
end Go.Proofs.YtlnobeojgifojaaGreatDoor
