/- Machines; slices.Equal, IndexFunc of ints, nfa.Sound. What free ways lead to: the plain law. The document's closure: the plain law. The statements' small machine: the plain law. -/
import Derived.Test.YtlnobeojgifojaaGreatDoorD1
set_option linter.unusedVariables false
set_option linter.unusedSimpArgs false
namespace Go.Proofs.YtlnobeojgifojaaGreatDoor
section
open Go
set_option maxHeartbeats 4000000
attribute [local irreducible] aj bc bj dn bz cn dz bL wop cq aU
structure Rw (α:Type) where
 l:List α
 fl:Bool
@[reducible] def Rw.av {α:Type}(f:α→List AV)(r:Rw α):AV := .rd r.l.length (r.l.flatMap f) r.fl
@[reducible] def Rw.mv {α:Type}(f:α→AV)(r:Rw α):AV := .rd r.l.length (r.l.map f) r.fl
structure qC where
 to:Int
 set:Rw am
@[reducible] def qC.av (e:qC):List AV:=[.int .i64 e.to,e.set.av am.av]
@[simp] theorem qC.av_length (e:qC):e.av.length=2:=rfl
@[reducible] def Rw.ev (r:Rw qC):AV:=r.av qC.av
@[reducible] def Rw.iv (r:Rw Int):AV:=r.mv (.int .i64)
structure Nfa where
 edges:Rw (Rw qC)
 free:Rw (Rw Int)
 tags:Rw Int
@[reducible] def Nfa.av (n:Nfa):List AV:=[n.edges.mv Rw.ev,n.free.mv Rw.iv,n.tags.iv]
theorem jh {α:Type}{f:α→List AV}(hf:∀ x,AV.frozenL (f x)=true):∀ l:List α,AV.frozenL (l.flatMap f)=true
 | []=>rfl
 | a::l=>by
  have:∀ x y:List AV,AV.frozenL x=true→AV.frozenL y=true→AV.frozenL (x++y)=true:=by
   intro x
   induction x with
   | nil=>intro y _ h;exact h
   | cons b x ih =>
    intro y h1 h2
    simp only[AV.frozenL,Bool.and_eq_true,List.cons_append]at h1 ⊢
    exact⟨h1.1,ih y h1.2 h2⟩
  rw[List.flatMap_cons]
  exact this _ _ (hf a) (jh hf l)
theorem dQ {α:Type}{f:α→AV}(hf:∀ x,(f x).frozen=true)(l:List α):AV.frozenL (l.map f)=true:=by
 induction l with
 | nil=>rfl
 | cons a l ih=>simp[AV.frozenL,ih,hf]
@[simp] theorem DT (s:am):AV.frozenL s.av=true:=rfl
@[simp] theorem G1 (l:List am):AV.frozenL (l.flatMap am.av)=true:=jh DT l
@[simp] theorem Hs (l:List Int):AV.frozenL (l.map (.int .i64))=true:=dQ (fun _=>rfl) l
@[simp] theorem DU (e:qC):AV.frozenL e.av=true:=by simp[qC.av,AV.frozenL,AV.frozen]
@[simp] theorem G4 (l:List qC):AV.frozenL (l.flatMap qC.av)=true:=jh DU l
@[simp] theorem HG (l:List (Rw qC)):AV.frozenL (l.map Rw.ev)=true:=dQ (fun r=>by simp[AV.frozen]) l
@[simp] theorem HE (l:List (Rw Int)):AV.frozenL (l.map Rw.iv)=true:=dQ (fun r=>by simp[AV.frozen]) l
@[simp] theorem HD (n:Nfa):AV.frozenL n.av=true:=by simp[Nfa.av,AV.frozenL,AV.frozen]
theorem xp (a b:am)(neg:Bool):eqS neg 2 (.agg a.av) (.agg b.av)=some (.bool (if neg then !decide (a=b) else decide (a=b))):=by
 have:(decide (a.lo=b.lo)&&(decide (a.hi=b.hi)&&true))=decide (a=b):=by
  rw[Bool.eq_iff_iff]
  cases a;cases b;simp
 simp only[eqS,am.av,List.length_cons,List.length_nil,Nat.zero_add,Nat.reduceAdd,iZ,if_true,Option.map_some,this]
theorem wz {F:bR}{r:List bA}{Q:Env→aa→Prop}{env:Env}{h:aa}{d:Nat}{x y:bl}{a b:am}{neg:Bool}(hx:ev env x = .agg a.av)(hy:ev env y = .agg b.av)(k1:a=b→aj F r Q (env.put d (.bool !neg)) h)(k2:¬ a=b→aj F r Q (env.put d (.bool neg)) h):aj F (⟨some d,.eqS neg 2 x y,none⟩::r) Q env h:=by
 by_cases hp:a=b
 ·refine dV (v := .bool !neg) rfl ?_ (k1 hp)
  simp only[aF,hx,hy,xp,hp]
  cases neg<;>simp
 ·refine dV (v := .bool neg) rfl ?_ (k2 hp)
  simp only[aF,hx,hy,xp,hp]
  cases neg<;>simp
theorem D4 {Φ:Lib}(L:gC Φ)(a b:List am)(f g:Bool)(ha:a.length<4611686018427387904):ia Φ 37 [.rd a.length (a.flatMap am.av) f,.rd b.length (b.flatMap am.av) g] (.bool (decide (a=b))):=by
 refine bb (fun _=>false) rfl L.f37 ?_
 repeat' first|apply ad|(apply gw;first|(apply gq0;first|refine aw rfl ?_|refine bV rfl ?_|refine bm rfl ?_)|(refine eM rfl rfl rfl ?_ ?_<;>(intro hc;try omega))|refine aD rfl ?_)|(apply gx;first|apply af|refine ae rfl ?_|apply ay|apply au|apply aM|refine al rfl ?_|refine ah rfl ?_)|apply ac|apply cz|refine aH (v:=AV.bool _) rfl ?_
 ·rw[decide_eq_false]
  rintro rfl
  exact hc rfl
 ·have hlen:a.length=b.length:=by omega
  refine cl a.length (fun i env h'=>a.take i=b.take i∧env.has [(0,.rd a.length (a.flatMap am.av) f),(1,.rd b.length (b.flatMap am.av) g),(12,.int .i64 a.length),(13,.int .i64 i)]) ⟨rfl,hh_⟩ ?_
  rintro i env h' hi ⟨hpre,he⟩
  obtain⟨env,rfl⟩:=he.ex
  clear he
  by_cases hi2:i<a.length
  ·obtain⟨x,hx⟩:=aK hi2
   obtain⟨y,hy⟩:=aK (show i<b.length by omega)
   repeat' first|apply ad|(apply gw;first|(apply gq0;first|refine aw rfl ?_|refine bV rfl ?_|refine bm rfl ?_)|refine iH rfl (by first|rfl|(simp[*];done)|fail) ?_|(apply gq3;first|refine a8 rfl rfl rfl HT HT ?_|(refine aB rfl rfl rfl ?_ ?_<;>(intro hc;try omega)))|refine lg rfl fl_ rfl rfl (by assumption) rfl ?_|(refine wz (neg:=true) rfl rfl ?_ ?_<;>intro hc))|(apply gx;first|apply af|refine ae rfl ?_|apply ay|apply au|apply aM|refine al rfl ?_|refine ah rfl ?_)|apply ac|apply cz|apply aJ|apply jB|apply kD|refine aH (v:=AV.bool _) rfl ?_
   ·exact aW hi2 ⟨by rw[aX hx,aX hy,hpre,‹x=y›],hh_⟩
   ·rw[decide_eq_false]
    rintro rfl
    rw[hx]at hy
    cases hy
    exact ‹¬ _=_› rfl
  ·repeat' first|apply ad|(apply gw;first|refine bV rfl ?_|(refine aB rfl rfl rfl ?_ ?_<;>(intro hc;try omega)))|(apply gx;first|apply af|refine ae rfl ?_|apply aM|apply aP|refine ah rfl ?_)|apply ac|apply aQ|apply aR|apply ba|refine aH (v:=AV.bool _) rfl ?_
   rw[List.take_of_length_le HT,List.take_of_length_le HT]at hpre
   simp[hpre]
theorem tc {Φ:Lib}{k:Nat}(h0:(k == eW)=false)(hk:Φ k=some (.code cU))(l:List Int)(fl:Bool)(fn:Nat)(cap:List AV)(p:Int→Bool)(h:aa)(hl:l.length<4611686018427387904)
  (hp:∀ x∈l,aU Φ fn ([.int .i64 x]++cap) h (fun v h'=>v = .bool (p x)∧h.Ext h')) :
  aU Φ k [.rd l.length (l.map (.int .i64)) fl,.fn fn cap] h (fun v h'=>v = .int .i64 (Fx (l.findIdx? p))∧h'=h):=by
 refine bb (fun _=>false) h0 hk ?_
 repeat' first|apply ad|(apply gw;first|(apply gq0;first|refine aw rfl ?_|refine bm rfl ?_)|refine aD rfl ?_)|(apply gx;first|apply af|refine ae rfl ?_|apply au)|apply ac
 refine cl l.length (fun i env h'=>h'=h∧(∀ x∈l.take i,p x=false)∧env.has [(8,.int .i64 i),(7,.int .i64 l.length),(0,.rd l.length (l.map (.int .i64)) fl),(1,.fn fn cap)]) ⟨rfl,by simp,hh_⟩ ?_
 rintro i env h' hi ⟨rfl,hpre,he⟩
 obtain⟨env,rfl⟩:=he.ex
 clear he
 by_cases hi2:i<l.length
 ·obtain⟨a,ha⟩:=aK hi2
  repeat' first|apply ad|(apply gw;first|(apply gq0;first|refine aw rfl ?_|refine bm rfl ?_|refine ai (v:=AV.fn _ _) rfl ?_)|refine aI rfl b_ pv_ ?_|(refine aB rfl rfl rfl ?_ ?_<;>(intro hc;try omega))|refine ig rfl rfl rfl (by assumption) rfl ?_|refine C6 rfl rfl nt_ ?_)|(apply gx;first|apply af|refine ae rfl ?_|apply ay|apply au|refine al rfl ?_)|apply ac
  refine jz (by decide) (hp a (List.mem_of_getElem? ha)) ?_
  cases hpa:p a
  ·repeat' first|apply ad|(apply gw;first|refine aw rfl ?_|refine a8 rfl rfl rfl HT HT ?_)|(apply gx;first|refine ae rfl ?_|apply ay|refine ah rfl ?_)|apply ac|apply aJ
   refine aW hi2 ⟨rfl,?_,hh_⟩
   intro x hx
   rw[aX ha]at hx
   simp only[List.mem_append,List.mem_singleton]at hx
   rcases hx with hx|rfl
   ·exact hpre x hx
   ·exact hpa
  ·repeat' first|apply ad|refine aw rfl ?_|(apply gx;first|apply af|refine ae rfl ?_|apply aM|refine al rfl ?_)|apply ac|apply cz|apply jB|apply kD|refine aH (v:=AV.int _ _) rfl ?_
   refine⟨?_,rfl⟩
   have:l.findIdx? p=some i:=by
    rw[List.findIdx?_eq_some_iff_getElem]
    rw[List.getElem?_eq_some_iff]at ha
    obtain⟨h1,rfl⟩:=ha
    refine⟨h1,hpa,fun j hj=>?_⟩
    simp[hpre l[j] (List.mem_take_iff_getElem.2 ⟨j,by omega,rfl⟩)]
   rw[this]
   rfl
 ·repeat' first|apply ad|(apply gw;first|refine aw rfl ?_|(refine aB rfl rfl rfl ?_ ?_<;>(intro hc;try omega)))|(apply gx;first|apply af|refine ae rfl ?_|apply aM|apply aP|refine ah rfl ?_)|apply ac|apply aQ|apply aR|apply ba|refine aH (v:=AV.int _ _) rfl ?_
  refine⟨?_,rfl⟩
  have:l.findIdx? p=none:=by
   rw[List.findIdx?_eq_none_iff]
   rwa [List.take_of_length_le HT]at hpre
  rw[this]
  rfl
theorem DP {α:Type}(l:List α)(p:α→Bool):l.any p=decide (0≤Fx (l.findIdx? p)):=by
 cases hx:l.findIdx? p with
 | none =>
  rw[List.findIdx?_eq_none_iff]at hx
  simp only[Fx]
  simpa using hx
 | some i =>
  rw[List.findIdx?_eq_some_iff_getElem]at hx
  obtain⟨h1,h2,_⟩:=hx
  simp only[Fx]
  simp
  exact⟨_,List.getElem_mem h1,h2⟩
theorem lJ {Φ:Lib}(L:gC Φ)(l:List Int)(fl:Bool)(fn:Nat)(cap:List AV)(p:Int→Bool)(h:aa)(hl:l.length<4611686018427387904)
  (hp:∀ x∈l,aU Φ fn ([.int .i64 x]++cap) h (fun v h'=>v = .bool (p x)∧h.Ext h')) :
  aU Φ 40 [.rd l.length (l.map (.int .i64)) fl,.fn fn cap] h (fun v h'=>v = .bool (l.any p)∧h'=h):=by
 refine bb (fun _=>false) rfl L.f40 ?_
 repeat' first|apply ad|(apply gw;first|(apply gq0;first|refine bV rfl ?_|refine bm rfl ?_|refine ai (v:=AV.fn _ _) rfl ?_)|refine aL rfl nt_ ?_)|(apply gx;first|apply af|refine ae rfl ?_)|apply ac
 refine bS (tc rfl L.f52 l fl fn cap p h hl hp) ?_
 rintro _ _ ⟨rfl,rfl⟩
 have e:=DP l p
 repeat' first|apply ad|(apply gw;first|refine bV rfl ?_|(refine jq rfl rfl rfl ?_ ?_<;>(intro hc;try omega)))|apply aM|apply ac|refine aH (v:=AV.bool _) rfl ?_
 all_goals exact⟨by rw[e];simp[*],rfl⟩
theorem s8 (r:List am)(s:am):(eo r s).length≤r.length+1:=by
 cases r with
 | nil=>simp[eo]
 | cons a r =>
  simp only[eo]
  split<;>simp
theorem jY:∀ (p r:List am),(p.foldl eo r).length≤r.length+p.length
 | [],r=>by simp
 | s::p,r=>by
  have h1:=jY p (eo r s)
  have h2:=s8 r s
  rw[List.foldl_cons,List.length_cons]
  omega
theorem kG:∀ k:List am,(k.flatMap bN).length≤2*k.length
 | []=>by simp
 | a::k=>by
  have h1:=kG k
  have h2:=n7 a
  rw[List.flatMap_cons,List.length_append,List.length_cons]
  omega
theorem lX (l:List am):(aZ l).length≤2*l.length:=by
 have h1:=jY ((l.flatMap bN).mergeSort fun a b=>decide (a.lo≤b.lo)) []
 have h2:=kG l
 rw[List.length_mergeSort,List.length_nil]at h1
 rw[aZ,mI,List.length_reverse]
 omega
end
section
open Go
def Nfa.frees (n:Nfa)(i:Nat):List Int:=(n.free.l.getD i ⟨[],true⟩).l
theorem rn {α:Type}(l:List α):l=[]∨∃ l' b,l=l'++[b]:=by
 rcases List.eq_nil_or_concat l with h|⟨l',b,h⟩
 ·exact .inl h
 ·exact .inr ⟨l',b,by simpa using h⟩
theorem mt {α:Type}{C:List α→Prop}(h0:C [])(h1:∀ l x,C l→C (l++[x]))(l:List α):C l:=by
 have:∀ m (l:List α),l.length=m→C l:=by
  intro m
  induction m with
  | zero=>intro l hl;rw[List.eq_nil_of_length_eq_zero hl];exact h0
  | succ m ih =>
   intro l hl
   rcases rn l with rfl|⟨l',b,rfl⟩
   ·exact h0
   ·exact h1 _ _ (ih l' (by simpa using hl))
 exact this _ l rfl
inductive Reach (n:Nfa) (P:Nat→Prop):Nat→Prop
 | base {i:Nat}:P i→Reach n P i
 | step {i:Nat} {t:Int}:Reach n P i→t∈n.frees i→Reach n P t.toNat
end
section
open Go
theorem ss {l:List Bool}{i:Nat}(h:l[i]?=some false):(l.set i true).count false+1=l.count false:=by
 obtain⟨h1,hb⟩:=List.getElem?_eq_some_iff.1 h
 have:=List.count_set (a:=true) (b:=false) h1
 simp[hb]at this
 have h2:0<l.count false:=List.count_pos_iff.2 (hb ▸ List.getElem_mem h1)
 omega
def HK (bs:List Bool)(m:Nat):List Int:=((List.range m).filter fun i=>bs.getD i false).map fun i:Nat=>(i:Int)
end
section
open Go
def ab:am:=⟨97,98⟩
end
end Go.Proofs.YtlnobeojgifojaaGreatDoor
