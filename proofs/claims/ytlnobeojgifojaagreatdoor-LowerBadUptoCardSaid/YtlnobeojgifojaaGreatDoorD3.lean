/- Machines; slices.Equal, IndexFunc of ints, nfa.Sound. What free ways lead to: the plain law. The document's closure: the plain law. The statements' small machine: the plain law. -/
import Derived.Test.YtlnobeojgifojaaGreatDoorD1
set_option linter.unusedVariables false
set_option linter.unusedSimpArgs false
namespace Go.Proofs.YtlnobeojgifojaaGreatDoor
section
open Go
set_option maxHeartbeats 4000000
attribute [local irreducible] aw bg bm dg bz cw dO bH wop cz a8
structure Rw (α:Type) where
 l:List α
 fl:Bool
@[reducible] def Rw.av {α:Type}(f:α→List AV)(r:Rw α):AV := .rd r.l.length (r.l.flatMap f) r.fl
@[reducible] def Rw.mv {α:Type}(f:α→AV)(r:Rw α):AV := .rd r.l.length (r.l.map f) r.fl
structure sO where
 to:Int
 set:Rw ai
@[reducible] def sO.av (e:sO):List AV:=[.int .i64 e.to,e.set.av ai.av]
@[simp] theorem sO.av_length (e:sO):e.av.length=2:=rfl
@[reducible] def Rw.ev (r:Rw sO):AV:=r.av sO.av
@[reducible] def Rw.iv (r:Rw Int):AV:=r.mv (.int .i64)
structure Nfa where
 edges:Rw (Rw sO)
 free:Rw (Rw Int)
 tags:Rw Int
@[reducible] def Nfa.av (n:Nfa):List AV:=[n.edges.mv Rw.ev,n.free.mv Rw.iv,n.tags.iv]
theorem j9 {α:Type}{f:α→List AV}(hf:∀ x,AV.frozenL (f x)=true):∀ l:List α,AV.frozenL (l.flatMap f)=true
 | []=>rfl
 | a::l=>by
  have:∀ x y:List AV,AV.frozenL x=true→AV.frozenL y=true→AV.frozenL (x++y)=true:=by
   intro x
   induction x with
   | nil=>intro y _ h;exact h
   | cons b x ih =>
    intro y h1 h2
    simp only[AV.frozenL,Bool.and_eq_true,List.cons_append]at h1 ⊢
    exact⟨h1.1,ih y h1.2 h2⟩
  rw[List.flatMap_cons]
  exact this _ _ (hf a) (j9 hf l)
theorem eF {α:Type}{f:α→AV}(hf:∀ x,(f x).frozen=true)(l:List α):AV.frozenL (l.map f)=true:=by
 induction l with
 | nil=>rfl
 | cons a l ih=>simp[AV.frozenL,ih,hf]
@[simp] theorem G4 (s:ai):AV.frozenL s.av=true:=rfl
@[simp] theorem Ke (l:List ai):AV.frozenL (l.flatMap ai.av)=true:=j9 G4 l
@[simp] theorem KF (l:List Int):AV.frozenL (l.map (.int .i64))=true:=eF (fun _=>rfl) l
@[simp] theorem G6 (e:sO):AV.frozenL e.av=true:=by simp[sO.av,AV.frozenL,AV.frozen]
@[simp] theorem Kh (l:List sO):AV.frozenL (l.flatMap sO.av)=true:=j9 G6 l
@[simp] theorem KS (l:List (Rw sO)):AV.frozenL (l.map Rw.ev)=true:=eF (fun r=>by simp[AV.frozen]) l
@[simp] theorem KQ (l:List (Rw Int)):AV.frozenL (l.map Rw.iv)=true:=eF (fun r=>by simp[AV.frozen]) l
@[simp] theorem KP (n:Nfa):AV.frozenL n.av=true:=by simp[Nfa.av,AV.frozenL,AV.frozen]
theorem zT (a b:ai)(neg:Bool):eqS neg 2 (.agg a.av) (.agg b.av)=some (.bool (if neg then !decide (a=b) else decide (a=b))):=by
 have:(decide (a.lo=b.lo)&&(decide (a.hi=b.hi)&&true))=decide (a=b):=by
  rw[Bool.eq_iff_iff]
  cases a;cases b;simp
 simp only[eqS,ai.av,List.length_cons,List.length_nil,Nat.zero_add,Nat.reduceAdd,j4,if_true,Option.map_some,this]
theorem yS {F:bT}{r:List bF}{Q:Env→ac→Prop}{env:Env}{h:ac}{d:Nat}{x y:bt}{a b:ai}{neg:Bool}(hx:ev env x = .agg a.av)(hy:ev env y = .agg b.av)(k1:a=b→aw F r Q (env.put d (.bool !neg)) h)(k2:¬ a=b→aw F r Q (env.put d (.bool neg)) h):aw F (⟨some d,.eqS neg 2 x y,none⟩::r) Q env h:=by
 by_cases hp:a=b
 ·refine eJ (v := .bool !neg) rfl ?_ (k1 hp)
  simp only[aT,hx,hy,zT,hp]
  cases neg<;>simp
 ·refine eJ (v := .bool neg) rfl ?_ (k2 hp)
  simp only[aT,hx,hy,zT,hp]
  cases neg<;>simp
theorem He {Φ:Lib}(L:ii Φ)(a b:List ai)(f g:Bool)(ha:a.length<4611686018427387904):fg Φ 37 [.rd a.length (a.flatMap ai.av) f,.rd b.length (b.flatMap ai.av) g] (.bool (decide (a=b))):=by
 refine aY (fun _=>false) rfl L.f37 ?_
 repeat' first|apply ad|(apply gw;first|(apply gq0;first|refine am rfl ?_|refine bj rfl ?_|refine aG rfl ?_)|(refine fw rfl rfl rfl ?_ ?_<;>(intro hc;try (exfalso;omega)))|refine az rfl ?_)|(apply gx;first|apply af|refine ae rfl ?_|apply ay|apply al|apply aJ|refine ak rfl ?_|refine ah rfl ?_)|apply aa|apply cu|refine aH (v:=AV.bool _) rfl ?_
 ·rw[decide_eq_false]
  rintro rfl
  exact hc rfl
 ·have hlen:a.length=b.length:=by omega
  refine bG a.length (fun i env h'=>a.take i=b.take i∧env.has [(0,.rd a.length (a.flatMap ai.av) f),(1,.rd b.length (b.flatMap ai.av) g),(12,.int .i64 a.length),(13,.int .i64 i)]) ⟨rfl,hh_⟩ ?_
  rintro i env h' hi ⟨hpre,he⟩
  obtain⟨env,rfl⟩:=he.ex
  clear he
  by_cases hi2:i<a.length
  ·obtain⟨x,hx⟩:=aK hi2
   obtain⟨y,hy⟩:=aK (show i<b.length by omega)
   repeat' first|apply ad|(apply gw;first|(apply gq0;first|refine am rfl ?_|refine bj rfl ?_|refine aG rfl ?_)|refine jM rfl (by first|rfl|(simp[*];done)|fail) ?_|(apply gq3;first|refine aQ rfl rfl rfl (by omega) (by omega) ?_|(refine aA rfl rfl rfl ?_ ?_<;>(intro hc;try (exfalso;omega))))|refine iS rfl fl_ rfl rfl (by assumption) rfl ?_|(refine yS (neg:=true) rfl rfl ?_ ?_<;>intro hc))|(apply gx;first|apply af|refine ae rfl ?_|apply ay|apply al|apply aJ|refine ak rfl ?_|refine ah rfl ?_)|apply aa|apply cu|apply aF|apply fT|apply ld|refine aH (v:=AV.bool _) rfl ?_
   ·exact aP hi2 ⟨by rw[aS hx,aS hy,hpre,‹x=y›],hh_⟩
   ·rw[decide_eq_false]
    rintro rfl
    rw[hx]at hy
    cases hy
    exact ‹¬ _=_› rfl
  ·repeat' first|apply ad|(apply gw;first|refine bj rfl ?_|(refine aA rfl rfl rfl ?_ ?_<;>(intro hc;try (exfalso;omega))))|(apply gx;first|apply af|refine ae rfl ?_|apply aJ|apply aL|refine ah rfl ?_)|apply aa|apply aM|apply aN|apply aR|refine aH (v:=AV.bool _) rfl ?_
   rw[List.take_of_length_le (by omega),List.take_of_length_le (by omega)]at hpre
   simp[hpre]
theorem vx {Φ:Lib}{k:Nat}(h0:(k == fU)=false)(hk:Φ k=some (.code dE))(l:List Int)(fl:Bool)(fn:Nat)(cap:List AV)(p:Int→Bool)(h:ac)(hl:l.length<4611686018427387904)
  (hp:∀ x∈l,a8 Φ fn ([.int .i64 x]++cap) h (fun v h'=>v = .bool (p x)∧h.Ext h')) :
  a8 Φ k [.rd l.length (l.map (.int .i64)) fl,.fn fn cap] h (fun v h'=>v = .int .i64 (ID (l.findIdx? p))∧h'=h):=by
 refine aY (fun _=>false) h0 hk ?_
 repeat' first|apply ad|(apply gw;first|(apply gq0;first|refine am rfl ?_|refine aG rfl ?_)|refine az rfl ?_)|(apply gx;first|apply af|refine ae rfl ?_|apply al)|apply aa
 refine bG l.length (fun i env h'=>h'=h∧(∀ x∈l.take i,p x=false)∧env.has [(8,.int .i64 i),(7,.int .i64 l.length),(0,.rd l.length (l.map (.int .i64)) fl),(1,.fn fn cap)]) ⟨rfl,by simp,hh_⟩ ?_
 rintro i env h' hi ⟨rfl,hpre,he⟩
 obtain⟨env,rfl⟩:=he.ex
 clear he
 by_cases hi2:i<l.length
 ·obtain⟨a,ha⟩:=aK hi2
  repeat' first|apply ad|(apply gw;first|(apply gq0;first|refine am rfl ?_|refine aG rfl ?_|refine aq (v:=AV.fn _ _) rfl ?_)|refine aB rfl b_ pv_ ?_|(refine aA rfl rfl rfl ?_ ?_<;>(intro hc;try (exfalso;omega)))|refine gd rfl rfl rfl (by assumption) rfl ?_|refine F3 rfl rfl nt_ ?_)|(apply gx;first|apply af|refine ae rfl ?_|apply ay|apply al|refine ak rfl ?_)|apply aa
  refine kH (by decide) (hp a (List.mem_of_getElem? ha)) ?_
  cases hpa:p a
  ·repeat' first|apply ad|(apply gw;first|refine am rfl ?_|refine aQ rfl rfl rfl (by omega) (by omega) ?_)|(apply gx;first|refine ae rfl ?_|apply ay|refine ah rfl ?_)|apply aa|apply aF
   refine aP hi2 ⟨rfl,?_,hh_⟩
   intro x hx
   rw[aS ha]at hx
   simp only[List.mem_append,List.mem_singleton]at hx
   rcases hx with hx|rfl
   ·exact hpre x hx
   ·exact hpa
  ·repeat' first|apply ad|refine am rfl ?_|(apply gx;first|apply af|refine ae rfl ?_|apply aJ|refine ak rfl ?_)|apply aa|apply cu|apply fT|apply ld|refine aH (v:=AV.int _ _) rfl ?_
   refine⟨?_,rfl⟩
   have:l.findIdx? p=some i:=by
    rw[List.findIdx?_eq_some_iff_getElem]
    rw[List.getElem?_eq_some_iff]at ha
    obtain⟨h1,rfl⟩:=ha
    refine⟨h1,hpa,fun j hj=>?_⟩
    simp[hpre l[j] (List.mem_take_iff_getElem.2 ⟨j,by omega,rfl⟩)]
   rw[this]
   rfl
 ·repeat' first|apply ad|(apply gw;first|refine am rfl ?_|(refine aA rfl rfl rfl ?_ ?_<;>(intro hc;try (exfalso;omega))))|(apply gx;first|apply af|refine ae rfl ?_|apply aJ|apply aL|refine ah rfl ?_)|apply aa|apply aM|apply aN|apply aR|refine aH (v:=AV.int _ _) rfl ?_
  refine⟨?_,rfl⟩
  have:l.findIdx? p=none:=by
   rw[List.findIdx?_eq_none_iff]
   rwa [List.take_of_length_le (by omega)]at hpre
  rw[this]
  rfl
theorem GY {α:Type}(l:List α)(p:α→Bool):l.any p=decide (0≤ID (l.findIdx? p)):=by
 cases hx:l.findIdx? p with
 | none =>
  rw[List.findIdx?_eq_none_iff]at hx
  simp only[ID]
  simpa using hx
 | some i =>
  rw[List.findIdx?_eq_some_iff_getElem]at hx
  obtain⟨h1,h2,_⟩:=hx
  simp only[ID]
  simp
  exact⟨_,List.getElem_mem h1,h2⟩
theorem m7 {Φ:Lib}(L:ii Φ)(l:List Int)(fl:Bool)(fn:Nat)(cap:List AV)(p:Int→Bool)(h:ac)(hl:l.length<4611686018427387904)
  (hp:∀ x∈l,a8 Φ fn ([.int .i64 x]++cap) h (fun v h'=>v = .bool (p x)∧h.Ext h')) :
  a8 Φ 40 [.rd l.length (l.map (.int .i64)) fl,.fn fn cap] h (fun v h'=>v = .bool (l.any p)∧h'=h):=by
 refine aY (fun _=>false) rfl L.f40 ?_
 repeat' first|apply ad|(apply gw;first|(apply gq0;first|refine bj rfl ?_|refine aG rfl ?_|refine aq (v:=AV.fn _ _) rfl ?_)|refine aI rfl nt_ ?_)|(apply gx;first|apply af|refine ae rfl ?_)|apply aa
 refine cd (vx rfl L.f52 l fl fn cap p h hl hp) ?_
 rintro _ _ ⟨rfl,rfl⟩
 have e:=GY l p
 repeat' first|apply ad|(apply gw;first|refine bj rfl ?_|(refine fp rfl rfl rfl ?_ ?_<;>(intro hc;try (exfalso;omega))))|apply aJ|apply aa|refine aH (v:=AV.bool _) rfl ?_
 all_goals exact⟨by rw[e];simp[*],rfl⟩
theorem vu (r:List ai)(s:ai):(fq r s).length≤r.length+1:=by
 cases r with
 | nil=>simp[fq]
 | cons a r =>
  simp only[fq]
  split<;>simp
theorem lu:∀ (p r:List ai),(p.foldl fq r).length≤r.length+p.length
 | [],r=>by simp
 | s::p,r=>by
  have h1:=lu p (fq r s)
  have h2:=vu r s
  rw[List.foldl_cons,List.length_cons]
  omega
theorem lY:∀ k:List ai,(k.flatMap bV).length≤2*k.length
 | []=>by simp
 | a::k=>by
  have h1:=lY k
  have h2:=pS a
  rw[List.flatMap_cons,List.length_append,List.length_cons]
  omega
theorem nx (l:List ai):(bi l).length≤2*l.length:=by
 have h1:=lu ((l.flatMap bV).mergeSort fun a b=>decide (a.lo≤b.lo)) []
 have h2:=lY l
 rw[List.length_mergeSort,List.length_nil]at h1
 rw[bi,ol,List.length_reverse]
 omega
end
section
open Go
def Nfa.frees (n:Nfa)(i:Nat):List Int:=(n.free.l.getD i ⟨[],true⟩).l
theorem tE {α:Type}(l:List α):l=[]∨∃ l' b,l=l'++[b]:=by
 rcases List.eq_nil_or_concat l with h|⟨l',b,h⟩
 ·exact .inl h
 ·exact .inr ⟨l',b,by simpa using h⟩
theorem nY {α:Type}{C:List α→Prop}(h0:C [])(h1:∀ l x,C l→C (l++[x]))(l:List α):C l:=by
 have:∀ m (l:List α),l.length=m→C l:=by
  intro m
  induction m with
  | zero=>intro l hl;rw[List.eq_nil_of_length_eq_zero hl];exact h0
  | succ m ih =>
   intro l hl
   rcases tE l with rfl|⟨l',b,rfl⟩
   ·exact h0
   ·exact h1 _ _ (ih l' (by simpa using hl))
 exact this _ l rfl
inductive Reach (n:Nfa) (P:Nat→Prop):Nat→Prop
 | base {i:Nat}:P i→Reach n P i
 | step {i:Nat} {t:Int}:Reach n P i→t∈n.frees i→Reach n P t.toNat
end
section
open Go
theorem uG {l:List Bool}{i:Nat}(h:l[i]?=some false):(l.set i true).count false+1=l.count false:=by
 obtain⟨h1,hb⟩:=List.getElem?_eq_some_iff.1 h
 have:=List.count_set (a:=true) (b:=false) h1
 simp[hb]at this
 have h2:0<l.count false:=List.count_pos_iff.2 (hb ▸ List.getElem_mem h1)
 omega
def KW (bs:List Bool)(m:Nat):List Int:=((List.range m).filter fun i=>bs.getD i false).map fun i:Nat=>(i:Int)
end
section
open Go
def ab:ai:=⟨97,98⟩
end
end Go.Proofs.YtlnobeojgifojaaGreatDoor
