/- Machines; slices.Equal, IndexFunc of ints, nfa.Sound. -/
import Derived.Test.YtlnobeojgifojaaGreatDoorD1
set_option linter.unusedVariables false
set_option linter.unusedSimpArgs false
namespace Go.Proofs.YtlnobeojgifojaaGreatDoor
section
open Go
set_option maxHeartbeats 4000000
attribute [local irreducible] az bf bm de bz cw dH bJ wop cz bc
structure Rw (α:Type) where
 l:List α
 fl:Bool
@[reducible] def Rw.av {α:Type}(f:α→List AV)(r:Rw α):AV := .rd r.l.length (r.l.flatMap f) r.fl
@[reducible] def Rw.mv {α:Type}(f:α→AV)(r:Rw α):AV := .rd r.l.length (r.l.map f) r.fl
structure sU where
 to:Int
 set:Rw aj
@[reducible] def sU.av (e:sU):List AV:=[.int .i64 e.to,e.set.av aj.av]
@[simp] theorem sU.av_length (e:sU):e.av.length=2:=rfl
@[reducible] def Rw.ev (r:Rw sU):AV:=r.av sU.av
@[reducible] def Rw.iv (r:Rw Int):AV:=r.mv (.int .i64)
structure Nfa where
 edges:Rw (Rw sU)
 free:Rw (Rw Int)
 tags:Rw Int
@[reducible] def Nfa.av (n:Nfa):List AV:=[n.edges.mv Rw.ev,n.free.mv Rw.iv,n.tags.iv]
theorem kg {α:Type}{f:α→List AV}(hf:∀ x,AV.frozenL (f x)=true):∀ l:List α,AV.frozenL (l.flatMap f)=true
 | []=>rfl
 | a::l=>by
  have:∀ x y:List AV,AV.frozenL x=true→AV.frozenL y=true→AV.frozenL (x++y)=true:=by
   intro x
   induction x with
   | nil=>intro y _ h;exact h
   | cons b x ih =>
    intro y h1 h2
    simp only[AV.frozenL,Bool.and_eq_true,List.cons_append]at h1 ⊢
    exact⟨h1.1,ih y h1.2 h2⟩
  rw[List.flatMap_cons]
  exact this _ _ (hf a) (kg hf l)
theorem eI {α:Type}{f:α→AV}(hf:∀ x,(f x).frozen=true)(l:List α):AV.frozenL (l.map f)=true:=by
 induction l with
 | nil=>rfl
 | cons a l ih=>simp[AV.frozenL,ih,hf]
@[simp] theorem Hf (s:aj):AV.frozenL s.av=true:=rfl
@[simp] theorem Kr (l:List aj):AV.frozenL (l.flatMap aj.av)=true:=kg Hf l
@[simp] theorem KS (l:List Int):AV.frozenL (l.map (.int .i64))=true:=eI (fun _=>rfl) l
@[simp] theorem Hh (e:sU):AV.frozenL e.av=true:=by simp[sU.av,AV.frozenL,AV.frozen]
@[simp] theorem Ku (l:List sU):AV.frozenL (l.flatMap sU.av)=true:=kg Hh l
@[simp] theorem K5 (l:List (Rw sU)):AV.frozenL (l.map Rw.ev)=true:=eI (fun r=>by simp[AV.frozen]) l
@[simp] theorem K3 (l:List (Rw Int)):AV.frozenL (l.map Rw.iv)=true:=eI (fun r=>by simp[AV.frozen]) l
@[simp] theorem K2 (n:Nfa):AV.frozenL n.av=true:=by simp[Nfa.av,AV.frozenL,AV.frozen]
theorem Aa (a b:aj)(neg:Bool):eqS neg 2 (.agg a.av) (.agg b.av)=some (.bool (if neg then !decide (a=b) else decide (a=b))):=by
 have:(decide (a.lo=b.lo)&&(decide (a.hi=b.hi)&&true))=decide (a=b):=by
  rw[Bool.eq_iff_iff]
  cases a;cases b;simp
 simp only[eqS,aj.av,List.length_cons,List.length_nil,Nat.zero_add,Nat.reduceAdd,j8,if_true,Option.map_some,this]
theorem se {F:bZ}{r:List bK}{Q:Env→ad→Prop}{env:Env}{h:ad}{d:Nat}{x y:bA}{a b:aj}{neg:Bool}(hx:ev env x = .agg a.av)(hy:ev env y = .agg b.av)(k1:a=b→az F r Q (env.put d (.bool !neg)) h)(k2:¬ a=b→az F r Q (env.put d (.bool neg)) h):az F (⟨some d,.eqS neg 2 x y,none⟩::r) Q env h:=by
 by_cases hp:a=b
 ·refine eU (v := .bool !neg) rfl ?_ (k1 hp)
  simp only[a8,hx,hy,Aa,hp]
  cases neg<;>simp
 ·refine eU (v := .bool neg) rfl ?_ (k2 hp)
  simp only[a8,hx,hy,Aa,hp]
  cases neg<;>simp
theorem Hp {Φ:Lib}(L:il Φ)(a b:List aj)(f g:Bool)(ha:a.length<4611686018427387904):eQ Φ 37 [.rd a.length (a.flatMap aj.av) f,.rd b.length (b.flatMap aj.av) g] (.bool (decide (a=b))):=by
 refine ba (fun _=>false) rfl L.f37 ?_
 repeat' first|apply ac|(apply gw;first|(apply gq0;first|refine aq rfl ?_|refine bl rfl ?_|refine aG rfl ?_)|(refine eK rfl rfl rfl ?_ ?_<;>(intro hc;try omega))|refine aw rfl ?_)|(apply gx;first|apply af|refine ae rfl ?_|apply ay|apply al|apply aM|refine ak rfl ?_|refine ai rfl ?_)|apply aa|apply cp|refine aJ (v:=AV.bool _) rfl ?_
 ·rw[decide_eq_false]
  rintro rfl
  exact hc rfl
 ·have hlen:a.length=b.length:=by omega
  refine bD a.length (fun i env h'=>a.take i=b.take i∧env.has [(0,.rd a.length (a.flatMap aj.av) f),(1,.rd b.length (b.flatMap aj.av) g),(12,.int .i64 a.length),(13,.int .i64 i)]) ⟨rfl,hh_⟩ ?_
  rintro i env h' hi ⟨hpre,he⟩
  obtain⟨env,rfl⟩:=he.ex
  clear he
  by_cases hi2:i<a.length
  ·obtain⟨x,hx⟩:=aK hi2
   obtain⟨y,hy⟩:=aK (show i<b.length by omega)
   repeat' first|apply ac|(apply gw;first|(apply gq0;first|refine aq rfl ?_|refine bl rfl ?_|refine aG rfl ?_)|refine jl rfl (by first|rfl|(simp[*];done)|fail) ?_|(apply gq3;first|refine aT rfl rfl rfl Ll Ll ?_|(refine aA rfl rfl rfl ?_ ?_<;>(intro hc;try omega)))|refine iT rfl fl_ rfl rfl (by assumption) rfl ?_|(refine se (neg:=true) rfl rfl ?_ ?_<;>intro hc))|(apply gx;first|apply af|refine ae rfl ?_|apply ay|apply al|apply aM|refine ak rfl ?_|refine ai rfl ?_)|apply aa|apply cp|apply aI|apply gH|apply iX|refine aJ (v:=AV.bool _) rfl ?_
   ·exact aR hi2 ⟨by rw[aV hx,aV hy,hpre,‹x=y›],hh_⟩
   ·rw[decide_eq_false]
    rintro rfl
    rw[hx]at hy
    cases hy
    exact ‹¬ _=_› rfl
  ·repeat' first|apply ac|(apply gw;first|refine bl rfl ?_|(refine aA rfl rfl rfl ?_ ?_<;>(intro hc;try omega)))|(apply gx;first|apply af|refine ae rfl ?_|apply aM|apply aN|refine ai rfl ?_)|apply aa|apply aO|apply aP|apply aX|refine aJ (v:=AV.bool _) rfl ?_
   rw[List.take_of_length_le Ll,List.take_of_length_le Ll]at hpre
   simp[hpre]
theorem vF {Φ:Lib}{k:Nat}(h0:(k == fU)=false)(hk:Φ k=some (.code dG))(l:List Int)(fl:Bool)(fn:Nat)(cap:List AV)(p:Int→Bool)(h:ad)(hl:l.length<4611686018427387904)
  (hp:∀ x∈l,bc Φ fn ([.int .i64 x]++cap) h (fun v h'=>v = .bool (p x)∧h.Ext h')) :
  bc Φ k [.rd l.length (l.map (.int .i64)) fl,.fn fn cap] h (fun v h'=>v = .int .i64 (yl (l.findIdx? p))∧h'=h):=by
 refine ba (fun _=>false) h0 hk ?_
 repeat' first|apply ac|(apply gw;first|(apply gq0;first|refine aq rfl ?_|refine aG rfl ?_)|refine aw rfl ?_)|(apply gx;first|apply af|refine ae rfl ?_|apply al)|apply aa
 refine bD l.length (fun i env h'=>h'=h∧(∀ x∈l.take i,p x=false)∧env.has [(8,.int .i64 i),(7,.int .i64 l.length),(0,.rd l.length (l.map (.int .i64)) fl),(1,.fn fn cap)]) ⟨rfl,by simp,hh_⟩ ?_
 rintro i env h' hi ⟨rfl,hpre,he⟩
 obtain⟨env,rfl⟩:=he.ex
 clear he
 by_cases hi2:i<l.length
 ·obtain⟨a,ha⟩:=aK hi2
  repeat' first|apply ac|(apply gw;first|(apply gq0;first|refine aq rfl ?_|refine aG rfl ?_|refine au (v:=AV.fn _ _) rfl ?_)|refine aB rfl b_ pv_ ?_|(refine aA rfl rfl rfl ?_ ?_<;>(intro hc;try omega))|refine dN rfl rfl rfl (by assumption) rfl ?_|refine Gd rfl rfl nt_ ?_)|(apply gx;first|apply af|refine ae rfl ?_|apply ay|apply al|refine ak rfl ?_)|apply aa
  refine kL (by decide) (hp a (List.mem_of_getElem? ha)) ?_
  cases hpa:p a
  ·repeat' first|apply ac|(apply gw;first|refine aq rfl ?_|refine aT rfl rfl rfl Ll Ll ?_)|(apply gx;first|refine ae rfl ?_|apply ay|refine ai rfl ?_)|apply aa|apply aI
   refine aR hi2 ⟨rfl,?_,hh_⟩
   intro x hx
   rw[aV ha]at hx
   simp only[List.mem_append,List.mem_singleton]at hx
   rcases hx with hx|rfl
   ·exact hpre x hx
   ·exact hpa
  ·repeat' first|apply ac|refine aq rfl ?_|(apply gx;first|apply af|refine ae rfl ?_|apply aM|refine ak rfl ?_)|apply aa|apply cp|apply gH|apply iX|refine aJ (v:=AV.int _ _) rfl ?_
   refine⟨?_,rfl⟩
   have:l.findIdx? p=some i:=by
    rw[List.findIdx?_eq_some_iff_getElem]
    rw[List.getElem?_eq_some_iff]at ha
    obtain⟨h1,rfl⟩:=ha
    refine⟨h1,hpa,fun j hj=>?_⟩
    simp[hpre l[j] (List.mem_take_iff_getElem.2 ⟨j,by omega,rfl⟩)]
   rw[this]
   rfl
 ·repeat' first|apply ac|(apply gw;first|refine aq rfl ?_|(refine aA rfl rfl rfl ?_ ?_<;>(intro hc;try omega)))|(apply gx;first|apply af|refine ae rfl ?_|apply aM|apply aN|refine ai rfl ?_)|apply aa|apply aO|apply aP|apply aX|refine aJ (v:=AV.int _ _) rfl ?_
  refine⟨?_,rfl⟩
  have:l.findIdx? p=none:=by
   rw[List.findIdx?_eq_none_iff]
   rwa [List.take_of_length_le Ll]at hpre
  rw[this]
  rfl
theorem G9 {α:Type}(l:List α)(p:α→Bool):l.any p=decide (0≤yl (l.findIdx? p)):=by
 cases hx:l.findIdx? p with
 | none =>
  rw[List.findIdx?_eq_none_iff]at hx
  simp only[yl]
  simpa using hx
 | some i =>
  rw[List.findIdx?_eq_some_iff_getElem]at hx
  obtain⟨h1,h2,_⟩:=hx
  simp only[yl]
  simp
  exact⟨_,List.getElem_mem h1,h2⟩
theorem nj {Φ:Lib}(L:il Φ)(l:List Int)(fl:Bool)(fn:Nat)(cap:List AV)(p:Int→Bool)(h:ad)(hl:l.length<4611686018427387904)
  (hp:∀ x∈l,bc Φ fn ([.int .i64 x]++cap) h (fun v h'=>v = .bool (p x)∧h.Ext h')) :
  bc Φ 40 [.rd l.length (l.map (.int .i64)) fl,.fn fn cap] h (fun v h'=>v = .bool (l.any p)∧h'=h):=by
 refine ba (fun _=>false) rfl L.f40 ?_
 repeat' first|apply ac|(apply gw;first|(apply gq0;first|refine bl rfl ?_|refine aG rfl ?_|refine au (v:=AV.fn _ _) rfl ?_)|refine aH rfl nt_ ?_)|(apply gx;first|apply af|refine ae rfl ?_)|apply aa
 refine ci (vF rfl L.f52 l fl fn cap p h hl hp) ?_
 rintro _ _ ⟨rfl,rfl⟩
 have e:=G9 l p
 repeat' first|apply ac|(apply gw;first|refine bl rfl ?_|(refine iy rfl rfl rfl ?_ ?_<;>(intro hc;try omega)))|apply aM|apply aa|refine aJ (v:=AV.bool _) rfl ?_
 all_goals exact⟨by rw[e];simp[*],rfl⟩
theorem vC (r:List aj)(s:aj):(fw r s).length≤r.length+1:=by
 cases r with
 | nil=>simp[fw]
 | cons a r =>
  simp only[fw]
  split<;>simp
theorem lB:∀ (p r:List aj),(p.foldl fw r).length≤r.length+p.length
 | [],r=>by simp
 | s::p,r=>by
  have h1:=lB p (fw r s)
  have h2:=vC r s
  rw[List.foldl_cons,List.length_cons]
  omega
theorem ma:∀ k:List aj,(k.flatMap bW).length≤2*k.length
 | []=>by simp
 | a::k=>by
  have h1:=ma k
  have h2:=p7 a
  rw[List.flatMap_cons,List.length_append,List.length_cons]
  omega
theorem lF (l:List aj):(bd l).length≤2*l.length:=by
 have h1:=lB ((l.flatMap bW).mergeSort fun a b=>decide (a.lo≤b.lo)) []
 have h2:=ma l
 rw[List.length_mergeSort,List.length_nil]at h1
 rw[bd,ov,List.length_reverse]
 omega
end
section
open Go
def Nfa.frees (n:Nfa)(i:Nat):List Int:=(n.free.l.getD i ⟨[],true⟩).l
theorem tK {α:Type}(l:List α):l=[]∨∃ l' b,l=l'++[b]:=by
 rcases List.eq_nil_or_concat l with h|⟨l',b,h⟩
 ·exact .inl h
 ·exact .inr ⟨l',b,by simpa using h⟩
theorem n9 {α:Type}{C:List α→Prop}(h0:C [])(h1:∀ l x,C l→C (l++[x]))(l:List α):C l:=by
 have:∀ m (l:List α),l.length=m→C l:=by
  intro m
  induction m with
  | zero=>intro l hl;rw[List.eq_nil_of_length_eq_zero hl];exact h0
  | succ m ih =>
   intro l hl
   rcases tK l with rfl|⟨l',b,rfl⟩
   ·exact h0
   ·exact h1 _ _ (ih l' (by simpa using hl))
 exact this _ l rfl
inductive Reach (n:Nfa) (P:Nat→Prop):Nat→Prop
 | base {i:Nat}:P i→Reach n P i
 | step {i:Nat} {t:Int}:Reach n P i→t∈n.frees i→Reach n P t.toNat
end
section
open Go
theorem uN {l:List Bool}{i:Nat}(h:l[i]?=some false):(l.set i true).count false+1=l.count false:=by
 obtain⟨h1,hb⟩:=List.getElem?_eq_some_iff.1 h
 have:=List.count_set (a:=true) (b:=false) h1
 simp[hb]at this
 have h2:0<l.count false:=List.count_pos_iff.2 (hb ▸ List.getElem_mem h1)
 omega
def K9 (bs:List Bool)(m:Nat):List Int:=((List.range m).filter fun i=>bs.getD i false).map fun i:Nat=>(i:Int)
end
section
open Go
def ab:aj:=⟨97,98⟩
end
end Go.Proofs.YtlnobeojgifojaaGreatDoor
