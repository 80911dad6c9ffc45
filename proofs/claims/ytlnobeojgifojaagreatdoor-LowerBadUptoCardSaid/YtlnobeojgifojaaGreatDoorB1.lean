/- Running the abstract machine's code by rewriting. Single steps of the abstract machine's code, for walking a function path by path. -/
import Derived.Test.YtlnobeojgifojaaGreatDoorA7
set_option linter.unusedVariables false
namespace Go.Proofs.YtlnobeojgifojaaGreatDoor
section
open Go
def mZ:List bF→Option Nat
 | []=>none
 | o::_=>o.dst
def dg (k:Env→ac→Prop)(Q:Ex→Env→ac→Prop):Ex→Env→ac→Prop
 | .norm=>k
 | ex=>Q ex
def bz (id:Nat)(Q:Ex→Env→ac→Prop):Ex→Env→ac→Prop
 | .exit j=>if j=id then Q .norm else Q (.exit j)
 | ex=>Q ex
@[simp] theorem Ka {k Q}:dg k Q .norm=k:=rfl
@[simp] theorem Ks {k Q}:dg k Q .ret=Q .ret:=rfl
@[simp] theorem Kb {k Q i}:dg k Q (.exit i)=Q (.exit i):=rfl
@[simp] theorem Jf {i Q}:bz i Q .norm=Q .norm:=rfl
@[simp] theorem JR {i Q}:bz i Q .ret=Q .ret:=rfl
@[simp] theorem Ah {i Q j}:bz i Q (.exit j)=if j=i then Q .norm else Q (.exit j):=rfl
def rZ (v:AV)(Q:Bool→Prop):Prop:=match v with
 | .bool t=>Q t
 | _=>False
@[simp] theorem Jr {t Q}:rZ (.bool t) Q=Q t:=rfl
def tm (v:AV)(Q:Bool→Prop)(Q':Prop):Prop:=match v with
 | .bool t=>Q t
 | .tup []=>Q'
 | _=>False
@[simp] theorem I1 {t Q Q'}:tm (.bool t) Q Q'=Q t:=rfl
@[simp] theorem Jp {Q Q'}:tm (.tup []) Q Q'=Q':=rfl
@[congr] theorem HU {v v':AV}{Q:Bool→Prop}{Q':Prop}(h:v=v'):tm v Q Q'=tm v' Q Q':=by rw[h]
def wfn (v:AV)(Y:Nat→Prop)(Q:Nat→List AV→Prop):Prop:=match v with
 | .fn f cs=>Q f cs
 | .yield id=>Y id
 | _=>False
@[simp] theorem FK {f cs Y Q}:wfn (.fn f cs) Y Q=Q f cs:=rfl
@[simp] theorem vO {id Y Q}:wfn (.yield id) Y Q=Y id:=rfl
@[congr] theorem I2 {v v':AV}{Q:Bool→Prop}(h:v=v'):rZ v Q=rZ v' Q:=by rw[h]
@[congr] theorem J9 {v v':AV}{Y:Nat→Prop}{Q:Nat→List AV→Prop}(h:v=v'):wfn v Y Q=wfn v' Y Q:=by rw[h]
@[congr] theorem Jl {α:Type}{v v':Option α}{Q:α→Prop}(h:v=v'):ff v Q=ff v' Q:=by rw[h]
@[congr] theorem Jk {v v':Option Res}{h h':ac}{Q:AV→ac→Prop}(hh:h=h')(e:v=v'):mA h Q v=mA h' Q v':=by rw[e,hh]
def bg (F:bT)(Z:Option Nat→Bool):gl→(Ex→Env→ac→Prop)→Env→ac→Prop
 | .skip,Q,env,h=>Q .norm env h
 | .ops l,Q,env,h=>if Z (mZ l)=true then bm F (.ops l) Q env h else aw F l (Q .norm) env h
 | .seq a b,Q,env,h=>bg F Z a (dg (bg F Z b Q) Q) env h
 | .cond c a b,Q,env,h=>rZ (ev env c) fun t=>(t=true→bg F Z a Q env h)∧(t=false→bg F Z b Q env h)
 | .block id c,Q,env,h=>bg F Z c (bz id Q) env h
 | .loop c,Q,env,h=>bm F (.loop c) Q env h
 | .rangef f ps a b,Q,env,h=>bm F (.rangef f ps a b) Q env h
 | .exit id,Q,env,h=>Q (.exit id) env h
 | .ret,Q,env,h=>Q .ret env h
theorem kP {F:bT}(hm:jI F){Z:Option Nat→Bool}:∀ (c:gl) {Q:Ex→Env→ac→Prop} {env:Env} {h:ac},bg F Z c Q env h→bm F c Q env h
 | .skip,_,_,_,hw=>hw
 | .ops l,_,_,_,hw=>by
  unfold bg at hw
  split at hw
  ·exact hw
  ·exact .inl hw
 | .seq a b,Q,env,h,hw=>by
  unfold bg at hw
  refine cI (fun _ _ _ _ h=>h) hm a (fun x e h hh=>?_) (kP hm a hw)
  cases x
  ·exact kP hm b hh
  ·exact hh
  ·exact hh
 | .cond c a b,Q,env,h,hw=>by
  unfold bg rZ at hw
  unfold bm
  split at hw
  ·rename_i t ht
   rw[ht]
   dsimp only
   split
   ·rename_i h1;exact kP hm a (hw.1 h1)
   ·rename_i h1;exact kP hm b (hw.2 (by simpa using h1))
  ·exact hw.elim
 | .block id c,Q,env,h,hw=>by
  unfold bg at hw
  refine cI (fun _ _ _ _ h=>h) hm c (fun x e h hh=>?_) (kP hm c hw)
  cases x
  ·exact hh
  ·simp only[Ah]at hh
   dsimp only
   split
   ·rename_i hj;rw[if_pos hj]at hh;exact hh
   ·rename_i hj;rw[if_neg hj]at hh;exact hh
  ·exact hh
 | .loop c,_,_,_,hw=>hw
 | .rangef ..,_,_,_,hw=>hw
 | .exit _,_,_,_,hw=>hw
 | .ret,_,_,_,hw=>hw
@[simp ↓] theorem Jh {F Z Q env h}:bg F Z .skip Q env h=Q .norm env h:=rfl
@[simp ↓] theorem oJ {F Z Q env h l}:bg F Z (.ops l) Q env h=if Z (mZ l)=true then bm F (.ops l) Q env h else aw F l (Q .norm) env h:=rfl
@[simp ↓] theorem JY {F Z Q env h a b}:bg F Z (.seq a b) Q env h=bg F Z a (dg (bg F Z b Q) Q) env h:=rfl
@[simp ↓] theorem Jj {F Z Q env h c a b}:bg F Z (.cond c a b) Q env h=rZ (ev env c) fun t=>(t=true→bg F Z a Q env h)∧(t=false→bg F Z b Q env h):=rfl
@[simp ↓] theorem IX {F Z Q env h i c}:bg F Z (.block i c) Q env h=bg F Z c (bz i Q) env h:=rfl
@[simp ↓] theorem At {F Z Q env h c}:bg F Z (.loop c) Q env h=bm F (.loop c) Q env h:=rfl
@[simp ↓] theorem HQ {F Z Q env h f ps a b}:bg F Z (.rangef f ps a b) Q env h=bm F (.rangef f ps a b) Q env h:=rfl
@[simp ↓] theorem Ji {F Z Q env h i}:bg F Z (.exit i) Q env h=Q (.exit i) env h:=rfl
@[simp ↓] theorem JZ {F Z Q env h}:bg F Z .ret Q env h=Q .ret env h:=rfl
@[simp] theorem Env.put_apply (env:Env)(t:Nat)(v:AV)(i:Nat):env.put t v i=if i=t then v else env i:=rfl
@[simp] theorem Hd (env:Env)(t:Nat):ev env (.tmp t)=env t:=rfl
@[simp] theorem kZ (env:Env)(v:AV):ev env (.const v)=v:=rfl
@[simp] theorem I8 (i:Nat):kN [] i = .undef:=rfl
@[simp] theorem IB (a:AV)(l:List AV):kN (a::l) 0=a:=rfl
@[simp] theorem IC (a:AV)(l:List AV)(i:Nat):kN (a::l) (i+1)=kN l i:=rfl
@[simp] theorem I9 (a:AV)(l:List AV)(i:Nat):kN (a::l) (OfNat.ofNat (i+1))=kN l i:=rfl
@[simp] theorem sb (env:Env)(v:AV):putDst env none v=env:=rfl
@[simp] theorem bE (env:Env)(t:Nat)(v:AV):putDst env (some t) v=env.put t v:=rfl
@[simp] theorem ac.get_empty (i:Nat):ac.empty.get i=none:=rfl
theorem ac.get_set (h:ac)(i:Nat)(o:iP)(j:Nat):(h.set i o).get j=if j=i then some o else h.get j:=rfl
theorem ac.get_set2 (h:ac)(i:Nat)(o:iP)(j:Nat):(h.set i o).get j=if i=j then some o else h.get j:=by
 rw[ac.get_set]
 by_cases e:j=i
 ·rw[if_pos e,if_pos e.symm]
 ·rw[if_neg e,if_neg (Ne.symm e)]
@[simp] theorem ac.get_set_self (h:ac)(i:Nat)(o:iP):(h.set i o).get i=some o:=by simp[ac.get_set]
theorem ac.get_set_ne (h:ac){i j:Nat}(o:iP)(hn:j≠i):(h.set i o).get j=h.get j:=by simp[ac.get_set,hn]
theorem ac.get_set_old {h:ac}{i j:Nat}{o x:iP}(hj:h.get j=some x)(hi:h.get i=none):(h.set i o).get j=some x:=by
 rw[ac.get_set_ne _ _ (fun e=>by rw[e,hi]at hj;cases hj)]
 exact hj
theorem ac.set_none {h:ac}{i j:Nat}{o:iP}:(h.set i o).get j=none↔j≠i∧h.get j=none:=by
 rw[ac.get_set]
 split<;>simp_all
theorem ac.ne_of {h:ac}{j:Nat}{x:iP}(hj:h.get j=some x):∀ i,h.get i=none→(j=i)=False:=fun i hi=>eq_false fun e=>by rw[e,hi]at hj;cases hj
theorem ac.ne_of2 {h:ac}{j:Nat}{x:iP}(hj:h.get j=some x):∀ i,h.get i=none→(i=j)=False:=fun i hi=>eq_false fun e=>by rw[← e,hi]at hj;cases hj
theorem ac.Ext.refl (h:ac):h.Ext h:=fun _ _ e=>e
@[simp ↓] theorem Km {F Q}:aw F [] Q=Q:=rfl
theorem CK {F o r Q env h}:aw F (o::r) Q env h=cz F o (aw F r Q) env h:=rfl
@[simp ↓] theorem bM {F dst op r Q env h}:aw F (⟨dst,op,none⟩::r) Q env h=wop F env h (fun v h'=>aw F r Q (putDst env dst v) h') op:=rfl
@[simp ↓] theorem Jm {F dst op t b r Q env h}:aw F (⟨dst,op,some (t,b)⟩::r) Q env h=tm (env t) (fun c=>(c=b→wop F env h (fun v h'=>aw F r Q (putDst env dst v) h') op)∧(c = !b→aw F r Q (putDst env dst (.tup [])) h)) (aw F r Q (putDst env dst (.tup [])) h):=by
 simp only[CK,cz,wanted]
 cases env t<;>try rfl
 ·rename_i c
  cases c<;>cases b<;>simp
 ·rename_i vs
  cases vs<;>rfl
@[simp] theorem qn {h v h' Q}:mA h Q (some (.val v h'))=Q v h':=rfl
@[simp] theorem yz {h o f Q}:mA h Q (some (.new o f))=∀ id,h.get id=none→Q (f id) (h.set id o):=rfl
@[simp] theorem J1 {h f Q}:mA h Q (some (.both f))=∀ b,Q (f b) h:=rfl
@[simp] theorem J0 {h Q}:mA h Q none=False:=rfl
theorem cU {F env h Q op}(hk:op.kind = .pure):wop F env h Q op=ff (aT env op) (fun v=>Q v h):=by
 simp only[wop,hk,fi]
 rw[if_neg (by simp),if_neg (by simp)]
 cases aT env op<;>rfl
theorem mI {F env h Q op}(hk:op.kind = .read):wop F env h Q op=ff (bf env h op) (fun v=>Q v h):=by
 simp only[wop,hk,fi]
 rw[if_neg (by simp),if_neg (by simp)]
 cases bf env h op<;>rfl
theorem sQ {F env h Q op}(hk:op.kind = .new):wop F env h Q op=ff (gT env op) (fun p=>∀ id,h.get id=none→Q (p.2 id) (h.set id p.1)):=by
 simp only[wop,hk,fi]
 rw[if_neg (by simp),if_neg (by simp)]
 cases gT env op<;>rfl
theorem oL {F env h Q op}(hk:op.kind = .eff):wop F env h Q op=mA h Q (dn env h op):=by
 simp only[wop,hk,fi]
 rw[if_neg (by simp),if_neg (by simp)]
@[simp] theorem mH {α}{x:α}{Q}:ff (some x) Q=Q x:=rfl
@[simp] theorem J3 {α}{Q:α→Prop}:ff none Q=False:=rfl
@[simp] theorem Kl {α}{c:Prop}[Decidable c]{a:Option α}{Q}:ff (if c then a else none) Q=(c∧ff a Q):=by
 split<;>simp_all
@[simp] theorem Kk {α β}{f:α→β}{a:Option α}{Q}:ff (a.map f) Q=ff a (fun x=>Q (f x)):=by cases a<;>rfl
@[simp] theorem J4 {α β}{f:α→Option β}{a:Option α}{Q}:ff (a.bind f) Q=ff a (fun x=>ff (f x) Q):=by cases a<;>rfl
@[simp] theorem J2 {α}{f:α→Option Res}{a:Option α}{h Q}:mA h Q (a.bind f)=ff a (fun x=>mA h Q (f x)):=by cases a<;>rfl
@[simp ↓] theorem KV {F env h Q x}:wop F env h Q (.mv x)=Q (ev env x) h:=cU rfl
@[simp ↓] theorem Kn {F env h Q c a b}:wop F env h Q (.pick c a b)=rZ (ev env c) fun t=>Q (if t then ev env a else ev env b) h:=by
 rw[cU rfl]
 simp only[aT]
 cases ev env c<;>rfl
@[simp ↓] theorem J8 {F env h Q z ps}:wop F env h Q (.build z ps)=ff (fk env z ps) (fun cs=>Q (.agg cs) h):=(cU rfl).trans (by simp[aT])
@[simp ↓] theorem KK {F env h Q e n z ps}:wop F env h Q (.lit e n z ps)=ff (fk env z ps) (fun cs=>cs.length=n*e∧Q (.rd n cs true) h):=(cU rfl).trans (by simp[aT])
@[simp ↓] theorem J5 {F env h Q x}:wop F env h Q (.nilck x)=ff (aT env (.nilck x)) (fun v=>Q v h):=cU rfl
@[simp ↓] theorem xb {F env h Q o x y}:wop F env h Q (.bin o x y)=ff (wZ o (ev env x) (ev env y)) (fun v=>Q v h):=cU rfl
@[simp ↓] theorem KM {F env h Q b x y}:wop F env h Q (.eqB b x y)=ff (eqB b (ev env x) (ev env y)) (fun v=>Q v h):=cU rfl
@[simp ↓] theorem KL {F env h Q b k x y}:wop F env h Q (.eqS b k x y)=ff (eqS b k (ev env x) (ev env y)) (fun v=>Q v h):=cU rfl
@[simp ↓] theorem I0 {F env h Q x}:wop F env h Q (.bytesOf x)=ff (aT env (.bytesOf x)) (fun v=>Q v h):=cU rfl
@[simp ↓] theorem KU {F env h Q o x}:wop F env h Q (.un o x)=ff (FN o (ev env x)) (fun v=>Q v h):=cU rfl
@[simp ↓] theorem Ko {F env h Q k x}:wop F env h Q (.conv k x)=ff (aT env (.conv k x)) (fun v=>Q v h):=cU rfl
@[simp ↓] theorem FE {F env h Q f l}:wop F env h Q (.mkfn f l)=ff (aT env (.mkfn f l)) (fun v=>Q v h):=cU rfl
@[simp ↓] theorem oK {F env h Q e x a b c}:wop F env h Q (.slice e x a b c)=ff (aT env (.slice e x a b c)) (fun v=>Q v h):=cU rfl
@[simp ↓] theorem HR {F env h Q x a b}:wop F env h Q (.sliceStr x a b)=ff (aT env (.sliceStr x a b)) (fun v=>Q v h):=cU rfl
@[simp ↓] theorem Av {F env h Q n e x a b}:wop F env h Q (.sliceA n e x a b)=ff (bf env h (.sliceA n e x a b)) (fun v=>Q v h):=mI rfl
@[simp ↓] theorem uW {F env h Q e x}:wop F env h Q (.fieldAddr e x)=ff (aT env (.fieldAddr e x)) (fun v=>Q v h):=cU rfl
@[simp ↓] theorem J6 {F env h Q e n ag x}:wop F env h Q (.field e n ag x)=ff (aT env (.field e n ag x)) (fun v=>Q v h):=cU rfl
@[simp ↓] theorem pq {F env h Q e x i}:wop F env h Q (.indexAddr e x i)=ff (aT env (.indexAddr e x i)) (fun v=>Q v h):=cU rfl
@[simp ↓] theorem tj {F env h Q l e x i}:wop F env h Q (.indexAddrA l e x i)=ff (aT env (.indexAddrA l e x i)) (fun v=>Q v h):=cU rfl
@[simp ↓] theorem Aw {F env h Q l e ag x i}:wop F env h Q (.indexA l e ag x i)=ff (aT env (.indexA l e ag x i)) (fun v=>Q v h):=cU rfl
@[simp ↓] theorem xa {F env h Q x i}:wop F env h Q (.indexStr x i)=ff (aT env (.indexStr x i)) (fun v=>Q v h):=cU rfl
@[simp ↓] theorem IZ {F env h Q x i}:wop F env h Q (.extract x i)=ff (aT env (.extract x i)) (fun v=>Q v h):=cU rfl
@[simp ↓] theorem Jn {F env h Q l}:wop F env h Q (.mx l)=ff (jr (fun a b=>if b>a then b else a) (l.map (ev env))) (fun v=>Q v h):=cU rfl
@[simp ↓] theorem Jo {F env h Q l}:wop F env h Q (.mn l)=ff (jr (fun a b=>if b<a then b else a) (l.map (ev env))) (fun v=>Q v h):=cU rfl
@[simp ↓] theorem ti {F env h Q b n ag x}:wop F env h Q (.load b n ag x)=ff (bf env h (.load b n ag x)) (fun v=>Q v h):=mI rfl
@[simp ↓] theorem th {F env h Q kk z ok x k}:wop F env h Q (.lookup kk z ok x k)=ff (bf env h (.lookup kk z ok x k)) (fun v=>Q v h):=mI rfl
@[simp ↓] theorem CL {F env h Q x}:wop F env h Q (.strOf x)=ff (bf env h (.strOf x)) (fun v=>Q v h):=mI rfl
@[simp ↓] theorem BS {F env h Q k x}:wop F env h Q (.len k x)=ff (bf env h (.len k x)) (fun v=>Q v h):=mI rfl
@[simp ↓] theorem CP {F env h Q z}:wop F env h Q (.alloc z)=∀ id,h.get id=none→Q (.ptr id 0 0) (h.set id (.cells 0 z)):=(sQ rfl).trans rfl
@[simp ↓] theorem HT {F env h Q x}:wop F env h Q (.box x)=((ev env x).isVal=true∧∀ id,h.get id=none→Q (.ptr id 0 0) (h.set id (.cells 0 (ev env x).cells))):=(sQ rfl).trans (by simp[gT])
@[simp ↓] theorem CM {F env h Q k}:wop F env h Q (.mkmap k)=∀ id,h.get id=none→Q (.map id) (h.set id (.map k [])):=(sQ rfl).trans rfl
@[simp ↓] theorem yA {F env h Q z a b}:wop F env h Q (.mkslice z a b)=ff (gT env (.mkslice z a b)) (fun p=>∀ id,h.get id=none→Q (p.2 id) (h.set id p.1)):=sQ rfl
@[simp ↓] theorem ro {F env h Q n x v}:wop F env h Q (.store n x v)=mA h Q (dn env h (.store n x v)):=oL rfl
@[simp ↓] theorem Au {F env h Q k m x v}:wop F env h Q (.update k m x v)=mA h Q (dn env h (.update k m x v)):=oL rfl
@[simp ↓] theorem ku {F env h Q e x y}:wop F env h Q (.append e x y)=mA h Q (dn env h (.append e x y)):=oL rfl
@[simp ↓] theorem J7 {F env h Q z x}:wop F env h Q (.clear z x)=mA h Q (dn env h (.clear z x)):=oL rfl
@[simp ↓] theorem FG {F env h Q e x y}:wop F env h Q (.copy e x y)=mA h Q (dn env h (.copy e x y)):=oL rfl
@[simp ↓] theorem HS {F env h Q b x}:wop F env h Q (.eqN b x)=mA h Q (dn env h (.eqN b x)):=oL rfl
@[simp ↓] theorem FH {F env h Q m f l}:wop F env h Q (.call m f l)=(l.all (fun x => !(ev env x).isTup)=true∧bH F m f (l.map (ev env)) h Q):=by
 simp only[wop,DOp.kind,reduceCtorEq,if_false,if_true,gH]
 by_cases hl:l.all (fun x => !(ev env x).isTup)=true
 ·rw[if_pos hl];simp only[hl,true_and]
 ·rw[if_neg hl];exact(eq_false (fun h=>hl h.1)).symm
@[simp ↓] theorem vL {F env h Q m x l}:wop F env h Q (.callv m x l)=wfn (ev env x) (fun id=>l.all (fun x => !(ev env x).isTup)=true∧bH F m fU (.yield id::l.map (ev env)) h Q) fun f captured=>l.all (fun x => !(ev env x).isTup)=true∧bH F m f (l.map (ev env)++captured) h Q:=by
 simp only[wop,DOp.kind,reduceCtorEq,if_false,if_true,gH]
 cases ev env x<;>try rfl
 ·dsimp only
  by_cases hl:l.all (fun x => !(ev env x).isTup)=true
  ·rw[if_pos hl];simp only[FK,hl,true_and]
  ·rw[if_neg hl];exact(eq_false (fun h=>hl h.1)).symm
 ·dsimp only
  by_cases hl:l.all (fun x => !(ev env x).isTup)=true
  ·rw[if_pos hl];simp only[vO,hl,true_and]
  ·rw[if_neg hl];exact(eq_false (fun h=>hl h.1)).symm
@[simp ↓] theorem CO {F env h Q e f l}:wop F env h Q (.callk e f l)=(l.all (fun x => !(ev env x).isTup)=true∧F f (l.map (ev env)) h (fun v h'=>yu e h h'∧Q v h')):=by
 simp only[wop,DOp.kind,if_true,jf]
 by_cases hl:l.all (fun x => !(ev env x).isTup)=true
 ·rw[if_pos hl];simp only[hl,true_and]
 ·rw[if_neg hl];exact(eq_false (fun h=>hl h.1)).symm
@[simp ↓] theorem CN {F env h Q b x}:wop F env h Q (.loadm b x)=ff (bf env h (.loadm b x)) (fun v=>Q v h):=mI rfl
attribute [simp] AV.isVal AV.oneCell AV.isTup AV.cells part aT bf gT dn wZ BD eqB FN fk putCells
def fg (Φ:Lib)(f:Nat)(args:List AV)(v:AV):Prop:=a8 Φ f args ac.empty (fun v' _=>v'=v)
theorem aU {Φ:Lib}{m f:Nat}{args:List AV}{v:AV}{h:ac}{Q:AV→ac→Prop}(hp:fg Φ f args v)(ha:AV.frozenL args=true)(hv:v.frozen=true)(k:Q v h):bH (a8 Φ) m f args h Q :=
 .inr (.inr (.inl ⟨ha,a8.mono Φ _ _ _ _ _ (fun v' _ e=>by subst e;exact⟨hv,k⟩) hp⟩))
theorem kH {Φ:Lib}{m f:Nat}{args:List AV}{v:AV}{h:ac}{Q:AV→ac→Prop}(hm:m≤1)(hp:a8 Φ f args h (fun v' h'=>v'=v∧h.Ext h'))(k:Q v h):bH (a8 Φ) m f args h Q :=
 .inr (.inl ⟨hm,a8.mono Φ _ _ _ _ _ (fun v' _ e=>by obtain⟨rfl,e⟩:=e;exact⟨e,k⟩) hp⟩)
theorem cd {Φ:Lib}{f:Nat}{args:List AV}{h:ac}{Q Q':AV→ac→Prop}(hp:a8 Φ f args h Q')(k:∀ v h',Q' v h'→Q v h'):bH (a8 Φ) 0 f args h Q :=
 .inl ⟨rfl,a8.mono Φ _ _ _ _ _ k hp⟩
def dO (rs:List vH)(Q:AV→ac→Prop):Ex→Env→ac→Prop
 | .exit _=>fun _ _=>False
 | _=>fun env h=>ff (fh env h rs) (fun v=>Q v h∨∃ (S:Nat→Prop) (v':AV),FzV h S v v'∧Q v' (h.drop S))
@[simp] theorem Kj {rs Q}:dO rs Q .norm=fun env h=>ff (fh env h rs) (fun v=>Q v h∨∃ (S:Nat→Prop) (v':AV),FzV h S v v'∧Q v' (h.drop S)):=rfl
@[simp] theorem Ha {rs Q}:dO rs Q .ret=fun env h=>ff (fh env h rs) (fun v=>Q v h∨∃ (S:Nat→Prop) (v':AV),FzV h S v v'∧Q v' (h.drop S)):=rfl
theorem aY {Φ:Lib}{f:Nat}{d:bL}{args:List AV}{h:ac}{Q:AV→ac→Prop}(Z:Option Nat→Bool)(h0:(f == fU)=false)(hf:Φ f=some (.code d))(hw:bg (a8 Φ) Z d.body (dO d.results Q) (kN args) h):a8 Φ f args h Q:=by
 refine a8.code (by simpa using h0) hf (cI (fun _ _ _ _ h=>h) (a8.mono Φ) d.body (fun x e h hh=>?_) (kP (a8.mono Φ) _ hw))
 cases x
 ·exact⟨.inl rfl,hh⟩
 ·exact hh.elim
 ·exact⟨.inr rfl,hh⟩
end
section
open Go
section
variable {F:bT} {r:List bF} {Q:Env→ac→Prop} {env:Env} {h:ac} {d:Nat} {x y z c:bt}
theorem ad (k:Q env h):aw F [] Q env h:=k
theorem cr {op t b}(hg:env t = .bool (!b))(k:aw F r Q (env.put d (.tup [])) h):aw F (⟨some d,op,some (t,b)⟩::r) Q env h:=by
 simp[hg,k]
theorem FX {op t b}(hg:env t = .tup [])(k:aw F r Q (env.put d (.tup [])) h):aw F (⟨some d,op,some (t,b)⟩::r) Q env h:=by
 simp[hg,k]
theorem bP {dst op t b}(hg:env t = .bool b)(k:aw F (⟨dst,op,none⟩::r) Q env h):aw F (⟨dst,op,some (t,b)⟩::r) Q env h:=by
 simp only[bM]at k
 simp[hg,k]
theorem aq {v}(hx:ev env x=v)(k:aw F r Q (env.put d v) h):aw F (⟨some d,.mv x,none⟩::r) Q env h:=by
 simp[hx,k]
theorem C5 {v}(hc:ev env c = .bool true)(hx:ev env x=v)(k:aw F r Q (env.put d v) h):aw F (⟨some d,.pick c x y,none⟩::r) Q env h:=by
 simp[hc,hx,k]
theorem C6 {v}(hc:ev env c = .bool false)(hx:ev env y=v)(k:aw F r Q (env.put d v) h):aw F (⟨some d,.pick c x y,none⟩::r) Q env h:=by
 simp[hc,hx,k]
theorem eJ {op v}(hk:op.kind = .pure)(hv:aT env op=some v)(k:aw F r Q (env.put d v) h):aw F (⟨some d,op,none⟩::r) Q env h:=by
 rw[bM,cU hk,hv];exact k
theorem iV {v}(hx:ev env x=v)(hv:v.isVal=true)(k:∀ id,h.get id=none→aw F r Q (env.put d (.ptr id 0 0)) (h.set id (.cells 0 v.cells))):aw F (⟨some d,.box x,none⟩::r) Q env h:=by
 subst hx
 simp only[bM,HT,bE]
 exact⟨hv,k⟩
theorem bZ {zs}(k:∀ id,h.get id=none→aw F r Q (env.put d (.ptr id 0 0)) (h.set id (.cells 0 zs))):aw F (⟨some d,.alloc zs,none⟩::r) Q env h:=by
 simp only[bM,CP,bE]
 exact k
theorem aA {k k' a b}(hx:ev env x = .int k a)(hy:ev env y = .int k' b)(hk:k=k')(k1:a<b→aw F r Q (env.put d (.bool true)) h)(k2:¬ a<b→aw F r Q (env.put d (.bool false)) h):aw F (⟨some d,.bin .lss x y,none⟩::r) Q env h:=by
 subst hk
 by_cases hp:a<b<;>simp[hx,hy,hp,k1,k2]
theorem ix {k k' a b}(hx:ev env x = .int k a)(hy:ev env y = .int k' b)(hk:k=k')(k1:a≤b→aw F r Q (env.put d (.bool true)) h)(k2:¬ a≤b→aw F r Q (env.put d (.bool false)) h):aw F (⟨some d,.bin .leq x y,none⟩::r) Q env h:=by
 subst hk
 by_cases hp:a≤b<;>simp[hx,hy,hp,k1,k2]
theorem cY {k k' a b}(hx:ev env x = .int k a)(hy:ev env y = .int k' b)(hk:k=k')(k1:b<a→aw F r Q (env.put d (.bool true)) h)(k2:¬ b<a→aw F r Q (env.put d (.bool false)) h):aw F (⟨some d,.bin .gtr x y,none⟩::r) Q env h:=by
 subst hk
 by_cases hp:b<a<;>simp[hx,hy,hp,k1,k2]
theorem fp {k k' a b}(hx:ev env x = .int k a)(hy:ev env y = .int k' b)(hk:k=k')(k1:b≤a→aw F r Q (env.put d (.bool true)) h)(k2:¬ b≤a→aw F r Q (env.put d (.bool false)) h):aw F (⟨some d,.bin .geq x y,none⟩::r) Q env h:=by
 subst hk
 by_cases hp:b≤a<;>simp[hx,hy,hp,k1,k2]
theorem cq {k k' a b}(hx:ev env x = .int k a)(hy:ev env y = .int k' b)(hk:k=k')(k1:a=b→aw F r Q (env.put d (.bool true)) h)(k2:¬ a=b→aw F r Q (env.put d (.bool false)) h):aw F (⟨some d,.bin .eql x y,none⟩::r) Q env h:=by
 subst hk
 by_cases hp:a=b<;>simp[hx,hy,hp,k1,k2]
theorem fw {k k' a b}(hx:ev env x = .int k a)(hy:ev env y = .int k' b)(hk:k=k')(k1:¬ a=b→aw F r Q (env.put d (.bool true)) h)(k2:a=b→aw F r Q (env.put d (.bool false)) h):aw F (⟨some d,.bin .neq x y,none⟩::r) Q env h:=by
 subst hk
 by_cases hp:a=b<;>simp[hx,hy,hp,k1,k2]
theorem dp {b}(hx:ev env x = .bool b)(k:aw F r Q (env.put d (.bool !b)) h):aw F (⟨some d,.un .not x,none⟩::r) Q env h:=by
 simp[hx,k]
theorem aQ {a b s}(hx:ev env x = .int .i64 a)(hy:ev env y = .int .i64 b)(hs:a+b=s)(h1 : -9223372036854775808≤s)(h2:s≤9223372036854775807)(k:aw F r Q (env.put d (.int .i64 s)) h):aw F (⟨some d,.bin .add x y,none⟩::r) Q env h:=by
 subst hs
 have:IntKind.i64.wrap (a+b)=a+b:=by simp[IntKind.wrap,IntKind.bits,IntKind.signed];omega
 simp[hx,hy,this,k]
theorem eS {a b s}(hx:ev env x = .int .i64 a)(hy:ev env y = .int .i64 b)(hs:a-b=s)(h1 : -9223372036854775808≤s)(h2:s≤9223372036854775807)(k:aw F r Q (env.put d (.int .i64 s)) h):aw F (⟨some d,.bin .sub x y,none⟩::r) Q env h:=by
 subst hs
 have:IntKind.i64.wrap (a-b)=a-b:=by simp[IntKind.wrap,IntKind.bits,IntKind.signed];omega
 simp[hx,hy,this,k]
theorem az {n cs f}(hx:ev env x = .rd n cs f)(k:aw F r Q (env.put d (.int .i64 n)) h):aw F (⟨some d,.len 0 x,none⟩::r) Q env h:=by
 simp[hx,k]
theorem eM {id g e off n lim}(hx:ev env x = .own id g e off n lim)(k:aw F r Q (env.put d (.int .i64 n)) h):aw F (⟨some d,.len 0 x,none⟩::r) Q env h:=by
 simp[hx,k]
theorem au {id g o off s}(hx:ev env x = .ptr id g o)(hs:o+off=s)(k:aw F r Q (env.put d (.ptr id g s)) h):aw F (⟨some d,.fieldAddr off x,none⟩::r) Q env h:=by
 subst hs
 simp[hx,k]
theorem kz {cs off cs'}(hx:ev env x = .rp cs)(hl:off≤cs.length)(hs:cs.drop off=cs')(k:aw F r Q (env.put d (.rp cs')) h):aw F (⟨some d,.fieldAddr off x,none⟩::r) Q env h:=by
 subst hs
 simp[hx,hl,k]
theorem bq {id g o}(hx:ev env x = .ptr id g o)(k:aw F r Q (env.put d (.ptr id g o)) h):aw F (⟨some d,.nilck x,none⟩::r) Q env h:=by
 simp[hx,k]
theorem ar {b n ag id g o cs v}(hx:ev env x = .ptr id g o)(hg:h.get id=some (.cells g cs))(hb:b=true→g=0)(hl:o+n≤cs.length)(hv:part ag o n cs=v)(k:aw F r Q (env.put d v) h):aw F (⟨some d,.load b n ag x,none⟩::r) Q env h:=by
 subst hv
 simp only[bM,ti,bf,hx,hg]
 rw[if_pos ⟨trivial,hb,hl⟩]
 exact k
theorem aB {b n ag cs v}(hx:ev env x = .rp cs)(hl:n≤cs.length)(hv:part ag 0 n cs=v)(k:aw F r Q (env.put d v) h):aw F (⟨some d,.load b n ag x,none⟩::r) Q env h:=by
 subst hv
 simp only[bM,ti,bf,hx]
 rw[if_pos hl]
 exact k
theorem ji {e n cs f k j cs'}(hx:ev env x = .rd n cs f)(hy:ev env y = .int k j)(h0:0≤j)(h1:j<n)(hs:(cs.drop (j.toNat*e)).take e=cs')(k:aw F r Q (env.put d (.rp cs')) h):aw F (⟨some d,.indexAddr e x y,none⟩::r) Q env h:=by
 subst hs
 simp[hx,hy,h0,h1,k]
theorem bu {e id g off n lim k j}(hx:ev env x = .own id g e off n lim)(hy:ev env y = .int k j)(h0:0≤j)(h1:j<n)(k:aw F r Q (env.put d (.ptr id g ((off+j.toNat)*e))) h):aw F (⟨some d,.indexAddr e x y,none⟩::r) Q env h:=by
 simp[hx,hy,h0,h1,k]
theorem cJ {zs ps cs}(hf:fk env zs ps=some cs)(k:aw F r Q (env.put d (.agg cs)) h):aw F (⟨some d,.build zs ps,none⟩::r) Q env h:=by
 simp[hf,k]
theorem bk {e n zs ps cs}(hf:fk env zs ps=some cs)(hl:cs.length=n*e)(k:aw F r Q (env.put d (.rd n cs true)) h):aw F (⟨some d,.lit e n zs ps,none⟩::r) Q env h:=by
 simp[hf,hl,k]
theorem qu {f l vs}(ha:l.map (ev env)=vs)(hv:vs.all AV.oneCell=true)(k:aw F r Q (env.put d (.fn f vs)) h):aw F (⟨some d,.mkfn f l,none⟩::r) Q env h:=by
 subst ha
 simp only[List.all_map,Function.comp_def]at hv
 simp only[bM,FE,aT,hv,if_true,mH,bE]
 exact k
theorem aI {m f l vs}(ha:l.map (ev env)=vs)(hv:vs.all (fun v => !v.isTup)=true)(k:bH F m f vs h (fun v h'=>aw F r Q (env.put d v) h')):aw F (⟨some d,.call m f l,none⟩::r) Q env h:=by
 subst ha
 simp only[List.all_map,Function.comp_def]at hv
 simp only[bM,FH,bE]
 exact⟨hv,k⟩
theorem F3 {m l f cap vs}(hx:ev env x = .fn f cap)(ha:l.map (ev env)++cap=vs)(hv:(l.map (ev env)).all (fun v => !v.isTup)=true)(k:bH F m f vs h (fun v h'=>aw F r Q (env.put d v) h')):aw F (⟨some d,.callv m x l,none⟩::r) Q env h:=by
 subst ha
 simp only[List.all_map,Function.comp_def]at hv
 simp only[bM,vL,hx,bE,FK]
 exact⟨hv,k⟩
theorem tz {m l id vs}(hx:ev env x = .yield id)(ha:l.map (ev env)=vs)(hv:vs.all (fun v => !v.isTup)=true)(k:bH F m fU (.yield id::vs) h (fun v h'=>aw F r Q (env.put d v) h')):aw F (⟨some d,.callv m x l,none⟩::r) Q env h:=by
 subst ha
 simp only[List.all_map,Function.comp_def]at hv
 simp only[bM,vL,hx,bE,vO]
 exact⟨hv,k⟩
variable {Z:Option Nat→Bool} {K:Ex→Env→ac→Prop} {a b:gl}
theorem ay (k:K .norm env h):bg F Z .skip K env h:=k
theorem af (k:bg F Z a (dg (bg F Z b K) K) env h):bg F Z (.seq a b) K env h:=k
theorem al {i}(k:bg F Z a (bz i K) env h):bg F Z (.block i a) K env h:=k
theorem aJ (k:K .ret env h):bg F Z .ret K env h:=k
theorem aL {i}(k:K (.exit i) env h):bg F Z (.exit i) K env h:=k
theorem ae {l}(hz:Z (mZ l)=false)(k:aw F l (K .norm) env h):bg F Z (.ops l) K env h:=by
 rw[oJ,hz];exact k
theorem ak {c}(hc:ev env c = .bool true)(k:bg F Z a K env h):bg F Z (.cond c a b) K env h:=by
 simp[hc,k]
theorem ah {c}(hc:ev env c = .bool false)(k:bg F Z b K env h):bg F Z (.cond c a b) K env h:=by
 simp[hc,k]
theorem aa {k:Env→ac→Prop}(hk:k env h):dg k K .norm env h:=hk
theorem cu {k:Env→ac→Prop}(hk:K .ret env h):dg k K .ret env h:=hk
theorem aM {k:Env→ac→Prop}{i}(hk:K (.exit i) env h):dg k K (.exit i) env h:=hk
theorem aF {i}(hk:K .norm env h):bz i K .norm env h:=hk
theorem fT {i}(hk:K .ret env h):bz i K .ret env h:=hk
theorem aN {i}(hk:K .norm env h):bz i K (.exit i) env h:=by simp[hk]
theorem uL {i j}(hij:(j == i)=false)(hk:K (.exit j) env h):bz i K (.exit j) env h:=by
 have:¬ j=i:=by simpa using hij
 simp[this,hk]
theorem m5 {rs}{Q:AV→ac→Prop}{v}(hv:fh env h rs=some v)(k:Q v h):dO rs Q .norm env h:=by
 simp[hv,k]
theorem aH {rs}{Q:AV→ac→Prop}{v}(hv:fh env h rs=some v)(k:Q v h):dO rs Q .ret env h:=by
 simp[hv,k]
end
def Env.has (env:Env):List (Nat×AV)→Prop
 | []=>True
 | p::l=>env p.1=p.2∧Env.has env l
def Env.puts (env:Env):List (Nat×AV)→Env
 | []=>env
 | p::l=>(Env.puts env l).put p.1 p.2
theorem Env.put_self {env:Env}{t:Nat}{v:AV}(h:env t=v):env.put t v=env:=by
 funext i
 simp only[Env.put_apply]
 split
 ·rename_i e;rw[e,h]
 ·rfl
theorem Env.has.puts {env:Env}:∀ {l:List (Nat×AV)},env.has l→env.puts l=env
 | [],_=>rfl
 | p::l,h=>by
  simp only[Env.puts]
  rw[Env.has.puts h.2,Env.put_self h.1]
theorem Env.has.ex {env:Env}{l:List (Nat×AV)}(h:env.has l):∃ e,env=Env.puts e l:=⟨env,h.puts.symm⟩
def cw (I:Nat→Env→ac→Prop)(n:Nat)(Q:Ex→Env→ac→Prop):Ex→Env→ac→Prop
 | .norm=>fun env h=>∃ m,m<n∧I m env h
 | ex=>Q ex
theorem fA {I n Q env h}(m:Nat)(hm:m<n)(k:I m env h):cw I n Q .norm env h:=⟨m,hm,k⟩
theorem ld {I n Q env h}(k:Q .ret env h):cw I n Q .ret env h:=k
theorem aR {I n Q env h i}(k:Q (.exit i) env h):cw I n Q (.exit i) env h:=k
theorem iq {Φ:Lib}{Z:Option Nat→Bool}{c:gl}{Q:Ex→Env→ac→Prop}(I:Nat→Env→ac→Prop)(n:Nat){env:Env}{h:ac}(h0:I n env h)
  (hr:∀ n env h,I n env h→bg (a8 Φ) Z c (cw I n Q) env h):bg (a8 Φ) Z (.loop c) Q env h:=by
 rw[At]
 refine Kp I n h0 (fun n env h hi=>?_) (a8.mono Φ)
 refine cI (fun _ _ _ _ h=>h) (a8.mono Φ) c (fun x e h hh=>?_) (kP (a8.mono Φ) _ (hr n env h hi))
 cases x
 ·exact hh
 ·exact hh
 ·exact hh
theorem pb {α:Type}(f:α→List AV)(n:Nat)(hf:∀ x,(f x).length=n):∀ (l:List α) (i:Nat) (x:α),l[i]?=some x→((l.flatMap f).drop (i*n)).take n=f x
 | [],_,_,h=>by simp at h
 | a::l,0,x,h=>by
  simp at h
  subst h
  rw[List.flatMap_cons,Nat.zero_mul,List.drop_zero,List.take_left' (hf _)]
 | a::l,i+1,x,h=>by
  simp at h
  rw[List.flatMap_cons,Nat.add_mul,Nat.one_mul,Nat.add_comm,← List.drop_drop]
  rw[List.drop_left' (hf _)]
  exact pb f n hf l i x h
theorem js {α:Type}(f:α→List AV)(n:Nat)(hf:∀ x,(f x).length=n)(l:List α):(l.flatMap f).length=l.length*n:=by
 induction l with
 | nil=>simp
 | cons a l ih=>rw[List.flatMap_cons,List.length_append,ih,hf,List.length_cons,Nat.add_mul,Nat.one_mul,Nat.add_comm]
section
variable {F:bT} {r:List bF} {Q:Env→ac→Prop} {env:Env} {h:ac} {d:Nat} {x y z c:bt}
theorem iS {α:Type}{f:α→List AV}{l:List α}{a:α}{m e n:Nat}{fl:Bool}{k:IntKind}{j:Int}(hx:ev env x = .rd n (l.flatMap f) fl)(hf:∀ x,(f x).length=e)(hy:ev env y = .int k j)(hm:j=(m:Int))(ha:l[m]?=some a)(hn:n=l.length)
  (k:aw F r Q (env.put d (.rp (f a))) h):aw F (⟨some d,.indexAddr e x y,none⟩::r) Q env h:=by
 have hlt:=(List.getElem?_eq_some_iff.1 ha).1
 exact ji hx hy (by omega) (by omega) (by subst hm;simpa using pb f e hf l m a ha) k
theorem jM {b n cs}(hx:ev env x = .rp cs)(hl:cs.length=n)(k:aw F r Q (env.put d (.agg cs)) h):aw F (⟨some d,.load b n true x,none⟩::r) Q env h :=
 aB hx (by omega) (by simp[part,← hl]) k
end
end
end Go.Proofs.YtlnobeojgifojaaGreatDoor
