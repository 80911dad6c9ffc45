/- Running the abstract machine's code by rewriting. -/
import Derived.Test.YtlnobeojgifojaaGreatDoorA7
set_option linter.unusedVariables false
namespace Go.Proofs.YtlnobeojgifojaaGreatDoor
section
open Go
def ng:List bK→Option Nat
 | []=>none
 | o::_=>o.dst
def de (k:Env→ad→Prop)(Q:Ex→Env→ad→Prop):Ex→Env→ad→Prop
 | .norm=>k
 | ex=>Q ex
def bz (id:Nat)(Q:Ex→Env→ad→Prop):Ex→Env→ad→Prop
 | .exit j=>if j=id then Q .norm else Q (.exit j)
 | ex=>Q ex
@[simp] theorem Kn {k Q}:de k Q .norm=k:=rfl
@[simp] theorem KF {k Q}:de k Q .ret=Q .ret:=rfl
@[simp] theorem Ko {k Q i}:de k Q (.exit i)=Q (.exit i):=rfl
@[simp] theorem Jt {i Q}:bz i Q .norm=Q .norm:=rfl
@[simp] theorem J4 {i Q}:bz i Q .ret=Q .ret:=rfl
@[simp] theorem As {i Q j}:bz i Q (.exit j)=if j=i then Q .norm else Q (.exit j):=rfl
def sa (v:AV)(Q:Bool→Prop):Prop:=match v with
 | .bool t=>Q t
 | _=>False
@[simp] theorem JF {t Q}:sa (.bool t) Q=Q t:=rfl
def tw (v:AV)(Q:Bool→Prop)(Q':Prop):Prop:=match v with
 | .bool t=>Q t
 | .tup []=>Q'
 | _=>False
@[simp] theorem Jf {t Q Q'}:tw (.bool t) Q Q'=Q t:=rfl
@[simp] theorem JD {Q Q'}:tw (.tup []) Q Q'=Q':=rfl
@[congr] theorem H9 {v v':AV}{Q:Bool→Prop}{Q':Prop}(h:v=v'):tw v Q Q'=tw v' Q Q':=by rw[h]
def wfn (v:AV)(Y:Nat→Prop)(Q:Nat→List AV→Prop):Prop:=match v with
 | .fn f cs=>Q f cs
 | .yield id=>Y id
 | _=>False
@[simp] theorem FU {f cs Y Q}:wfn (.fn f cs) Y Q=Q f cs:=rfl
@[simp] theorem vY {id Y Q}:wfn (.yield id) Y Q=Y id:=rfl
@[congr] theorem Jg {v v':AV}{Q:Bool→Prop}(h:v=v'):sa v Q=sa v' Q:=by rw[h]
@[congr] theorem Km {v v':AV}{Y:Nat→Prop}{Q:Nat→List AV→Prop}(h:v=v'):wfn v Y Q=wfn v' Y Q:=by rw[h]
@[congr] theorem Jz {α:Type}{v v':Option α}{Q:α→Prop}(h:v=v'):fj v Q=fj v' Q:=by rw[h]
@[congr] theorem Jy {v v':Option Res}{h h':ad}{Q:AV→ad→Prop}(hh:h=h')(e:v=v'):mI h Q v=mI h' Q v':=by rw[e,hh]
def bf (F:bZ)(Z:Option Nat→Bool):gk→(Ex→Env→ad→Prop)→Env→ad→Prop
 | .skip,Q,env,h=>Q .norm env h
 | .ops l,Q,env,h=>if Z (ng l)=true then bm F (.ops l) Q env h else az F l (Q .norm) env h
 | .seq a b,Q,env,h=>bf F Z a (de (bf F Z b Q) Q) env h
 | .cond c a b,Q,env,h=>sa (ev env c) fun t=>(t=true→bf F Z a Q env h)∧(t=false→bf F Z b Q env h)
 | .block id c,Q,env,h=>bf F Z c (bz id Q) env h
 | .loop c,Q,env,h=>bm F (.loop c) Q env h
 | .rangef f ps a b,Q,env,h=>bm F (.rangef f ps a b) Q env h
 | .exit id,Q,env,h=>Q (.exit id) env h
 | .ret,Q,env,h=>Q .ret env h
theorem kT {F:bZ}(hm:jL F){Z:Option Nat→Bool}:∀ (c:gk) {Q:Ex→Env→ad→Prop} {env:Env} {h:ad},bf F Z c Q env h→bm F c Q env h
 | .skip,_,_,_,hw=>hw
 | .ops l,_,_,_,hw=>by
  unfold bf at hw
  split at hw
  ·exact hw
  ·exact .inl hw
 | .seq a b,Q,env,h,hw=>by
  unfold bf at hw
  refine cK (fun _ _ _ _ h=>h) hm a (fun x e h hh=>?_) (kT hm a hw)
  cases x
  ·exact kT hm b hh
  ·exact hh
  ·exact hh
 | .cond c a b,Q,env,h,hw=>by
  unfold bf sa at hw
  unfold bm
  split at hw
  ·rename_i t ht
   rw[ht]
   dsimp only
   split
   ·rename_i h1;exact kT hm a (hw.1 h1)
   ·rename_i h1;exact kT hm b (hw.2 (by simpa using h1))
  ·exact hw.elim
 | .block id c,Q,env,h,hw=>by
  unfold bf at hw
  refine cK (fun _ _ _ _ h=>h) hm c (fun x e h hh=>?_) (kT hm c hw)
  cases x
  ·exact hh
  ·simp only[As]at hh
   dsimp only
   split
   ·rename_i hj;rw[if_pos hj]at hh;exact hh
   ·rename_i hj;rw[if_neg hj]at hh;exact hh
  ·exact hh
 | .loop c,_,_,_,hw=>hw
 | .rangef ..,_,_,_,hw=>hw
 | .exit _,_,_,_,hw=>hw
 | .ret,_,_,_,hw=>hw
@[simp ↓] theorem Jv {F Z Q env h}:bf F Z .skip Q env h=Q .norm env h:=rfl
@[simp ↓] theorem oS {F Z Q env h l}:bf F Z (.ops l) Q env h=if Z (ng l)=true then bm F (.ops l) Q env h else az F l (Q .norm) env h:=rfl
@[simp ↓] theorem Kb {F Z Q env h a b}:bf F Z (.seq a b) Q env h=bf F Z a (de (bf F Z b Q) Q) env h:=rfl
@[simp ↓] theorem Jx {F Z Q env h c a b}:bf F Z (.cond c a b) Q env h=sa (ev env c) fun t=>(t=true→bf F Z a Q env h)∧(t=false→bf F Z b Q env h):=rfl
@[simp ↓] theorem Jb {F Z Q env h i c}:bf F Z (.block i c) Q env h=bf F Z c (bz i Q) env h:=rfl
@[simp ↓] theorem AE {F Z Q env h c}:bf F Z (.loop c) Q env h=bm F (.loop c) Q env h:=rfl
@[simp ↓] theorem H5 {F Z Q env h f ps a b}:bf F Z (.rangef f ps a b) Q env h=bm F (.rangef f ps a b) Q env h:=rfl
@[simp ↓] theorem Jw {F Z Q env h i}:bf F Z (.exit i) Q env h=Q (.exit i) env h:=rfl
@[simp ↓] theorem Kc {F Z Q env h}:bf F Z .ret Q env h=Q .ret env h:=rfl
@[simp] theorem Env.put_apply (env:Env)(t:Nat)(v:AV)(i:Nat):env.put t v i=if i=t then v else env i:=rfl
@[simp] theorem Ho (env:Env)(t:Nat):ev env (.tmp t)=env t:=rfl
@[simp] theorem lh (env:Env)(v:AV):ev env (.const v)=v:=rfl
@[simp] theorem Jm (i:Nat):kR [] i = .undef:=rfl
@[simp] theorem IS (a:AV)(l:List AV):kR (a::l) 0=a:=rfl
@[simp] theorem IT (a:AV)(l:List AV)(i:Nat):kR (a::l) (i+1)=kR l i:=rfl
@[simp] theorem Jn (a:AV)(l:List AV)(i:Nat):kR (a::l) (OfNat.ofNat (i+1))=kR l i:=rfl
@[simp] theorem sj (env:Env)(v:AV):putDst env none v=env:=rfl
@[simp] theorem bH (env:Env)(t:Nat)(v:AV):putDst env (some t) v=env.put t v:=rfl
@[simp] theorem ad.get_empty (i:Nat):ad.empty.get i=none:=rfl
theorem ad.get_set (h:ad)(i:Nat)(o:iQ)(j:Nat):(h.set i o).get j=if j=i then some o else h.get j:=rfl
theorem ad.get_set2 (h:ad)(i:Nat)(o:iQ)(j:Nat):(h.set i o).get j=if i=j then some o else h.get j:=by
 rw[ad.get_set]
 by_cases e:j=i
 ·rw[if_pos e,if_pos e.symm]
 ·rw[if_neg e,if_neg (Ne.symm e)]
@[simp] theorem ad.get_set_self (h:ad)(i:Nat)(o:iQ):(h.set i o).get i=some o:=by simp[ad.get_set]
theorem ad.get_set_ne (h:ad){i j:Nat}(o:iQ)(hn:j≠i):(h.set i o).get j=h.get j:=by simp[ad.get_set,hn]
theorem ad.get_set_old {h:ad}{i j:Nat}{o x:iQ}(hj:h.get j=some x)(hi:h.get i=none):(h.set i o).get j=some x:=by
 rw[ad.get_set_ne _ _ (fun e=>by rw[e,hi]at hj;cases hj)]
 exact hj
theorem ad.set_none {h:ad}{i j:Nat}{o:iQ}:(h.set i o).get j=none↔j≠i∧h.get j=none:=by
 rw[ad.get_set]
 split<;>simp_all
theorem ad.ne_of {h:ad}{j:Nat}{x:iQ}(hj:h.get j=some x):∀ i,h.get i=none→(j=i)=False:=fun i hi=>eq_false fun e=>by rw[e,hi]at hj;cases hj
theorem ad.ne_of2 {h:ad}{j:Nat}{x:iQ}(hj:h.get j=some x):∀ i,h.get i=none→(i=j)=False:=fun i hi=>eq_false fun e=>by rw[← e,hi]at hj;cases hj
theorem ad.Ext.refl (h:ad):h.Ext h:=fun _ _ e=>e
@[simp ↓] theorem Kz {F Q}:az F [] Q=Q:=rfl
theorem CW {F o r Q env h}:az F (o::r) Q env h=cz F o (az F r Q) env h:=rfl
@[simp ↓] theorem bO {F dst op r Q env h}:az F (⟨dst,op,none⟩::r) Q env h=wop F env h (fun v h'=>az F r Q (putDst env dst v) h') op:=rfl
@[simp ↓] theorem JA {F dst op t b r Q env h}:az F (⟨dst,op,some (t,b)⟩::r) Q env h=tw (env t) (fun c=>(c=b→wop F env h (fun v h'=>az F r Q (putDst env dst v) h') op)∧(c = !b→az F r Q (putDst env dst (.tup [])) h)) (az F r Q (putDst env dst (.tup [])) h):=by
 simp only[CW,cz,wanted]
 cases env t<;>try rfl
 ·rename_i c
  cases c<;>cases b<;>simp
 ·rename_i vs
  cases vs<;>rfl
@[simp] theorem qw {h v h' Q}:mI h Q (some (.val v h'))=Q v h':=rfl
@[simp] theorem yM {h o f Q}:mI h Q (some (.new o f))=∀ id,h.get id=none→Q (f id) (h.set id o):=rfl
@[simp] theorem Ke {h f Q}:mI h Q (some (.both f))=∀ b,Q (f b) h:=rfl
@[simp] theorem Kd {h Q}:mI h Q none=False:=rfl
theorem cW {F env h Q op}(hk:op.kind = .pure):wop F env h Q op=fj (a8 env op) (fun v=>Q v h):=by
 simp only[wop,hk,fo]
 rw[if_neg Lm,if_neg Lm]
 cases a8 env op<;>rfl
theorem mS {F env h Q op}(hk:op.kind = .read):wop F env h Q op=fj (bg env h op) (fun v=>Q v h):=by
 simp only[wop,hk,fo]
 rw[if_neg Lm,if_neg Lm]
 cases bg env h op<;>rfl
theorem sW {F env h Q op}(hk:op.kind = .new):wop F env h Q op=fj (gT env op) (fun p=>∀ id,h.get id=none→Q (p.2 id) (h.set id p.1)):=by
 simp only[wop,hk,fo]
 rw[if_neg Lm,if_neg Lm]
 cases gT env op<;>rfl
theorem oU {F env h Q op}(hk:op.kind = .eff):wop F env h Q op=mI h Q (dr env h op):=by
 simp only[wop,hk,fo]
 rw[if_neg Lm,if_neg Lm]
@[simp] theorem mR {α}{x:α}{Q}:fj (some x) Q=Q x:=rfl
@[simp] theorem Kg {α}{Q:α→Prop}:fj none Q=False:=rfl
@[simp] theorem Ky {α}{c:Prop}[Decidable c]{a:Option α}{Q}:fj (if c then a else none) Q=(c∧fj a Q):=by
 split<;>simp_all
@[simp] theorem Kx {α β}{f:α→β}{a:Option α}{Q}:fj (a.map f) Q=fj a (fun x=>Q (f x)):=by cases a<;>rfl
@[simp] theorem Kh {α β}{f:α→Option β}{a:Option α}{Q}:fj (a.bind f) Q=fj a (fun x=>fj (f x) Q):=by cases a<;>rfl
@[simp] theorem Kf {α}{f:α→Option Res}{a:Option α}{h Q}:mI h Q (a.bind f)=fj a (fun x=>mI h Q (f x)):=by cases a<;>rfl
@[simp ↓] theorem K8 {F env h Q x}:wop F env h Q (.mv x)=Q (ev env x) h:=cW rfl
@[simp ↓] theorem KA {F env h Q c a b}:wop F env h Q (.pick c a b)=sa (ev env c) fun t=>Q (if t then ev env a else ev env b) h:=by
 rw[cW rfl]
 simp only[a8]
 cases ev env c<;>rfl
@[simp ↓] theorem Kl {F env h Q z ps}:wop F env h Q (.build z ps)=fj (ft env z ps) (fun cs=>Q (.agg cs) h):=(cW rfl).trans (by simp[a8])
@[simp ↓] theorem KX {F env h Q e n z ps}:wop F env h Q (.lit e n z ps)=fj (ft env z ps) (fun cs=>cs.length=n*e∧Q (.rd n cs true) h):=(cW rfl).trans (by simp[a8])
@[simp ↓] theorem Ki {F env h Q x}:wop F env h Q (.nilck x)=fj (a8 env (.nilck x)) (fun v=>Q v h):=cW rfl
@[simp ↓] theorem xl {F env h Q o x y}:wop F env h Q (.bin o x y)=fj (xd o (ev env x) (ev env y)) (fun v=>Q v h):=cW rfl
@[simp ↓] theorem KZ {F env h Q b x y}:wop F env h Q (.eqB b x y)=fj (eqB b (ev env x) (ev env y)) (fun v=>Q v h):=cW rfl
@[simp ↓] theorem KY {F env h Q b k x y}:wop F env h Q (.eqS b k x y)=fj (eqS b k (ev env x) (ev env y)) (fun v=>Q v h):=cW rfl
@[simp ↓] theorem Je {F env h Q x}:wop F env h Q (.bytesOf x)=fj (a8 env (.bytesOf x)) (fun v=>Q v h):=cW rfl
@[simp ↓] theorem K7 {F env h Q o x}:wop F env h Q (.un o x)=fj (FX o (ev env x)) (fun v=>Q v h):=cW rfl
@[simp ↓] theorem KB {F env h Q k x}:wop F env h Q (.conv k x)=fj (a8 env (.conv k x)) (fun v=>Q v h):=cW rfl
@[simp ↓] theorem FN {F env h Q f l}:wop F env h Q (.mkfn f l)=fj (a8 env (.mkfn f l)) (fun v=>Q v h):=cW rfl
@[simp ↓] theorem oT {F env h Q e x a b c}:wop F env h Q (.slice e x a b c)=fj (a8 env (.slice e x a b c)) (fun v=>Q v h):=cW rfl
@[simp ↓] theorem H6 {F env h Q x a b}:wop F env h Q (.sliceStr x a b)=fj (a8 env (.sliceStr x a b)) (fun v=>Q v h):=cW rfl
@[simp ↓] theorem AG {F env h Q n e x a b}:wop F env h Q (.sliceA n e x a b)=fj (bg env h (.sliceA n e x a b)) (fun v=>Q v h):=mS rfl
@[simp ↓] theorem vd {F env h Q e x}:wop F env h Q (.fieldAddr e x)=fj (a8 env (.fieldAddr e x)) (fun v=>Q v h):=cW rfl
@[simp ↓] theorem Kj {F env h Q e n ag x}:wop F env h Q (.field e n ag x)=fj (a8 env (.field e n ag x)) (fun v=>Q v h):=cW rfl
@[simp ↓] theorem pE {F env h Q e x i}:wop F env h Q (.indexAddr e x i)=fj (a8 env (.indexAddr e x i)) (fun v=>Q v h):=cW rfl
@[simp ↓] theorem tu {F env h Q l e x i}:wop F env h Q (.indexAddrA l e x i)=fj (a8 env (.indexAddrA l e x i)) (fun v=>Q v h):=cW rfl
@[simp ↓] theorem AH {F env h Q l e ag x i}:wop F env h Q (.indexA l e ag x i)=fj (a8 env (.indexA l e ag x i)) (fun v=>Q v h):=cW rfl
@[simp ↓] theorem xk {F env h Q x i}:wop F env h Q (.indexStr x i)=fj (a8 env (.indexStr x i)) (fun v=>Q v h):=cW rfl
@[simp ↓] theorem Jd {F env h Q x i}:wop F env h Q (.extract x i)=fj (a8 env (.extract x i)) (fun v=>Q v h):=cW rfl
@[simp ↓] theorem JB {F env h Q l}:wop F env h Q (.mx l)=fj (ju (fun a b=>if b>a then b else a) (l.map (ev env))) (fun v=>Q v h):=cW rfl
@[simp ↓] theorem JC {F env h Q l}:wop F env h Q (.mn l)=fj (ju (fun a b=>if b<a then b else a) (l.map (ev env))) (fun v=>Q v h):=cW rfl
@[simp ↓] theorem tr {F env h Q b n ag x}:wop F env h Q (.load b n ag x)=fj (bg env h (.load b n ag x)) (fun v=>Q v h):=mS rfl
@[simp ↓] theorem tq {F env h Q kk z ok x k}:wop F env h Q (.lookup kk z ok x k)=fj (bg env h (.lookup kk z ok x k)) (fun v=>Q v h):=mS rfl
@[simp ↓] theorem CX {F env h Q x}:wop F env h Q (.strOf x)=fj (bg env h (.strOf x)) (fun v=>Q v h):=mS rfl
@[simp ↓] theorem Ca {F env h Q k x}:wop F env h Q (.len k x)=fj (bg env h (.len k x)) (fun v=>Q v h):=mS rfl
@[simp ↓] theorem C3 {F env h Q z}:wop F env h Q (.alloc z)=∀ id,h.get id=none→Q (.ptr id 0 0) (h.set id (.cells 0 z)):=(sW rfl).trans rfl
@[simp ↓] theorem H8 {F env h Q x}:wop F env h Q (.box x)=((ev env x).isVal=true∧∀ id,h.get id=none→Q (.ptr id 0 0) (h.set id (.cells 0 (ev env x).cells))):=(sW rfl).trans (by simp[gT])
@[simp ↓] theorem CY {F env h Q k}:wop F env h Q (.mkmap k)=∀ id,h.get id=none→Q (.map id) (h.set id (.map k [])):=(sW rfl).trans rfl
@[simp ↓] theorem yN {F env h Q z a b}:wop F env h Q (.mkslice z a b)=fj (gT env (.mkslice z a b)) (fun p=>∀ id,h.get id=none→Q (p.2 id) (h.set id p.1)):=sW rfl
@[simp ↓] theorem ry {F env h Q n x v}:wop F env h Q (.store n x v)=mI h Q (dr env h (.store n x v)):=oU rfl
@[simp ↓] theorem AF {F env h Q k m x v}:wop F env h Q (.update k m x v)=mI h Q (dr env h (.update k m x v)):=oU rfl
@[simp ↓] theorem kB {F env h Q e x y}:wop F env h Q (.append e x y)=mI h Q (dr env h (.append e x y)):=oU rfl
@[simp ↓] theorem Kk {F env h Q z x}:wop F env h Q (.clear z x)=mI h Q (dr env h (.clear z x)):=oU rfl
@[simp ↓] theorem FP {F env h Q e x y}:wop F env h Q (.copy e x y)=mI h Q (dr env h (.copy e x y)):=oU rfl
@[simp ↓] theorem H7 {F env h Q b x}:wop F env h Q (.eqN b x)=mI h Q (dr env h (.eqN b x)):=oU rfl
@[simp ↓] theorem FQ {F env h Q m f l}:wop F env h Q (.call m f l)=(l.all (fun x => !(ev env x).isTup)=true∧bJ F m f (l.map (ev env)) h Q):=by
 simp only[wop,DOp.kind,reduceCtorEq,if_false,if_true,gG]
 by_cases hl:l.all (fun x => !(ev env x).isTup)=true
 ·rw[if_pos hl];simp only[hl,true_and]
 ·rw[if_neg hl];exact(eq_false (fun h=>hl h.1)).symm
@[simp ↓] theorem vV {F env h Q m x l}:wop F env h Q (.callv m x l)=wfn (ev env x) (fun id=>l.all (fun x => !(ev env x).isTup)=true∧bJ F m fU (.yield id::l.map (ev env)) h Q) fun f captured=>l.all (fun x => !(ev env x).isTup)=true∧bJ F m f (l.map (ev env)++captured) h Q:=by
 simp only[wop,DOp.kind,reduceCtorEq,if_false,if_true,gG]
 cases ev env x<;>try rfl
 ·dsimp only
  by_cases hl:l.all (fun x => !(ev env x).isTup)=true
  ·rw[if_pos hl];simp only[FU,hl,true_and]
  ·rw[if_neg hl];exact(eq_false (fun h=>hl h.1)).symm
 ·dsimp only
  by_cases hl:l.all (fun x => !(ev env x).isTup)=true
  ·rw[if_pos hl];simp only[vY,hl,true_and]
  ·rw[if_neg hl];exact(eq_false (fun h=>hl h.1)).symm
@[simp ↓] theorem C0 {F env h Q e f l}:wop F env h Q (.callk e f l)=(l.all (fun x => !(ev env x).isTup)=true∧F f (l.map (ev env)) h (fun v h'=>yJ e h h'∧Q v h')):=by
 simp only[wop,DOp.kind,if_true,jh]
 by_cases hl:l.all (fun x => !(ev env x).isTup)=true
 ·rw[if_pos hl];simp only[hl,true_and]
 ·rw[if_neg hl];exact(eq_false (fun h=>hl h.1)).symm
@[simp ↓] theorem CZ {F env h Q b x}:wop F env h Q (.loadm b x)=fj (bg env h (.loadm b x)) (fun v=>Q v h):=mS rfl
attribute [simp] AV.isVal AV.oneCell AV.isTup AV.cells part a8 bg gT dr xd BT eqB FX ft putCells
def eQ (Φ:Lib)(f:Nat)(args:List AV)(v:AV):Prop:=bc Φ f args ad.empty (fun v' _=>v'=v)
theorem aW {Φ:Lib}{m f:Nat}{args:List AV}{v:AV}{h:ad}{Q:AV→ad→Prop}(hp:eQ Φ f args v)(ha:AV.frozenL args=true)(hv:v.frozen=true)(k:Q v h):bJ (bc Φ) m f args h Q :=
 .inr (.inr (.inl ⟨ha,bc.mono Φ _ _ _ _ _ (fun v' _ e=>by subst e;exact⟨hv,k⟩) hp⟩))
theorem kL {Φ:Lib}{m f:Nat}{args:List AV}{v:AV}{h:ad}{Q:AV→ad→Prop}(hm:m≤1)(hp:bc Φ f args h (fun v' h'=>v'=v∧h.Ext h'))(k:Q v h):bJ (bc Φ) m f args h Q :=
 .inr (.inl ⟨hm,bc.mono Φ _ _ _ _ _ (fun v' _ e=>by obtain⟨rfl,e⟩:=e;exact⟨e,k⟩) hp⟩)
theorem ci {Φ:Lib}{f:Nat}{args:List AV}{h:ad}{Q Q':AV→ad→Prop}(hp:bc Φ f args h Q')(k:∀ v h',Q' v h'→Q v h'):bJ (bc Φ) 0 f args h Q :=
 .inl ⟨rfl,bc.mono Φ _ _ _ _ _ k hp⟩
def dH (rs:List vP)(Q:AV→ad→Prop):Ex→Env→ad→Prop
 | .exit _=>fun _ _=>False
 | _=>fun env h=>fj (fm env h rs) (fun v=>Q v h∨∃ (S:Nat→Prop) (v':AV),FzV h S v v'∧Q v' (h.drop S))
@[simp] theorem Kw {rs Q}:dH rs Q .norm=fun env h=>fj (fm env h rs) (fun v=>Q v h∨∃ (S:Nat→Prop) (v':AV),FzV h S v v'∧Q v' (h.drop S)):=rfl
@[simp] theorem Hl {rs Q}:dH rs Q .ret=fun env h=>fj (fm env h rs) (fun v=>Q v h∨∃ (S:Nat→Prop) (v':AV),FzV h S v v'∧Q v' (h.drop S)):=rfl
theorem ba {Φ:Lib}{f:Nat}{d:bN}{args:List AV}{h:ad}{Q:AV→ad→Prop}(Z:Option Nat→Bool)(h0:(f == fU)=false)(hf:Φ f=some (.code d))(hw:bf (bc Φ) Z d.body (dH d.results Q) (kR args) h):bc Φ f args h Q:=by
 refine bc.code (by simpa using h0) hf (cK (fun _ _ _ _ h=>h) (bc.mono Φ) d.body (fun x e h hh=>?_) (kT (bc.mono Φ) _ hw))
 cases x
 ·exact⟨.inl rfl,hh⟩
 ·exact hh.elim
 ·exact⟨.inr rfl,hh⟩
end
section
open Go
section
variable {F:bZ} {r:List bK} {Q:Env→ad→Prop} {env:Env} {h:ad} {d:Nat} {x y z c:bA}
theorem ac (k:Q env h):az F [] Q env h:=k
theorem cf {op t b}(hg:env t = .bool (!b))(k:az F r Q (env.put d (.tup [])) h):az F (⟨some d,op,some (t,b)⟩::r) Q env h:=by
 simp[hg,k]
theorem yZ {op t b}(hg:env t = .tup [])(k:az F r Q (env.put d (.tup [])) h):az F (⟨some d,op,some (t,b)⟩::r) Q env h:=by
 simp[hg,k]
theorem cj {dst op t b}(hg:env t = .bool b)(k:az F (⟨dst,op,none⟩::r) Q env h):az F (⟨dst,op,some (t,b)⟩::r) Q env h:=by
 simp only[bO]at k
 simp[hg,k]
theorem au {v}(hx:ev env x=v)(k:az F r Q (env.put d v) h):az F (⟨some d,.mv x,none⟩::r) Q env h:=by
 simp[hx,k]
theorem Dh {v}(hc:ev env c = .bool true)(hx:ev env x=v)(k:az F r Q (env.put d v) h):az F (⟨some d,.pick c x y,none⟩::r) Q env h:=by
 simp[hc,hx,k]
theorem Di {v}(hc:ev env c = .bool false)(hx:ev env y=v)(k:az F r Q (env.put d v) h):az F (⟨some d,.pick c x y,none⟩::r) Q env h:=by
 simp[hc,hx,k]
theorem eU {op v}(hk:op.kind = .pure)(hv:a8 env op=some v)(k:az F r Q (env.put d v) h):az F (⟨some d,op,none⟩::r) Q env h:=by
 rw[bO,cW hk,hv];exact k
theorem gQ {v}(hx:ev env x=v)(hv:v.isVal=true)(k:∀ id,h.get id=none→az F r Q (env.put d (.ptr id 0 0)) (h.set id (.cells 0 v.cells))):az F (⟨some d,.box x,none⟩::r) Q env h:=by
 subst hx
 simp only[bO,H8,bH]
 exact⟨hv,k⟩
theorem bV {zs}(k:∀ id,h.get id=none→az F r Q (env.put d (.ptr id 0 0)) (h.set id (.cells 0 zs))):az F (⟨some d,.alloc zs,none⟩::r) Q env h:=by
 simp only[bO,C3,bH]
 exact k
theorem aA {k k' a b}(hx:ev env x = .int k a)(hy:ev env y = .int k' b)(hk:k=k')(k1:a<b→az F r Q (env.put d (.bool true)) h)(k2:¬ a<b→az F r Q (env.put d (.bool false)) h):az F (⟨some d,.bin .lss x y,none⟩::r) Q env h:=by
 subst hk
 by_cases hp:a<b<;>simp[hx,hy,hp,k1,k2]
theorem kD {k k' a b}(hx:ev env x = .int k a)(hy:ev env y = .int k' b)(hk:k=k')(k1:a≤b→az F r Q (env.put d (.bool true)) h)(k2:¬ a≤b→az F r Q (env.put d (.bool false)) h):az F (⟨some d,.bin .leq x y,none⟩::r) Q env h:=by
 subst hk
 by_cases hp:a≤b<;>simp[hx,hy,hp,k1,k2]
theorem cN {k k' a b}(hx:ev env x = .int k a)(hy:ev env y = .int k' b)(hk:k=k')(k1:b<a→az F r Q (env.put d (.bool true)) h)(k2:¬ b<a→az F r Q (env.put d (.bool false)) h):az F (⟨some d,.bin .gtr x y,none⟩::r) Q env h:=by
 subst hk
 by_cases hp:b<a<;>simp[hx,hy,hp,k1,k2]
theorem iy {k k' a b}(hx:ev env x = .int k a)(hy:ev env y = .int k' b)(hk:k=k')(k1:b≤a→az F r Q (env.put d (.bool true)) h)(k2:¬ b≤a→az F r Q (env.put d (.bool false)) h):az F (⟨some d,.bin .geq x y,none⟩::r) Q env h:=by
 subst hk
 by_cases hp:b≤a<;>simp[hx,hy,hp,k1,k2]
theorem dd {k k' a b}(hx:ev env x = .int k a)(hy:ev env y = .int k' b)(hk:k=k')(k1:a=b→az F r Q (env.put d (.bool true)) h)(k2:¬ a=b→az F r Q (env.put d (.bool false)) h):az F (⟨some d,.bin .eql x y,none⟩::r) Q env h:=by
 subst hk
 by_cases hp:a=b<;>simp[hx,hy,hp,k1,k2]
theorem eK {k k' a b}(hx:ev env x = .int k a)(hy:ev env y = .int k' b)(hk:k=k')(k1:¬ a=b→az F r Q (env.put d (.bool true)) h)(k2:a=b→az F r Q (env.put d (.bool false)) h):az F (⟨some d,.bin .neq x y,none⟩::r) Q env h:=by
 subst hk
 by_cases hp:a=b<;>simp[hx,hy,hp,k1,k2]
theorem dh {b}(hx:ev env x = .bool b)(k:az F r Q (env.put d (.bool !b)) h):az F (⟨some d,.un .not x,none⟩::r) Q env h:=by
 simp[hx,k]
theorem aT {a b s}(hx:ev env x = .int .i64 a)(hy:ev env y = .int .i64 b)(hs:a+b=s)(h1 : -9223372036854775808≤s)(h2:s≤9223372036854775807)(k:az F r Q (env.put d (.int .i64 s)) h):az F (⟨some d,.bin .add x y,none⟩::r) Q env h:=by
 subst hs
 have:IntKind.i64.wrap (a+b)=a+b:=by simp[IntKind.wrap,IntKind.bits,IntKind.signed];omega
 simp[hx,hy,this,k]
theorem jj {a b s}(hx:ev env x = .int .i64 a)(hy:ev env y = .int .i64 b)(hs:a-b=s)(h1 : -9223372036854775808≤s)(h2:s≤9223372036854775807)(k:az F r Q (env.put d (.int .i64 s)) h):az F (⟨some d,.bin .sub x y,none⟩::r) Q env h:=by
 subst hs
 have:IntKind.i64.wrap (a-b)=a-b:=by simp[IntKind.wrap,IntKind.bits,IntKind.signed];omega
 simp[hx,hy,this,k]
theorem aw {n cs f}(hx:ev env x = .rd n cs f)(k:az F r Q (env.put d (.int .i64 n)) h):az F (⟨some d,.len 0 x,none⟩::r) Q env h:=by
 simp[hx,k]
theorem eS {id g e off n lim}(hx:ev env x = .own id g e off n lim)(k:az F r Q (env.put d (.int .i64 n)) h):az F (⟨some d,.len 0 x,none⟩::r) Q env h:=by
 simp[hx,k]
theorem ar {id g o off s}(hx:ev env x = .ptr id g o)(hs:o+off=s)(k:az F r Q (env.put d (.ptr id g s)) h):az F (⟨some d,.fieldAddr off x,none⟩::r) Q env h:=by
 subst hs
 simp[hx,k]
theorem jQ {cs off cs'}(hx:ev env x = .rp cs)(hl:off≤cs.length)(hs:cs.drop off=cs')(k:az F r Q (env.put d (.rp cs')) h):az F (⟨some d,.fieldAddr off x,none⟩::r) Q env h:=by
 subst hs
 simp[hx,hl,k]
theorem br {id g o}(hx:ev env x = .ptr id g o)(k:az F r Q (env.put d (.ptr id g o)) h):az F (⟨some d,.nilck x,none⟩::r) Q env h:=by
 simp[hx,k]
theorem am {b n ag id g o cs v}(hx:ev env x = .ptr id g o)(hg:h.get id=some (.cells g cs))(hb:b=true→g=0)(hl:o+n≤cs.length)(hv:part ag o n cs=v)(k:az F r Q (env.put d v) h):az F (⟨some d,.load b n ag x,none⟩::r) Q env h:=by
 subst hv
 simp only[bO,tr,bg,hx,hg]
 rw[if_pos ⟨trivial,hb,hl⟩]
 exact k
theorem aB {b n ag cs v}(hx:ev env x = .rp cs)(hl:n≤cs.length)(hv:part ag 0 n cs=v)(k:az F r Q (env.put d v) h):az F (⟨some d,.load b n ag x,none⟩::r) Q env h:=by
 subst hv
 simp only[bO,tr,bg,hx]
 rw[if_pos hl]
 exact k
theorem mr {e n cs f k j cs'}(hx:ev env x = .rd n cs f)(hy:ev env y = .int k j)(h0:0≤j)(h1:j<n)(hs:(cs.drop (j.toNat*e)).take e=cs')(k:az F r Q (env.put d (.rp cs')) h):az F (⟨some d,.indexAddr e x y,none⟩::r) Q env h:=by
 subst hs
 simp[hx,hy,h0,h1,k]
theorem bv {e id g off n lim k j}(hx:ev env x = .own id g e off n lim)(hy:ev env y = .int k j)(h0:0≤j)(h1:j<n)(k:az F r Q (env.put d (.ptr id g ((off+j.toNat)*e))) h):az F (⟨some d,.indexAddr e x y,none⟩::r) Q env h:=by
 simp[hx,hy,h0,h1,k]
theorem cO {zs ps cs}(hf:ft env zs ps=some cs)(k:az F r Q (env.put d (.agg cs)) h):az F (⟨some d,.build zs ps,none⟩::r) Q env h:=by
 simp[hf,k]
theorem bj {e n zs ps cs}(hf:ft env zs ps=some cs)(hl:cs.length=n*e)(k:az F r Q (env.put d (.rd n cs true)) h):az F (⟨some d,.lit e n zs ps,none⟩::r) Q env h:=by
 simp[hf,hl,k]
theorem qC {f l vs}(ha:l.map (ev env)=vs)(hv:vs.all AV.oneCell=true)(k:az F r Q (env.put d (.fn f vs)) h):az F (⟨some d,.mkfn f l,none⟩::r) Q env h:=by
 subst ha
 simp only[List.all_map,Function.comp_def]at hv
 simp only[bO,FN,a8,hv,if_true,mR,bH]
 exact k
theorem aH {m f l vs}(ha:l.map (ev env)=vs)(hv:vs.all (fun v => !v.isTup)=true)(k:bJ F m f vs h (fun v h'=>az F r Q (env.put d v) h')):az F (⟨some d,.call m f l,none⟩::r) Q env h:=by
 subst ha
 simp only[List.all_map,Function.comp_def]at hv
 simp only[bO,FQ,bH]
 exact⟨hv,k⟩
theorem Gd {m l f cap vs}(hx:ev env x = .fn f cap)(ha:l.map (ev env)++cap=vs)(hv:(l.map (ev env)).all (fun v => !v.isTup)=true)(k:bJ F m f vs h (fun v h'=>az F r Q (env.put d v) h')):az F (⟨some d,.callv m x l,none⟩::r) Q env h:=by
 subst ha
 simp only[List.all_map,Function.comp_def]at hv
 simp only[bO,vV,hx,bH,FU]
 exact⟨hv,k⟩
theorem tF {m l id vs}(hx:ev env x = .yield id)(ha:l.map (ev env)=vs)(hv:vs.all (fun v => !v.isTup)=true)(k:bJ F m fU (.yield id::vs) h (fun v h'=>az F r Q (env.put d v) h')):az F (⟨some d,.callv m x l,none⟩::r) Q env h:=by
 subst ha
 simp only[List.all_map,Function.comp_def]at hv
 simp only[bO,vV,hx,bH,vY]
 exact⟨hv,k⟩
variable {Z:Option Nat→Bool} {K:Ex→Env→ad→Prop} {a b:gk}
theorem ay (k:K .norm env h):bf F Z .skip K env h:=k
theorem af (k:bf F Z a (de (bf F Z b K) K) env h):bf F Z (.seq a b) K env h:=k
theorem al {i}(k:bf F Z a (bz i K) env h):bf F Z (.block i a) K env h:=k
theorem aM (k:K .ret env h):bf F Z .ret K env h:=k
theorem aN {i}(k:K (.exit i) env h):bf F Z (.exit i) K env h:=k
theorem ae {l}(hz:Z (ng l)=false)(k:az F l (K .norm) env h):bf F Z (.ops l) K env h:=by
 rw[oS,hz];exact k
theorem ak {c}(hc:ev env c = .bool true)(k:bf F Z a K env h):bf F Z (.cond c a b) K env h:=by
 simp[hc,k]
theorem ai {c}(hc:ev env c = .bool false)(k:bf F Z b K env h):bf F Z (.cond c a b) K env h:=by
 simp[hc,k]
theorem aa {k:Env→ad→Prop}(hk:k env h):de k K .norm env h:=hk
theorem cp {k:Env→ad→Prop}(hk:K .ret env h):de k K .ret env h:=hk
theorem aO {k:Env→ad→Prop}{i}(hk:K (.exit i) env h):de k K (.exit i) env h:=hk
theorem aI {i}(hk:K .norm env h):bz i K .norm env h:=hk
theorem gH {i}(hk:K .ret env h):bz i K .ret env h:=hk
theorem aP {i}(hk:K .norm env h):bz i K (.exit i) env h:=by simp[hk]
theorem oP {i j}(hij:(j == i)=false)(hk:K (.exit j) env h):bz i K (.exit j) env h:=by
 have:¬ j=i:=by simpa using hij
 simp[this,hk]
theorem nh {rs}{Q:AV→ad→Prop}{v}(hv:fm env h rs=some v)(k:Q v h):dH rs Q .norm env h:=by
 simp[hv,k]
theorem aJ {rs}{Q:AV→ad→Prop}{v}(hv:fm env h rs=some v)(k:Q v h):dH rs Q .ret env h:=by
 simp[hv,k]
end
def Env.has (env:Env):List (Nat×AV)→Prop
 | []=>True
 | p::l=>env p.1=p.2∧Env.has env l
def Env.puts (env:Env):List (Nat×AV)→Env
 | []=>env
 | p::l=>(Env.puts env l).put p.1 p.2
theorem Env.put_self {env:Env}{t:Nat}{v:AV}(h:env t=v):env.put t v=env:=by
 funext i
 simp only[Env.put_apply]
 split
 ·rename_i e;rw[e,h]
 ·rfl
theorem Env.has.puts {env:Env}:∀ {l:List (Nat×AV)},env.has l→env.puts l=env
 | [],_=>rfl
 | p::l,h=>by
  simp only[Env.puts]
  rw[Env.has.puts h.2,Env.put_self h.1]
theorem Env.has.ex {env:Env}{l:List (Nat×AV)}(h:env.has l):∃ e,env=Env.puts e l:=⟨env,h.puts.symm⟩
def cw (I:Nat→Env→ad→Prop)(n:Nat)(Q:Ex→Env→ad→Prop):Ex→Env→ad→Prop
 | .norm=>fun env h=>∃ m,m<n∧I m env h
 | ex=>Q ex
theorem fp {I n Q env h}(m:Nat)(hm:m<n)(k:I m env h):cw I n Q .norm env h:=⟨m,hm,k⟩
theorem iX {I n Q env h}(k:Q .ret env h):cw I n Q .ret env h:=k
theorem aX {I n Q env h i}(k:Q (.exit i) env h):cw I n Q (.exit i) env h:=k
theorem gL {Φ:Lib}{Z:Option Nat→Bool}{c:gk}{Q:Ex→Env→ad→Prop}(I:Nat→Env→ad→Prop)(n:Nat){env:Env}{h:ad}(h0:I n env h)
  (hr:∀ n env h,I n env h→bf (bc Φ) Z c (cw I n Q) env h):bf (bc Φ) Z (.loop c) Q env h:=by
 rw[AE]
 refine KC I n h0 (fun n env h hi=>?_) (bc.mono Φ)
 refine cK (fun _ _ _ _ h=>h) (bc.mono Φ) c (fun x e h hh=>?_) (kT (bc.mono Φ) _ (hr n env h hi))
 cases x
 ·exact hh
 ·exact hh
 ·exact hh
theorem pn {α:Type}(f:α→List AV)(n:Nat)(hf:∀ x,(f x).length=n):∀ (l:List α) (i:Nat) (x:α),l[i]?=some x→((l.flatMap f).drop (i*n)).take n=f x
 | [],_,_,h=>by simp at h
 | a::l,0,x,h=>by
  simp at h
  subst h
  rw[List.flatMap_cons,Nat.zero_mul,List.drop_zero,List.take_left' (hf _)]
 | a::l,i+1,x,h=>by
  simp at h
  rw[List.flatMap_cons,Nat.add_mul,Nat.one_mul,Nat.add_comm,← List.drop_drop]
  rw[List.drop_left' (hf _)]
  exact pn f n hf l i x h
theorem jv {α:Type}(f:α→List AV)(n:Nat)(hf:∀ x,(f x).length=n)(l:List α):(l.flatMap f).length=l.length*n:=by
 induction l with
 | nil=>simp
 | cons a l ih=>rw[List.flatMap_cons,List.length_append,ih,hf,List.length_cons,Nat.add_mul,Nat.one_mul,Nat.add_comm]
section
variable {F:bZ} {r:List bK} {Q:Env→ad→Prop} {env:Env} {h:ad} {d:Nat} {x y z c:bA}
theorem iT {α:Type}{f:α→List AV}{l:List α}{a:α}{m e n:Nat}{fl:Bool}{k:IntKind}{j:Int}(hx:ev env x = .rd n (l.flatMap f) fl)(hf:∀ x,(f x).length=e)(hy:ev env y = .int k j)(hm:j=(m:Int))(ha:l[m]?=some a)(hn:n=l.length)
  (k:az F r Q (env.put d (.rp (f a))) h):az F (⟨some d,.indexAddr e x y,none⟩::r) Q env h:=by
 have hlt:=(List.getElem?_eq_some_iff.1 ha).1
 exact mr hx hy Ll Ll (by subst hm;simpa using pn f e hf l m a ha) k
theorem jl {b n cs}(hx:ev env x = .rp cs)(hl:cs.length=n)(k:az F r Q (env.put d (.agg cs)) h):az F (⟨some d,.load b n true x,none⟩::r) Q env h :=
 aB hx Ll (by simp[part,← hl]) k
end
end
end Go.Proofs.YtlnobeojgifojaaGreatDoor
