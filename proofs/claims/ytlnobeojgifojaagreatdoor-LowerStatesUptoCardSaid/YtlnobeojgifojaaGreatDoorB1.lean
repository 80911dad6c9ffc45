/- Running the abstract machine's code by rewriting. Single steps of the abstract machine's code, for walking a function path by path. -/
import Derived.Test.YtlnobeojgifojaaGreatDoorA7
set_option linter.unusedVariables false
namespace Go.Proofs.YtlnobeojgifojaaGreatDoor
section
open Go
def mT:List bG→Option Nat
 | []=>none
 | o::_=>o.dst
def cV (k:Env→ac→Prop)(Q:Ex→Env→ac→Prop):Ex→Env→ac→Prop
 | .norm=>k
 | ex=>Q ex
def bz (id:Nat)(Q:Ex→Env→ac→Prop):Ex→Env→ac→Prop
 | .exit j=>if j=id then Q .norm else Q (.exit j)
 | ex=>Q ex
@[simp] theorem JP {k Q}:cV k Q .norm=k:=rfl
@[simp] theorem J7 {k Q}:cV k Q .ret=Q .ret:=rfl
@[simp] theorem JQ {k Q i}:cV k Q (.exit i)=Q (.exit i):=rfl
@[simp] theorem IU {i Q}:bz i Q .norm=Q .norm:=rfl
@[simp] theorem Jw {i Q}:bz i Q .ret=Q .ret:=rfl
@[simp] theorem zY {i Q j}:bz i Q (.exit j)=if j=i then Q .norm else Q (.exit j):=rfl
def rV (v:AV)(Q:Bool→Prop):Prop:=match v with
 | .bool t=>Q t
 | _=>False
@[simp] theorem I6 {t Q}:rV (.bool t) Q=Q t:=rfl
def tc (v:AV)(Q:Bool→Prop)(Q':Prop):Prop:=match v with
 | .bool t=>Q t
 | .tup []=>Q'
 | _=>False
@[simp] theorem IF {t Q Q'}:tc (.bool t) Q Q'=Q t:=rfl
@[simp] theorem I4 {Q Q'}:tc (.tup []) Q Q'=Q':=rfl
@[congr] theorem HA {v v':AV}{Q:Bool→Prop}{Q':Prop}(h:v=v'):tc v Q Q'=tc v' Q Q':=by rw[h]
def wfn (v:AV)(Y:Nat→Prop)(Q:Nat→List AV→Prop):Prop:=match v with
 | .fn f cs=>Q f cs
 | .yield id=>Y id
 | _=>False
@[simp] theorem Fo {f cs Y Q}:wfn (.fn f cs) Y Q=Q f cs:=rfl
@[simp] theorem vH {id Y Q}:wfn (.yield id) Y Q=Y id:=rfl
@[congr] theorem IG {v v':AV}{Q:Bool→Prop}(h:v=v'):rV v Q=rV v' Q:=by rw[h]
@[congr] theorem JO {v v':AV}{Y:Nat→Prop}{Q:Nat→List AV→Prop}(h:v=v'):wfn v Y Q=wfn v' Y Q:=by rw[h]
@[congr] theorem I0 {α:Type}{v v':Option α}{Q:α→Prop}(h:v=v'):eY v Q=eY v' Q:=by rw[h]
@[congr] theorem IZ {v v':Option Res}{h h':ac}{Q:AV→ac→Prop}(hh:h=h')(e:v=v'):mt h Q v=mt h' Q v':=by rw[e,hh]
def bd (F:bY)(Z:Option Nat→Bool):gc→(Ex→Env→ac→Prop)→Env→ac→Prop
 | .skip,Q,env,h=>Q .norm env h
 | .ops l,Q,env,h=>if Z (mT l)=true then bm F (.ops l) Q env h else aw F l (Q .norm) env h
 | .seq a b,Q,env,h=>bd F Z a (cV (bd F Z b Q) Q) env h
 | .cond c a b,Q,env,h=>rV (ev env c) fun t=>(t=true→bd F Z a Q env h)∧(t=false→bd F Z b Q env h)
 | .block id c,Q,env,h=>bd F Z c (bz id Q) env h
 | .loop c,Q,env,h=>bm F (.loop c) Q env h
 | .rangef f ps a b,Q,env,h=>bm F (.rangef f ps a b) Q env h
 | .exit id,Q,env,h=>Q (.exit id) env h
 | .ret,Q,env,h=>Q .ret env h
theorem kK {F:bY}(hm:jB F){Z:Option Nat→Bool}:∀ (c:gc) {Q:Ex→Env→ac→Prop} {env:Env} {h:ac},bd F Z c Q env h→bm F c Q env h
 | .skip,_,_,_,hw=>hw
 | .ops l,_,_,_,hw=>by
  unfold bd at hw
  split at hw
  ·exact hw
  ·exact .inl hw
 | .seq a b,Q,env,h,hw=>by
  unfold bd at hw
  refine cJ (fun _ _ _ _ h=>h) hm a (fun x e h hh=>?_) (kK hm a hw)
  cases x
  ·exact kK hm b hh
  ·exact hh
  ·exact hh
 | .cond c a b,Q,env,h,hw=>by
  unfold bd rV at hw
  unfold bm
  split at hw
  ·rename_i t ht
   rw[ht]
   dsimp only
   split
   ·rename_i h1;exact kK hm a (hw.1 h1)
   ·rename_i h1;exact kK hm b (hw.2 (by simpa using h1))
  ·exact hw.elim
 | .block id c,Q,env,h,hw=>by
  unfold bd at hw
  refine cJ (fun _ _ _ _ h=>h) hm c (fun x e h hh=>?_) (kK hm c hw)
  cases x
  ·exact hh
  ·simp only[zY]at hh
   dsimp only
   split
   ·rename_i hj;rw[if_pos hj]at hh;exact hh
   ·rename_i hj;rw[if_neg hj]at hh;exact hh
  ·exact hh
 | .loop c,_,_,_,hw=>hw
 | .rangef ..,_,_,_,hw=>hw
 | .exit _,_,_,_,hw=>hw
 | .ret,_,_,_,hw=>hw
@[simp ↓] theorem IW {F Z Q env h}:bd F Z .skip Q env h=Q .norm env h:=rfl
@[simp ↓] theorem oB {F Z Q env h l}:bd F Z (.ops l) Q env h=if Z (mT l)=true then bm F (.ops l) Q env h else aw F l (Q .norm) env h:=rfl
@[simp ↓] theorem JD {F Z Q env h a b}:bd F Z (.seq a b) Q env h=bd F Z a (cV (bd F Z b Q) Q) env h:=rfl
@[simp ↓] theorem IY {F Z Q env h c a b}:bd F Z (.cond c a b) Q env h=rV (ev env c) fun t=>(t=true→bd F Z a Q env h)∧(t=false→bd F Z b Q env h):=rfl
@[simp ↓] theorem IB {F Z Q env h i c}:bd F Z (.block i c) Q env h=bd F Z c (bz i Q) env h:=rfl
@[simp ↓] theorem Ae {F Z Q env h c}:bd F Z (.loop c) Q env h=bm F (.loop c) Q env h:=rfl
@[simp ↓] theorem Hw {F Z Q env h f ps a b}:bd F Z (.rangef f ps a b) Q env h=bm F (.rangef f ps a b) Q env h:=rfl
@[simp ↓] theorem IX {F Z Q env h i}:bd F Z (.exit i) Q env h=Q (.exit i) env h:=rfl
@[simp ↓] theorem JE {F Z Q env h}:bd F Z .ret Q env h=Q .ret env h:=rfl
@[simp] theorem Env.put_apply (env:Env)(t:Nat)(v:AV)(i:Nat):env.put t v i=if i=t then v else env i:=rfl
@[simp] theorem GR (env:Env)(t:Nat):ev env (.tmp t)=env t:=rfl
@[simp] theorem kV (env:Env)(v:AV):ev env (.const v)=v:=rfl
@[simp] theorem IM (i:Nat):kI [] i = .undef:=rfl
@[simp] theorem If (a:AV)(l:List AV):kI (a::l) 0=a:=rfl
@[simp] theorem Ig (a:AV)(l:List AV)(i:Nat):kI (a::l) (i+1)=kI l i:=rfl
@[simp] theorem IN (a:AV)(l:List AV)(i:Nat):kI (a::l) (OfNat.ofNat (i+1))=kI l i:=rfl
@[simp] theorem r7 (env:Env)(v:AV):putDst env none v=env:=rfl
@[simp] theorem bF (env:Env)(t:Nat)(v:AV):putDst env (some t) v=env.put t v:=rfl
@[simp] theorem ac.get_empty (i:Nat):ac.empty.get i=none:=rfl
theorem ac.get_set (h:ac)(i:Nat)(o:iJ)(j:Nat):(h.set i o).get j=if j=i then some o else h.get j:=rfl
theorem ac.get_set2 (h:ac)(i:Nat)(o:iJ)(j:Nat):(h.set i o).get j=if i=j then some o else h.get j:=by
 rw[ac.get_set]
 by_cases e:j=i
 ·rw[if_pos e,if_pos e.symm]
 ·rw[if_neg e,if_neg (Ne.symm e)]
@[simp] theorem ac.get_set_self (h:ac)(i:Nat)(o:iJ):(h.set i o).get i=some o:=by simp[ac.get_set]
theorem ac.get_set_ne (h:ac){i j:Nat}(o:iJ)(hn:j≠i):(h.set i o).get j=h.get j:=by simp[ac.get_set,hn]
theorem ac.get_set_old {h:ac}{i j:Nat}{o x:iJ}(hj:h.get j=some x)(hi:h.get i=none):(h.set i o).get j=some x:=by
 rw[ac.get_set_ne _ _ (fun e=>by rw[e,hi]at hj;cases hj)]
 exact hj
theorem ac.set_none {h:ac}{i j:Nat}{o:iJ}:(h.set i o).get j=none↔j≠i∧h.get j=none:=by
 rw[ac.get_set]
 split<;>simp_all
theorem ac.ne_of {h:ac}{j:Nat}{x:iJ}(hj:h.get j=some x):∀ i,h.get i=none→(j=i)=False:=fun i hi=>eq_false fun e=>by rw[e,hi]at hj;cases hj
theorem ac.ne_of2 {h:ac}{j:Nat}{x:iJ}(hj:h.get j=some x):∀ i,h.get i=none→(i=j)=False:=fun i hi=>eq_false fun e=>by rw[← e,hi]at hj;cases hj
theorem ac.Ext.refl (h:ac):h.Ext h:=fun _ _ e=>e
@[simp ↓] theorem J1 {F Q}:aw F [] Q=Q:=rfl
theorem Cq {F o r Q env h}:aw F (o::r) Q env h=cz F o (aw F r Q) env h:=rfl
@[simp ↓] theorem bM {F dst op r Q env h}:aw F (⟨dst,op,none⟩::r) Q env h=wop F env h (fun v h'=>aw F r Q (putDst env dst v) h') op:=rfl
@[simp ↓] theorem I1 {F dst op t b r Q env h}:aw F (⟨dst,op,some (t,b)⟩::r) Q env h=tc (env t) (fun c=>(c=b→wop F env h (fun v h'=>aw F r Q (putDst env dst v) h') op)∧(c = !b→aw F r Q (putDst env dst (.tup [])) h)) (aw F r Q (putDst env dst (.tup [])) h):=by
 simp only[Cq,cz,wanted]
 cases env t<;>try rfl
 ·rename_i c
  cases c<;>cases b<;>simp
 ·rename_i vs
  cases vs<;>rfl
@[simp] theorem qi {h v h' Q}:mt h Q (some (.val v h'))=Q v h':=rfl
@[simp] theorem yn {h o f Q}:mt h Q (some (.new o f))=∀ id,h.get id=none→Q (f id) (h.set id o):=rfl
@[simp] theorem JG {h f Q}:mt h Q (some (.both f))=∀ b,Q (f b) h:=rfl
@[simp] theorem JF {h Q}:mt h Q none=False:=rfl
theorem cR {F env h Q op}(hk:op.kind = .pure):wop F env h Q op=eY (aU env op) (fun v=>Q v h):=by
 simp only[wop,hk,fd]
 rw[if_neg (by simp),if_neg (by simp)]
 cases aU env op<;>rfl
theorem mD {F env h Q op}(hk:op.kind = .read):wop F env h Q op=eY (bg env h op) (fun v=>Q v h):=by
 simp only[wop,hk,fd]
 rw[if_neg (by simp),if_neg (by simp)]
 cases bg env h op<;>rfl
theorem sM {F env h Q op}(hk:op.kind = .new):wop F env h Q op=eY (gL env op) (fun p=>∀ id,h.get id=none→Q (p.2 id) (h.set id p.1)):=by
 simp only[wop,hk,fd]
 rw[if_neg (by simp),if_neg (by simp)]
 cases gL env op<;>rfl
theorem oD {F env h Q op}(hk:op.kind = .eff):wop F env h Q op=mt h Q (de env h op):=by
 simp only[wop,hk,fd]
 rw[if_neg (by simp),if_neg (by simp)]
@[simp] theorem mC {α}{x:α}{Q}:eY (some x) Q=Q x:=rfl
@[simp] theorem JI {α}{Q:α→Prop}:eY none Q=False:=rfl
@[simp] theorem J0 {α}{c:Prop}[Decidable c]{a:Option α}{Q}:eY (if c then a else none) Q=(c∧eY a Q):=by
 split<;>simp_all
@[simp] theorem JZ {α β}{f:α→β}{a:Option α}{Q}:eY (a.map f) Q=eY a (fun x=>Q (f x)):=by cases a<;>rfl
@[simp] theorem JJ {α β}{f:α→Option β}{a:Option α}{Q}:eY (a.bind f) Q=eY a (fun x=>eY (f x) Q):=by cases a<;>rfl
@[simp] theorem JH {α}{f:α→Option Res}{a:Option α}{h Q}:mt h Q (a.bind f)=eY a (fun x=>mt h Q (f x)):=by cases a<;>rfl
@[simp ↓] theorem KC {F env h Q x}:wop F env h Q (.mv x)=Q (ev env x) h:=cR rfl
@[simp ↓] theorem J2 {F env h Q c a b}:wop F env h Q (.pick c a b)=rV (ev env c) fun t=>Q (if t then ev env a else ev env b) h:=by
 rw[cR rfl]
 simp only[aU]
 cases ev env c<;>rfl
@[simp ↓] theorem JN {F env h Q z ps}:wop F env h Q (.build z ps)=eY (ff env z ps) (fun cs=>Q (.agg cs) h):=(cR rfl).trans (by simp[aU])
@[simp ↓] theorem Kr {F env h Q e n z ps}:wop F env h Q (.lit e n z ps)=eY (ff env z ps) (fun cs=>cs.length=n*e∧Q (.rd n cs true) h):=(cR rfl).trans (by simp[aU])
@[simp ↓] theorem JK {F env h Q x}:wop F env h Q (.nilck x)=eY (aU env (.nilck x)) (fun v=>Q v h):=cR rfl
@[simp ↓] theorem w0 {F env h Q o x y}:wop F env h Q (.bin o x y)=eY (wT o (ev env x) (ev env y)) (fun v=>Q v h):=cR rfl
@[simp ↓] theorem Kt {F env h Q b x y}:wop F env h Q (.eqB b x y)=eY (eqB b (ev env x) (ev env y)) (fun v=>Q v h):=cR rfl
@[simp ↓] theorem Ks {F env h Q b k x y}:wop F env h Q (.eqS b k x y)=eY (eqS b k (ev env x) (ev env y)) (fun v=>Q v h):=cR rfl
@[simp ↓] theorem IE {F env h Q x}:wop F env h Q (.bytesOf x)=eY (aU env (.bytesOf x)) (fun v=>Q v h):=cR rfl
@[simp ↓] theorem KB {F env h Q o x}:wop F env h Q (.un o x)=eY (Fr o (ev env x)) (fun v=>Q v h):=cR rfl
@[simp ↓] theorem J3 {F env h Q k x}:wop F env h Q (.conv k x)=eY (aU env (.conv k x)) (fun v=>Q v h):=cR rfl
@[simp ↓] theorem Fi {F env h Q f l}:wop F env h Q (.mkfn f l)=eY (aU env (.mkfn f l)) (fun v=>Q v h):=cR rfl
@[simp ↓] theorem oC {F env h Q e x a b c}:wop F env h Q (.slice e x a b c)=eY (aU env (.slice e x a b c)) (fun v=>Q v h):=cR rfl
@[simp ↓] theorem Hx {F env h Q x a b}:wop F env h Q (.sliceStr x a b)=eY (aU env (.sliceStr x a b)) (fun v=>Q v h):=cR rfl
@[simp ↓] theorem Ag {F env h Q n e x a b}:wop F env h Q (.sliceA n e x a b)=eY (bg env h (.sliceA n e x a b)) (fun v=>Q v h):=mD rfl
@[simp ↓] theorem uR {F env h Q e x}:wop F env h Q (.fieldAddr e x)=eY (aU env (.fieldAddr e x)) (fun v=>Q v h):=cR rfl
@[simp ↓] theorem JL {F env h Q e n ag x}:wop F env h Q (.field e n ag x)=eY (aU env (.field e n ag x)) (fun v=>Q v h):=cR rfl
@[simp ↓] theorem pf {F env h Q e x i}:wop F env h Q (.indexAddr e x i)=eY (aU env (.indexAddr e x i)) (fun v=>Q v h):=cR rfl
@[simp ↓] theorem s9 {F env h Q l e x i}:wop F env h Q (.indexAddrA l e x i)=eY (aU env (.indexAddrA l e x i)) (fun v=>Q v h):=cR rfl
@[simp ↓] theorem Ah {F env h Q l e ag x i}:wop F env h Q (.indexA l e ag x i)=eY (aU env (.indexA l e ag x i)) (fun v=>Q v h):=cR rfl
@[simp ↓] theorem wZ {F env h Q x i}:wop F env h Q (.indexStr x i)=eY (aU env (.indexStr x i)) (fun v=>Q v h):=cR rfl
@[simp ↓] theorem ID {F env h Q x i}:wop F env h Q (.extract x i)=eY (aU env (.extract x i)) (fun v=>Q v h):=cR rfl
@[simp ↓] theorem I2 {F env h Q l}:wop F env h Q (.mx l)=eY (jn (fun a b=>if b>a then b else a) (l.map (ev env))) (fun v=>Q v h):=cR rfl
@[simp ↓] theorem I3 {F env h Q l}:wop F env h Q (.mn l)=eY (jn (fun a b=>if b<a then b else a) (l.map (ev env))) (fun v=>Q v h):=cR rfl
@[simp ↓] theorem s8 {F env h Q b n ag x}:wop F env h Q (.load b n ag x)=eY (bg env h (.load b n ag x)) (fun v=>Q v h):=mD rfl
@[simp ↓] theorem s7 {F env h Q kk z ok x k}:wop F env h Q (.lookup kk z ok x k)=eY (bg env h (.lookup kk z ok x k)) (fun v=>Q v h):=mD rfl
@[simp ↓] theorem Cr {F env h Q x}:wop F env h Q (.strOf x)=eY (bg env h (.strOf x)) (fun v=>Q v h):=mD rfl
@[simp ↓] theorem By {F env h Q k x}:wop F env h Q (.len k x)=eY (bg env h (.len k x)) (fun v=>Q v h):=mD rfl
@[simp ↓] theorem Cv {F env h Q z}:wop F env h Q (.alloc z)=∀ id,h.get id=none→Q (.ptr id 0 0) (h.set id (.cells 0 z)):=(sM rfl).trans rfl
@[simp ↓] theorem Hz {F env h Q x}:wop F env h Q (.box x)=((ev env x).isVal=true∧∀ id,h.get id=none→Q (.ptr id 0 0) (h.set id (.cells 0 (ev env x).cells))):=(sM rfl).trans (by simp[gL])
@[simp ↓] theorem Cs {F env h Q k}:wop F env h Q (.mkmap k)=∀ id,h.get id=none→Q (.map id) (h.set id (.map k [])):=(sM rfl).trans rfl
@[simp ↓] theorem yo {F env h Q z a b}:wop F env h Q (.mkslice z a b)=eY (gL env (.mkslice z a b)) (fun p=>∀ id,h.get id=none→Q (p.2 id) (h.set id p.1)):=sM rfl
@[simp ↓] theorem ri {F env h Q n x v}:wop F env h Q (.store n x v)=mt h Q (de env h (.store n x v)):=oD rfl
@[simp ↓] theorem Af {F env h Q k m x v}:wop F env h Q (.update k m x v)=mt h Q (de env h (.update k m x v)):=oD rfl
@[simp ↓] theorem kj {F env h Q e x y}:wop F env h Q (.append e x y)=mt h Q (de env h (.append e x y)):=oD rfl
@[simp ↓] theorem JM {F env h Q z x}:wop F env h Q (.clear z x)=mt h Q (de env h (.clear z x)):=oD rfl
@[simp ↓] theorem Fk {F env h Q e x y}:wop F env h Q (.copy e x y)=mt h Q (de env h (.copy e x y)):=oD rfl
@[simp ↓] theorem Hy {F env h Q b x}:wop F env h Q (.eqN b x)=mt h Q (de env h (.eqN b x)):=oD rfl
@[simp ↓] theorem Fl {F env h Q m f l}:wop F env h Q (.call m f l)=(l.all (fun x => !(ev env x).isTup)=true∧bH F m f (l.map (ev env)) h Q):=by
 simp only[wop,DOp.kind,reduceCtorEq,if_false,if_true,gC]
 by_cases hl:l.all (fun x => !(ev env x).isTup)=true
 ·rw[if_pos hl];simp only[hl,true_and]
 ·rw[if_neg hl];exact(eq_false (fun h=>hl h.1)).symm
@[simp ↓] theorem vF {F env h Q m x l}:wop F env h Q (.callv m x l)=wfn (ev env x) (fun id=>l.all (fun x => !(ev env x).isTup)=true∧bH F m fP (.yield id::l.map (ev env)) h Q) fun f captured=>l.all (fun x => !(ev env x).isTup)=true∧bH F m f (l.map (ev env)++captured) h Q:=by
 simp only[wop,DOp.kind,reduceCtorEq,if_false,if_true,gC]
 cases ev env x<;>try rfl
 ·dsimp only
  by_cases hl:l.all (fun x => !(ev env x).isTup)=true
  ·rw[if_pos hl];simp only[Fo,hl,true_and]
  ·rw[if_neg hl];exact(eq_false (fun h=>hl h.1)).symm
 ·dsimp only
  by_cases hl:l.all (fun x => !(ev env x).isTup)=true
  ·rw[if_pos hl];simp only[vH,hl,true_and]
  ·rw[if_neg hl];exact(eq_false (fun h=>hl h.1)).symm
@[simp ↓] theorem Cu {F env h Q e f l}:wop F env h Q (.callk e f l)=(l.all (fun x => !(ev env x).isTup)=true∧F f (l.map (ev env)) h (fun v h'=>yk e h h'∧Q v h')):=by
 simp only[wop,DOp.kind,if_true,jd]
 by_cases hl:l.all (fun x => !(ev env x).isTup)=true
 ·rw[if_pos hl];simp only[hl,true_and]
 ·rw[if_neg hl];exact(eq_false (fun h=>hl h.1)).symm
@[simp ↓] theorem Ct {F env h Q b x}:wop F env h Q (.loadm b x)=eY (bg env h (.loadm b x)) (fun v=>Q v h):=mD rfl
attribute [simp] AV.isVal AV.oneCell AV.isTup AV.cells part aU bg gL de wT Bj eqB Fr ff putCells
def eV (Φ:Lib)(f:Nat)(args:List AV)(v:AV):Prop:=a8 Φ f args ac.empty (fun v' _=>v'=v)
theorem aX {Φ:Lib}{m f:Nat}{args:List AV}{v:AV}{h:ac}{Q:AV→ac→Prop}(hp:eV Φ f args v)(ha:AV.frozenL args=true)(hv:v.frozen=true)(k:Q v h):bH (a8 Φ) m f args h Q :=
 .inr (.inr (.inl ⟨ha,a8.mono Φ _ _ _ _ _ (fun v' _ e=>by subst e;exact⟨hv,k⟩) hp⟩))
theorem kD {Φ:Lib}{m f:Nat}{args:List AV}{v:AV}{h:ac}{Q:AV→ac→Prop}(hm:m≤1)(hp:a8 Φ f args h (fun v' h'=>v'=v∧h.Ext h'))(k:Q v h):bH (a8 Φ) m f args h Q :=
 .inr (.inl ⟨hm,a8.mono Φ _ _ _ _ _ (fun v' _ e=>by obtain⟨rfl,e⟩:=e;exact⟨e,k⟩) hp⟩)
theorem ce {Φ:Lib}{f:Nat}{args:List AV}{h:ac}{Q Q':AV→ac→Prop}(hp:a8 Φ f args h Q')(k:∀ v h',Q' v h'→Q v h'):bH (a8 Φ) 0 f args h Q :=
 .inl ⟨rfl,a8.mono Φ _ _ _ _ _ k hp⟩
def dF (rs:List vB)(Q:AV→ac→Prop):Ex→Env→ac→Prop
 | .exit _=>fun _ _=>False
 | _=>fun env h=>eY (eZ env h rs) (fun v=>Q v h∨∃ (S:Nat→Prop) (v':AV),FzV h S v v'∧Q v' (h.drop S))
@[simp] theorem JY {rs Q}:dF rs Q .norm=fun env h=>eY (eZ env h rs) (fun v=>Q v h∨∃ (S:Nat→Prop) (v':AV),FzV h S v v'∧Q v' (h.drop S)):=rfl
@[simp] theorem GO {rs Q}:dF rs Q .ret=fun env h=>eY (eZ env h rs) (fun v=>Q v h∨∃ (S:Nat→Prop) (v':AV),FzV h S v v'∧Q v' (h.drop S)):=rfl
theorem aY {Φ:Lib}{f:Nat}{d:bL}{args:List AV}{h:ac}{Q:AV→ac→Prop}(Z:Option Nat→Bool)(h0:(f == fP)=false)(hf:Φ f=some (.code d))(hw:bd (a8 Φ) Z d.body (dF d.results Q) (kI args) h):a8 Φ f args h Q:=by
 refine a8.code (by simpa using h0) hf (cJ (fun _ _ _ _ h=>h) (a8.mono Φ) d.body (fun x e h hh=>?_) (kK (a8.mono Φ) _ hw))
 cases x
 ·exact⟨.inl rfl,hh⟩
 ·exact hh.elim
 ·exact⟨.inr rfl,hh⟩
end
section
open Go
section
variable {F:bY} {r:List bG} {Q:Env→ac→Prop} {env:Env} {h:ac} {d:Nat} {x y z c:bt}
theorem ad (k:Q env h):aw F [] Q env h:=k
theorem cr {op t b}(hg:env t = .bool (!b))(k:aw F r Q (env.put d (.tup [])) h):aw F (⟨some d,op,some (t,b)⟩::r) Q env h:=by
 simp[hg,k]
theorem tj {op t b}(hg:env t = .tup [])(k:aw F r Q (env.put d (.tup [])) h):aw F (⟨some d,op,some (t,b)⟩::r) Q env h:=by
 simp[hg,k]
theorem bP {dst op t b}(hg:env t = .bool b)(k:aw F (⟨dst,op,none⟩::r) Q env h):aw F (⟨dst,op,some (t,b)⟩::r) Q env h:=by
 simp only[bM]at k
 simp[hg,k]
theorem ar {v}(hx:ev env x=v)(k:aw F r Q (env.put d v) h):aw F (⟨some d,.mv x,none⟩::r) Q env h:=by
 simp[hx,k]
theorem CI {v}(hc:ev env c = .bool true)(hx:ev env x=v)(k:aw F r Q (env.put d v) h):aw F (⟨some d,.pick c x y,none⟩::r) Q env h:=by
 simp[hc,hx,k]
theorem CJ {v}(hc:ev env c = .bool false)(hx:ev env y=v)(k:aw F r Q (env.put d v) h):aw F (⟨some d,.pick c x y,none⟩::r) Q env h:=by
 simp[hc,hx,k]
theorem eH {op v}(hk:op.kind = .pure)(hv:aU env op=some v)(k:aw F r Q (env.put d v) h):aw F (⟨some d,op,none⟩::r) Q env h:=by
 rw[bM,cR hk,hv];exact k
theorem iT {v}(hx:ev env x=v)(hv:v.isVal=true)(k:∀ id,h.get id=none→aw F r Q (env.put d (.ptr id 0 0)) (h.set id (.cells 0 v.cells))):aw F (⟨some d,.box x,none⟩::r) Q env h:=by
 subst hx
 simp only[bM,Hz,bF]
 exact⟨hv,k⟩
theorem cd {zs}(k:∀ id,h.get id=none→aw F r Q (env.put d (.ptr id 0 0)) (h.set id (.cells 0 zs))):aw F (⟨some d,.alloc zs,none⟩::r) Q env h:=by
 simp only[bM,Cv,bF]
 exact k
theorem aA {k k' a b}(hx:ev env x = .int k a)(hy:ev env y = .int k' b)(hk:k=k')(k1:a<b→aw F r Q (env.put d (.bool true)) h)(k2:¬ a<b→aw F r Q (env.put d (.bool false)) h):aw F (⟨some d,.bin .lss x y,none⟩::r) Q env h:=by
 subst hk
 by_cases hp:a<b<;>simp[hx,hy,hp,k1,k2]
theorem iS {k k' a b}(hx:ev env x = .int k a)(hy:ev env y = .int k' b)(hk:k=k')(k1:a≤b→aw F r Q (env.put d (.bool true)) h)(k2:¬ a≤b→aw F r Q (env.put d (.bool false)) h):aw F (⟨some d,.bin .leq x y,none⟩::r) Q env h:=by
 subst hk
 by_cases hp:a≤b<;>simp[hx,hy,hp,k1,k2]
theorem cY {k k' a b}(hx:ev env x = .int k a)(hy:ev env y = .int k' b)(hk:k=k')(k1:b<a→aw F r Q (env.put d (.bool true)) h)(k2:¬ b<a→aw F r Q (env.put d (.bool false)) h):aw F (⟨some d,.bin .gtr x y,none⟩::r) Q env h:=by
 subst hk
 by_cases hp:b<a<;>simp[hx,hy,hp,k1,k2]
theorem eK {k k' a b}(hx:ev env x = .int k a)(hy:ev env y = .int k' b)(hk:k=k')(k1:b≤a→aw F r Q (env.put d (.bool true)) h)(k2:¬ b≤a→aw F r Q (env.put d (.bool false)) h):aw F (⟨some d,.bin .geq x y,none⟩::r) Q env h:=by
 subst hk
 by_cases hp:b≤a<;>simp[hx,hy,hp,k1,k2]
theorem cn {k k' a b}(hx:ev env x = .int k a)(hy:ev env y = .int k' b)(hk:k=k')(k1:a=b→aw F r Q (env.put d (.bool true)) h)(k2:¬ a=b→aw F r Q (env.put d (.bool false)) h):aw F (⟨some d,.bin .eql x y,none⟩::r) Q env h:=by
 subst hk
 by_cases hp:a=b<;>simp[hx,hy,hp,k1,k2]
theorem fq {k k' a b}(hx:ev env x = .int k a)(hy:ev env y = .int k' b)(hk:k=k')(k1:¬ a=b→aw F r Q (env.put d (.bool true)) h)(k2:a=b→aw F r Q (env.put d (.bool false)) h):aw F (⟨some d,.bin .neq x y,none⟩::r) Q env h:=by
 subst hk
 by_cases hp:a=b<;>simp[hx,hy,hp,k1,k2]
theorem dq {b}(hx:ev env x = .bool b)(k:aw F r Q (env.put d (.bool !b)) h):aw F (⟨some d,.un .not x,none⟩::r) Q env h:=by
 simp[hx,k]
theorem aQ {a b s}(hx:ev env x = .int .i64 a)(hy:ev env y = .int .i64 b)(hs:a+b=s)(h1 : -9223372036854775808≤s)(h2:s≤9223372036854775807)(k:aw F r Q (env.put d (.int .i64 s)) h):aw F (⟨some d,.bin .add x y,none⟩::r) Q env h:=by
 subst hs
 have:IntKind.i64.wrap (a+b)=a+b:=by simp[IntKind.wrap,IntKind.bits,IntKind.signed];omega
 simp[hx,hy,this,k]
theorem eJ {a b s}(hx:ev env x = .int .i64 a)(hy:ev env y = .int .i64 b)(hs:a-b=s)(h1 : -9223372036854775808≤s)(h2:s≤9223372036854775807)(k:aw F r Q (env.put d (.int .i64 s)) h):aw F (⟨some d,.bin .sub x y,none⟩::r) Q env h:=by
 subst hs
 have:IntKind.i64.wrap (a-b)=a-b:=by simp[IntKind.wrap,IntKind.bits,IntKind.signed];omega
 simp[hx,hy,this,k]
theorem ay {n cs f}(hx:ev env x = .rd n cs f)(k:aw F r Q (env.put d (.int .i64 n)) h):aw F (⟨some d,.len 0 x,none⟩::r) Q env h:=by
 simp[hx,k]
theorem cX {id g e off n lim}(hx:ev env x = .own id g e off n lim)(k:aw F r Q (env.put d (.int .i64 n)) h):aw F (⟨some d,.len 0 x,none⟩::r) Q env h:=by
 simp[hx,k]
theorem au {id g o off s}(hx:ev env x = .ptr id g o)(hs:o+off=s)(k:aw F r Q (env.put d (.ptr id g s)) h):aw F (⟨some d,.fieldAddr off x,none⟩::r) Q env h:=by
 subst hs
 simp[hx,k]
theorem kp {cs off cs'}(hx:ev env x = .rp cs)(hl:off≤cs.length)(hs:cs.drop off=cs')(k:aw F r Q (env.put d (.rp cs')) h):aw F (⟨some d,.fieldAddr off x,none⟩::r) Q env h:=by
 subst hs
 simp[hx,hl,k]
theorem br {id g o}(hx:ev env x = .ptr id g o)(k:aw F r Q (env.put d (.ptr id g o)) h):aw F (⟨some d,.nilck x,none⟩::r) Q env h:=by
 simp[hx,k]
theorem aq {b n ag id g o cs v}(hx:ev env x = .ptr id g o)(hg:h.get id=some (.cells g cs))(hb:b=true→g=0)(hl:o+n≤cs.length)(hv:part ag o n cs=v)(k:aw F r Q (env.put d v) h):aw F (⟨some d,.load b n ag x,none⟩::r) Q env h:=by
 subst hv
 simp only[bM,s8,bg,hx,hg]
 rw[if_pos ⟨trivial,hb,hl⟩]
 exact k
theorem aB {b n ag cs v}(hx:ev env x = .rp cs)(hl:n≤cs.length)(hv:part ag 0 n cs=v)(k:aw F r Q (env.put d v) h):aw F (⟨some d,.load b n ag x,none⟩::r) Q env h:=by
 subst hv
 simp only[bM,s8,bg,hx]
 rw[if_pos hl]
 exact k
theorem jg {e n cs f k j cs'}(hx:ev env x = .rd n cs f)(hy:ev env y = .int k j)(h0:0≤j)(h1:j<n)(hs:(cs.drop (j.toNat*e)).take e=cs')(k:aw F r Q (env.put d (.rp cs')) h):aw F (⟨some d,.indexAddr e x y,none⟩::r) Q env h:=by
 subst hs
 simp[hx,hy,h0,h1,k]
theorem bn {e id g off n lim k j}(hx:ev env x = .own id g e off n lim)(hy:ev env y = .int k j)(h0:0≤j)(h1:j<n)(k:aw F r Q (env.put d (.ptr id g ((off+j.toNat)*e))) h):aw F (⟨some d,.indexAddr e x y,none⟩::r) Q env h:=by
 simp[hx,hy,h0,h1,k]
theorem cL {zs ps cs}(hf:ff env zs ps=some cs)(k:aw F r Q (env.put d (.agg cs)) h):aw F (⟨some d,.build zs ps,none⟩::r) Q env h:=by
 simp[hf,k]
theorem bk {e n zs ps cs}(hf:ff env zs ps=some cs)(hl:cs.length=n*e)(k:aw F r Q (env.put d (.rd n cs true)) h):aw F (⟨some d,.lit e n zs ps,none⟩::r) Q env h:=by
 simp[hf,hl,k]
theorem qq {f l vs}(ha:l.map (ev env)=vs)(hv:vs.all AV.oneCell=true)(k:aw F r Q (env.put d (.fn f vs)) h):aw F (⟨some d,.mkfn f l,none⟩::r) Q env h:=by
 subst ha
 simp only[List.all_map,Function.comp_def]at hv
 simp only[bM,Fi,aU,hv,if_true,mC,bF]
 exact k
theorem aI {m f l vs}(ha:l.map (ev env)=vs)(hv:vs.all (fun v => !v.isTup)=true)(k:bH F m f vs h (fun v h'=>aw F r Q (env.put d v) h')):aw F (⟨some d,.call m f l,none⟩::r) Q env h:=by
 subst ha
 simp only[List.all_map,Function.comp_def]at hv
 simp only[bM,Fl,bF]
 exact⟨hv,k⟩
theorem FH {m l f cap vs}(hx:ev env x = .fn f cap)(ha:l.map (ev env)++cap=vs)(hv:(l.map (ev env)).all (fun v => !v.isTup)=true)(k:bH F m f vs h (fun v h'=>aw F r Q (env.put d v) h')):aw F (⟨some d,.callv m x l,none⟩::r) Q env h:=by
 subst ha
 simp only[List.all_map,Function.comp_def]at hv
 simp only[bM,vF,hx,bF,Fo]
 exact⟨hv,k⟩
theorem tp {m l id vs}(hx:ev env x = .yield id)(ha:l.map (ev env)=vs)(hv:vs.all (fun v => !v.isTup)=true)(k:bH F m fP (.yield id::vs) h (fun v h'=>aw F r Q (env.put d v) h')):aw F (⟨some d,.callv m x l,none⟩::r) Q env h:=by
 subst ha
 simp only[List.all_map,Function.comp_def]at hv
 simp only[bM,vF,hx,bF,vH]
 exact⟨hv,k⟩
variable {Z:Option Nat→Bool} {K:Ex→Env→ac→Prop} {a b:gc}
theorem az (k:K .norm env h):bd F Z .skip K env h:=k
theorem af (k:bd F Z a (cV (bd F Z b K) K) env h):bd F Z (.seq a b) K env h:=k
theorem al {i}(k:bd F Z a (bz i K) env h):bd F Z (.block i a) K env h:=k
theorem aM (k:K .ret env h):bd F Z .ret K env h:=k
theorem aJ {i}(k:K (.exit i) env h):bd F Z (.exit i) K env h:=k
theorem ae {l}(hz:Z (mT l)=false)(k:aw F l (K .norm) env h):bd F Z (.ops l) K env h:=by
 rw[oB,hz];exact k
theorem ak {c}(hc:ev env c = .bool true)(k:bd F Z a K env h):bd F Z (.cond c a b) K env h:=by
 simp[hc,k]
theorem ah {c}(hc:ev env c = .bool false)(k:bd F Z b K env h):bd F Z (.cond c a b) K env h:=by
 simp[hc,k]
theorem aa {k:Env→ac→Prop}(hk:k env h):cV k K .norm env h:=hk
theorem cv {k:Env→ac→Prop}(hk:K .ret env h):cV k K .ret env h:=hk
theorem aK {k:Env→ac→Prop}{i}(hk:K (.exit i) env h):cV k K (.exit i) env h:=hk
theorem aD {i}(hk:K .norm env h):bz i K .norm env h:=hk
theorem fM {i}(hk:K .ret env h):bz i K .ret env h:=hk
theorem aL {i}(hk:K .norm env h):bz i K (.exit i) env h:=by simp[hk]
theorem uF {i j}(hij:(j == i)=false)(hk:K (.exit j) env h):bz i K (.exit j) env h:=by
 have:¬ j=i:=by simpa using hij
 simp[this,hk]
theorem mU {rs}{Q:AV→ac→Prop}{v}(hv:eZ env h rs=some v)(k:Q v h):dF rs Q .norm env h:=by
 simp[hv,k]
theorem aH {rs}{Q:AV→ac→Prop}{v}(hv:eZ env h rs=some v)(k:Q v h):dF rs Q .ret env h:=by
 simp[hv,k]
end
def Env.has (env:Env):List (Nat×AV)→Prop
 | []=>True
 | p::l=>env p.1=p.2∧Env.has env l
def Env.puts (env:Env):List (Nat×AV)→Env
 | []=>env
 | p::l=>(Env.puts env l).put p.1 p.2
theorem Env.put_self {env:Env}{t:Nat}{v:AV}(h:env t=v):env.put t v=env:=by
 funext i
 simp only[Env.put_apply]
 split
 ·rename_i e;rw[e,h]
 ·rfl
theorem Env.has.puts {env:Env}:∀ {l:List (Nat×AV)},env.has l→env.puts l=env
 | [],_=>rfl
 | p::l,h=>by
  simp only[Env.puts]
  rw[Env.has.puts h.2,Env.put_self h.1]
theorem Env.has.ex {env:Env}{l:List (Nat×AV)}(h:env.has l):∃ e,env=Env.puts e l:=⟨env,h.puts.symm⟩
def cu (I:Nat→Env→ac→Prop)(n:Nat)(Q:Ex→Env→ac→Prop):Ex→Env→ac→Prop
 | .norm=>fun env h=>∃ m,m<n∧I m env h
 | ex=>Q ex
theorem ft {I n Q env h}(m:Nat)(hm:m<n)(k:I m env h):cu I n Q .norm env h:=⟨m,hm,k⟩
theorem kX {I n Q env h}(k:Q .ret env h):cu I n Q .ret env h:=k
theorem aR {I n Q env h i}(k:Q (.exit i) env h):cu I n Q (.exit i) env h:=k
theorem hZ {Φ:Lib}{Z:Option Nat→Bool}{c:gc}{Q:Ex→Env→ac→Prop}(I:Nat→Env→ac→Prop)(n:Nat){env:Env}{h:ac}(h0:I n env h)
  (hr:∀ n env h,I n env h→bd (a8 Φ) Z c (cu I n Q) env h):bd (a8 Φ) Z (.loop c) Q env h:=by
 rw[Ae]
 refine J4 I n h0 (fun n env h hi=>?_) (a8.mono Φ)
 refine cJ (fun _ _ _ _ h=>h) (a8.mono Φ) c (fun x e h hh=>?_) (kK (a8.mono Φ) _ (hr n env h hi))
 cases x
 ·exact hh
 ·exact hh
 ·exact hh
theorem oZ {α:Type}(f:α→List AV)(n:Nat)(hf:∀ x,(f x).length=n):∀ (l:List α) (i:Nat) (x:α),l[i]?=some x→((l.flatMap f).drop (i*n)).take n=f x
 | [],_,_,h=>by simp at h
 | a::l,0,x,h=>by
  simp at h
  subst h
  rw[List.flatMap_cons,Nat.zero_mul,List.drop_zero,List.take_left' (hf _)]
 | a::l,i+1,x,h=>by
  simp at h
  rw[List.flatMap_cons,Nat.add_mul,Nat.one_mul,Nat.add_comm,← List.drop_drop]
  rw[List.drop_left' (hf _)]
  exact oZ f n hf l i x h
theorem jo {α:Type}(f:α→List AV)(n:Nat)(hf:∀ x,(f x).length=n)(l:List α):(l.flatMap f).length=l.length*n:=by
 induction l with
 | nil=>simp
 | cons a l ih=>rw[List.flatMap_cons,List.length_append,ih,hf,List.length_cons,Nat.add_mul,Nat.one_mul,Nat.add_comm]
section
variable {F:bY} {r:List bG} {Q:Env→ac→Prop} {env:Env} {h:ac} {d:Nat} {x y z c:bt}
theorem iN {α:Type}{f:α→List AV}{l:List α}{a:α}{m e n:Nat}{fl:Bool}{k:IntKind}{j:Int}(hx:ev env x = .rd n (l.flatMap f) fl)(hf:∀ x,(f x).length=e)(hy:ev env y = .int k j)(hm:j=(m:Int))(ha:l[m]?=some a)(hn:n=l.length)
  (k:aw F r Q (env.put d (.rp (f a))) h):aw F (⟨some d,.indexAddr e x y,none⟩::r) Q env h:=by
 have hlt:=(List.getElem?_eq_some_iff.1 ha).1
 exact jg hx hy (by omega) (by omega) (by subst hm;simpa using oZ f e hf l m a ha) k
theorem jG {b n cs}(hx:ev env x = .rp cs)(hl:cs.length=n)(k:aw F r Q (env.put d (.agg cs)) h):aw F (⟨some d,.load b n true x,none⟩::r) Q env h :=
 aB hx (by omega) (by simp[part,← hl]) k
end
end
end Go.Proofs.YtlnobeojgifojaaGreatDoor
