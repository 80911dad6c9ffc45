/- Running the abstract machine's code by rewriting. Single steps of the abstract machine's code, for walking a function path by path. -/
import Derived.Test.YtlnobeojgifojaaGreatDoorA7
set_option linter.unusedVariables false
namespace Go.Proofs.YtlnobeojgifojaaGreatDoor
section
open Go
def lG:List bA→Option Nat
 | []=>none
 | o::_=>o.dst
def dn (k:Env→aa→Prop)(Q:Ex→Env→aa→Prop):Ex→Env→aa→Prop
 | .norm=>k
 | ex=>Q ex
def bz (id:Nat)(Q:Ex→Env→aa→Prop):Ex→Env→aa→Prop
 | .exit j=>if j=id then Q .norm else Q (.exit j)
 | ex=>Q ex
@[simp] theorem GX {k Q}:dn k Q .norm=k:=rfl
@[simp] theorem Hf {k Q}:dn k Q .ret=Q .ret:=rfl
@[simp] theorem GY {k Q i}:dn k Q (.exit i)=Q (.exit i):=rfl
@[simp] theorem F4 {i Q}:bz i Q .norm=Q .norm:=rfl
@[simp] theorem GE {i Q}:bz i Q .ret=Q .ret:=rfl
@[simp] theorem xK {i Q j}:bz i Q (.exit j)=if j=i then Q .norm else Q (.exit j):=rfl
def qZ (v:AV)(Q:Bool→Prop):Prop:=match v with
 | .bool t=>Q t
 | _=>False
@[simp] theorem Gh {t Q}:qZ (.bool t) Q=Q t:=rfl
def qW (v:AV)(Q:Bool→Prop)(Q':Prop):Prop:=match v with
 | .bool t=>Q t
 | .tup []=>Q'
 | _=>False
@[simp] theorem FP {t Q Q'}:qW (.bool t) Q Q'=Q t:=rfl
@[simp] theorem Gf {Q Q'}:qW (.tup []) Q Q'=Q':=rfl
@[congr] theorem ET {v v':AV}{Q:Bool→Prop}{Q':Prop}(h:v=v'):qW v Q Q'=qW v' Q Q':=by rw[h]
def wfn (v:AV)(Y:Nat→Prop)(Q:Nat→List AV→Prop):Prop:=match v with
 | .fn f cs=>Q f cs
 | .yield id=>Y id
 | _=>False
@[simp] theorem CP {f cs Y Q}:wfn (.fn f cs) Y Q=Q f cs:=rfl
@[simp] theorem tw {id Y Q}:wfn (.yield id) Y Q=Y id:=rfl
@[congr] theorem FQ {v v':AV}{Q:Bool→Prop}(h:v=v'):qZ v Q=qZ v' Q:=by rw[h]
@[congr] theorem GW {v v':AV}{Y:Nat→Prop}{Q:Nat→List AV→Prop}(h:v=v'):wfn v Y Q=wfn v' Y Q:=by rw[h]
@[congr] theorem Gb {α:Type}{v v':Option α}{Q:α→Prop}(h:v=v'):d9 v Q=d9 v' Q:=by rw[h]
@[congr] theorem Ga {v v':Option Res}{h h':aa}{Q:AV→aa→Prop}(hh:h=h')(e:v=v'):lf h Q v=lf h' Q v':=by rw[e,hh]
def bc (F:bR)(Z:Option Nat→Bool):f5→(Ex→Env→aa→Prop)→Env→aa→Prop
 | .skip,Q,env,h=>Q .norm env h
 | .ops l,Q,env,h=>if Z (lG l)=true then bj F (.ops l) Q env h else aj F l (Q .norm) env h
 | .seq a b,Q,env,h=>bc F Z a (dn (bc F Z b Q) Q) env h
 | .cond c a b,Q,env,h=>qZ (ev env c) fun t=>(t=true→bc F Z a Q env h)∧(t=false→bc F Z b Q env h)
 | .block id c,Q,env,h=>bc F Z c (bz id Q) env h
 | .loop c,Q,env,h=>bj F (.loop c) Q env h
 | .rangef f ps a b,Q,env,h=>bj F (.rangef f ps a b) Q env h
 | .exit id,Q,env,h=>Q (.exit id) env h
 | .ret,Q,env,h=>Q .ret env h
theorem jH {F:bR}(hm:iD F){Z:Option Nat→Bool}:∀ (c:f5) {Q:Ex→Env→aa→Prop} {env:Env} {h:aa},bc F Z c Q env h→bj F c Q env h
 | .skip,_,_,_,hw=>hw
 | .ops l,_,_,_,hw=>by
  unfold bc at hw
  split at hw
  ·exact hw
  ·exact .inl hw
 | .seq a b,Q,env,h,hw=>by
  unfold bc at hw
  refine cQ (fun _ _ _ _ h=>h) hm a (fun x e h hh=>?_) (jH hm a hw)
  cases x
  ·exact jH hm b hh
  ·exact hh
  ·exact hh
 | .cond c a b,Q,env,h,hw=>by
  unfold bc qZ at hw
  unfold bj
  split at hw
  ·rename_i t ht
   rw[ht]
   dsimp only
   split
   ·rename_i h1;exact jH hm a (hw.1 h1)
   ·rename_i h1;exact jH hm b (hw.2 (by simpa using h1))
  ·exact hw.elim
 | .block id c,Q,env,h,hw=>by
  unfold bc at hw
  refine cQ (fun _ _ _ _ h=>h) hm c (fun x e h hh=>?_) (jH hm c hw)
  cases x
  ·exact hh
  ·simp only[xK]at hh
   dsimp only
   split
   ·rename_i hj;rw[if_pos hj]at hh;exact hh
   ·rename_i hj;rw[if_neg hj]at hh;exact hh
  ·exact hh
 | .loop c,_,_,_,hw=>hw
 | .rangef ..,_,_,_,hw=>hw
 | .exit _,_,_,_,hw=>hw
 | .ret,_,_,_,hw=>hw
@[simp ↓] theorem F7 {F Z Q env h}:bc F Z .skip Q env h=Q .norm env h:=rfl
@[simp ↓] theorem m5 {F Z Q env h l}:bc F Z (.ops l) Q env h=if Z (lG l)=true then bj F (.ops l) Q env h else aj F l (Q .norm) env h:=rfl
@[simp ↓] theorem GL {F Z Q env h a b}:bc F Z (.seq a b) Q env h=bc F Z a (dn (bc F Z b Q) Q) env h:=rfl
@[simp ↓] theorem F9 {F Z Q env h c a b}:bc F Z (.cond c a b) Q env h=qZ (ev env c) fun t=>(t=true→bc F Z a Q env h)∧(t=false→bc F Z b Q env h):=rfl
@[simp ↓] theorem FL {F Z Q env h i c}:bc F Z (.block i c) Q env h=bc F Z c (bz i Q) env h:=rfl
@[simp ↓] theorem xU {F Z Q env h c}:bc F Z (.loop c) Q env h=bj F (.loop c) Q env h:=rfl
@[simp ↓] theorem EO {F Z Q env h f ps a b}:bc F Z (.rangef f ps a b) Q env h=bj F (.rangef f ps a b) Q env h:=rfl
@[simp ↓] theorem F8 {F Z Q env h i}:bc F Z (.exit i) Q env h=Q (.exit i) env h:=rfl
@[simp ↓] theorem GM {F Z Q env h}:bc F Z .ret Q env h=Q .ret env h:=rfl
@[simp] theorem Env.put_apply (env:Env)(t:Nat)(v:AV)(i:Nat):env.put t v i=if i=t then v else env i:=rfl
@[simp] theorem D3 (env:Env)(t:Nat):ev env (.tmp t)=env t:=rfl
@[simp] theorem jQ (env:Env)(v:AV):ev env (.const v)=v:=rfl
@[simp] theorem FX (i:Nat):jF [] i = .undef:=rfl
@[simp] theorem Fv (a:AV)(l:List AV):jF (a::l) 0=a:=rfl
@[simp] theorem Fw (a:AV)(l:List AV)(i:Nat):jF (a::l) (i+1)=jF l i:=rfl
@[simp] theorem FY (a:AV)(l:List AV)(i:Nat):jF (a::l) (OfNat.ofNat (i+1))=jF l i:=rfl
@[simp] theorem p8 (env:Env)(v:AV):putDst env none v=env:=rfl
@[simp] theorem bv (env:Env)(t:Nat)(v:AV):putDst env (some t) v=env.put t v:=rfl
@[simp] theorem aa.get_empty (i:Nat):aa.empty.get i=none:=rfl
theorem aa.get_set (h:aa)(i:Nat)(o:gB)(j:Nat):(h.set i o).get j=if j=i then some o else h.get j:=rfl
theorem aa.get_set2 (h:aa)(i:Nat)(o:gB)(j:Nat):(h.set i o).get j=if i=j then some o else h.get j:=by
 rw[aa.get_set]
 by_cases e:j=i
 ·rw[if_pos e,if_pos e.symm]
 ·rw[if_neg e,if_neg (Ne.symm e)]
@[simp] theorem aa.get_set_self (h:aa)(i:Nat)(o:gB):(h.set i o).get i=some o:=by simp[aa.get_set]
theorem aa.get_set_ne (h:aa){i j:Nat}(o:gB)(hn:j≠i):(h.set i o).get j=h.get j:=by simp[aa.get_set,hn]
theorem aa.get_set_old {h:aa}{i j:Nat}{o x:gB}(hj:h.get j=some x)(hi:h.get i=none):(h.set i o).get j=some x:=by
 rw[aa.get_set_ne _ _ (fun e=>by rw[e,hi]at hj;cases hj)]
 exact hj
theorem aa.set_none {h:aa}{i j:Nat}{o:gB}:(h.set i o).get j=none↔j≠i∧h.get j=none:=by
 rw[aa.get_set]
 split<;>simp_all
theorem aa.ne_of {h:aa}{j:Nat}{x:gB}(hj:h.get j=some x):∀ i,h.get i=none→(j=i)=False:=fun i hi=>eq_false fun e=>by rw[e,hi]at hj;cases hj
theorem aa.ne_of2 {h:aa}{j:Nat}{x:gB}(hj:h.get j=some x):∀ i,h.get i=none→(i=j)=False:=fun i hi=>eq_false fun e=>by rw[← e,hi]at hj;cases hj
theorem aa.Ext.refl (h:aa):h.Ext h:=fun _ _ e=>e
@[simp ↓] theorem G9 {F Q}:aj F [] Q=Q:=rfl
theorem Ab {F o r Q env h}:aj F (o::r) Q env h=cq F o (aj F r Q) env h:=rfl
@[simp ↓] theorem bE {F dst op r Q env h}:aj F (⟨dst,op,none⟩::r) Q env h=wop F env h (fun v h'=>aj F r Q (putDst env dst v) h') op:=rfl
@[simp ↓] theorem Gc {F dst op t b r Q env h}:aj F (⟨dst,op,some (t,b)⟩::r) Q env h=qW (env t) (fun c=>(c=b→wop F env h (fun v h'=>aj F r Q (putDst env dst v) h') op)∧(c = !b→aj F r Q (putDst env dst (.tup [])) h)) (aj F r Q (putDst env dst (.tup [])) h):=by
 simp only[Ab,cq,wanted]
 cases env t<;>try rfl
 ·rename_i c
  cases c<;>cases b<;>simp
 ·rename_i vs
  cases vs<;>rfl
@[simp] theorem oA {h v h' Q}:lf h Q (some (.val v h'))=Q v h':=rfl
@[simp] theorem we {h o f Q}:lf h Q (some (.new o f))=∀ id,h.get id=none→Q (f id) (h.set id o):=rfl
@[simp] theorem GO {h f Q}:lf h Q (some (.both f))=∀ b,Q (f b) h:=rfl
@[simp] theorem GN {h Q}:lf h Q none=False:=rfl
theorem cE {F env h Q op}(hk:op.kind = .pure):wop F env h Q op=d9 (aF env op) (fun v=>Q v h):=by
 simp only[wop,hk,eh]
 rw[if_neg HU,if_neg HU]
 cases aF env op<;>rfl
theorem lq {F env h Q op}(hk:op.kind = .read):wop F env h Q op=d9 (aT env h op) (fun v=>Q v h):=by
 simp only[wop,hk,eh]
 rw[if_neg HU,if_neg HU]
 cases aT env h op<;>rfl
theorem qE {F env h Q op}(hk:op.kind = .new):wop F env h Q op=d9 (fT env op) (fun p=>∀ id,h.get id=none→Q (p.2 id) (h.set id p.1)):=by
 simp only[wop,hk,eh]
 rw[if_neg HU,if_neg HU]
 cases fT env op<;>rfl
theorem m7 {F env h Q op}(hk:op.kind = .eff):wop F env h Q op=lf h Q (cL env h op):=by
 simp only[wop,hk,eh]
 rw[if_neg HU,if_neg HU]
@[simp] theorem m6 {α}{x:α}{Q}:d9 (some x) Q=Q x:=rfl
@[simp] theorem GQ {α}{Q:α→Prop}:d9 none Q=False:=rfl
@[simp] theorem G8 {α}{c:Prop}[Decidable c]{a:Option α}{Q}:d9 (if c then a else none) Q=(c∧d9 a Q):=by
 split<;>simp_all
@[simp] theorem G7 {α β}{f:α→β}{a:Option α}{Q}:d9 (a.map f) Q=d9 a (fun x=>Q (f x)):=by cases a<;>rfl
@[simp] theorem GR {α β}{f:α→Option β}{a:Option α}{Q}:d9 (a.bind f) Q=d9 a (fun x=>d9 (f x) Q):=by cases a<;>rfl
@[simp] theorem GP {α}{f:α→Option Res}{a:Option α}{h Q}:lf h Q (a.bind f)=d9 a (fun x=>lf h Q (f x)):=by cases a<;>rfl
@[simp ↓] theorem HJ {F env h Q x}:wop F env h Q (.mv x)=Q (ev env x) h:=cE rfl
@[simp ↓] theorem Ha {F env h Q c a b}:wop F env h Q (.pick c a b)=qZ (ev env c) fun t=>Q (if t then ev env a else ev env b) h:=by
 rw[cE rfl]
 simp only[aF]
 cases ev env c<;>rfl
@[simp ↓] theorem GV {F env h Q z ps}:wop F env h Q (.build z ps)=d9 (ei env z ps) (fun cs=>Q (.agg cs) h):=(cE rfl).trans (by simp[aF])
@[simp ↓] theorem Hy {F env h Q e n z ps}:wop F env h Q (.lit e n z ps)=d9 (ei env z ps) (fun cs=>cs.length=n*e∧Q (.rd n cs true) h):=(cE rfl).trans (by simp[aF])
@[simp ↓] theorem GS {F env h Q x}:wop F env h Q (.nilck x)=d9 (aF env (.nilck x)) (fun v=>Q v h):=cE rfl
@[simp ↓] theorem uC {F env h Q o x y}:wop F env h Q (.bin o x y)=d9 (uv o (ev env x) (ev env y)) (fun v=>Q v h):=cE rfl
@[simp ↓] theorem HA {F env h Q b x y}:wop F env h Q (.eqB b x y)=d9 (eqB b (ev env x) (ev env y)) (fun v=>Q v h):=cE rfl
@[simp ↓] theorem Hz {F env h Q b k x y}:wop F env h Q (.eqS b k x y)=d9 (eqS b k (ev env x) (ev env y)) (fun v=>Q v h):=cE rfl
@[simp ↓] theorem FO {F env h Q x}:wop F env h Q (.bytesOf x)=d9 (aF env (.bytesOf x)) (fun v=>Q v h):=cE rfl
@[simp ↓] theorem HI {F env h Q o x}:wop F env h Q (.un o x)=d9 (CS o (ev env x)) (fun v=>Q v h):=cE rfl
@[simp ↓] theorem Hb {F env h Q k x}:wop F env h Q (.conv k x)=d9 (aF env (.conv k x)) (fun v=>Q v h):=cE rfl
@[simp ↓] theorem CJ {F env h Q f l}:wop F env h Q (.mkfn f l)=d9 (aF env (.mkfn f l)) (fun v=>Q v h):=cE rfl
@[simp ↓] theorem pn {F env h Q e x a b c}:wop F env h Q (.slice e x a b c)=d9 (aF env (.slice e x a b c)) (fun v=>Q v h):=cE rfl
@[simp ↓] theorem EP {F env h Q x a b}:wop F env h Q (.sliceStr x a b)=d9 (aF env (.sliceStr x a b)) (fun v=>Q v h):=cE rfl
@[simp ↓] theorem xW {F env h Q n e x a b}:wop F env h Q (.sliceA n e x a b)=d9 (aT env h (.sliceA n e x a b)) (fun v=>Q v h):=lq rfl
@[simp ↓] theorem sM {F env h Q e x}:wop F env h Q (.fieldAddr e x)=d9 (aF env (.fieldAddr e x)) (fun v=>Q v h):=cE rfl
@[simp ↓] theorem GT {F env h Q e n ag x}:wop F env h Q (.field e n ag x)=d9 (aF env (.field e n ag x)) (fun v=>Q v h):=cE rfl
@[simp ↓] theorem nJ {F env h Q e x i}:wop F env h Q (.indexAddr e x i)=d9 (aF env (.indexAddr e x i)) (fun v=>Q v h):=cE rfl
@[simp ↓] theorem qU {F env h Q l e x i}:wop F env h Q (.indexAddrA l e x i)=d9 (aF env (.indexAddrA l e x i)) (fun v=>Q v h):=cE rfl
@[simp ↓] theorem xX {F env h Q l e ag x i}:wop F env h Q (.indexA l e ag x i)=d9 (aF env (.indexA l e ag x i)) (fun v=>Q v h):=cE rfl
@[simp ↓] theorem uB {F env h Q x i}:wop F env h Q (.indexStr x i)=d9 (aF env (.indexStr x i)) (fun v=>Q v h):=cE rfl
@[simp ↓] theorem FN {F env h Q x i}:wop F env h Q (.extract x i)=d9 (aF env (.extract x i)) (fun v=>Q v h):=cE rfl
@[simp ↓] theorem Gd {F env h Q l}:wop F env h Q (.mx l)=d9 (hY (fun a b=>if b>a then b else a) (l.map (ev env))) (fun v=>Q v h):=cE rfl
@[simp ↓] theorem Ge {F env h Q l}:wop F env h Q (.mn l)=d9 (hY (fun a b=>if b<a then b else a) (l.map (ev env))) (fun v=>Q v h):=cE rfl
@[simp ↓] theorem qT {F env h Q b n ag x}:wop F env h Q (.load b n ag x)=d9 (aT env h (.load b n ag x)) (fun v=>Q v h):=lq rfl
@[simp ↓] theorem qS {F env h Q kk z ok x k}:wop F env h Q (.lookup kk z ok x k)=d9 (aT env h (.lookup kk z ok x k)) (fun v=>Q v h):=lq rfl
@[simp ↓] theorem Ac {F env h Q x}:wop F env h Q (.strOf x)=d9 (aT env h (.strOf x)) (fun v=>Q v h):=lq rfl
@[simp ↓] theorem zp {F env h Q k x}:wop F env h Q (.len k x)=d9 (aT env h (.len k x)) (fun v=>Q v h):=lq rfl
@[simp ↓] theorem Ag {F env h Q z}:wop F env h Q (.alloc z)=∀ id,h.get id=none→Q (.ptr id 0 0) (h.set id (.cells 0 z)):=(qE rfl).trans rfl
@[simp ↓] theorem ER {F env h Q x}:wop F env h Q (.box x)=((ev env x).isVal=true∧∀ id,h.get id=none→Q (.ptr id 0 0) (h.set id (.cells 0 (ev env x).cells))):=(qE rfl).trans (by simp[fT])
@[simp ↓] theorem Ad {F env h Q k}:wop F env h Q (.mkmap k)=∀ id,h.get id=none→Q (.map id) (h.set id (.map k [])):=(qE rfl).trans rfl
@[simp ↓] theorem wg {F env h Q z a b}:wop F env h Q (.mkslice z a b)=d9 (fT env (.mkslice z a b)) (fun p=>∀ id,h.get id=none→Q (p.2 id) (h.set id p.1)):=qE rfl
@[simp ↓] theorem pm {F env h Q n x v}:wop F env h Q (.store n x v)=lf h Q (cL env h (.store n x v)):=m7 rfl
@[simp ↓] theorem xV {F env h Q k m x v}:wop F env h Q (.update k m x v)=lf h Q (cL env h (.update k m x v)):=m7 rfl
@[simp ↓] theorem jm {F env h Q e x y}:wop F env h Q (.append e x y)=lf h Q (cL env h (.append e x y)):=m7 rfl
@[simp ↓] theorem GU {F env h Q z x}:wop F env h Q (.clear z x)=lf h Q (cL env h (.clear z x)):=m7 rfl
@[simp ↓] theorem CL {F env h Q e x y}:wop F env h Q (.copy e x y)=lf h Q (cL env h (.copy e x y)):=m7 rfl
@[simp ↓] theorem EQ {F env h Q b x}:wop F env h Q (.eqN b x)=lf h Q (cL env h (.eqN b x)):=m7 rfl
@[simp ↓] theorem CM {F env h Q m f l}:wop F env h Q (.call m f l)=(l.all (fun x => !(ev env x).isTup)=true∧bL F m f (l.map (ev env)) h Q):=by
 simp only[wop,DOp.kind,reduceCtorEq,if_false,if_true,fJ]
 by_cases hl:l.all (fun x => !(ev env x).isTup)=true
 ·rw[if_pos hl];simp only[hl,true_and]
 ·rw[if_neg hl];exact(eq_false (fun h=>hl h.1)).symm
@[simp ↓] theorem tv {F env h Q m x l}:wop F env h Q (.callv m x l)=wfn (ev env x) (fun id=>l.all (fun x => !(ev env x).isTup)=true∧bL F m eW (.yield id::l.map (ev env)) h Q) fun f captured=>l.all (fun x => !(ev env x).isTup)=true∧bL F m f (l.map (ev env)++captured) h Q:=by
 simp only[wop,DOp.kind,reduceCtorEq,if_false,if_true,fJ]
 cases ev env x<;>try rfl
 ·dsimp only
  by_cases hl:l.all (fun x => !(ev env x).isTup)=true
  ·rw[if_pos hl];simp only[CP,hl,true_and]
  ·rw[if_neg hl];exact(eq_false (fun h=>hl h.1)).symm
 ·dsimp only
  by_cases hl:l.all (fun x => !(ev env x).isTup)=true
  ·rw[if_pos hl];simp only[tw,hl,true_and]
  ·rw[if_neg hl];exact(eq_false (fun h=>hl h.1)).symm
@[simp ↓] theorem Af {F env h Q e f l}:wop F env h Q (.callk e f l)=(l.all (fun x => !(ev env x).isTup)=true∧F f (l.map (ev env)) h (fun v h'=>v8 e h h'∧Q v h')):=by
 simp only[wop,DOp.kind,if_true,gT]
 by_cases hl:l.all (fun x => !(ev env x).isTup)=true
 ·rw[if_pos hl];simp only[hl,true_and]
 ·rw[if_neg hl];exact(eq_false (fun h=>hl h.1)).symm
@[simp ↓] theorem Ae {F env h Q b x}:wop F env h Q (.loadm b x)=d9 (aT env h (.loadm b x)) (fun v=>Q v h):=lq rfl
attribute [simp] AV.isVal AV.oneCell AV.isTup AV.cells part aF aT fT cL uv zh eqB CS ei putCells
def ia (Φ:Lib)(f:Nat)(args:List AV)(v:AV):Prop:=aU Φ f args aa.empty (fun v' _=>v'=v)
theorem bu {Φ:Lib}{m f:Nat}{args:List AV}{v:AV}{h:aa}{Q:AV→aa→Prop}(hp:ia Φ f args v)(ha:AV.frozenL args=true)(hv:v.frozen=true)(k:Q v h):bL (aU Φ) m f args h Q :=
 .inr (.inr (.inl ⟨ha,aU.mono Φ _ _ _ _ _ (fun v' _ e=>by subst e;exact⟨hv,k⟩) hp⟩))
theorem jz {Φ:Lib}{m f:Nat}{args:List AV}{v:AV}{h:aa}{Q:AV→aa→Prop}(hm:m≤1)(hp:aU Φ f args h (fun v' h'=>v'=v∧h.Ext h'))(k:Q v h):bL (aU Φ) m f args h Q :=
 .inr (.inl ⟨hm,aU.mono Φ _ _ _ _ _ (fun v' _ e=>by obtain⟨rfl,e⟩:=e;exact⟨e,k⟩) hp⟩)
theorem bS {Φ:Lib}{f:Nat}{args:List AV}{h:aa}{Q Q':AV→aa→Prop}(hp:aU Φ f args h Q')(k:∀ v h',Q' v h'→Q v h'):bL (aU Φ) 0 f args h Q :=
 .inl ⟨rfl,aU.mono Φ _ _ _ _ _ k hp⟩
def dz (rs:List tn)(Q:AV→aa→Prop):Ex→Env→aa→Prop
 | .exit _=>fun _ _=>False
 | _=>fun env h=>d9 (ef env h rs) (fun v=>Q v h∨∃ (S:Nat→Prop) (v':AV),FzV h S v v'∧Q v' (h.drop S))
@[simp] theorem G6 {rs Q}:dz rs Q .norm=fun env h=>d9 (ef env h rs) (fun v=>Q v h∨∃ (S:Nat→Prop) (v':AV),FzV h S v v'∧Q v' (h.drop S)):=rfl
@[simp] theorem DX {rs Q}:dz rs Q .ret=fun env h=>d9 (ef env h rs) (fun v=>Q v h∨∃ (S:Nat→Prop) (v':AV),FzV h S v v'∧Q v' (h.drop S)):=rfl
theorem bb {Φ:Lib}{f:Nat}{d:cj}{args:List AV}{h:aa}{Q:AV→aa→Prop}(Z:Option Nat→Bool)(h0:(f == eW)=false)(hf:Φ f=some (.code d))(hw:bc (aU Φ) Z d.body (dz d.results Q) (jF args) h):aU Φ f args h Q:=by
 refine aU.code (by simpa using h0) hf (cQ (fun _ _ _ _ h=>h) (aU.mono Φ) d.body (fun x e h hh=>?_) (jH (aU.mono Φ) _ hw))
 cases x
 ·exact⟨.inl rfl,hh⟩
 ·exact hh.elim
 ·exact⟨.inr rfl,hh⟩
end
section
open Go
section
variable {F:bR} {r:List bA} {Q:Env→aa→Prop} {env:Env} {h:aa} {d:Nat} {x y z c:bl}
theorem ad (k:Q env h):aj F [] Q env h:=k
theorem cI {op t b}(hg:env t = .bool (!b))(k:aj F r Q (env.put d (.tup [])) h):aj F (⟨some d,op,some (t,b)⟩::r) Q env h:=by
 simp[hg,k]
theorem CZ {op t b}(hg:env t = .tup [])(k:aj F r Q (env.put d (.tup [])) h):aj F (⟨some d,op,some (t,b)⟩::r) Q env h:=by
 simp[hg,k]
theorem cD {dst op t b}(hg:env t = .bool b)(k:aj F (⟨dst,op,none⟩::r) Q env h):aj F (⟨dst,op,some (t,b)⟩::r) Q env h:=by
 simp only[bE]at k
 simp[hg,k]
theorem ai {v}(hx:ev env x=v)(k:aj F r Q (env.put d v) h):aj F (⟨some d,.mv x,none⟩::r) Q env h:=by
 simp[hx,k]
theorem Ar {v}(hc:ev env c = .bool true)(hx:ev env x=v)(k:aj F r Q (env.put d v) h):aj F (⟨some d,.pick c x y,none⟩::r) Q env h:=by
 simp[hc,hx,k]
theorem As {v}(hc:ev env c = .bool false)(hx:ev env y=v)(k:aj F r Q (env.put d v) h):aj F (⟨some d,.pick c x y,none⟩::r) Q env h:=by
 simp[hc,hx,k]
theorem dV {op v}(hk:op.kind = .pure)(hv:aF env op=some v)(k:aj F r Q (env.put d v) h):aj F (⟨some d,op,none⟩::r) Q env h:=by
 rw[bE,cE hk,hv];exact k
theorem gJ {v}(hx:ev env x=v)(hv:v.isVal=true)(k:∀ id,h.get id=none→aj F r Q (env.put d (.ptr id 0 0)) (h.set id (.cells 0 v.cells))):aj F (⟨some d,.box x,none⟩::r) Q env h:=by
 subst hx
 simp only[bE,ER,bv]
 exact⟨hv,k⟩
theorem cd {zs}(k:∀ id,h.get id=none→aj F r Q (env.put d (.ptr id 0 0)) (h.set id (.cells 0 zs))):aj F (⟨some d,.alloc zs,none⟩::r) Q env h:=by
 simp only[bE,Ag,bv]
 exact k
theorem aB {k k' a b}(hx:ev env x = .int k a)(hy:ev env y = .int k' b)(hk:k=k')(k1:a<b→aj F r Q (env.put d (.bool true)) h)(k2:¬ a<b→aj F r Q (env.put d (.bool false)) h):aj F (⟨some d,.bin .lss x y,none⟩::r) Q env h:=by
 subst hk
 by_cases hp:a<b<;>simp[hx,hy,hp,k1,k2]
theorem kj {k k' a b}(hx:ev env x = .int k a)(hy:ev env y = .int k' b)(hk:k=k')(k1:a≤b→aj F r Q (env.put d (.bool true)) h)(k2:¬ a≤b→aj F r Q (env.put d (.bool false)) h):aj F (⟨some d,.bin .leq x y,none⟩::r) Q env h:=by
 subst hk
 by_cases hp:a≤b<;>simp[hx,hy,hp,k1,k2]
theorem dS {k k' a b}(hx:ev env x = .int k a)(hy:ev env y = .int k' b)(hk:k=k')(k1:b<a→aj F r Q (env.put d (.bool true)) h)(k2:¬ b<a→aj F r Q (env.put d (.bool false)) h):aj F (⟨some d,.bin .gtr x y,none⟩::r) Q env h:=by
 subst hk
 by_cases hp:b<a<;>simp[hx,hy,hp,k1,k2]
theorem jq {k k' a b}(hx:ev env x = .int k a)(hy:ev env y = .int k' b)(hk:k=k')(k1:b≤a→aj F r Q (env.put d (.bool true)) h)(k2:¬ b≤a→aj F r Q (env.put d (.bool false)) h):aj F (⟨some d,.bin .geq x y,none⟩::r) Q env h:=by
 subst hk
 by_cases hp:b≤a<;>simp[hx,hy,hp,k1,k2]
theorem dD {k k' a b}(hx:ev env x = .int k a)(hy:ev env y = .int k' b)(hk:k=k')(k1:a=b→aj F r Q (env.put d (.bool true)) h)(k2:¬ a=b→aj F r Q (env.put d (.bool false)) h):aj F (⟨some d,.bin .eql x y,none⟩::r) Q env h:=by
 subst hk
 by_cases hp:a=b<;>simp[hx,hy,hp,k1,k2]
theorem eM {k k' a b}(hx:ev env x = .int k a)(hy:ev env y = .int k' b)(hk:k=k')(k1:¬ a=b→aj F r Q (env.put d (.bool true)) h)(k2:a=b→aj F r Q (env.put d (.bool false)) h):aj F (⟨some d,.bin .neq x y,none⟩::r) Q env h:=by
 subst hk
 by_cases hp:a=b<;>simp[hx,hy,hp,k1,k2]
theorem dm {b}(hx:ev env x = .bool b)(k:aj F r Q (env.put d (.bool !b)) h):aj F (⟨some d,.un .not x,none⟩::r) Q env h:=by
 simp[hx,k]
theorem a8 {a b s}(hx:ev env x = .int .i64 a)(hy:ev env y = .int .i64 b)(hs:a+b=s)(h1 : -9223372036854775808≤s)(h2:s≤9223372036854775807)(k:aj F r Q (env.put d (.int .i64 s)) h):aj F (⟨some d,.bin .add x y,none⟩::r) Q env h:=by
 subst hs
 have:IntKind.i64.wrap (a+b)=a+b:=by simp[IntKind.wrap,IntKind.bits,IntKind.signed];omega
 simp[hx,hy,this,k]
theorem iq {a b s}(hx:ev env x = .int .i64 a)(hy:ev env y = .int .i64 b)(hs:a-b=s)(h1 : -9223372036854775808≤s)(h2:s≤9223372036854775807)(k:aj F r Q (env.put d (.int .i64 s)) h):aj F (⟨some d,.bin .sub x y,none⟩::r) Q env h:=by
 subst hs
 have:IntKind.i64.wrap (a-b)=a-b:=by simp[IntKind.wrap,IntKind.bits,IntKind.signed];omega
 simp[hx,hy,this,k]
theorem aD {n cs f}(hx:ev env x = .rd n cs f)(k:aj F r Q (env.put d (.int .i64 n)) h):aj F (⟨some d,.len 0 x,none⟩::r) Q env h:=by
 simp[hx,k]
theorem dW {id g e off n lim}(hx:ev env x = .own id g e off n lim)(k:aj F r Q (env.put d (.int .i64 n)) h):aj F (⟨some d,.len 0 x,none⟩::r) Q env h:=by
 simp[hx,k]
theorem aq {id g o off s}(hx:ev env x = .ptr id g o)(hs:o+off=s)(k:aj F r Q (env.put d (.ptr id g s)) h):aj F (⟨some d,.fieldAddr off x,none⟩::r) Q env h:=by
 subst hs
 simp[hx,k]
theorem yg {cs off cs'}(hx:ev env x = .rp cs)(hl:off≤cs.length)(hs:cs.drop off=cs')(k:aj F r Q (env.put d (.rp cs')) h):aj F (⟨some d,.fieldAddr off x,none⟩::r) Q env h:=by
 subst hs
 simp[hx,hl,k]
theorem bi {id g o}(hx:ev env x = .ptr id g o)(k:aj F r Q (env.put d (.ptr id g o)) h):aj F (⟨some d,.nilck x,none⟩::r) Q env h:=by
 simp[hx,k]
theorem ak {b n ag id g o cs v}(hx:ev env x = .ptr id g o)(hg:h.get id=some (.cells g cs))(hb:b=true→g=0)(hl:o+n≤cs.length)(hv:part ag o n cs=v)(k:aj F r Q (env.put d v) h):aj F (⟨some d,.load b n ag x,none⟩::r) Q env h:=by
 subst hv
 simp only[bE,qT,aT,hx,hg]
 rw[if_pos ⟨trivial,hb,hl⟩]
 exact k
theorem aI {b n ag cs v}(hx:ev env x = .rp cs)(hl:n≤cs.length)(hv:part ag 0 n cs=v)(k:aj F r Q (env.put d v) h):aj F (⟨some d,.load b n ag x,none⟩::r) Q env h:=by
 subst hv
 simp only[bE,qT,aT,hx]
 rw[if_pos hl]
 exact k
theorem mq {e n cs f k j cs'}(hx:ev env x = .rd n cs f)(hy:ev env y = .int k j)(h0:0≤j)(h1:j<n)(hs:(cs.drop (j.toNat*e)).take e=cs')(k:aj F r Q (env.put d (.rp cs')) h):aj F (⟨some d,.indexAddr e x y,none⟩::r) Q env h:=by
 subst hs
 simp[hx,hy,h0,h1,k]
theorem bk {e id g off n lim k j}(hx:ev env x = .own id g e off n lim)(hy:ev env y = .int k j)(h0:0≤j)(h1:j<n)(k:aj F r Q (env.put d (.ptr id g ((off+j.toNat)*e))) h):aj F (⟨some d,.indexAddr e x y,none⟩::r) Q env h:=by
 simp[hx,hy,h0,h1,k]
theorem dE {zs ps cs}(hf:ei env zs ps=some cs)(k:aj F r Q (env.put d (.agg cs)) h):aj F (⟨some d,.build zs ps,none⟩::r) Q env h:=by
 simp[hf,k]
theorem bF {e n zs ps cs}(hf:ei env zs ps=some cs)(hl:cs.length=n*e)(k:aj F r Q (env.put d (.rd n cs true)) h):aj F (⟨some d,.lit e n zs ps,none⟩::r) Q env h:=by
 simp[hf,hl,k]
theorem oI {f l vs}(ha:l.map (ev env)=vs)(hv:vs.all AV.oneCell=true)(k:aj F r Q (env.put d (.fn f vs)) h):aj F (⟨some d,.mkfn f l,none⟩::r) Q env h:=by
 subst ha
 simp only[List.all_map,Function.comp_def]at hv
 simp only[bE,CJ,aF,hv,if_true,m6,bv]
 exact k
theorem aL {m f l vs}(ha:l.map (ev env)=vs)(hv:vs.all (fun v => !v.isTup)=true)(k:bL F m f vs h (fun v h'=>aj F r Q (env.put d v) h')):aj F (⟨some d,.call m f l,none⟩::r) Q env h:=by
 subst ha
 simp only[List.all_map,Function.comp_def]at hv
 simp only[bE,CM,bv]
 exact⟨hv,k⟩
theorem C6 {m l f cap vs}(hx:ev env x = .fn f cap)(ha:l.map (ev env)++cap=vs)(hv:(l.map (ev env)).all (fun v => !v.isTup)=true)(k:bL F m f vs h (fun v h'=>aj F r Q (env.put d v) h')):aj F (⟨some d,.callv m x l,none⟩::r) Q env h:=by
 subst ha
 simp only[List.all_map,Function.comp_def]at hv
 simp only[bE,tv,hx,bv,CP]
 exact⟨hv,k⟩
theorem ri {m l id vs}(hx:ev env x = .yield id)(ha:l.map (ev env)=vs)(hv:vs.all (fun v => !v.isTup)=true)(k:bL F m eW (.yield id::vs) h (fun v h'=>aj F r Q (env.put d v) h')):aj F (⟨some d,.callv m x l,none⟩::r) Q env h:=by
 subst ha
 simp only[List.all_map,Function.comp_def]at hv
 simp only[bE,tv,hx,bv,tw]
 exact⟨hv,k⟩
variable {Z:Option Nat→Bool} {K:Ex→Env→aa→Prop} {a b:f5}
theorem ay (k:K .norm env h):bc F Z .skip K env h:=k
theorem af (k:bc F Z a (dn (bc F Z b K) K) env h):bc F Z (.seq a b) K env h:=k
theorem au {i}(k:bc F Z a (bz i K) env h):bc F Z (.block i a) K env h:=k
theorem aM (k:K .ret env h):bc F Z .ret K env h:=k
theorem aP {i}(k:K (.exit i) env h):bc F Z (.exit i) K env h:=k
theorem ae {l}(hz:Z (lG l)=false)(k:aj F l (K .norm) env h):bc F Z (.ops l) K env h:=by
 rw[m5,hz];exact k
theorem al {c}(hc:ev env c = .bool true)(k:bc F Z a K env h):bc F Z (.cond c a b) K env h:=by
 simp[hc,k]
theorem ah {c}(hc:ev env c = .bool false)(k:bc F Z b K env h):bc F Z (.cond c a b) K env h:=by
 simp[hc,k]
theorem ac {k:Env→aa→Prop}(hk:k env h):dn k K .norm env h:=hk
theorem cz {k:Env→aa→Prop}(hk:K .ret env h):dn k K .ret env h:=hk
theorem aQ {k:Env→aa→Prop}{i}(hk:K (.exit i) env h):dn k K (.exit i) env h:=hk
theorem aJ {i}(hk:K .norm env h):bz i K .norm env h:=hk
theorem jB {i}(hk:K .ret env h):bz i K .ret env h:=hk
theorem aR {i}(hk:K .norm env h):bz i K (.exit i) env h:=by simp[hk]
theorem sB {i j}(hij:(j == i)=false)(hk:K (.exit j) env h):bz i K (.exit j) env h:=by
 have:¬ j=i:=by simpa using hij
 simp[this,hk]
theorem lH {rs}{Q:AV→aa→Prop}{v}(hv:ef env h rs=some v)(k:Q v h):dz rs Q .norm env h:=by
 simp[hv,k]
theorem aH {rs}{Q:AV→aa→Prop}{v}(hv:ef env h rs=some v)(k:Q v h):dz rs Q .ret env h:=by
 simp[hv,k]
end
def Env.has (env:Env):List (Nat×AV)→Prop
 | []=>True
 | p::l=>env p.1=p.2∧Env.has env l
def Env.puts (env:Env):List (Nat×AV)→Env
 | []=>env
 | p::l=>(Env.puts env l).put p.1 p.2
theorem Env.put_self {env:Env}{t:Nat}{v:AV}(h:env t=v):env.put t v=env:=by
 funext i
 simp only[Env.put_apply]
 split
 ·rename_i e;rw[e,h]
 ·rfl
theorem Env.has.puts {env:Env}:∀ {l:List (Nat×AV)},env.has l→env.puts l=env
 | [],_=>rfl
 | p::l,h=>by
  simp only[Env.puts]
  rw[Env.has.puts h.2,Env.put_self h.1]
theorem Env.has.ex {env:Env}{l:List (Nat×AV)}(h:env.has l):∃ e,env=Env.puts e l:=⟨env,h.puts.symm⟩
def cn (I:Nat→Env→aa→Prop)(n:Nat)(Q:Ex→Env→aa→Prop):Ex→Env→aa→Prop
 | .norm=>fun env h=>∃ m,m<n∧I m env h
 | ex=>Q ex
theorem fo {I n Q env h}(m:Nat)(hm:m<n)(k:I m env h):cn I n Q .norm env h:=⟨m,hm,k⟩
theorem kD {I n Q env h}(k:Q .ret env h):cn I n Q .ret env h:=k
theorem ba {I n Q env h i}(k:Q (.exit i) env h):cn I n Q (.exit i) env h:=k
theorem ic {Φ:Lib}{Z:Option Nat→Bool}{c:f5}{Q:Ex→Env→aa→Prop}(I:Nat→Env→aa→Prop)(n:Nat){env:Env}{h:aa}(h0:I n env h)
  (hr:∀ n env h,I n env h→bc (aU Φ) Z c (cn I n Q) env h):bc (aU Φ) Z (.loop c) Q env h:=by
 rw[xU]
 refine Hc I n h0 (fun n env h hi=>?_) (aU.mono Φ)
 refine cQ (fun _ _ _ _ h=>h) (aU.mono Φ) c (fun x e h hh=>?_) (jH (aU.mono Φ) _ (hr n env h hi))
 cases x
 ·exact hh
 ·exact hh
 ·exact hh
theorem nw {α:Type}(f:α→List AV)(n:Nat)(hf:∀ x,(f x).length=n):∀ (l:List α) (i:Nat) (x:α),l[i]?=some x→((l.flatMap f).drop (i*n)).take n=f x
 | [],_,_,h=>by simp at h
 | a::l,0,x,h=>by
  simp at h
  subst h
  rw[List.flatMap_cons,Nat.zero_mul,List.drop_zero,List.take_left' (hf _)]
 | a::l,i+1,x,h=>by
  simp at h
  rw[List.flatMap_cons,Nat.add_mul,Nat.one_mul,Nat.add_comm,← List.drop_drop]
  rw[List.drop_left' (hf _)]
  exact nw f n hf l i x h
theorem iS {α:Type}(f:α→List AV)(n:Nat)(hf:∀ x,(f x).length=n)(l:List α):(l.flatMap f).length=l.length*n:=by
 induction l with
 | nil=>simp
 | cons a l ih=>rw[List.flatMap_cons,List.length_append,ih,hf,List.length_cons,Nat.add_mul,Nat.one_mul,Nat.add_comm]
section
variable {F:bR} {r:List bA} {Q:Env→aa→Prop} {env:Env} {h:aa} {d:Nat} {x y z c:bl}
theorem lg {α:Type}{f:α→List AV}{l:List α}{a:α}{m e n:Nat}{fl:Bool}{k:IntKind}{j:Int}(hx:ev env x = .rd n (l.flatMap f) fl)(hf:∀ x,(f x).length=e)(hy:ev env y = .int k j)(hm:j=(m:Int))(ha:l[m]?=some a)(hn:n=l.length)
  (k:aj F r Q (env.put d (.rp (f a))) h):aj F (⟨some d,.indexAddr e x y,none⟩::r) Q env h:=by
 have hlt:=(List.getElem?_eq_some_iff.1 ha).1
 exact mq hx hy HT HT (by subst hm;simpa using nw f e hf l m a ha) k
theorem iH {b n cs}(hx:ev env x = .rp cs)(hl:cs.length=n)(k:aj F r Q (env.put d (.agg cs)) h):aj F (⟨some d,.load b n true x,none⟩::r) Q env h :=
 aI hx HT (by simp[part,← hl]) k
end
end
end Go.Proofs.YtlnobeojgifojaaGreatDoor
