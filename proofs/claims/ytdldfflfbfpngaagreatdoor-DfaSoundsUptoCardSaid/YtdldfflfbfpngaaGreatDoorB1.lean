/- Running the abstract machine's code by rewriting. Single steps of the abstract machine's code, for walking a function path by path. -/
import Derived.Test.YtdldfflfbfpngaaGreatDoorA7
set_option linter.unusedVariables false
namespace Go.Proofs.YtdldfflfbfpngaaGreatDoor
open Go
def firstDst : List DOper → Option Nat
 | [] => none
 | o :: _ => o.dst
def seqK (k : Env → Heap → Prop) (Q : Ex → Env → Heap → Prop) : Ex → Env → Heap → Prop
 | .norm => k
 | ex => Q ex
def blockK (id : Nat) (Q : Ex → Env → Heap → Prop) : Ex → Env → Heap → Prop
 | .exit j => if j = id then Q .norm else Q (.exit j)
 | ex => Q ex
@[simp] theorem seqK_norm {k Q} : seqK k Q .norm = k := rfl
@[simp] theorem seqK_ret {k Q} : seqK k Q .ret = Q .ret := rfl
@[simp] theorem seqK_exit {k Q i} : seqK k Q (.exit i) = Q (.exit i) := rfl
@[simp] theorem blockK_norm {i Q} : blockK i Q .norm = Q .norm := rfl
@[simp] theorem blockK_ret {i Q} : blockK i Q .ret = Q .ret := rfl
@[simp] theorem blockK_exit {i Q j} : blockK i Q (.exit j) = if j = i then Q .norm else Q (.exit j) := rfl
def wbool (v : AV) (Q : Bool → Prop) : Prop := match v with
 | .bool t => Q t
 | _ => False
@[simp] theorem wbool_bool {t Q} : wbool (.bool t) Q = Q t := rfl
def wguard (v : AV) (Q : Bool → Prop) (Q' : Prop) : Prop := match v with
 | .bool t => Q t
 | .tup [] => Q'
 | _ => False
@[simp] theorem wguard_bool {t Q Q'} : wguard (.bool t) Q Q' = Q t := rfl
@[simp] theorem wguard_tup {Q Q'} : wguard (.tup []) Q Q' = Q' := rfl
@[congr] theorem wguard_congr {v v' : AV} {Q : Bool → Prop} {Q' : Prop} (h : v = v') : wguard v Q Q' = wguard v' Q Q' := by rw [h]
def wfn (v : AV) (Y : Nat → Prop) (Q : Nat → List AV → Prop) : Prop := match v with
 | .fn f cs => Q f cs
 | .yield id => Y id
 | _ => False
@[simp] theorem wfn_fn {f cs Y Q} : wfn (.fn f cs) Y Q = Q f cs := rfl
@[simp] theorem wfn_yield {id Y Q} : wfn (.yield id) Y Q = Y id := rfl
@[congr] theorem wbool_congr {v v' : AV} {Q : Bool → Prop} (h : v = v') : wbool v Q = wbool v' Q := by rw [h]
@[congr] theorem wfn_congr {v v' : AV} {Y : Nat → Prop} {Q : Nat → List AV → Prop} (h : v = v') : wfn v Y Q = wfn v' Y Q := by rw [h]
@[congr] theorem wopt_congr {α : Type} {v v' : Option α} {Q : α → Prop} (h : v = v') : wopt v Q = wopt v' Q := by rw [h]
@[congr] theorem wres_congr {v v' : Option Res} {h h' : Heap} {Q : AV → Heap → Prop} (hh : h = h') (e : v = v') : wres h Q v = wres h' Q v' := by rw [e, hh]
def xcode (F : FnSem) (Z : Option Nat → Bool) : DCode → (Ex → Env → Heap → Prop) → Env → Heap → Prop
 | .skip, Q, env, h => Q .norm env h
 | .ops l, Q, env, h => if Z (firstDst l) = true then wcode F (.ops l) Q env h else wops F l (Q .norm) env h
 | .seq a b, Q, env, h => xcode F Z a (seqK (xcode F Z b Q) Q) env h
 | .cond c a b, Q, env, h => wbool (ev env c) fun t => (t = true → xcode F Z a Q env h) ∧ (t = false → xcode F Z b Q env h)
 | .block id c, Q, env, h => xcode F Z c (blockK id Q) env h
 | .loop c, Q, env, h => wcode F (.loop c) Q env h
 | .rangef f ps a b, Q, env, h => wcode F (.rangef f ps a b) Q env h
 | .exit id, Q, env, h => Q (.exit id) env h
 | .ret, Q, env, h => Q .ret env h
theorem xcode_le {F : FnSem} (hm : FMono F) {Z : Option Nat → Bool} : ∀ (c : DCode) {Q : Ex → Env → Heap → Prop} {env : Env} {h : Heap}, xcode F Z c Q env h → wcode F c Q env h
 | .skip, _, _, _, hw => hw
 | .ops l, _, _, _, hw => by
  unfold xcode at hw
  split at hw
  ·exact hw
  ·exact .inl hw
 | .seq a b, Q, env, h, hw => by
  unfold xcode at hw
  refine wcode_mono (fun _ _ _ _ h => h) hm a (fun x e h hh => ?_) (xcode_le hm a hw)
  cases x
  ·exact xcode_le hm b hh
  ·exact hh
  ·exact hh
 | .cond c a b, Q, env, h, hw => by
  unfold xcode wbool at hw
  unfold wcode
  split at hw
  ·rename_i t ht
   rw [ht]
   dsimp only
   split
   ·rename_i h1; exact xcode_le hm a (hw.1 h1)
   ·rename_i h1; exact xcode_le hm b (hw.2 (by simpa using h1))
  ·exact hw.elim
 | .block id c, Q, env, h, hw => by
  unfold xcode at hw
  refine wcode_mono (fun _ _ _ _ h => h) hm c (fun x e h hh => ?_) (xcode_le hm c hw)
  cases x
  ·exact hh
  ·simp only [blockK_exit] at hh
   dsimp only
   split
   ·rename_i hj; rw [if_pos hj] at hh; exact hh
   ·rename_i hj; rw [if_neg hj] at hh; exact hh
  ·exact hh
 | .loop c, _, _, _, hw => hw
 | .rangef .., _, _, _, hw => hw
 | .exit _, _, _, _, hw => hw
 | .ret, _, _, _, hw => hw
@[simp ↓] theorem xcode_skip {F Z Q env h} : xcode F Z .skip Q env h = Q .norm env h := rfl
@[simp ↓] theorem xcode_ops {F Z Q env h l} : xcode F Z (.ops l) Q env h = if Z (firstDst l) = true then wcode F (.ops l) Q env h else wops F l (Q .norm) env h := rfl
@[simp ↓] theorem xcode_seq {F Z Q env h a b} : xcode F Z (.seq a b) Q env h = xcode F Z a (seqK (xcode F Z b Q) Q) env h := rfl
@[simp ↓] theorem xcode_cond {F Z Q env h c a b} : xcode F Z (.cond c a b) Q env h = wbool (ev env c) fun t => (t = true → xcode F Z a Q env h) ∧ (t = false → xcode F Z b Q env h) := rfl
@[simp ↓] theorem xcode_block {F Z Q env h i c} : xcode F Z (.block i c) Q env h = xcode F Z c (blockK i Q) env h := rfl
@[simp ↓] theorem xcode_loop {F Z Q env h c} : xcode F Z (.loop c) Q env h = wcode F (.loop c) Q env h := rfl
@[simp ↓] theorem xcode_rangef {F Z Q env h f ps a b} : xcode F Z (.rangef f ps a b) Q env h = wcode F (.rangef f ps a b) Q env h := rfl
@[simp ↓] theorem xcode_exit {F Z Q env h i} : xcode F Z (.exit i) Q env h = Q (.exit i) env h := rfl
@[simp ↓] theorem xcode_ret {F Z Q env h} : xcode F Z .ret Q env h = Q .ret env h := rfl
@[simp] theorem Env.put_apply (env : Env) (t : Nat) (v : AV) (i : Nat) : env.put t v i = if i = t then v else env i := rfl
@[simp] theorem ev_tmp (env : Env) (t : Nat) : ev env (.tmp t) = env t := rfl
@[simp] theorem ev_const (env : Env) (v : AV) : ev env (.const v) = v := rfl
@[simp] theorem initEnv_nil (i : Nat) : initEnv [] i = .undef := rfl
@[simp] theorem initEnv_zero (a : AV) (l : List AV) : initEnv (a :: l) 0 = a := rfl
@[simp] theorem initEnv_succ (a : AV) (l : List AV) (i : Nat) : initEnv (a :: l) (i + 1) = initEnv l i := rfl
@[simp] theorem initEnv_lit (a : AV) (l : List AV) (i : Nat) : initEnv (a :: l) (OfNat.ofNat (i + 1)) = initEnv l i := rfl
@[simp] theorem putDst_none (env : Env) (v : AV) : putDst env none v = env := rfl
@[simp] theorem putDst_some (env : Env) (t : Nat) (v : AV) : putDst env (some t) v = env.put t v := rfl
@[simp] theorem Heap.get_empty (i : Nat) : Heap.empty.get i = none := rfl
theorem Heap.get_set (h : Heap) (i : Nat) (o : DObj) (j : Nat) : (h.set i o).get j = if j = i then some o else h.get j := rfl
theorem Heap.get_set2 (h : Heap) (i : Nat) (o : DObj) (j : Nat) : (h.set i o).get j = if i = j then some o else h.get j := by
 rw [Heap.get_set]
 by_cases e : j = i
 ·rw [if_pos e, if_pos e.symm]
 ·rw [if_neg e, if_neg (Ne.symm e)]
@[simp] theorem Heap.get_set_self (h : Heap) (i : Nat) (o : DObj) : (h.set i o).get i = some o := by simp [Heap.get_set]
theorem Heap.get_set_ne (h : Heap) {i j : Nat} (o : DObj) (hn : j ≠ i) : (h.set i o).get j = h.get j := by simp [Heap.get_set, hn]
theorem Heap.get_set_old {h : Heap} {i j : Nat} {o x : DObj} (hj : h.get j = some x) (hi : h.get i = none) : (h.set i o).get j = some x := by
 rw [Heap.get_set_ne _ _ (fun e => by rw [e, hi] at hj; cases hj)]
 exact hj
theorem Heap.set_none {h : Heap} {i j : Nat} {o : DObj} : (h.set i o).get j = none ↔ j ≠ i ∧ h.get j = none := by
 rw [Heap.get_set]
 split <;> simp_all
theorem Heap.ne_of {h : Heap} {j : Nat} {x : DObj} (hj : h.get j = some x) : ∀ i, h.get i = none → (j = i) = False := fun i hi => eq_false fun e => by rw [e, hi] at hj; cases hj
theorem Heap.ne_of2 {h : Heap} {j : Nat} {x : DObj} (hj : h.get j = some x) : ∀ i, h.get i = none → (i = j) = False := fun i hi => eq_false fun e => by rw [← e, hi] at hj; cases hj
theorem Heap.Ext.refl (h : Heap) : h.Ext h := fun _ _ e => e
theorem Heap.Ext.new {a b : Heap} (h : a.Ext b) {i : Nat} {o : DObj} (hi : b.get i = none) : a.Ext (b.set i o) := fun _ _ e => Heap.get_set_old (h _ _ e) hi
@[simp ↓] theorem wops_nil {F Q} : wops F [] Q = Q := rfl
theorem wops_cons {F o r Q env h} : wops F (o :: r) Q env h = wstp F o (wops F r Q) env h := rfl
@[simp ↓] theorem wops_go {F dst op r Q env h} : wops F (⟨dst, op, none⟩ :: r) Q env h = wop F env h (fun v h' => wops F r Q (putDst env dst v) h') op := rfl
@[simp ↓] theorem wops_guard {F dst op t b r Q env h} : wops F (⟨dst, op, some (t, b)⟩ :: r) Q env h = wguard (env t) (fun c => (c = b → wop F env h (fun v h' => wops F r Q (putDst env dst v) h') op) ∧ (c = !b → wops F r Q (putDst env dst (.tup [])) h)) (wops F r Q (putDst env dst (.tup [])) h) := by
 simp only [wops_cons, wstp, wanted]
 cases env t <;> try rfl
 ·rename_i c
  cases c <;> cases b <;> simp
 ·rename_i vs
  cases vs <;> rfl
@[simp] theorem wres_val {h v h' Q} : wres h Q (some (.val v h')) = Q v h' := rfl
@[simp] theorem wres_new {h o f Q} : wres h Q (some (.new o f)) = ∀ id, h.get id = none → Q (f id) (h.set id o) := rfl
@[simp] theorem wres_both {h f Q} : wres h Q (some (.both f)) = ∀ b, Q (f b) h := rfl
@[simp] theorem wres_none {h Q} : wres h Q none = False := rfl
theorem wop_pure {F env h Q op} (hk : op.kind = .pure) : wop F env h Q op = wopt (pureVal env op) (fun v => Q v h) := by
 simp only [wop, hk, opRes]
 rw [if_neg (by simp)]
 cases pureVal env op <;> rfl
theorem wop_read {F env h Q op} (hk : op.kind = .read) : wop F env h Q op = wopt (readVal env h op) (fun v => Q v h) := by
 simp only [wop, hk, opRes]
 rw [if_neg (by simp)]
 cases readVal env h op <;> rfl
theorem wop_new {F env h Q op} (hk : op.kind = .new) : wop F env h Q op = wopt (newVal env op) (fun p => ∀ id, h.get id = none → Q (p.2 id) (h.set id p.1)) := by
 simp only [wop, hk, opRes]
 rw [if_neg (by simp)]
 cases newVal env op <;> rfl
theorem wop_eff {F env h Q op} (hk : op.kind = .eff) : wop F env h Q op = wres h Q (effRes env h op) := by
 simp only [wop, hk, opRes]
 rw [if_neg (by simp)]
@[simp] theorem wopt_some {α} {x : α} {Q} : wopt (some x) Q = Q x := rfl
@[simp] theorem wopt_none {α} {Q : α → Prop} : wopt none Q = False := rfl
@[simp] theorem wopt_ite {α} {c : Prop} [Decidable c] {a : Option α} {Q} : wopt (if c then a else none) Q = (c ∧ wopt a Q) := by
 split <;> simp_all
@[simp] theorem wopt_map {α β} {f : α → β} {a : Option α} {Q} : wopt (a.map f) Q = wopt a (fun x => Q (f x)) := by cases a <;> rfl
@[simp] theorem wopt_bind {α β} {f : α → Option β} {a : Option α} {Q} : wopt (a.bind f) Q = wopt a (fun x => wopt (f x) Q) := by cases a <;> rfl
@[simp] theorem wres_bind {α} {f : α → Option Res} {a : Option α} {h Q} : wres h Q (a.bind f) = wopt a (fun x => wres h Q (f x)) := by cases a <;> rfl
@[simp ↓] theorem wop_mv {F env h Q x} : wop F env h Q (.mv x) = Q (ev env x) h := wop_pure rfl
@[simp ↓] theorem wop_pick {F env h Q c a b} : wop F env h Q (.pick c a b) = wbool (ev env c) fun t => Q (if t then ev env a else ev env b) h := by
 rw [wop_pure rfl]
 simp only [pureVal]
 cases ev env c <;> rfl
@[simp ↓] theorem wop_build {F env h Q z ps} : wop F env h Q (.build z ps) = wopt (fillParts env z ps) (fun cs => Q (.agg cs) h) := (wop_pure rfl).trans (by simp [pureVal])
@[simp ↓] theorem wop_lit {F env h Q e n z ps} : wop F env h Q (.lit e n z ps) = wopt (fillParts env z ps) (fun cs => cs.length = n * e ∧ Q (.rd n cs true) h) := (wop_pure rfl).trans (by simp [pureVal])
@[simp ↓] theorem wop_nilck {F env h Q x} : wop F env h Q (.nilck x) = wopt (pureVal env (.nilck x)) (fun v => Q v h) := wop_pure rfl
@[simp ↓] theorem wop_bin {F env h Q o x y} : wop F env h Q (.bin o x y) = wopt (binop o (ev env x) (ev env y)) (fun v => Q v h) := wop_pure rfl
@[simp ↓] theorem wop_eqB {F env h Q b x y} : wop F env h Q (.eqB b x y) = wopt (eqB b (ev env x) (ev env y)) (fun v => Q v h) := wop_pure rfl
@[simp ↓] theorem wop_eqS {F env h Q b k x y} : wop F env h Q (.eqS b k x y) = wopt (eqS b k (ev env x) (ev env y)) (fun v => Q v h) := wop_pure rfl
@[simp ↓] theorem wop_bytesOf {F env h Q x} : wop F env h Q (.bytesOf x) = wopt (pureVal env (.bytesOf x)) (fun v => Q v h) := wop_pure rfl
@[simp ↓] theorem wop_un {F env h Q o x} : wop F env h Q (.un o x) = wopt (unop o (ev env x)) (fun v => Q v h) := wop_pure rfl
@[simp ↓] theorem wop_conv {F env h Q k x} : wop F env h Q (.conv k x) = wopt (pureVal env (.conv k x)) (fun v => Q v h) := wop_pure rfl
@[simp ↓] theorem wop_mkfn {F env h Q f l} : wop F env h Q (.mkfn f l) = wopt (pureVal env (.mkfn f l)) (fun v => Q v h) := wop_pure rfl
@[simp ↓] theorem wop_slice {F env h Q e x a b c} : wop F env h Q (.slice e x a b c) = wopt (pureVal env (.slice e x a b c)) (fun v => Q v h) := wop_pure rfl
@[simp ↓] theorem wop_sliceStr {F env h Q x a b} : wop F env h Q (.sliceStr x a b) = wopt (pureVal env (.sliceStr x a b)) (fun v => Q v h) := wop_pure rfl
@[simp ↓] theorem wop_sliceA {F env h Q n e x a b} : wop F env h Q (.sliceA n e x a b) = wopt (readVal env h (.sliceA n e x a b)) (fun v => Q v h) := wop_read rfl
@[simp ↓] theorem wop_fieldAddr {F env h Q e x} : wop F env h Q (.fieldAddr e x) = wopt (pureVal env (.fieldAddr e x)) (fun v => Q v h) := wop_pure rfl
@[simp ↓] theorem wop_field {F env h Q e n ag x} : wop F env h Q (.field e n ag x) = wopt (pureVal env (.field e n ag x)) (fun v => Q v h) := wop_pure rfl
@[simp ↓] theorem wop_indexAddr {F env h Q e x i} : wop F env h Q (.indexAddr e x i) = wopt (pureVal env (.indexAddr e x i)) (fun v => Q v h) := wop_pure rfl
@[simp ↓] theorem wop_indexAddrA {F env h Q l e x i} : wop F env h Q (.indexAddrA l e x i) = wopt (pureVal env (.indexAddrA l e x i)) (fun v => Q v h) := wop_pure rfl
@[simp ↓] theorem wop_indexA {F env h Q l e ag x i} : wop F env h Q (.indexA l e ag x i) = wopt (pureVal env (.indexA l e ag x i)) (fun v => Q v h) := wop_pure rfl
@[simp ↓] theorem wop_indexStr {F env h Q x i} : wop F env h Q (.indexStr x i) = wopt (pureVal env (.indexStr x i)) (fun v => Q v h) := wop_pure rfl
@[simp ↓] theorem wop_extract {F env h Q x i} : wop F env h Q (.extract x i) = wopt (pureVal env (.extract x i)) (fun v => Q v h) := wop_pure rfl
@[simp ↓] theorem wop_mx {F env h Q l} : wop F env h Q (.mx l) = wopt (foldInts (fun a b => if b > a then b else a) (l.map (ev env))) (fun v => Q v h) := wop_pure rfl
@[simp ↓] theorem wop_mn {F env h Q l} : wop F env h Q (.mn l) = wopt (foldInts (fun a b => if b < a then b else a) (l.map (ev env))) (fun v => Q v h) := wop_pure rfl
@[simp ↓] theorem wop_load {F env h Q b n ag x} : wop F env h Q (.load b n ag x) = wopt (readVal env h (.load b n ag x)) (fun v => Q v h) := wop_read rfl
@[simp ↓] theorem wop_lookup {F env h Q kk z ok x k} : wop F env h Q (.lookup kk z ok x k) = wopt (readVal env h (.lookup kk z ok x k)) (fun v => Q v h) := wop_read rfl
@[simp ↓] theorem wop_strOf {F env h Q x} : wop F env h Q (.strOf x) = wopt (readVal env h (.strOf x)) (fun v => Q v h) := wop_read rfl
@[simp ↓] theorem wop_len {F env h Q k x} : wop F env h Q (.len k x) = wopt (readVal env h (.len k x)) (fun v => Q v h) := wop_read rfl
@[simp ↓] theorem wop_alloc {F env h Q z} : wop F env h Q (.alloc z) = ∀ id, h.get id = none → Q (.ptr id 0 0) (h.set id (.cells 0 z)) := (wop_new rfl).trans rfl
@[simp ↓] theorem wop_box {F env h Q x} : wop F env h Q (.box x) = ((ev env x).isVal = true ∧ ∀ id, h.get id = none → Q (.ptr id 0 0) (h.set id (.cells 0 (ev env x).cells))) := (wop_new rfl).trans (by simp [newVal])
@[simp ↓] theorem wop_mkmap {F env h Q k} : wop F env h Q (.mkmap k) = ∀ id, h.get id = none → Q (.map id) (h.set id (.map k [])) := (wop_new rfl).trans rfl
@[simp ↓] theorem wop_mkslice {F env h Q z a b} : wop F env h Q (.mkslice z a b) = wopt (newVal env (.mkslice z a b)) (fun p => ∀ id, h.get id = none → Q (p.2 id) (h.set id p.1)) := wop_new rfl
@[simp ↓] theorem wop_store {F env h Q n x v} : wop F env h Q (.store n x v) = wres h Q (effRes env h (.store n x v)) := wop_eff rfl
@[simp ↓] theorem wop_update {F env h Q k m x v} : wop F env h Q (.update k m x v) = wres h Q (effRes env h (.update k m x v)) := wop_eff rfl
@[simp ↓] theorem wop_append {F env h Q e x y} : wop F env h Q (.append e x y) = wres h Q (effRes env h (.append e x y)) := wop_eff rfl
@[simp ↓] theorem wop_clear {F env h Q z x} : wop F env h Q (.clear z x) = wres h Q (effRes env h (.clear z x)) := wop_eff rfl
@[simp ↓] theorem wop_copy {F env h Q e x y} : wop F env h Q (.copy e x y) = wres h Q (effRes env h (.copy e x y)) := wop_eff rfl
@[simp ↓] theorem wop_eqN {F env h Q b x} : wop F env h Q (.eqN b x) = wres h Q (effRes env h (.eqN b x)) := wop_eff rfl
@[simp ↓] theorem wop_call {F env h Q m f l} : wop F env h Q (.call m f l) = (l.all (fun x => !(ev env x).isTup) = true ∧ wcall F m f (l.map (ev env)) h Q) := by
 simp only [wop, DOp.kind, if_true, callOf]
 by_cases hl : l.all (fun x => !(ev env x).isTup) = true
 ·rw [if_pos hl]; simp only [hl, true_and]
 ·rw [if_neg hl]; exact (eq_false (fun h => hl h.1)).symm
@[simp ↓] theorem wop_callv {F env h Q m x l} : wop F env h Q (.callv m x l) = wfn (ev env x) (fun id => l.all (fun x => !(ev env x).isTup) = true ∧ wcall F m yieldFn (.yield id :: l.map (ev env)) h Q) fun f captured => l.all (fun x => !(ev env x).isTup) = true ∧ wcall F m f (l.map (ev env) ++ captured) h Q := by
 simp only [wop, DOp.kind, if_true, callOf]
 cases ev env x <;> try rfl
 ·dsimp only
  by_cases hl : l.all (fun x => !(ev env x).isTup) = true
  ·rw [if_pos hl]; simp only [wfn_fn, hl, true_and]
  ·rw [if_neg hl]; exact (eq_false (fun h => hl h.1)).symm
 ·dsimp only
  by_cases hl : l.all (fun x => !(ev env x).isTup) = true
  ·rw [if_pos hl]; simp only [wfn_yield, hl, true_and]
  ·rw [if_neg hl]; exact (eq_false (fun h => hl h.1)).symm
attribute [simp] AV.isVal AV.oneCell AV.isTup AV.cells part pureVal readVal newVal effRes binop binInt eqB unop fillParts putCells
def Pure (Φ : Lib) (f : Nat) (args : List AV) (v : AV) : Prop := Runs Φ f args Heap.empty (fun v' _ => v' = v)
theorem call_pure {Φ : Lib} {m f : Nat} {args : List AV} {v : AV} {h : Heap} {Q : AV → Heap → Prop} (hp : Pure Φ f args v) (ha : AV.frozenL args = true) (hv : v.frozen = true) (k : Q v h) : wcall (Runs Φ) m f args h Q :=
 .inr (.inr (.inl ⟨ha, Runs.mono Φ _ _ _ _ _ (fun v' _ e => by subst e; exact ⟨hv, k⟩) hp⟩))
theorem call_quiet {Φ : Lib} {m f : Nat} {args : List AV} {v : AV} {h : Heap} {Q : AV → Heap → Prop} (hm : m ≤ 1) (hp : Runs Φ f args h (fun v' h' => v' = v ∧ h.Ext h')) (k : Q v h) : wcall (Runs Φ) m f args h Q :=
 .inr (.inl ⟨hm, Runs.mono Φ _ _ _ _ _ (fun v' _ e => by obtain ⟨rfl, e⟩ := e; exact ⟨e, k⟩) hp⟩)
theorem call_any {Φ : Lib} {f : Nat} {args : List AV} {h : Heap} {Q Q' : AV → Heap → Prop} (hp : Runs Φ f args h Q') (k : ∀ v h', Q' v h' → Q v h') : wcall (Runs Φ) 0 f args h Q :=
 .inl ⟨rfl, Runs.mono Φ _ _ _ _ _ k hp⟩
theorem call_fz {Φ : Lib} {f : Nat} {args args' : List AV} {v : AV} {h : Heap} {Q : AV → Heap → Prop} (S : Nat → Prop) (hy : (f == yieldFn) = false) (hp : Pure Φ f args' v) (hf : FzL h S args args') (ha : AV.frozenL args' = true) (hv : v.frozen = true) (k : Q v (h.drop S)) : wcall (Runs Φ) 0 f args h Q :=
 .inr (.inr (.inr ⟨rfl, hy, S, args', hf, ha, Runs.mono Φ _ _ _ _ _ (fun v' _ e => by subst e; exact ⟨hv, k⟩) hp⟩))
def finK (rs : List DRes) (Q : AV → Heap → Prop) : Ex → Env → Heap → Prop
 | .exit _ => fun _ _ => False
 | _ => fun env h => wopt (resVals env h rs) (fun v => Q v h ∨ ∃ (S : Nat → Prop) (v' : AV), FzV h S v v' ∧ Q v' (h.drop S))
@[simp] theorem finK_norm {rs Q} : finK rs Q .norm = fun env h => wopt (resVals env h rs) (fun v => Q v h ∨ ∃ (S : Nat → Prop) (v' : AV), FzV h S v v' ∧ Q v' (h.drop S)) := rfl
@[simp] theorem finK_ret {rs Q} : finK rs Q .ret = fun env h => wopt (resVals env h rs) (fun v => Q v h ∨ ∃ (S : Nat → Prop) (v' : AV), FzV h S v v' ∧ Q v' (h.drop S)) := rfl
theorem runs_of {Φ : Lib} {f : Nat} {d : DFunc} {args : List AV} {h : Heap} {Q : AV → Heap → Prop} (Z : Option Nat → Bool) (h0 : (f == yieldFn) = false) (hf : Φ f = some (.code d)) (hw : xcode (Runs Φ) Z d.body (finK d.results Q) (initEnv args) h) : Runs Φ f args h Q := by
 refine Runs.code (by simpa using h0) hf (wcode_mono (fun _ _ _ _ h => h) (Runs.mono Φ) d.body (fun x e h hh => ?_) (xcode_le (Runs.mono Φ) _ hw))
 cases x
 ·exact ⟨.inl rfl, hh⟩
 ·exact hh.elim
 ·exact ⟨.inr rfl, hh⟩
end Go.Proofs.YtdldfflfbfpngaaGreatDoor
set_option linter.unusedVariables false
namespace Go.Proofs.YtdldfflfbfpngaaGreatDoor
open Go
section
variable {F : FnSem} {r : List DOper} {Q : Env → Heap → Prop} {env : Env} {h : Heap} {d : Nat} {x y z c : DOpd}
theorem st_nil (k : Q env h) : wops F [] Q env h := k
theorem st_skipg {op t b} (hg : env t = .bool (!b)) (k : wops F r Q (env.put d (.tup [])) h) : wops F (⟨some d, op, some (t, b)⟩ :: r) Q env h := by
 simp [hg, k]
theorem st_skipt {op t b} (hg : env t = .tup []) (k : wops F r Q (env.put d (.tup [])) h) : wops F (⟨some d, op, some (t, b)⟩ :: r) Q env h := by
 simp [hg, k]
theorem st_gog {dst op t b} (hg : env t = .bool b) (k : wops F (⟨dst, op, none⟩ :: r) Q env h) : wops F (⟨dst, op, some (t, b)⟩ :: r) Q env h := by
 simp only [wops_go] at k
 simp [hg, k]
theorem st_mv {v} (hx : ev env x = v) (k : wops F r Q (env.put d v) h) : wops F (⟨some d, .mv x, none⟩ :: r) Q env h := by
 simp [hx, k]
theorem st_pick_t {v} (hc : ev env c = .bool true) (hx : ev env x = v) (k : wops F r Q (env.put d v) h) : wops F (⟨some d, .pick c x y, none⟩ :: r) Q env h := by
 simp [hc, hx, k]
theorem st_pick_f {v} (hc : ev env c = .bool false) (hx : ev env y = v) (k : wops F r Q (env.put d v) h) : wops F (⟨some d, .pick c x y, none⟩ :: r) Q env h := by
 simp [hc, hx, k]
theorem st_pure {op v} (hk : op.kind = .pure) (hv : pureVal env op = some v) (k : wops F r Q (env.put d v) h) : wops F (⟨some d, op, none⟩ :: r) Q env h := by
 rw [wops_go, wop_pure hk, hv]; exact k
theorem st_box {v} (hx : ev env x = v) (hv : v.isVal = true) (k : ∀ id, h.get id = none → wops F r Q (env.put d (.ptr id 0 0)) (h.set id (.cells 0 v.cells))) : wops F (⟨some d, .box x, none⟩ :: r) Q env h := by
 subst hx
 simp only [wops_go, wop_box, putDst_some]
 exact ⟨hv, k⟩
theorem st_alloc {zs} (k : ∀ id, h.get id = none → wops F r Q (env.put d (.ptr id 0 0)) (h.set id (.cells 0 zs))) : wops F (⟨some d, .alloc zs, none⟩ :: r) Q env h := by
 simp only [wops_go, wop_alloc, putDst_some]
 exact k
theorem st_lss {k k' a b} (hx : ev env x = .int k a) (hy : ev env y = .int k' b) (hk : k = k') (k1 : a < b → wops F r Q (env.put d (.bool true)) h) (k2 : ¬ a < b → wops F r Q (env.put d (.bool false)) h) : wops F (⟨some d, .bin .lss x y, none⟩ :: r) Q env h := by
 subst hk
 by_cases hp : a < b <;> simp [hx, hy, hp, k1, k2]
theorem st_leq {k k' a b} (hx : ev env x = .int k a) (hy : ev env y = .int k' b) (hk : k = k') (k1 : a ≤ b → wops F r Q (env.put d (.bool true)) h) (k2 : ¬ a ≤ b → wops F r Q (env.put d (.bool false)) h) : wops F (⟨some d, .bin .leq x y, none⟩ :: r) Q env h := by
 subst hk
 by_cases hp : a ≤ b <;> simp [hx, hy, hp, k1, k2]
theorem st_gtr {k k' a b} (hx : ev env x = .int k a) (hy : ev env y = .int k' b) (hk : k = k') (k1 : b < a → wops F r Q (env.put d (.bool true)) h) (k2 : ¬ b < a → wops F r Q (env.put d (.bool false)) h) : wops F (⟨some d, .bin .gtr x y, none⟩ :: r) Q env h := by
 subst hk
 by_cases hp : b < a <;> simp [hx, hy, hp, k1, k2]
theorem st_geq {k k' a b} (hx : ev env x = .int k a) (hy : ev env y = .int k' b) (hk : k = k') (k1 : b ≤ a → wops F r Q (env.put d (.bool true)) h) (k2 : ¬ b ≤ a → wops F r Q (env.put d (.bool false)) h) : wops F (⟨some d, .bin .geq x y, none⟩ :: r) Q env h := by
 subst hk
 by_cases hp : b ≤ a <;> simp [hx, hy, hp, k1, k2]
theorem st_eql {k k' a b} (hx : ev env x = .int k a) (hy : ev env y = .int k' b) (hk : k = k') (k1 : a = b → wops F r Q (env.put d (.bool true)) h) (k2 : ¬ a = b → wops F r Q (env.put d (.bool false)) h) : wops F (⟨some d, .bin .eql x y, none⟩ :: r) Q env h := by
 subst hk
 by_cases hp : a = b <;> simp [hx, hy, hp, k1, k2]
theorem st_neq {k k' a b} (hx : ev env x = .int k a) (hy : ev env y = .int k' b) (hk : k = k') (k1 : ¬ a = b → wops F r Q (env.put d (.bool true)) h) (k2 : a = b → wops F r Q (env.put d (.bool false)) h) : wops F (⟨some d, .bin .neq x y, none⟩ :: r) Q env h := by
 subst hk
 by_cases hp : a = b <;> simp [hx, hy, hp, k1, k2]
theorem st_not {b} (hx : ev env x = .bool b) (k : wops F r Q (env.put d (.bool !b)) h) : wops F (⟨some d, .un .not x, none⟩ :: r) Q env h := by
 simp [hx, k]
theorem st_add {a b s} (hx : ev env x = .int .i64 a) (hy : ev env y = .int .i64 b) (hs : a + b = s) (h1 : -9223372036854775808 ≤ s) (h2 : s ≤ 9223372036854775807) (k : wops F r Q (env.put d (.int .i64 s)) h) : wops F (⟨some d, .bin .add x y, none⟩ :: r) Q env h := by
 subst hs
 have : IntKind.i64.wrap (a + b) = a + b := by simp [IntKind.wrap, IntKind.bits, IntKind.signed]; omega
 simp [hx, hy, this, k]
theorem st_sub {a b s} (hx : ev env x = .int .i64 a) (hy : ev env y = .int .i64 b) (hs : a - b = s) (h1 : -9223372036854775808 ≤ s) (h2 : s ≤ 9223372036854775807) (k : wops F r Q (env.put d (.int .i64 s)) h) : wops F (⟨some d, .bin .sub x y, none⟩ :: r) Q env h := by
 subst hs
 have : IntKind.i64.wrap (a - b) = a - b := by simp [IntKind.wrap, IntKind.bits, IntKind.signed]; omega
 simp [hx, hy, this, k]
theorem st_len_rd {n cs f} (hx : ev env x = .rd n cs f) (k : wops F r Q (env.put d (.int .i64 n)) h) : wops F (⟨some d, .len 0 x, none⟩ :: r) Q env h := by
 simp [hx, k]
theorem st_len_own {id g e off n lim} (hx : ev env x = .own id g e off n lim) (k : wops F r Q (env.put d (.int .i64 n)) h) : wops F (⟨some d, .len 0 x, none⟩ :: r) Q env h := by
 simp [hx, k]
theorem st_field_p {id g o off s} (hx : ev env x = .ptr id g o) (hs : o + off = s) (k : wops F r Q (env.put d (.ptr id g s)) h) : wops F (⟨some d, .fieldAddr off x, none⟩ :: r) Q env h := by
 subst hs
 simp [hx, k]
theorem st_field_r {cs off cs'} (hx : ev env x = .rp cs) (hl : off ≤ cs.length) (hs : cs.drop off = cs') (k : wops F r Q (env.put d (.rp cs')) h) : wops F (⟨some d, .fieldAddr off x, none⟩ :: r) Q env h := by
 subst hs
 simp [hx, hl, k]
theorem st_nilck_p {id g o} (hx : ev env x = .ptr id g o) (k : wops F r Q (env.put d (.ptr id g o)) h) : wops F (⟨some d, .nilck x, none⟩ :: r) Q env h := by
 simp [hx, k]
theorem st_load_p {b n ag id g o cs v} (hx : ev env x = .ptr id g o) (hg : h.get id = some (.cells g cs)) (hb : b = true → g = 0) (hl : o + n ≤ cs.length) (hv : part ag o n cs = v) (k : wops F r Q (env.put d v) h) : wops F (⟨some d, .load b n ag x, none⟩ :: r) Q env h := by
 subst hv
 simp only [wops_go, wop_load, readVal, hx, hg]
 rw [if_pos ⟨trivial, hb, hl⟩]
 exact k
theorem st_load_r {b n ag cs v} (hx : ev env x = .rp cs) (hl : n ≤ cs.length) (hv : part ag 0 n cs = v) (k : wops F r Q (env.put d v) h) : wops F (⟨some d, .load b n ag x, none⟩ :: r) Q env h := by
 subst hv
 simp only [wops_go, wop_load, readVal, hx]
 rw [if_pos hl]
 exact k
theorem st_index_rd {e n cs f k j cs'} (hx : ev env x = .rd n cs f) (hy : ev env y = .int k j) (h0 : 0 ≤ j) (h1 : j < n) (hs : (cs.drop (j.toNat * e)).take e = cs') (k : wops F r Q (env.put d (.rp cs')) h) : wops F (⟨some d, .indexAddr e x y, none⟩ :: r) Q env h := by
 subst hs
 simp [hx, hy, h0, h1, k]
theorem st_index_own {e id g off n lim k j} (hx : ev env x = .own id g e off n lim) (hy : ev env y = .int k j) (h0 : 0 ≤ j) (h1 : j < n) (k : wops F r Q (env.put d (.ptr id g ((off + j.toNat) * e))) h) : wops F (⟨some d, .indexAddr e x y, none⟩ :: r) Q env h := by
 simp [hx, hy, h0, h1, k]
theorem st_build {zs ps cs} (hf : fillParts env zs ps = some cs) (k : wops F r Q (env.put d (.agg cs)) h) : wops F (⟨some d, .build zs ps, none⟩ :: r) Q env h := by
 simp [hf, k]
theorem st_lit {e n zs ps cs} (hf : fillParts env zs ps = some cs) (hl : cs.length = n * e) (k : wops F r Q (env.put d (.rd n cs true)) h) : wops F (⟨some d, .lit e n zs ps, none⟩ :: r) Q env h := by
 simp [hf, hl, k]
theorem st_mkfn {f l vs} (ha : l.map (ev env) = vs) (hv : vs.all AV.oneCell = true) (k : wops F r Q (env.put d (.fn f vs)) h) : wops F (⟨some d, .mkfn f l, none⟩ :: r) Q env h := by
 subst ha
 simp only [List.all_map, Function.comp_def] at hv
 simp only [wops_go, wop_mkfn, pureVal, hv, if_true, wopt_some, putDst_some]
 exact k
theorem st_call {m f l vs} (ha : l.map (ev env) = vs) (hv : vs.all (fun v => !v.isTup) = true) (k : wcall F m f vs h (fun v h' => wops F r Q (env.put d v) h')) : wops F (⟨some d, .call m f l, none⟩ :: r) Q env h := by
 subst ha
 simp only [List.all_map, Function.comp_def] at hv
 simp only [wops_go, wop_call, putDst_some]
 exact ⟨hv, k⟩
theorem st_callv {m l f cap vs} (hx : ev env x = .fn f cap) (ha : l.map (ev env) ++ cap = vs) (hv : (l.map (ev env)).all (fun v => !v.isTup) = true) (k : wcall F m f vs h (fun v h' => wops F r Q (env.put d v) h')) : wops F (⟨some d, .callv m x l, none⟩ :: r) Q env h := by
 subst ha
 simp only [List.all_map, Function.comp_def] at hv
 simp only [wops_go, wop_callv, hx, putDst_some, wfn_fn]
 exact ⟨hv, k⟩
theorem st_cally {m l id vs} (hx : ev env x = .yield id) (ha : l.map (ev env) = vs) (hv : vs.all (fun v => !v.isTup) = true) (k : wcall F m yieldFn (.yield id :: vs) h (fun v h' => wops F r Q (env.put d v) h')) : wops F (⟨some d, .callv m x l, none⟩ :: r) Q env h := by
 subst ha
 simp only [List.all_map, Function.comp_def] at hv
 simp only [wops_go, wop_callv, hx, putDst_some, wfn_yield]
 exact ⟨hv, k⟩
variable {Z : Option Nat → Bool} {K : Ex → Env → Heap → Prop} {a b : DCode}
theorem sx_skip (k : K .norm env h) : xcode F Z .skip K env h := k
theorem sx_seq (k : xcode F Z a (seqK (xcode F Z b K) K) env h) : xcode F Z (.seq a b) K env h := k
theorem sx_block {i} (k : xcode F Z a (blockK i K) env h) : xcode F Z (.block i a) K env h := k
theorem sx_ret (k : K .ret env h) : xcode F Z .ret K env h := k
theorem sx_exit {i} (k : K (.exit i) env h) : xcode F Z (.exit i) K env h := k
theorem sx_ops {l} (hz : Z (firstDst l) = false) (k : wops F l (K .norm) env h) : xcode F Z (.ops l) K env h := by
 rw [xcode_ops, hz]; exact k
theorem sx_cond_t {c} (hc : ev env c = .bool true) (k : xcode F Z a K env h) : xcode F Z (.cond c a b) K env h := by
 simp [hc, k]
theorem sx_cond_f {c} (hc : ev env c = .bool false) (k : xcode F Z b K env h) : xcode F Z (.cond c a b) K env h := by
 simp [hc, k]
theorem sk_norm {k : Env → Heap → Prop} (hk : k env h) : seqK k K .norm env h := hk
theorem sk_ret {k : Env → Heap → Prop} (hk : K .ret env h) : seqK k K .ret env h := hk
theorem sk_exit {k : Env → Heap → Prop} {i} (hk : K (.exit i) env h) : seqK k K (.exit i) env h := hk
theorem bk_norm {i} (hk : K .norm env h) : blockK i K .norm env h := hk
theorem bk_ret {i} (hk : K .ret env h) : blockK i K .ret env h := hk
theorem bk_exit {i} (hk : K .norm env h) : blockK i K (.exit i) env h := by simp [hk]
theorem bk_other {i j} (hij : (j == i) = false) (hk : K (.exit j) env h) : blockK i K (.exit j) env h := by
 have : ¬ j = i := by simpa using hij
 simp [this, hk]
theorem fin_norm {rs} {Q : AV → Heap → Prop} {v} (hv : resVals env h rs = some v) (k : Q v h) : finK rs Q .norm env h := by
 simp [hv, k]
theorem fin_ret {rs} {Q : AV → Heap → Prop} {v} (hv : resVals env h rs = some v) (k : Q v h) : finK rs Q .ret env h := by
 simp [hv, k]
end
def Env.has (env : Env) : List (Nat × AV) → Prop
 | [] => True
 | p :: l => env p.1 = p.2 ∧ Env.has env l
def Env.puts (env : Env) : List (Nat × AV) → Env
 | [] => env
 | p :: l => (Env.puts env l).put p.1 p.2
theorem Env.put_self {env : Env} {t : Nat} {v : AV} (h : env t = v) : env.put t v = env := by
 funext i
 simp only [Env.put_apply]
 split
 ·rename_i e; rw [e, h]
 ·rfl
theorem Env.has.puts {env : Env} : ∀ {l : List (Nat × AV)}, env.has l → env.puts l = env
 | [], _ => rfl
 | p :: l, h => by
  simp only [Env.puts]
  rw [Env.has.puts h.2, Env.put_self h.1]
theorem Env.has.ex {env : Env} {l : List (Nat × AV)} (h : env.has l) : ∃ e, env = Env.puts e l := ⟨env, h.puts.symm⟩
def loopK (I : Nat → Env → Heap → Prop) (n : Nat) (Q : Ex → Env → Heap → Prop) : Ex → Env → Heap → Prop
 | .norm => fun env h => ∃ m, m < n ∧ I m env h
 | ex => Q ex
theorem lk_norm {I n Q env h} (m : Nat) (hm : m < n) (k : I m env h) : loopK I n Q .norm env h := ⟨m, hm, k⟩
theorem lk_ret {I n Q env h} (k : Q .ret env h) : loopK I n Q .ret env h := k
theorem lk_exit {I n Q env h i} (k : Q (.exit i) env h) : loopK I n Q (.exit i) env h := k
theorem sx_loop {Φ : Lib} {Z : Option Nat → Bool} {c : DCode} {Q : Ex → Env → Heap → Prop} (I : Nat → Env → Heap → Prop) (n : Nat) {env : Env} {h : Heap} (h0 : I n env h)
  (hr : ∀ n env h, I n env h → xcode (Runs Φ) Z c (loopK I n Q) env h) : xcode (Runs Φ) Z (.loop c) Q env h := by
 rw [xcode_loop]
 refine wloop I n h0 (fun n env h hi => ?_) (Runs.mono Φ)
 refine wcode_mono (fun _ _ _ _ h => h) (Runs.mono Φ) c (fun x e h hh => ?_) (xcode_le (Runs.mono Φ) _ (hr n env h hi))
 cases x
 ·exact hh
 ·exact hh
 ·exact hh
theorem flat_part {α : Type} (f : α → List AV) (n : Nat) (hf : ∀ x, (f x).length = n) : ∀ (l : List α) (i : Nat) (x : α), l[i]? = some x → ((l.flatMap f).drop (i * n)).take n = f x
 | [], _, _, h => by simp at h
 | a :: l, 0, x, h => by
  simp at h
  subst h
  rw [List.flatMap_cons, Nat.zero_mul, List.drop_zero, List.take_left' (hf _)]
 | a :: l, i + 1, x, h => by
  simp at h
  rw [List.flatMap_cons, Nat.add_mul, Nat.one_mul, Nat.add_comm, ← List.drop_drop]
  rw [List.drop_left' (hf _)]
  exact flat_part f n hf l i x h
theorem flat_length {α : Type} (f : α → List AV) (n : Nat) (hf : ∀ x, (f x).length = n) (l : List α) : (l.flatMap f).length = l.length * n := by
 induction l with
 | nil => simp
 | cons a l ih => rw [List.flatMap_cons, List.length_append, ih, hf, List.length_cons, Nat.add_mul, Nat.one_mul, Nat.add_comm]
section
variable {F : FnSem} {r : List DOper} {Q : Env → Heap → Prop} {env : Env} {h : Heap} {d : Nat} {x y z c : DOpd}
theorem st_index_flat {α : Type} {f : α → List AV} {l : List α} {a : α} {m e n : Nat} {fl : Bool} {k : IntKind} {j : Int} (hx : ev env x = .rd n (l.flatMap f) fl) (hf : ∀ x, (f x).length = e) (hy : ev env y = .int k j) (hm : j = (m : Int)) (ha : l[m]? = some a) (hn : n = l.length)
  (k : wops F r Q (env.put d (.rp (f a))) h) : wops F (⟨some d, .indexAddr e x y, none⟩ :: r) Q env h := by
 have hlt := (List.getElem?_eq_some_iff.1 ha).1
 exact st_index_rd hx hy (by omega) (by omega) (by subst hm; simpa using flat_part f e hf l m a ha) k
theorem st_load_ra {b n cs} (hx : ev env x = .rp cs) (hl : cs.length = n) (k : wops F r Q (env.put d (.agg cs)) h) : wops F (⟨some d, .load b n true x, none⟩ :: r) Q env h :=
 st_load_r hx (by omega) (by simp [part, ← hl]) k
end
end Go.Proofs.YtdldfflfbfpngaaGreatDoor
