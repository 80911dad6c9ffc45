/- Machines; slices.Equal, IndexFunc of ints, nfa.Sound. What free ways lead to: the plain law. Compact and tags: the plain law. Marking: the plain law. The document's closure: the plain law. -/
import Derived.Test.YtdldfflfbfpngaaGreatDoorD2
set_option linter.unusedVariables false
set_option linter.unusedSimpArgs false
namespace Go.Proofs.YtdldfflfbfpngaaGreatDoor
open Go
set_option maxHeartbeats 4000000
attribute [local irreducible] wops xcode wcode seqK blockK loopK finK wcall wop wstp Runs
structure Rw (α : Type) where
 l : List α
 fl : Bool
@[reducible] def Rw.av {α : Type} (f : α → List AV) (r : Rw α) : AV := .rd r.l.length (r.l.flatMap f) r.fl
@[reducible] def Rw.mv {α : Type} (f : α → AV) (r : Rw α) : AV := .rd r.l.length (r.l.map f) r.fl
structure Edge where
 to : Int
 set : Rw Span
@[reducible] def Edge.av (e : Edge) : List AV := [.int .i64 e.to, e.set.av Span.av]
@[simp] theorem Edge.av_length (e : Edge) : e.av.length = 2 := rfl
@[reducible] def Rw.ev (r : Rw Edge) : AV := r.av Edge.av
@[reducible] def Rw.iv (r : Rw Int) : AV := r.mv (.int .i64)
structure Nfa where
 edges : Rw (Rw Edge)
 free : Rw (Rw Int)
 tags : Rw Int
@[reducible] def Nfa.av (n : Nfa) : List AV := [n.edges.mv Rw.ev, n.free.mv Rw.iv, n.tags.iv]
theorem frozenL_flat {α : Type} {f : α → List AV} (hf : ∀ x, AV.frozenL (f x) = true) : ∀ l : List α, AV.frozenL (l.flatMap f) = true
 | [] => rfl
 | a :: l => by
  have : ∀ x y : List AV, AV.frozenL x = true → AV.frozenL y = true → AV.frozenL (x ++ y) = true := by
   intro x
   induction x with
   | nil => intro y _ h; exact h
   | cons b x ih =>
    intro y h1 h2
    simp only [AV.frozenL, Bool.and_eq_true, List.cons_append] at h1 ⊢
    exact ⟨h1.1, ih y h1.2 h2⟩
  rw [List.flatMap_cons]
  exact this _ _ (hf a) (frozenL_flat hf l)
theorem frozenL_map {α : Type} {f : α → AV} (hf : ∀ x, (f x).frozen = true) (l : List α) : AV.frozenL (l.map f) = true := by
 induction l with
 | nil => rfl
 | cons a l ih => simp [AV.frozenL, ih, hf]
@[simp] theorem frz_span (s : Span) : AV.frozenL s.av = true := rfl
@[simp] theorem frz_spans (l : List Span) : AV.frozenL (l.flatMap Span.av) = true := frozenL_flat frz_span l
@[simp] theorem frz_ints (l : List Int) : AV.frozenL (l.map (.int .i64)) = true := frozenL_map (fun _ => rfl) l
@[simp] theorem frz_edge (e : Edge) : AV.frozenL e.av = true := by simp [Edge.av, AV.frozenL, AV.frozen]
@[simp] theorem frz_edges (l : List Edge) : AV.frozenL (l.flatMap Edge.av) = true := frozenL_flat frz_edge l
@[simp] theorem frz_evs (l : List (Rw Edge)) : AV.frozenL (l.map Rw.ev) = true := frozenL_map (fun r => by simp [AV.frozen]) l
@[simp] theorem frz_ivs (l : List (Rw Int)) : AV.frozenL (l.map Rw.iv) = true := frozenL_map (fun r => by simp [AV.frozen]) l
@[simp] theorem frz_nfa (n : Nfa) : AV.frozenL n.av = true := by simp [Nfa.av, AV.frozenL, AV.frozen]
theorem eqS_span (a b : Span) (neg : Bool) : eqS neg 2 (.agg a.av) (.agg b.av) = some (.bool (if neg then !decide (a = b) else decide (a = b))) := by
 have : (decide (a.lo = b.lo) && (decide (a.hi = b.hi) && true)) = decide (a = b) := by
  rw [Bool.eq_iff_iff]
  cases a; cases b; simp
 simp only [eqS, Span.av, List.length_cons, List.length_nil, Nat.zero_add, Nat.reduceAdd, sameInts, if_true, Option.map_some, this]
theorem st_eqS_span {F : FnSem} {r : List DOper} {Q : Env → Heap → Prop} {env : Env} {h : Heap} {d : Nat} {x y : DOpd} {a b : Span} {neg : Bool} (hx : ev env x = .agg a.av) (hy : ev env y = .agg b.av) (k1 : a = b → wops F r Q (env.put d (.bool !neg)) h) (k2 : ¬ a = b → wops F r Q (env.put d (.bool neg)) h) : wops F (⟨some d, .eqS neg 2 x y, none⟩ :: r) Q env h := by
 by_cases hp : a = b
 ·refine st_pure (v := .bool !neg) rfl ?_ (k1 hp)
  simp only [pureVal, hx, hy, eqS_span, hp]
  cases neg <;> simp
 ·refine st_pure (v := .bool neg) rfl ?_ (k2 hp)
  simp only [pureVal, hx, hy, eqS_span, hp]
  cases neg <;> simp
theorem equal_ok {Φ : Lib} (L : C1Lib Φ) (a b : List Span) (f g : Bool) (ha : a.length < 4611686018427387904) : Pure Φ 37 [.rd a.length (a.flatMap Span.av) f, .rd b.length (b.flatMap Span.av) g] (.bool (decide (a = b))) := by
 refine runs_of (fun _ => false) rfl L.f37 ?_
 repeat' first | refine st_nil ?_ | (refine gw ?_; first | (refine gq0 ?_; first | refine st_mv (v := AV.int _ _) rfl ?_ | refine st_mv (v := AV.bool _) rfl ?_ | refine st_mv (v := AV.rd _ _ _) rfl ?_) | (refine st_neq rfl rfl rfl ?_ ?_ <;> (intro hc; try (exfalso; omega))) | refine st_len_rd rfl ?_) | (refine gx ?_; first | refine sx_seq ?_ | refine sx_ops rfl ?_ | refine sx_skip ?_ | refine sx_block ?_ | refine sx_ret ?_ | refine sx_cond_t rfl ?_ | refine sx_cond_f rfl ?_) | refine sk_norm ?_ | refine sk_ret ?_ | refine fin_ret (v := AV.bool _) rfl ?_
 ·rw [decide_eq_false]
  rintro rfl
  exact hc rfl
 ·have hlen : a.length = b.length := by omega
  refine sx_for a.length (fun i env h' => a.take i = b.take i ∧ env.has [(0, .rd a.length (a.flatMap Span.av) f), (1, .rd b.length (b.flatMap Span.av) g), (12, .int .i64 a.length), (13, .int .i64 i)]) ⟨rfl, hh_⟩ ?_
  rintro i env h' hi ⟨hpre, he⟩
  obtain ⟨env, rfl⟩ := he.ex
  clear he
  by_cases hi2 : i < a.length
  ·obtain ⟨x, hx⟩ := ex_get hi2
   obtain ⟨y, hy⟩ := ex_get (show i < b.length by omega)
   repeat' first | refine st_nil ?_ | (refine gw ?_; first | (refine gq0 ?_; first | refine st_mv (v := AV.int _ _) rfl ?_ | refine st_mv (v := AV.bool _) rfl ?_ | refine st_mv (v := AV.rd _ _ _) rfl ?_) | refine st_load_ra rfl (by first | rfl | (simp [*]; done) | fail) ?_ | (refine gq3 ?_; first | refine st_add rfl rfl rfl (by omega) (by omega) ?_ | (refine st_lss rfl rfl rfl ?_ ?_ <;> (intro hc; try (exfalso; omega)))) | refine st_index_flat rfl fl_ rfl rfl (by assumption) rfl ?_ | (refine st_eqS_span (neg := true) rfl rfl ?_ ?_ <;> intro hc)) | (refine gx ?_; first | refine sx_seq ?_ | refine sx_ops rfl ?_ | refine sx_skip ?_ | refine sx_block ?_ | refine sx_ret ?_ | refine sx_cond_t rfl ?_ | refine sx_cond_f rfl ?_) | refine sk_norm ?_ | refine sk_ret ?_ | refine bk_norm ?_ | refine bk_ret ?_ | refine lk_ret ?_ | refine fin_ret (v := AV.bool _) rfl ?_
   ·exact lk_next hi2 ⟨by rw [take_snoc hx, take_snoc hy, hpre, ‹x = y›], hh_⟩
   ·rw [decide_eq_false]
    rintro rfl
    rw [hx] at hy
    cases hy
    exact ‹¬ _ = _› rfl
  ·repeat' first | refine st_nil ?_ | (refine gw ?_; first | refine st_mv (v := AV.bool _) rfl ?_ | (refine st_lss rfl rfl rfl ?_ ?_ <;> (intro hc; try (exfalso; omega)))) | (refine gx ?_; first | refine sx_seq ?_ | refine sx_ops rfl ?_ | refine sx_ret ?_ | refine sx_exit ?_ | refine sx_cond_f rfl ?_) | refine sk_norm ?_ | refine sk_exit ?_ | refine bk_exit ?_ | refine lk_exit ?_ | refine fin_ret (v := AV.bool _) rfl ?_
   rw [List.take_of_length_le (by omega), List.take_of_length_le (by omega)] at hpre
   simp [hpre]
theorem indexFunc1_ok {Φ : Lib} {k : Nat} (h0 : (k == yieldFn) = false) (hk : Φ k = some (.code d_slices_IndexFunc___int_int_)) (l : List Int) (fl : Bool) (fn : Nat) (cap : List AV) (p : Int → Bool) (h : Heap) (hl : l.length < 4611686018427387904)
  (hp : ∀ x ∈ l, Runs Φ fn ([.int .i64 x] ++ cap) h (fun v h' => v = .bool (p x) ∧ h.Ext h')) :
  Runs Φ k [.rd l.length (l.map (.int .i64)) fl, .fn fn cap] h (fun v h' => v = .int .i64 (idxV (l.findIdx? p)) ∧ h' = h) := by
 refine runs_of (fun _ => false) h0 hk ?_
 repeat' first | refine st_nil ?_ | (refine gw ?_; first | (refine gq0 ?_; first | refine st_mv (v := AV.int _ _) rfl ?_ | refine st_mv (v := AV.rd _ _ _) rfl ?_) | refine st_len_rd rfl ?_) | (refine gx ?_; first | refine sx_seq ?_ | refine sx_ops rfl ?_ | refine sx_block ?_) | refine sk_norm ?_
 refine sx_for l.length (fun i env h' => h' = h ∧ (∀ x ∈ l.take i, p x = false) ∧ env.has [(8, .int .i64 i), (7, .int .i64 l.length), (0, .rd l.length (l.map (.int .i64)) fl), (1, .fn fn cap)]) ⟨rfl, by simp, hh_⟩ ?_
 rintro i env h' hi ⟨rfl, hpre, he⟩
 obtain ⟨env, rfl⟩ := he.ex
 clear he
 by_cases hi2 : i < l.length
 ·obtain ⟨a, ha⟩ := ex_get hi2
  repeat' first | refine st_nil ?_ | (refine gw ?_; first | (refine gq0 ?_; first | refine st_mv (v := AV.int _ _) rfl ?_ | refine st_mv (v := AV.rd _ _ _) rfl ?_ | refine st_mv (v := AV.fn _ _) rfl ?_) | refine st_load_r rfl b_ pv_ ?_ | (refine st_lss rfl rfl rfl ?_ ?_ <;> (intro hc; try (exfalso; omega))) | refine st_index_map rfl rfl rfl (by assumption) rfl ?_ | refine st_callv rfl rfl nt_ ?_) | (refine gx ?_; first | refine sx_seq ?_ | refine sx_ops rfl ?_ | refine sx_skip ?_ | refine sx_block ?_ | refine sx_cond_t rfl ?_) | refine sk_norm ?_
  refine call_quiet (by decide) (hp a (List.mem_of_getElem? ha)) ?_
  cases hpa : p a
  ·repeat' first | refine st_nil ?_ | (refine gw ?_; first | refine st_mv (v := AV.int _ _) rfl ?_ | refine st_add rfl rfl rfl (by omega) (by omega) ?_) | (refine gx ?_; first | refine sx_ops rfl ?_ | refine sx_skip ?_ | refine sx_cond_f rfl ?_) | refine sk_norm ?_ | refine bk_norm ?_
   refine lk_next hi2 ⟨rfl, ?_, hh_⟩
   intro x hx
   rw [take_snoc ha] at hx
   simp only [List.mem_append, List.mem_singleton] at hx
   rcases hx with hx | rfl
   ·exact hpre x hx
   ·exact hpa
  ·repeat' first | refine st_nil ?_ | refine st_mv (v := AV.int _ _) rfl ?_ | (refine gx ?_; first | refine sx_seq ?_ | refine sx_ops rfl ?_ | refine sx_ret ?_ | refine sx_cond_t rfl ?_) | refine sk_norm ?_ | refine sk_ret ?_ | refine bk_ret ?_ | refine lk_ret ?_ | refine fin_ret (v := AV.int _ _) rfl ?_
   refine ⟨?_, rfl⟩
   have : l.findIdx? p = some i := by
    rw [List.findIdx?_eq_some_iff_getElem]
    rw [List.getElem?_eq_some_iff] at ha
    obtain ⟨h1, rfl⟩ := ha
    refine ⟨h1, hpa, fun j hj => ?_⟩
    simp [hpre l[j] (List.mem_take_iff_getElem.2 ⟨j, by omega, rfl⟩)]
   rw [this]
   rfl
 ·repeat' first | refine st_nil ?_ | (refine gw ?_; first | refine st_mv (v := AV.int _ _) rfl ?_ | (refine st_lss rfl rfl rfl ?_ ?_ <;> (intro hc; try (exfalso; omega)))) | (refine gx ?_; first | refine sx_seq ?_ | refine sx_ops rfl ?_ | refine sx_ret ?_ | refine sx_exit ?_ | refine sx_cond_f rfl ?_) | refine sk_norm ?_ | refine sk_exit ?_ | refine bk_exit ?_ | refine lk_exit ?_ | refine fin_ret (v := AV.int _ _) rfl ?_
  refine ⟨?_, rfl⟩
  have : l.findIdx? p = none := by
   rw [List.findIdx?_eq_none_iff]
   rwa [List.take_of_length_le (by omega)] at hpre
  rw [this]
  rfl
theorem idxV_any {α : Type} (l : List α) (p : α → Bool) : l.any p = decide (0 ≤ idxV (l.findIdx? p)) := by
 cases hx : l.findIdx? p with
 | none =>
  rw [List.findIdx?_eq_none_iff] at hx
  simp only [idxV]
  simpa using hx
 | some i =>
  rw [List.findIdx?_eq_some_iff_getElem] at hx
  obtain ⟨h1, h2, _⟩ := hx
  simp only [idxV]
  simp
  exact ⟨_, List.getElem_mem h1, h2⟩
theorem containsFunc1_ok {Φ : Lib} (L : C1Lib Φ) (l : List Int) (fl : Bool) (fn : Nat) (cap : List AV) (p : Int → Bool) (h : Heap) (hl : l.length < 4611686018427387904)
  (hp : ∀ x ∈ l, Runs Φ fn ([.int .i64 x] ++ cap) h (fun v h' => v = .bool (p x) ∧ h.Ext h')) :
  Runs Φ 40 [.rd l.length (l.map (.int .i64)) fl, .fn fn cap] h (fun v h' => v = .bool (l.any p) ∧ h' = h) := by
 refine runs_of (fun _ => false) rfl L.f40 ?_
 repeat' first | refine st_nil ?_ | (refine gw ?_; first | (refine gq0 ?_; first | refine st_mv (v := AV.bool _) rfl ?_ | refine st_mv (v := AV.rd _ _ _) rfl ?_ | refine st_mv (v := AV.fn _ _) rfl ?_) | refine st_call rfl nt_ ?_) | (refine gx ?_; first | refine sx_seq ?_ | refine sx_ops rfl ?_) | refine sk_norm ?_
 refine call_any (indexFunc1_ok rfl L.f52 l fl fn cap p h hl hp) ?_
 rintro _ _ ⟨rfl, rfl⟩
 have e := idxV_any l p
 repeat' first | refine st_nil ?_ | (refine gw ?_; first | refine st_mv (v := AV.bool _) rfl ?_ | (refine st_geq rfl rfl rfl ?_ ?_ <;> (intro hc; try (exfalso; omega)))) | refine sx_ret ?_ | refine sk_norm ?_ | refine fin_ret (v := AV.bool _) rfl ?_
 all_goals exact ⟨by rw [e]; simp [*], rfl⟩
theorem containsFuncE_ok {Φ : Lib} (L : C1Lib Φ) (l : List Edge) (fl : Bool) (fn : Nat) (cap : List AV) (p : Edge → Bool) (h : Heap) (hl : l.length < 4611686018427387904)
  (hp : ∀ x ∈ l, Runs Φ fn ([.agg x.av] ++ cap) h (fun v h' => v = .bool (p x) ∧ h.Ext h')) :
  Runs Φ 39 [.rd l.length (l.flatMap Edge.av) fl, .fn fn cap] h (fun v h' => v = .bool (l.any p) ∧ h' = h) := by
 refine runs_of (fun _ => false) rfl L.f39 ?_
 repeat' first | refine st_nil ?_ | (refine gw ?_; first | (refine gq0 ?_; first | refine st_mv (v := AV.bool _) rfl ?_ | refine st_mv (v := AV.rd _ _ _) rfl ?_ | refine st_mv (v := AV.fn _ _) rfl ?_) | refine st_call rfl nt_ ?_) | (refine gx ?_; first | refine sx_seq ?_ | refine sx_ops rfl ?_) | refine sk_norm ?_
 refine call_any (indexFunc2_ok rfl L.f51 Edge.av Edge.av_length l fl fn cap p h hl hp) ?_
 rintro _ _ ⟨rfl, rfl⟩
 have e := idxV_any l p
 repeat' first | refine st_nil ?_ | (refine gw ?_; first | refine st_mv (v := AV.bool _) rfl ?_ | (refine st_geq rfl rfl rfl ?_ ?_ <;> (intro hc; try (exfalso; omega)))) | refine sx_ret ?_ | refine sk_norm ?_ | refine fin_ret (v := AV.bool _) rfl ?_
 all_goals exact ⟨by rw [e]; simp [*], rfl⟩
def outN (k to : Int) : Bool := decide (to < 0) || decide (k ≤ to)
def oddE (k : Int) (e : Edge) : Bool := outN k e.to || !decide (normS e.set.l = e.set.l)
def oddAt (n : Nfa) (i : Nat) : Bool := decide (n.tags.l.getD i 0 < -1) || (n.edges.l.getD i ⟨[], true⟩).l.any (oddE n.tags.l.length) || (n.free.l.getD i ⟨[], true⟩).l.any (outN n.tags.l.length)
def soundN (n : Nfa) : Bool :=
 if n.tags.l.length = 0 ∨ 2000 < n.tags.l.length ∨ n.edges.l.length ≠ n.tags.l.length ∨ n.free.l.length ≠ n.tags.l.length then false
 else (List.range n.tags.l.length).all fun i => !oddAt n i
structure Nfa.Fits (n : Nfa) : Prop where
 tags : n.tags.l.length ≤ 1048576
 edges : n.edges.l.length ≤ 1048576
 free : n.free.l.length ≤ 1048576
 edge : ∀ r ∈ n.edges.l, r.l.length ≤ 1048576 ∧ ∀ e ∈ r.l, e.set.l.length ≤ 1048576
 frees : ∀ r ∈ n.free.l, r.l.length ≤ 1048576
 spans : ∀ r ∈ n.edges.l, ∀ e ∈ r.l, ∀ s ∈ e.set.l, -9223372036854775808 ≤ s.hi
theorem sound1_ok {Φ : Lib} (L : C1Lib Φ) (to k : Int) (id : Nat) (h : Heap) (hr : h.get id = some (.cells 0 [.int .i64 k])) :
  Runs Φ 35 [.int .i64 to, .ptr id 0 0] h (fun v h' => v = .bool (outN k to) ∧ h.Ext h') := by
 refine runs_of (fun _ => false) rfl L.f35 ?_
 repeat' first | refine st_nil ?_ | (refine gw ?_; first | (refine gq0 ?_; first | refine st_mv (v := AV.int _ _) rfl ?_ | refine st_mv (v := AV.bool _) rfl ?_) | (refine gq1 ?_; first | refine st_skipg rfl ?_ | refine st_gog rfl ?_) | refine st_load_p rfl hg_ (by simp) b_ pv_ ?_ | (refine gq3 ?_; first | (refine st_lss rfl rfl rfl ?_ ?_ <;> (intro hc; try (exfalso; omega))) | (refine st_geq rfl rfl rfl ?_ ?_ <;> (intro hc; try (exfalso; omega)))) | (refine gq7 ?_; first | refine st_pick_t (v := AV.bool _) rfl rfl ?_ | refine st_pick_f (v := AV.bool _) rfl rfl ?_)) | (refine gx ?_; first | refine sx_seq ?_ | refine sx_ops rfl ?_ | refine sx_ret ?_) | refine sk_norm ?_ | refine fin_ret (v := AV.bool _) rfl ?_
 all_goals refine ⟨?_, Heap.Ext.refl h⟩
 all_goals simp [outN, *]
theorem mergeR_length (r : List Span) (s : Span) : (mergeR r s).length ≤ r.length + 1 := by
 cases r with
 | nil => simp [mergeR]
 | cons a r =>
  simp only [mergeR]
  split <;> simp
theorem foldl_mergeR_length : ∀ (p r : List Span), (p.foldl mergeR r).length ≤ r.length + p.length
 | [], r => by simp
 | s :: p, r => by
  have h1 := foldl_mergeR_length p (mergeR r s)
  have h2 := mergeR_length r s
  rw [List.foldl_cons, List.length_cons]
  omega
theorem flat_pieces_length : ∀ k : List Span, (k.flatMap piecesOf).length ≤ 2 * k.length
 | [] => by simp
 | a :: k => by
  have h1 := flat_pieces_length k
  have h2 := pieces_two a
  rw [List.flatMap_cons, List.length_append, List.length_cons]
  omega
theorem normS_length (l : List Span) : (normS l).length ≤ 2 * l.length := by
 have h1 := foldl_mergeR_length ((l.flatMap piecesOf).mergeSort fun a b => decide (a.lo ≤ b.lo)) []
 have h2 := flat_pieces_length l
 rw [List.length_mergeSort, List.length_nil] at h1
 rw [normS, mergeS, List.length_reverse]
 omega
theorem normS_small (l : List Span) (h : l.length ≤ 1048576) : (normS l).length < 4611686018427387904 := by
 have := normS_length l
 omega
theorem sound2_ok {Φ : Lib} (L : C1Lib Φ) (S : SortLib Φ) (e : Edge) (k : Int) (id id2 : Nat) (h : Heap) (he : e.set.l.length ≤ 1048576) (hr : h.get id = some (.cells 0 [.fn 35 [.ptr id2 0 0]])) (hr2 : h.get id2 = some (.cells 0 [.int .i64 k])) :
  Runs Φ 36 [.agg e.av, .ptr id 0 0] h (fun v h' => v = .bool (oddE k e) ∧ h.Ext h') := by
 have hne := Heap.ne_of2 hr
 have hne2 := Heap.ne_of2 hr2
 refine runs_of (fun _ => false) rfl L.f36 ?_
 repeat' first | refine st_nil ?_ | (refine gw ?_; first | refine st_mv (v := AV.bool _) rfl ?_ | refine st_load_p rfl hg_ (by simp) b_ pv_ ?_ | refine st_field_p rfl (Nat.zero_add _) ?_ | refine st_callv rfl rfl nt_ ?_ | (refine st_box (v := AV.agg _) rfl rfl ?_; intro id hid; try simp only [Heap.set_none] at hid)) | (refine gx ?_; first | refine sx_seq ?_ | refine sx_ops rfl ?_) | refine sk_norm ?_
 refine call_quiet (by decide) (sound1_ok L e.to k id2 _ (by simp [Heap.get_set2, *])) ?_
 cases ho : outN k e.to
 ·repeat' first | (refine gw ?_; first | refine st_mv (v := AV.bool _) rfl ?_ | refine st_gog rfl ?_ | refine st_load_p rfl hg_ (by simp) b_ pv_ ?_ | refine st_field_p rfl (Nat.zero_add _) ?_ | refine st_call rfl nt_ ?_)
  refine call_pure (norm_ok L S _ he _) (by simp [AV.frozenL, AV.frozen]) (by simp [AV.frozenL, AV.frozen]) ?_
  repeat' first | (refine gw ?_; first | refine st_gog rfl ?_ | refine st_load_p rfl hg_ (by simp) b_ pv_ ?_ | refine st_field_p rfl (Nat.zero_add _) ?_ | refine st_call rfl nt_ ?_)
  refine call_pure (equal_ok L _ _ _ _ ?_) (by simp [AV.frozenL, AV.frozen]) (by simp [AV.frozenL, AV.frozen]) ?_
  ·exact normS_small _ he
  repeat' first | refine st_nil ?_ | (refine gw ?_; first | refine st_mv (v := AV.bool _) rfl ?_ | refine st_gog rfl ?_ | refine st_pick_f (v := AV.bool _) rfl rfl ?_ | refine st_not rfl ?_) | refine sx_ret ?_ | refine sk_norm ?_ | refine fin_ret (v := AV.bool _) rfl ?_
  exact ⟨by simp [oddE, ho], Heap.Ext.new (Heap.Ext.refl h) ‹_›⟩
 ·repeat' first | refine st_nil ?_ | (refine gw ?_; first | refine st_mv (v := AV.bool _) rfl ?_ | refine st_skipg rfl ?_ | refine st_pick_t (v := AV.bool _) rfl rfl ?_) | refine sx_ret ?_ | refine sk_norm ?_ | refine fin_ret (v := AV.bool _) rfl ?_
  exact ⟨by simp [oddE, ho], Heap.Ext.new (Heap.Ext.refl h) ‹_›⟩
theorem sound_ok {Φ : Lib} (L : C1Lib Φ) (S : SortLib Φ) (n : Nfa) (hf : n.Fits) : Pure Φ 24 [.agg n.av] (.bool (soundN n)) := by
 have b1 := hf.tags; have b2 := hf.edges; have b3 := hf.free
 refine runs_of (fun _ => false) rfl L.f24 ?_
 repeat' first | refine st_nil ?_ | (refine gw ?_; first | (refine gq0 ?_; first | refine st_mv (v := AV.int _ _) rfl ?_ | refine st_mv (v := AV.bool _) rfl ?_ | refine st_mv (v := AV.fn _ _) rfl ?_) | (refine gq1 ?_; first | refine st_skipg rfl ?_ | refine st_gog rfl ?_) | refine st_load_p rfl hg_ (by simp) b_ pv_ ?_ | (refine gq3 ?_; first | (refine st_gtr rfl rfl rfl ?_ ?_ <;> (intro hc; try (exfalso; omega))) | (refine st_eql rfl rfl rfl ?_ ?_ <;> (intro hc; try (exfalso; omega))) | (refine st_neq rfl rfl rfl ?_ ?_ <;> (intro hc; try (exfalso; omega)))) | refine st_field_p rfl (Nat.zero_add _) ?_ | refine st_len_rd rfl ?_ | (refine gq7 ?_; first | refine st_pick_t (v := AV.bool _) rfl rfl ?_ | refine st_pick_f (v := AV.bool _) rfl rfl ?_) | (refine st_alloc ?_; intro id hid; try simp only [Heap.set_none] at hid) | (refine st_box (v := AV.agg _) rfl rfl ?_; intro id hid; try simp only [Heap.set_none] at hid) | (refine gq13 ?_; first | refine st_store_s (cs' := [AV.int _ _]) rfl rfl rfl rfl b_ rfl ?_ | refine st_store_s (cs' := [AV.fn _ _]) rfl rfl rfl rfl b_ rfl ?_) | refine st_mkfn (vs := [AV.ptr _ _ _]) rfl rfl ?_) | (refine gx ?_; first | refine sx_seq ?_ | refine sx_ops rfl ?_ | refine sx_skip ?_ | refine sx_block ?_ | refine sx_ret ?_ | refine sx_cond_t rfl ?_ | refine sx_cond_f rfl ?_) | refine sk_norm ?_ | refine sk_ret ?_ | refine fin_ret (v := AV.bool _) rfl ?_
 ·rw [soundN, if_pos (by omega)]
 ·rw [soundN, if_pos (by omega)]
 ·rw [soundN, if_pos (by omega)]
 ·rw [soundN, if_pos (by omega)]
 rename_i i1 h1 i3 h3 c1 c2 c3
 have hne : i3 ≠ i1 ∧ id ≠ i1 ∧ id ≠ i3 := ⟨h3.1, hid.2.1, hid.1⟩
 obtain ⟨hne1, hne2, hne3⟩ := hne
 have g1 : (((Heap.empty.set i1 (.cells 0 n.av)).set i3 (.cells 0 [.int .i64 n.tags.l.length])).set id (.cells 0 [.fn 35 [.ptr i3 0 0]])).get i1 = some (.cells 0 n.av) := by simp [Heap.get_set2, hne1, hne2, hne3]
 have g3 : (((Heap.empty.set i1 (.cells 0 n.av)).set i3 (.cells 0 [.int .i64 n.tags.l.length])).set id (.cells 0 [.fn 35 [.ptr i3 0 0]])).get i3 = some (.cells 0 [.int .i64 n.tags.l.length]) := by simp [Heap.get_set2, hne1, hne2, hne3]
 have g4 : (((Heap.empty.set i1 (.cells 0 n.av)).set i3 (.cells 0 [.int .i64 n.tags.l.length])).set id (.cells 0 [.fn 35 [.ptr i3 0 0]])).get id = some (.cells 0 [.fn 35 [.ptr i3 0 0]]) := Heap.get_set_self _ _ _
 generalize hH : ((Heap.empty.set i1 (.cells 0 n.av)).set i3 (.cells 0 [.int .i64 n.tags.l.length])).set id (.cells 0 [.fn 35 [.ptr i3 0 0]]) = H at g1 g3 g4 ⊢
 have hsn : soundN n = (List.range n.tags.l.length).all fun i => !oddAt n i := by rw [soundN, if_neg (by omega)]
 refine sx_for n.tags.l.length (fun i env h' => h' = H ∧ (∀ j, j < i → oddAt n j = false) ∧ env.has [(1, .ptr i1 0 0), (4, .ptr id 0 0), (5, .fn 36 [.ptr id 0 0]), (34, n.tags.iv), (35, .int .i64 n.tags.l.length), (36, .int .i64 i)]) ⟨hH, fun j hj => by omega, hh_⟩ ?_
 rintro i env h' hi ⟨rfl, hpre, he⟩
 obtain ⟨env, rfl⟩ := he.ex
 clear he
 by_cases hi2 : i < n.tags.l.length
 ·obtain ⟨t, ht⟩ := ex_get hi2
  obtain ⟨es, hes⟩ := ex_get (l := n.edges.l) (show i < n.edges.l.length by omega)
  obtain ⟨fs, hfs⟩ := ex_get (l := n.free.l) (show i < n.free.l.length by omega)
  have hesf := hf.edge es (List.mem_of_getElem? hes)
  have hfsf := hf.frees fs (List.mem_of_getElem? hfs)
  have hodd : oddAt n i = (decide (t < -1) || es.l.any (oddE n.tags.l.length) || fs.l.any (outN n.tags.l.length)) := by
   simp only [oddAt, List.getD_eq_getElem?_getD, ht, hes, hfs, Option.getD_some]
  have hbad : oddAt n i = true → soundN n = false := fun h => by
   rw [hsn]
   rw [List.all_eq_false]
   exact ⟨i, List.mem_range.2 hi2, by simp [h]⟩
  repeat' first | refine st_nil ?_ | (refine gw ?_; first | (refine gq0 ?_; first | refine st_mv (v := AV.int _ _) rfl ?_ | refine st_mv (v := AV.bool _) rfl ?_ | refine st_mv (v := AV.fn _ _) rfl ?_) | (refine gq1 ?_; first | refine st_skipg rfl ?_ | refine st_gog rfl ?_) | (refine gq2 ?_; first | refine st_load_r rfl b_ pv_ ?_ | refine st_load_p rfl hg_ (by simp) b_ pv_ ?_) | (refine st_lss rfl rfl rfl ?_ ?_ <;> (intro hc; try (exfalso; omega))) | refine st_field_p rfl (Nat.zero_add _) ?_ | refine st_index_map rfl rfl rfl (by assumption) rfl ?_ | refine st_pick_t (v := AV.bool _) rfl rfl ?_ | refine st_call rfl nt_ ?_) | (refine gx ?_; first | refine sx_seq ?_ | refine sx_ops rfl ?_ | refine sx_skip ?_ | refine sx_block ?_ | refine sx_ret ?_ | refine sx_cond_t rfl ?_) | refine sk_norm ?_ | refine sk_ret ?_ | refine bk_ret ?_ | refine lk_ret ?_ | refine fin_ret (v := AV.bool _) rfl ?_
  ·rw [hbad (by rw [hodd]; simp; omega)]
  refine call_any (containsFuncE_ok L es.l es.fl 36 [.ptr id 0 0] (oddE n.tags.l.length) _ (by omega) (fun e he => sound2_ok L S e _ id i3 _ (hesf.2 e he) g4 g3)) ?_
  rintro _ _ ⟨rfl, rfl⟩
  cases ho : es.l.any (oddE n.tags.l.length)
  ·repeat' first | (refine gw ?_; first | (refine gq0 ?_; first | refine st_mv (v := AV.int _ _) rfl ?_ | refine st_mv (v := AV.bool _) rfl ?_) | refine st_gog rfl ?_ | (refine gq2 ?_; first | refine st_load_r rfl b_ pv_ ?_ | refine st_load_p rfl hg_ (by simp) b_ pv_ ?_) | refine st_field_p rfl (Nat.zero_add _) ?_ | refine st_index_map rfl rfl rfl (by assumption) rfl ?_ | refine st_pick_f (v := AV.bool _) rfl rfl ?_ | refine st_call rfl nt_ ?_)
   refine call_any (containsFunc1_ok L fs.l fs.fl 35 [.ptr i3 0 0] (outN n.tags.l.length) _ (by omega) (fun e he => sound1_ok L e _ i3 _ g3)) ?_
   rintro _ _ ⟨rfl, rfl⟩
   cases ho2 : fs.l.any (outN n.tags.l.length)
   ·repeat' first | refine st_nil ?_ | (refine gw ?_; first | refine st_mv (v := AV.int _ _) rfl ?_ | refine st_add rfl rfl rfl (by omega) (by omega) ?_ | refine st_pick_f (v := AV.bool _) rfl rfl ?_) | (refine gx ?_; first | refine sx_ops rfl ?_ | refine sx_skip ?_ | refine sx_cond_f rfl ?_) | refine sk_norm ?_ | refine bk_norm ?_
    refine lk_next hi2 ⟨rfl, fun j hj => ?_, hh_⟩
    by_cases hji : j = i
    ·subst hji
     rw [hodd, ho, ho2]
     simp; omega
    ·exact hpre j (by omega)
   ·repeat' first | refine st_nil ?_ | (refine gw ?_; first | refine st_mv (v := AV.bool _) rfl ?_ | refine st_pick_f (v := AV.bool _) rfl rfl ?_) | (refine gx ?_; first | refine sx_seq ?_ | refine sx_ops rfl ?_ | refine sx_ret ?_ | refine sx_cond_t rfl ?_) | refine sk_norm ?_ | refine sk_ret ?_ | refine bk_ret ?_ | refine lk_ret ?_ | refine fin_ret (v := AV.bool _) rfl ?_
    rw [hbad (by rw [hodd, ho2]; simp)]
  ·repeat' first | refine st_nil ?_ | (refine gw ?_; first | refine st_mv (v := AV.bool _) rfl ?_ | refine st_skipg rfl ?_ | (refine gq7 ?_; first | refine st_pick_t (v := AV.bool _) rfl rfl ?_ | refine st_pick_f (v := AV.bool _) rfl rfl ?_)) | (refine gx ?_; first | refine sx_seq ?_ | refine sx_ops rfl ?_ | refine sx_ret ?_ | refine sx_cond_t rfl ?_) | refine sk_norm ?_ | refine sk_ret ?_ | refine bk_ret ?_ | refine lk_ret ?_ | refine fin_ret (v := AV.bool _) rfl ?_
   rw [hbad (by rw [hodd, ho]; simp)]
 ·repeat' first | refine st_nil ?_ | (refine gw ?_; first | refine st_mv (v := AV.bool _) rfl ?_ | (refine st_lss rfl rfl rfl ?_ ?_ <;> (intro hc; try (exfalso; omega)))) | (refine gx ?_; first | refine sx_seq ?_ | refine sx_ops rfl ?_ | refine sx_ret ?_ | refine sx_exit ?_ | refine sx_cond_f rfl ?_) | refine sk_norm ?_ | refine sk_exit ?_ | refine bk_exit ?_ | refine lk_exit ?_ | refine fin_ret (v := AV.bool _) rfl ?_
  have : soundN n = true := by
   rw [hsn, List.all_eq_true]
   intro j hj
   rw [List.mem_range] at hj
   simp [hpre j (by omega)]
  rw [this]
end Go.Proofs.YtdldfflfbfpngaaGreatDoor
set_option linter.unusedVariables false
set_option linter.unusedSimpArgs false
namespace Go.Proofs.YtdldfflfbfpngaaGreatDoor
open Go
def Nfa.frees (n : Nfa) (i : Nat) : List Int := (n.free.l.getD i ⟨[], true⟩).l
def Nfa.outs (n : Nfa) (i : Nat) : List Edge := (n.edges.l.getD i ⟨[], true⟩).l
def Nfa.k (n : Nfa) : Nat := n.tags.l.length
structure Nfa.Ok (n : Nfa) : Prop where
 pos : 0 < n.k
 most : n.k ≤ 2000
 edges : n.edges.l.length = n.k
 free : n.free.l.length = n.k
 frees : ∀ i, i < n.k → ∀ t ∈ n.frees i, 0 ≤ t ∧ t < n.k
 outs : ∀ i, i < n.k → ∀ e ∈ n.outs i, (0 ≤ e.to ∧ e.to < n.k) ∧ normS e.set.l = e.set.l
 tags : ∀ t ∈ n.tags.l, -1 ≤ t
theorem sound_ok_iff {n : Nfa} : soundN n = true ↔ n.Ok := by
 unfold soundN
 constructor
 ·intro h
  split at h
  ·cases h
  ·rename_i hc
   have h2 : ∀ i, i < n.tags.l.length → oddAt n i = false := fun i hi => by
    have := List.all_eq_true.1 h i (List.mem_range.2 hi)
    simpa using this
   simp only [oddAt, Bool.or_eq_false_iff] at h2
   refine ⟨by simp only [Nfa.k]; omega, by simp only [Nfa.k]; omega, by simp only [Nfa.k]; omega, by simp only [Nfa.k]; omega, fun i hi t ht => ?_, fun i hi e he => ?_, fun t ht => ?_⟩
   ·have := (h2 i hi).2
    rw [List.any_eq_false] at this
    have := this t ht
    simp only [outN, Bool.not_eq_true, Bool.or_eq_false_iff, decide_eq_false_iff_not] at this
    simp only [Nfa.k]; omega
   ·have := (h2 i hi).1.2
    rw [List.any_eq_false] at this
    have := this e he
    simp only [oddE, outN, Bool.not_eq_true, Bool.or_eq_false_iff, decide_eq_false_iff_not, Bool.not_eq_false', decide_eq_true_eq] at this
    exact ⟨by simp only [Nfa.k]; omega, this.2⟩
   ·obtain ⟨i, hi, rfl⟩ := List.getElem_of_mem ht
    have := (h2 i hi).1.1
    simp only [List.getD_eq_getElem?_getD, List.getElem?_eq_getElem hi, Option.getD_some, decide_eq_false_iff_not] at this
    omega
 ·intro h
  have h1 := h.pos; have h2 := h.most; have h3 := h.edges; have h4 := h.free
  simp only [Nfa.k] at h1 h2 h3 h4
  rw [if_neg (by omega), List.all_eq_true]
  intro i hi
  rw [List.mem_range] at hi
  simp only [oddAt, Bool.not_eq_true', Bool.or_eq_false_iff, decide_eq_false_iff_not, List.any_eq_false]
  refine ⟨⟨?_, fun e he => ?_⟩, fun t ht => ?_⟩
  ·have := h.tags _ (List.getElem_mem hi)
   simp only [List.getD_eq_getElem?_getD, List.getElem?_eq_getElem hi, Option.getD_some]
   omega
  ·obtain ⟨k1, k2⟩ := h.outs i hi e he
   simp only [Nfa.k] at k1
   simp only [oddE, outN, k2, Bool.not_eq_true, Bool.or_eq_false_iff, decide_eq_false_iff_not, decide_true, Bool.not_true, and_true]
   exact ⟨by omega, by omega⟩
  ·have k1 := h.frees i hi t ht
   simp only [Nfa.k] at k1
   simp only [outN, Bool.not_eq_true, Bool.or_eq_false_iff, decide_eq_false_iff_not]
   omega
theorem snoc_cases {α : Type} (l : List α) : l = [] ∨ ∃ l' b, l = l' ++ [b] := by
 rcases List.eq_nil_or_concat l with h | ⟨l', b, h⟩
 ·exact .inl h
 ·exact .inr ⟨l', b, by simpa using h⟩
theorem snoc_ind {α : Type} {C : List α → Prop} (h0 : C []) (h1 : ∀ l x, C l → C (l ++ [x])) (l : List α) : C l := by
 have : ∀ m (l : List α), l.length = m → C l := by
  intro m
  induction m with
  | zero => intro l hl; rw [List.eq_nil_of_length_eq_zero hl]; exact h0
  | succ m ih =>
   intro l hl
   rcases snoc_cases l with rfl | ⟨l', b, rfl⟩
   ·exact h0
   ·exact h1 _ _ (ih l' (by simpa using hl))
 exact this _ l rfl
inductive Reach (n : Nfa) (P : Nat → Prop) : Nat → Prop
 | base {i : Nat} : P i → Reach n P i
 | step {i : Nat} {t : Int} : Reach n P i → t ∈ n.frees i → Reach n P t.toNat
open Classical in
noncomputable def closeN (n : Nfa) (P : Nat → Prop) : List Int := ((List.range n.k).filter fun i => decide (Reach n P i)).map fun i : Nat => (i : Int)
theorem Reach.lt {n : Nfa} (hn : n.Ok) {P : Nat → Prop} (hP : ∀ i, P i → i < n.k) : ∀ {i}, Reach n P i → i < n.k := by
 intro i h
 induction h with
 | base h => exact hP _ h
 | step _ ht ih => have := hn.frees _ ih _ ht; omega
theorem closeN_sorted (n : Nfa) (P : Nat → Prop) : (closeN n P).Pairwise (· < ·) := by
 unfold closeN
 rw [List.pairwise_map]
 exact ((List.pairwise_lt_range (n := n.k)).filter _).imp (by intro a b h; omega)
theorem mem_closeN {n : Nfa} (hn : n.Ok) {P : Nat → Prop} (hP : ∀ i, P i → i < n.k) {x : Int} : x ∈ closeN n P ↔ 0 ≤ x ∧ Reach n P x.toNat := by
 unfold closeN
 simp only [List.mem_map, List.mem_filter, List.mem_range, decide_eq_true_eq]
 constructor
 ·rintro ⟨i, ⟨_, h⟩, rfl⟩
  exact ⟨by omega, by simpa using h⟩
 ·rintro ⟨h0, h⟩
  exact ⟨x.toNat, ⟨h.lt hn hP, h⟩, by omega⟩
theorem mem_closeN' {n : Nfa} {P : Nat → Prop} {x : Int} (h : x ∈ closeN n P) : 0 ≤ x ∧ x < n.k ∧ Reach n P x.toNat := by
 unfold closeN at h
 simp only [List.mem_map, List.mem_filter, List.mem_range, decide_eq_true_eq] at h
 obtain ⟨i, ⟨h1, h⟩, rfl⟩ := h
 exact ⟨by omega, by omega, by simpa using h⟩
theorem rise_unique : ∀ {l m : List Int}, l.Pairwise (· < ·) → m.Pairwise (· < ·) → (∀ x, x ∈ l ↔ x ∈ m) → l = m
 | [], [], _, _, _ => rfl
 | [], b :: m, _, _, h => absurd ((h b).2 (by simp)) (by simp)
 | a :: l, [], _, _, h => absurd ((h a).1 (by simp)) (by simp)
 | a :: l, b :: m, hl, hm, h => by
  have hl' := List.pairwise_cons.1 hl
  have hm' := List.pairwise_cons.1 hm
  have e : a = b := by
   rcases List.mem_cons.1 ((h a).1 (by simp)) with e | h1
   ·exact e
   ·rcases List.mem_cons.1 ((h b).2 (by simp)) with e | h2
    ·exact e.symm
    ·have := hm'.1 a h1
     have := hl'.1 b h2
     omega
  subst e
  rw [rise_unique hl'.2 hm'.2 fun x => ?_]
  constructor
  ·intro hx
   have := hl'.1 x hx
   rcases List.mem_cons.1 ((h x).1 (List.mem_cons_of_mem _ hx)) with rfl | h1
   ·omega
   ·exact h1
  ·intro hx
   have := hm'.1 x hx
   rcases List.mem_cons.1 ((h x).2 (List.mem_cons_of_mem _ hx)) with rfl | h1
   ·omega
   ·exact h1
theorem sort_rises {l : List Int} (hd : l.Nodup) : (l.mergeSort fun x y => decide (x ≤ y)).Pairwise (· < ·) := by
 have h1 := List.pairwise_mergeSort (le := fun a b : Int => decide (a ≤ b)) (fun a b c h1 h2 => by simp at *; omega) (fun a b => by simp; omega) l
 have h2 : (l.mergeSort fun x y => decide (x ≤ y)).Nodup := (List.mergeSort_perm _ _).nodup_iff.2 hd
 exact (h1.and h2).imp (by intro a b ⟨x, y⟩; simp at x; omega)
structure GoInv (n : Nfa) (P : Nat → Prop) (bs : List Bool) (left out : List Nat) (ps : List Int) : Prop where
 len : bs.length = n.k
 nodup : (out ++ left).Nodup
 mem : ∀ i, i ∈ out ++ left ↔ bs[i]? = some true
 sub : ∀ i, bs[i]? = some true → Reach n P i
 init : ∀ i, P i → bs[i]? = some true
 closed : ∀ i ∈ out, ∀ t ∈ n.frees i, t ∈ ps ∨ bs[t.toNat]? = some true
 ps : ∀ t ∈ ps, Reach n P t.toNat
def reachLeft (bs : List Bool) (left : List Nat) (s : Nat) : List Nat := if bs[s]? = some true then left else left ++ [s]
theorem GoInv.reach {n : Nfa} {P : Nat → Prop} {bs : List Bool} {left out : List Nat} {t : Int} {ps : List Int} (hg : GoInv n P bs left out (t :: ps)) (ht : 0 ≤ t ∧ t < n.k) : GoInv n P (bs.set t.toNat true) (reachLeft bs left t.toNat) out ps := by
 have htl : t.toNat < bs.length := by rw [hg.len]; omega
 have hset : ∀ i, (bs.set t.toNat true)[i]? = some true ↔ i = t.toNat ∨ bs[i]? = some true := fun i => by
  rw [List.getElem?_set]
  by_cases e : t.toNat = i
  ·subst e; simp [htl]
  ·have : ¬ i = t.toNat := fun h => e h.symm
   simp [e, this]
 refine ⟨by simp [hg.len], ?_, fun i => ?_, fun i hi => ?_, fun i hi => (hset i).2 (.inr (hg.init i hi)), fun i hi u hu => ?_, fun u hu => hg.ps u (List.mem_cons_of_mem _ hu)⟩
 ·unfold reachLeft
  split
  ·exact hg.nodup
  ·rename_i hb
   rw [← List.append_assoc, List.nodup_append]
   refine ⟨hg.nodup, by simp, fun a ha b hb' => ?_⟩
   simp only [List.mem_singleton] at hb'
   rintro rfl
   exact hb (hb' ▸ (hg.mem a).1 ha)
 ·rw [hset]
  unfold reachLeft
  split
  ·rename_i hb
   rw [hg.mem]
   constructor
   ·exact .inr
   ·rintro (rfl | h)
    ·exact hb
    ·exact h
  ·rw [← List.append_assoc, List.mem_append, hg.mem, List.mem_singleton]
   exact Or.comm
 ·rcases (hset i).1 hi with rfl | h
  ·exact hg.ps t (by simp)
  ·exact hg.sub i h
 ·rcases hg.closed i hi u hu with h | h
  ·rcases List.mem_cons.1 h with rfl | h
   ·exact .inr ((hset _).2 (.inl rfl))
   ·exact .inl h
  ·exact .inr ((hset _).2 (.inr h))
theorem GoInv.pop {n : Nfa} {P : Nat → Prop} {bs : List Bool} {left out : List Nat} {s : Nat} (hg : GoInv n P bs (left ++ [s]) out []) : GoInv n P bs left (out ++ [s]) (n.frees s) := by
 have hs : Reach n P s := hg.sub s ((hg.mem s).1 (by simp))
 refine ⟨hg.len, ?_, fun i => ?_, hg.sub, hg.init, fun i hi t ht => ?_, fun t ht => .step hs ht⟩
 ·have := hg.nodup
  rw [show out ++ [s] ++ left = out ++ ([s] ++ left) by simp]
  exact (List.Perm.append_left out (List.perm_append_comm)).nodup_iff.1 this
 ·rw [← hg.mem i]
  simp only [List.mem_append, List.mem_singleton]
  constructor
  ·rintro ((h | h) | h)
   ·exact .inl h
   ·exact .inr (.inr h)
   ·exact .inr (.inl h)
  ·rintro (h | h | h)
   ·exact .inl (.inl h)
   ·exact .inr h
   ·exact .inl (.inr h)
 ·rcases List.mem_append.1 hi with h | h
  ·rcases hg.closed i h t ht with h | h
   ·cases h
   ·exact .inr h
  ·simp only [List.mem_singleton] at h
   subst h
   exact .inl ht
theorem GoInv.most {n : Nfa} {P : Nat → Prop} {bs : List Bool} {left out : List Nat} {ps : List Int} (hg : GoInv n P bs left out ps) : out.length + left.length ≤ n.k := by
 rw [← List.length_append]
 have hsub : ∀ i ∈ out ++ left, i ∈ List.range n.k := fun i hi => by
  have := lt_of_getElem? ((hg.mem i).1 hi)
  rw [hg.len] at this
  exact List.mem_range.2 this
 have := List.Nodup.length_le_of_subset hg.nodup hsub
 simpa using this
theorem GoInv.done {n : Nfa} (hn : n.Ok) {P : Nat → Prop} (hP : ∀ i, P i → i < n.k) {bs : List Bool} {out : List Nat} (hg : GoInv n P bs [] out []) : (out.map fun i : Nat => (i : Int)).mergeSort (fun x y => decide (x ≤ y)) = closeN n P := by
 have hmem : ∀ i, i ∈ out ↔ bs[i]? = some true := fun i => by simpa using hg.mem i
 have hreach : ∀ i, Reach n P i → bs[i]? = some true := fun i h => by
  induction h with
  | base h => exact hg.init _ h
  | step _ ht ih =>
   rcases hg.closed _ ((hmem _).2 ih) _ ht with h | h
   ·cases h
   ·exact h
 have hnd : (out.map fun i : Nat => (i : Int)).Nodup := by
  have := hg.nodup
  rw [List.append_nil] at this
  exact List.Pairwise.map _ (fun a b h e => h (by omega)) this
 refine rise_unique (sort_rises hnd) (closeN_sorted n P) fun x => ?_
 rw [(List.mergeSort_perm _ _).mem_iff, mem_closeN hn hP, List.mem_map]
 constructor
 ·rintro ⟨i, hi, rfl⟩
  exact ⟨by omega, by simpa using hg.sub i ((hmem i).1 hi)⟩
 ·rintro ⟨h0, h⟩
  exact ⟨x.toNat, (hmem _).2 (hreach _ h), by omega⟩
end Go.Proofs.YtdldfflfbfpngaaGreatDoor
set_option linter.unusedVariables false
namespace Go.Proofs.YtdldfflfbfpngaaGreatDoor
open Go
def cptStep (acc : List Int) (x : Int) : List Int := if acc.getLast? = some x then acc else acc ++ [x]
def compactL (l : List Int) : List Int := l.foldl cptStep []
theorem compactL_snoc (l : List Int) (x : Int) : compactL (l ++ [x]) = cptStep (compactL l) x := by simp [compactL]
theorem compactL_last (l : List Int) : (compactL l).getLast? = l.getLast? := by
 refine snoc_ind (C := fun l => (compactL l).getLast? = l.getLast?) rfl (fun l x ih => ?_) l
 rw [compactL_snoc, cptStep]
 split
 ·rename_i h
  rw [h]; simp
 ·simp
theorem compactL_mem (l : List Int) (x : Int) : x ∈ compactL l ↔ x ∈ l := by
 refine snoc_ind (C := fun l => x ∈ compactL l ↔ x ∈ l) Iff.rfl (fun l y ih => ?_) l
 rw [compactL_snoc, cptStep]
 split
 ·rename_i h
  rw [ih, List.mem_append, List.mem_singleton]
  constructor
  ·exact .inl
  ·rintro (h1 | rfl)
   ·exact h1
   ·rw [compactL_last] at h
    exact List.mem_of_getLast? h
 ·rw [List.mem_append, List.mem_append, ih]
theorem compactL_rises (l : List Int) (h : l.Pairwise (· ≤ ·)) : (compactL l).Pairwise (· < ·) := by
 refine snoc_ind (C := fun l => l.Pairwise (· ≤ ·) → (compactL l).Pairwise (· < ·)) (fun _ => .nil) (fun l y ih h => ?_) l h
 rw [List.pairwise_append] at h
 have h2 := ih h.1
 rw [compactL_snoc, cptStep]
 split
 ·exact h2
 ·rename_i hl
  rw [List.pairwise_append]
  refine ⟨h2, List.pairwise_singleton _ _, fun a ha b hb => ?_⟩
  simp only [List.mem_singleton] at hb
  subst hb
  have h3 := h.2.2 a ((compactL_mem l a).1 ha) b (by simp)
  rcases snoc_cases (compactL l) with e | ⟨l', c, e⟩
  ·rw [e] at ha; cases ha
  ·rw [e] at ha hl h2
   have hc : c ≤ b := h.2.2 c ((compactL_mem l c).1 (by rw [e]; simp)) b (by simp)
   have hcb : c ≠ b := fun e => hl (by simp [e])
   rw [List.pairwise_append] at h2
   rcases List.mem_append.1 ha with h4 | h4
   ·have := h2.2.2 a h4 c (by simp)
    omega
   ·simp only [List.mem_singleton] at h4
    omega
theorem sorted_sort (l : List Int) : (l.mergeSort fun x y => decide (x ≤ y)).Pairwise (· ≤ ·) := by
 have := List.pairwise_mergeSort (le := fun a b : Int => decide (a ≤ b)) (fun a b c h1 h2 => by simp at *; omega) (fun a b => by simp; omega) l
 exact this.imp (by intro a b h; simpa using h)
def Nfa.tagOf (n : Nfa) (s : Int) : Option Int := if 0 ≤ s ∧ s < n.k ∧ 0 ≤ n.tags.l.getD s.toNat 0 then some (n.tags.l.getD s.toNat 0) else none
def tagsN (n : Nfa) (at_ : List Int) : List Int := compactL ((at_.filterMap n.tagOf).mergeSort fun x y => decide (x ≤ y))
theorem tagsN_rises (n : Nfa) (at_ : List Int) : (tagsN n at_).Pairwise (· < ·) := compactL_rises _ (sorted_sort _)
theorem tagsN_mem {n : Nfa} {at_ : List Int} {t : Int} : t ∈ tagsN n at_ ↔ ∃ s ∈ at_, 0 ≤ s ∧ s < n.k ∧ 0 ≤ t ∧ n.tags.l.getD s.toNat 0 = t := by
 rw [tagsN, compactL_mem, (List.mergeSort_perm _ _).mem_iff, List.mem_filterMap]
 constructor
 ·rintro ⟨s, hs, h⟩
  unfold Nfa.tagOf at h
  split at h
  ·rename_i hc
   cases h
   exact ⟨s, hs, hc.1, hc.2.1, hc.2.2, rfl⟩
  ·cases h
 ·rintro ⟨s, hs, h1, h2, h3, rfl⟩
  exact ⟨s, hs, by unfold Nfa.tagOf; rw [if_pos ⟨h1, h2, h3⟩]⟩
def goesTo (n : Nfa) (at_ : List Int) (r : Int) (j : Nat) : Prop := ∃ s ∈ at_, 0 ≤ s ∧ s < n.k ∧ ∃ e ∈ n.outs s.toNat, hasS e.set.l r = true ∧ e.to.toNat = j
noncomputable def stepN (n : Nfa) (at_ : List Int) (r : Int) : List Int := closeN n (goesTo n at_ r)
noncomputable def startN (n : Nfa) : List Int := closeN n (· = 0)
theorem goesTo_lt {n : Nfa} (hn : n.Ok) {at_ : List Int} {r : Int} : ∀ j, goesTo n at_ r j → j < n.k := by
 rintro j ⟨s, _, h1, h2, e, he, _, rfl⟩
 have := (hn.outs s.toNat (by omega) e he).1
 omega
end Go.Proofs.YtdldfflfbfpngaaGreatDoor
set_option linter.unusedVariables false
set_option linter.unusedSimpArgs false
namespace Go.Proofs.YtdldfflfbfpngaaGreatDoor
open Go
structure MarkInv (n : Nfa) (P : Nat → Prop) (bs : List Bool) (left : List Nat) : Prop where
 len : bs.length = n.k
 nodup : left.Nodup
 mem : ∀ i, i ∈ left ↔ bs[i]? = some true
 ex : ∀ i, bs[i]? = some true ↔ P i
theorem MarkInv.begin (n : Nfa) : MarkInv n (fun _ => False) (List.replicate n.k false) [] := by
 refine ⟨by simp, .nil, fun i => ?_, fun i => ?_⟩
 ·simp only [List.not_mem_nil, false_iff, List.getElem?_replicate]
  split <;> simp
 ·simp only [iff_false, List.getElem?_replicate]
  split <;> simp
theorem MarkInv.iff {n : Nfa} {P P' : Nat → Prop} {bs : List Bool} {left : List Nat} (hm : MarkInv n P bs left) (h : ∀ i, P i ↔ P' i) : MarkInv n P' bs left :=
 ⟨hm.len, hm.nodup, hm.mem, fun i => (hm.ex i).trans (h i)⟩
theorem MarkInv.reach {n : Nfa} {P : Nat → Prop} {bs : List Bool} {left : List Nat} (hm : MarkInv n P bs left) {t : Nat} (ht : t < n.k) : MarkInv n (fun i => P i ∨ i = t) (bs.set t true) (reachLeft bs left t) := by
 have htl : t < bs.length := by rw [hm.len]; exact ht
 have hset : ∀ i, (bs.set t true)[i]? = some true ↔ i = t ∨ bs[i]? = some true := fun i => by
  rw [List.getElem?_set]
  by_cases e : t = i
  ·subst e; simp [htl]
  ·have : ¬ i = t := fun h => e h.symm
   simp [e, this]
 refine ⟨by simp [hm.len], ?_, fun i => ?_, fun i => ?_⟩
 ·unfold reachLeft
  split
  ·exact hm.nodup
  ·rename_i hb
   rw [List.nodup_append]
   refine ⟨hm.nodup, by simp, fun a ha b hb' => ?_⟩
   simp only [List.mem_singleton] at hb'
   rintro rfl
   exact hb (hb' ▸ (hm.mem a).1 ha)
 ·rw [hset]
  unfold reachLeft
  split
  ·rename_i hb
   rw [hm.mem]
   constructor
   ·exact .inr
   ·rintro (rfl | h)
    ·exact hb
    ·exact h
  ·rw [List.mem_append, hm.mem, List.mem_singleton]
   exact Or.comm
 ·rw [hset, hm.ex]
  exact Or.comm
theorem MarkInv.most {n : Nfa} {P : Nat → Prop} {bs : List Bool} {left : List Nat} (hm : MarkInv n P bs left) : left.length ≤ n.k := by
 have hsub : ∀ i ∈ left, i ∈ List.range n.k := fun i hi => by
  have := lt_of_getElem? ((hm.mem i).1 hi)
  rw [hm.len] at this
  exact List.mem_range.2 this
 have := List.Nodup.length_le_of_subset hm.nodup hsub
 simpa using this
theorem MarkInv.go {n : Nfa} {P : Nat → Prop} {bs : List Bool} {left : List Nat} (hm : MarkInv n P bs left) : GoInv n P bs left [] [] :=
 ⟨hm.len, hm.nodup, hm.mem, fun i h => .base ((hm.ex i).1 h), fun i h => (hm.ex i).2 h, (fun i hi => absurd hi (by simp)), (fun t ht => absurd ht (by simp))⟩
def goesFront (n : Nfa) (at_ : List Int) (r : Int) (es : List Edge) (j : Nat) : Prop := goesTo n at_ r j ∨ ∃ e ∈ es, hasS e.set.l r = true ∧ e.to.toNat = j
theorem goesTo_nil (n : Nfa) (r : Int) (j : Nat) : goesTo n [] r j ↔ False := by simp [goesTo]
theorem goesTo_out {n : Nfa} {at_ : List Int} {r s : Int} (h : ¬ (0 ≤ s ∧ s < n.k)) (j : Nat) : goesTo n (at_ ++ [s]) r j ↔ goesTo n at_ r j := by
 simp only [goesTo, List.mem_append, List.mem_singleton]
 constructor
 ·rintro ⟨x, hx | rfl, h1, h2, h3⟩
  ·exact ⟨x, hx, h1, h2, h3⟩
  ·exact absurd ⟨h1, h2⟩ h
 ·rintro ⟨x, hx, h1⟩
  exact ⟨x, .inl hx, h1⟩
theorem goesTo_in {n : Nfa} {at_ : List Int} {r s : Int} (h : 0 ≤ s ∧ s < n.k) (j : Nat) : goesFront n at_ r (n.outs s.toNat) j ↔ goesTo n (at_ ++ [s]) r j := by
 simp only [goesFront, goesTo, List.mem_append, List.mem_singleton]
 constructor
 ·rintro (⟨x, hx, h1⟩ | h1)
  ·exact ⟨x, .inl hx, h1⟩
  ·exact ⟨s, .inr rfl, h.1, h.2, h1⟩
 ·rintro ⟨x, hx | rfl, h1, h2, h3⟩
  ·exact .inl ⟨x, hx, h1, h2, h3⟩
  ·exact .inr h3
theorem goesFront_nil (n : Nfa) (at_ : List Int) (r : Int) (j : Nat) : goesFront n at_ r [] j ↔ goesTo n at_ r j := by simp [goesFront]
theorem goesFront_has {n : Nfa} {at_ : List Int} {r : Int} {es : List Edge} {e : Edge} (h : hasS e.set.l r = true) (j : Nat) : (goesFront n at_ r es j ∨ j = e.to.toNat) ↔ goesFront n at_ r (es ++ [e]) j := by
 simp only [goesFront, List.mem_append, List.mem_singleton]
 constructor
 ·rintro ((h1 | ⟨x, hx, h2⟩) | rfl)
  ·exact .inl h1
  ·exact .inr ⟨x, .inl hx, h2⟩
  ·exact .inr ⟨e, .inr rfl, h, rfl⟩
 ·rintro (h1 | ⟨x, hx | rfl, h2, h3⟩)
  ·exact .inl (.inl h1)
  ·exact .inl (.inr ⟨x, hx, h2, h3⟩)
  ·exact .inr h3.symm
theorem goesFront_not {n : Nfa} {at_ : List Int} {r : Int} {es : List Edge} {e : Edge} (h : hasS e.set.l r = false) (j : Nat) : goesFront n at_ r es j ↔ goesFront n at_ r (es ++ [e]) j := by
 simp only [goesFront, List.mem_append, List.mem_singleton]
 constructor
 ·rintro (h1 | ⟨x, hx, h2⟩)
  ·exact .inl h1
  ·exact .inr ⟨x, .inl hx, h2⟩
 ·rintro (h1 | ⟨x, hx | rfl, h2, h3⟩)
  ·exact .inl h1
  ·exact .inr ⟨x, hx, h2, h3⟩
  ·rw [h] at h2; cases h2
end Go.Proofs.YtdldfflfbfpngaaGreatDoor
set_option linter.unusedVariables false
set_option linter.unusedSimpArgs false
namespace Go.Proofs.YtdldfflfbfpngaaGreatDoor
open Go
def marked (bs : List Bool) (m : Nat) : List Int := ((List.range m).filter fun i => bs.getD i false).map fun i : Nat => (i : Int)
end Go.Proofs.YtdldfflfbfpngaaGreatDoor
