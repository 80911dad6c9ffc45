/- Machines; slices.Equal, IndexFunc of ints, nfa.Sound. What free ways lead to: the plain law. The document's closure: the plain law. The statements' small machine: the plain law. -/
import Derived.Test.YtpcbpgepjfenhaaDoorD2
set_option linter.unusedVariables false
set_option linter.unusedSimpArgs false
namespace Go.Proofs.YtpcbpgepjfenhaaDoor
open Go
set_option maxHeartbeats 4000000
attribute [local irreducible] wops xcode wcode seqK blockK loopK finK wcall wop wstp Runs

/-- A row, and whether its room is known to be full. -/
structure Rw (α : Type) where
  l : List α
  fl : Bool
@[reducible] def Rw.av {α : Type} (f : α → List AV) (r : Rw α) : AV := .rd r.l.length (r.l.flatMap f) r.fl
@[reducible] def Rw.mv {α : Type} (f : α → AV) (r : Rw α) : AV := .rd r.l.length (r.l.map f) r.fl

structure Edge where
  to : Int
  set : Rw Span
@[reducible] def Edge.av (e : Edge) : List AV := [.int .i64 e.to, e.set.av Span.av]
@[simp] theorem Edge.av_length (e : Edge) : e.av.length = 2 := rfl
@[reducible] def Rw.ev (r : Rw Edge) : AV := r.av Edge.av
@[reducible] def Rw.iv (r : Rw Int) : AV := r.mv (.int .i64)
structure Nfa where
  edges : Rw (Rw Edge)
  free : Rw (Rw Int)
  tags : Rw Int
@[reducible] def Nfa.av (n : Nfa) : List AV := [n.edges.mv Rw.ev, n.free.mv Rw.iv, n.tags.iv]

/-! ### What is frozen -/
theorem frozenL_flat {α : Type} {f : α → List AV} (hf : ∀ x, AV.frozenL (f x) = true) : ∀ l : List α, AV.frozenL (l.flatMap f) = true
  | [] => rfl
  | a :: l => by
    have : ∀ x y : List AV, AV.frozenL x = true → AV.frozenL y = true → AV.frozenL (x ++ y) = true := by
      intro x
      induction x with
      | nil => intro y _ h; exact h
      | cons b x ih =>
        intro y h1 h2
        simp only [AV.frozenL, Bool.and_eq_true, List.cons_append] at h1 ⊢
        exact ⟨h1.1, ih y h1.2 h2⟩
    rw [List.flatMap_cons]
    exact this _ _ (hf a) (frozenL_flat hf l)
theorem frozenL_map {α : Type} {f : α → AV} (hf : ∀ x, (f x).frozen = true) (l : List α) : AV.frozenL (l.map f) = true := by
  induction l with
  | nil => rfl
  | cons a l ih => simp [AV.frozenL, ih, hf]
@[simp] theorem frz_span (s : Span) : AV.frozenL s.av = true := rfl
@[simp] theorem frz_spans (l : List Span) : AV.frozenL (l.flatMap Span.av) = true := frozenL_flat frz_span l
@[simp] theorem frz_ints (l : List Int) : AV.frozenL (l.map (.int .i64)) = true := frozenL_map (fun _ => rfl) l
@[simp] theorem frz_edge (e : Edge) : AV.frozenL e.av = true := by simp [Edge.av, AV.frozenL, AV.frozen]
@[simp] theorem frz_edges (l : List Edge) : AV.frozenL (l.flatMap Edge.av) = true := frozenL_flat frz_edge l
@[simp] theorem frz_evs (l : List (Rw Edge)) : AV.frozenL (l.map Rw.ev) = true := frozenL_map (fun r => by simp [AV.frozen]) l
@[simp] theorem frz_ivs (l : List (Rw Int)) : AV.frozenL (l.map Rw.iv) = true := frozenL_map (fun r => by simp [AV.frozen]) l
@[simp] theorem frz_nfa (n : Nfa) : AV.frozenL n.av = true := by simp [Nfa.av, AV.frozenL, AV.frozen]

/-! ### slices.Equal -/
theorem eqS_span (a b : Span) (neg : Bool) : eqS neg 2 (.agg a.av) (.agg b.av) = some (.bool (if neg then !decide (a = b) else decide (a = b))) := by
  have : (decide (a.lo = b.lo) && (decide (a.hi = b.hi) && true)) = decide (a = b) := by
    rw [Bool.eq_iff_iff]
    cases a; cases b; simp
  simp only [eqS, Span.av, List.length_cons, List.length_nil, Nat.zero_add, Nat.reduceAdd, sameInts, if_true, Option.map_some, this]

theorem st_eqS_span {F : FnSem} {r : List DOper} {Q : Env → Heap → Prop} {env : Env} {h : Heap} {d : Nat} {x y : DOpd} {a b : Span} {neg : Bool} (hx : ev env x = .agg a.av) (hy : ev env y = .agg b.av) (k1 : a = b → wops F r Q (env.put d (.bool !neg)) h) (k2 : ¬ a = b → wops F r Q (env.put d (.bool neg)) h) : wops F (⟨some d, .eqS neg 2 x y, none⟩ :: r) Q env h := by
  by_cases hp : a = b
  · refine st_pure (v := .bool !neg) rfl ?_ (k1 hp)
    simp only [pureVal, hx, hy, eqS_span, hp]
    cases neg <;> simp
  · refine st_pure (v := .bool neg) rfl ?_ (k2 hp)
    simp only [pureVal, hx, hy, eqS_span, hp]
    cases neg <;> simp

theorem equal_ok {Φ : Lib} (L : C1Lib Φ) (a b : List Span) (f g : Bool) (ha : a.length < 4611686018427387904) : Pure Φ 37 [.rd a.length (a.flatMap Span.av) f, .rd b.length (b.flatMap Span.av) g] (.bool (decide (a = b))) := by
  refine runs_of (fun _ => false) rfl L.f37 ?_
  repeat' first | refine st_nil ?_ | (show wops _ _ _ _ _; first | refine st_mv (v := AV.int _ _) rfl ?_ | refine st_mv (v := AV.bool _) rfl ?_ | refine st_mv (v := AV.rd _ _ _) rfl ?_ | (refine st_neq rfl rfl rfl ?_ ?_ <;> (intro hc; try (exfalso; omega))) | refine st_len_rd rfl ?_) | (show xcode _ _ _ _ _ _; first | refine sx_seq ?_ | refine sx_ops rfl ?_ | refine sx_skip ?_ | refine sx_block ?_ | refine sx_ret ?_ | refine sx_cond_t rfl ?_ | refine sx_cond_f rfl ?_) | refine sk_norm ?_ | refine sk_ret ?_ | refine fin_ret (v := AV.bool _) rfl ?_
  · rw [decide_eq_false]
    rintro rfl
    exact hc rfl
  · have hlen : a.length = b.length := by omega
    refine sx_for a.length (fun i env h' => a.take i = b.take i ∧ env.has [(0, .rd a.length (a.flatMap Span.av) f), (1, .rd b.length (b.flatMap Span.av) g), (12, .int .i64 a.length), (13, .int .i64 i)]) ⟨rfl, hh_⟩ ?_
    rintro i env h' hi ⟨hpre, he⟩
    obtain ⟨env, rfl⟩ := he.ex
    clear he
    by_cases hi2 : i < a.length
    · obtain ⟨x, hx⟩ := ex_get hi2
      obtain ⟨y, hy⟩ := ex_get (show i < b.length by omega)
      repeat' first | refine st_nil ?_ | (show wops _ _ _ _ _; first | refine st_mv (v := AV.int _ _) rfl ?_ | refine st_mv (v := AV.bool _) rfl ?_ | refine st_mv (v := AV.rd _ _ _) rfl ?_ | refine st_load_ra rfl (by first | rfl | (simp [*]; done) | fail) ?_ | refine st_add rfl rfl rfl (by omega) (by omega) ?_ | (refine st_lss rfl rfl rfl ?_ ?_ <;> (intro hc; try (exfalso; omega))) | refine st_index_flat rfl fl_ rfl rfl (by assumption) rfl ?_ | (refine st_eqS_span (neg := true) rfl rfl ?_ ?_ <;> intro hc)) | (show xcode _ _ _ _ _ _; first | refine sx_seq ?_ | refine sx_ops rfl ?_ | refine sx_skip ?_ | refine sx_block ?_ | refine sx_ret ?_ | refine sx_cond_t rfl ?_ | refine sx_cond_f rfl ?_) | refine sk_norm ?_ | refine sk_ret ?_ | refine bk_norm ?_ | refine bk_ret ?_ | refine lk_ret ?_ | refine fin_ret (v := AV.bool _) rfl ?_
      · exact lk_next hi2 ⟨by rw [take_snoc hx, take_snoc hy, hpre, ‹x = y›], hh_⟩
      · rw [decide_eq_false]
        rintro rfl
        rw [hx] at hy
        cases hy
        exact ‹¬ _ = _› rfl
    · repeat' first | refine st_nil ?_ | (show wops _ _ _ _ _; first | refine st_mv (v := AV.bool _) rfl ?_ | (refine st_lss rfl rfl rfl ?_ ?_ <;> (intro hc; try (exfalso; omega)))) | (show xcode _ _ _ _ _ _; first | refine sx_seq ?_ | refine sx_ops rfl ?_ | refine sx_ret ?_ | refine sx_exit ?_ | refine sx_cond_f rfl ?_) | refine sk_norm ?_ | refine sk_exit ?_ | refine bk_exit ?_ | refine lk_exit ?_ | refine fin_ret (v := AV.bool _) rfl ?_
      rw [List.take_of_length_le (by omega), List.take_of_length_le (by omega)] at hpre
      simp [hpre]

/-! ### Rows of ints -/
theorem indexFunc1_ok {Φ : Lib} {k : Nat} (h0 : (k == yieldFn) = false) (hk : Φ k = some (.code d_slices_IndexFunc___int_int_)) (l : List Int) (fl : Bool) (fn : Nat) (cap : List AV) (p : Int → Bool) (h : Heap) (hl : l.length < 4611686018427387904)
    (hp : ∀ x ∈ l, Runs Φ fn ([.int .i64 x] ++ cap) h (fun v h' => v = .bool (p x) ∧ h.Ext h')) :
    Runs Φ k [.rd l.length (l.map (.int .i64)) fl, .fn fn cap] h (fun v h' => v = .int .i64 (idxV (l.findIdx? p)) ∧ h' = h) := by
  refine runs_of (fun _ => false) h0 hk ?_
  repeat' first | refine st_nil ?_ | (show wops _ _ _ _ _; first | refine st_mv (v := AV.int _ _) rfl ?_ | refine st_mv (v := AV.rd _ _ _) rfl ?_ | refine st_len_rd rfl ?_) | (show xcode _ _ _ _ _ _; first | refine sx_seq ?_ | refine sx_ops rfl ?_ | refine sx_block ?_) | refine sk_norm ?_
  refine sx_for l.length (fun i env h' => h' = h ∧ (∀ x ∈ l.take i, p x = false) ∧ env.has [(8, .int .i64 i), (7, .int .i64 l.length), (0, .rd l.length (l.map (.int .i64)) fl), (1, .fn fn cap)]) ⟨rfl, by simp, hh_⟩ ?_
  rintro i env h' hi ⟨rfl, hpre, he⟩
  obtain ⟨env, rfl⟩ := he.ex
  clear he
  by_cases hi2 : i < l.length
  · obtain ⟨a, ha⟩ := ex_get hi2
    repeat' first | refine st_nil ?_ | (show wops _ _ _ _ _; first | refine st_mv (v := AV.int _ _) rfl ?_ | refine st_mv (v := AV.rd _ _ _) rfl ?_ | refine st_mv (v := AV.fn _ _) rfl ?_ | refine st_load_r rfl (by first | (simp; done) | (simp; omega)) pv_ ?_ | (refine st_lss rfl rfl rfl ?_ ?_ <;> (intro hc; try (exfalso; omega))) | refine st_index_map rfl rfl rfl (by assumption) rfl ?_ | refine st_callv rfl rfl nt_ ?_) | (show xcode _ _ _ _ _ _; first | refine sx_seq ?_ | refine sx_ops rfl ?_ | refine sx_skip ?_ | refine sx_block ?_ | refine sx_cond_t rfl ?_) | refine sk_norm ?_
    refine call_quiet (by decide) (hp a (List.mem_of_getElem? ha)) ?_
    cases hpa : p a
    · repeat' first | refine st_nil ?_ | (show wops _ _ _ _ _; first | refine st_mv (v := AV.int _ _) rfl ?_ | refine st_add rfl rfl rfl (by omega) (by omega) ?_) | (show xcode _ _ _ _ _ _; first | refine sx_ops rfl ?_ | refine sx_skip ?_ | refine sx_cond_f rfl ?_) | refine sk_norm ?_ | refine bk_norm ?_
      refine lk_next hi2 ⟨rfl, ?_, hh_⟩
      intro x hx
      rw [take_snoc ha] at hx
      simp only [List.mem_append, List.mem_singleton] at hx
      rcases hx with hx | rfl
      · exact hpre x hx
      · exact hpa
    · repeat' first | refine st_nil ?_ | (show wops _ _ _ _ _; first | refine st_mv (v := AV.int _ _) rfl ?_) | (show xcode _ _ _ _ _ _; first | refine sx_seq ?_ | refine sx_ops rfl ?_ | refine sx_ret ?_ | refine sx_cond_t rfl ?_) | refine sk_norm ?_ | refine sk_ret ?_ | refine bk_ret ?_ | refine lk_ret ?_ | refine fin_ret (v := AV.int _ _) rfl ?_
      refine ⟨?_, rfl⟩
      have : l.findIdx? p = some i := by
        rw [List.findIdx?_eq_some_iff_getElem]
        rw [List.getElem?_eq_some_iff] at ha
        obtain ⟨h1, rfl⟩ := ha
        refine ⟨h1, hpa, fun j hj => ?_⟩
        simp [hpre l[j] (List.mem_take_iff_getElem.2 ⟨j, by omega, rfl⟩)]
      rw [this]
      rfl
  · repeat' first | refine st_nil ?_ | (show wops _ _ _ _ _; first | refine st_mv (v := AV.int _ _) rfl ?_ | (refine st_lss rfl rfl rfl ?_ ?_ <;> (intro hc; try (exfalso; omega)))) | (show xcode _ _ _ _ _ _; first | refine sx_seq ?_ | refine sx_ops rfl ?_ | refine sx_ret ?_ | refine sx_exit ?_ | refine sx_cond_f rfl ?_) | refine sk_norm ?_ | refine sk_exit ?_ | refine bk_exit ?_ | refine lk_exit ?_ | refine fin_ret (v := AV.int _ _) rfl ?_
    refine ⟨?_, rfl⟩
    have : l.findIdx? p = none := by
      rw [List.findIdx?_eq_none_iff]
      rwa [List.take_of_length_le (by omega)] at hpre
    rw [this]
    rfl

theorem idxV_any {α : Type} (l : List α) (p : α → Bool) : l.any p = decide (0 ≤ idxV (l.findIdx? p)) := by
  cases hx : l.findIdx? p with
  | none =>
    rw [List.findIdx?_eq_none_iff] at hx
    simp only [idxV]
    simpa using hx
  | some i =>
    rw [List.findIdx?_eq_some_iff_getElem] at hx
    obtain ⟨h1, h2, _⟩ := hx
    simp only [idxV]
    simp
    exact ⟨_, List.getElem_mem h1, h2⟩

theorem containsFunc1_ok {Φ : Lib} (L : C1Lib Φ) (l : List Int) (fl : Bool) (fn : Nat) (cap : List AV) (p : Int → Bool) (h : Heap) (hl : l.length < 4611686018427387904)
    (hp : ∀ x ∈ l, Runs Φ fn ([.int .i64 x] ++ cap) h (fun v h' => v = .bool (p x) ∧ h.Ext h')) :
    Runs Φ 40 [.rd l.length (l.map (.int .i64)) fl, .fn fn cap] h (fun v h' => v = .bool (l.any p) ∧ h' = h) := by
  refine runs_of (fun _ => false) rfl L.f40 ?_
  repeat' first | refine st_nil ?_ | (show wops _ _ _ _ _; first | refine st_mv (v := AV.bool _) rfl ?_ | refine st_mv (v := AV.rd _ _ _) rfl ?_ | refine st_mv (v := AV.fn _ _) rfl ?_ | refine st_call rfl nt_ ?_) | (show xcode _ _ _ _ _ _; first | refine sx_seq ?_ | refine sx_ops rfl ?_) | refine sk_norm ?_
  refine call_any (indexFunc1_ok rfl L.f52 l fl fn cap p h hl hp) ?_
  rintro _ _ ⟨rfl, rfl⟩
  have e := idxV_any l p
  repeat' first | refine st_nil ?_ | (show wops _ _ _ _ _; first | refine st_mv (v := AV.bool _) rfl ?_ | (refine st_geq rfl rfl rfl ?_ ?_ <;> (intro hc; try (exfalso; omega)))) | (show xcode _ _ _ _ _ _; first | refine sx_ret ?_) | refine sk_norm ?_ | refine fin_ret (v := AV.bool _) rfl ?_
  all_goals exact ⟨by rw [e]; simp [*], rfl⟩

/-! ### nfa.Sound -/
theorem mergeR_length (r : List Span) (s : Span) : (mergeR r s).length ≤ r.length + 1 := by
  cases r with
  | nil => simp [mergeR]
  | cons a r =>
    simp only [mergeR]
    split <;> simp
theorem foldl_mergeR_length : ∀ (p r : List Span), (p.foldl mergeR r).length ≤ r.length + p.length
  | [], r => by simp
  | s :: p, r => by
    have h1 := foldl_mergeR_length p (mergeR r s)
    have h2 := mergeR_length r s
    rw [List.foldl_cons, List.length_cons]
    omega
theorem flat_pieces_length : ∀ k : List Span, (k.flatMap piecesOf).length ≤ 2 * k.length
  | [] => by simp
  | a :: k => by
    have h1 := flat_pieces_length k
    have h2 := pieces_two a
    rw [List.flatMap_cons, List.length_append, List.length_cons]
    omega
theorem normS_length (l : List Span) : (normS l).length ≤ 2 * l.length := by
  have h1 := foldl_mergeR_length ((l.flatMap piecesOf).mergeSort fun a b => decide (a.lo ≤ b.lo)) []
  have h2 := flat_pieces_length l
  rw [List.length_mergeSort, List.length_nil] at h1
  rw [normS, mergeS, List.length_reverse]
  omega
end Go.Proofs.YtpcbpgepjfenhaaDoor
set_option linter.unusedVariables false
set_option linter.unusedSimpArgs false
namespace Go.Proofs.YtpcbpgepjfenhaaDoor
open Go

def Nfa.frees (n : Nfa) (i : Nat) : List Int := (n.free.l.getD i ⟨[], true⟩).l
theorem snoc_cases {α : Type} (l : List α) : l = [] ∨ ∃ l' b, l = l' ++ [b] := by
  rcases List.eq_nil_or_concat l with h | ⟨l', b, h⟩
  · exact .inl h
  · exact .inr ⟨l', b, by simpa using h⟩
theorem snoc_ind {α : Type} {C : List α → Prop} (h0 : C []) (h1 : ∀ l x, C l → C (l ++ [x])) (l : List α) : C l := by
  have : ∀ m (l : List α), l.length = m → C l := by
    intro m
    induction m with
    | zero => intro l hl; rw [List.eq_nil_of_length_eq_zero hl]; exact h0
    | succ m ih =>
      intro l hl
      rcases snoc_cases l with rfl | ⟨l', b, rfl⟩
      · exact h0
      · exact h1 _ _ (ih l' (by simpa using hl))
  exact this _ l rfl

/-- What is come to by free ways. -/
inductive Reach (n : Nfa) (P : Nat → Prop) : Nat → Prop
  | base {i : Nat} : P i → Reach n P i
  | step {i : Nat} {t : Int} : Reach n P i → t ∈ n.frees i → Reach n P t.toNat

/-! ### Going on -/
end Go.Proofs.YtpcbpgepjfenhaaDoor
set_option linter.unusedVariables false
set_option linter.unusedSimpArgs false
namespace Go.Proofs.YtpcbpgepjfenhaaDoor
open Go

theorem count_set_true {l : List Bool} {i : Nat} (h : l[i]? = some false) : (l.set i true).count false + 1 = l.count false := by
  obtain ⟨h1, hb⟩ := List.getElem?_eq_some_iff.1 h
  have := List.count_set (a := true) (b := false) h1
  simp [hb] at this
  have h2 : 0 < l.count false := List.count_pos_iff.2 (hb ▸ List.getElem_mem h1)
  omega
/-- The marked ones of a front. -/
def marked (bs : List Bool) (m : Nat) : List Int := ((List.range m).filter fun i => bs.getD i false).map fun i : Nat => (i : Int)
end Go.Proofs.YtpcbpgepjfenhaaDoor
set_option linter.unusedVariables false
set_option linter.unusedSimpArgs false
namespace Go.Proofs.YtpcbpgepjfenhaaDoor
open Go

def ab : Span := ⟨97, 98⟩
end Go.Proofs.YtpcbpgepjfenhaaDoor
