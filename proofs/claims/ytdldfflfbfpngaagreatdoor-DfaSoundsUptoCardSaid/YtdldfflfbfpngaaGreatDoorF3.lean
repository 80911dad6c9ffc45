/- The document's atoms: some, sorted. The document's atoms: the plain law. The document's atoms walked. -/
import Derived.Test.YtdldfflfbfpngaaGreatDoorF2
set_option linter.unusedVariables false
set_option linter.unusedSimpArgs false
namespace Go.Proofs.YtdldfflfbfpngaaGreatDoor
open Go
set_option maxHeartbeats 4000000
attribute [local irreducible] wops xcode wcode seqK blockK loopK finK wcall wop wstp Runs
def someR (l : Rw (Rw Span)) (s : Rw Span) : Rw (Rw Span) := if s.l = [] then l else ⟨l.l ++ [s], false⟩
theorem some_ok {Φ : Lib} (L : LibC3 Φ) (l : Rw (Rw Span)) (s : Rw Span) (hl : l.l.length ≤ 2000000) : Pure Φ 108 [l.mv Rw.sv, s.sv] ((someR l s).mv Rw.sv) := by
 refine runs_of (fun _ => false) rfl L.f108 ?_
 cases hs : s.l with
 | nil =>
  have h0 : s.l.length = 0 := by rw [hs]; rfl
  rw [someR, if_pos hs]
  repeat' first | refine st_nil ?_ | (refine gw ?_; first | refine st_mv (v := AV.rd _ _ _) rfl ?_ | (refine st_eql rfl rfl rfl ?_ ?_ <;> (intro hc; try (exfalso; omega))) | refine st_len_rd rfl ?_) | (refine gx ?_; first | refine sx_seq ?_ | refine sx_ops rfl ?_ | refine sx_ret ?_ | refine sx_cond_t rfl ?_) | refine sk_norm ?_ | refine sk_ret ?_ | refine fin_ret (v := AV.rd _ _ _) rfl ?_
  all_goals rfl
 | cons a r =>
  have h0 : s.l.length = r.length + 1 := by rw [hs]; rfl
  rw [someR, if_neg (by rw [hs]; simp)]
  repeat' first | refine st_nil ?_ | (refine gw ?_; first | (refine gq0 ?_; first | refine st_mv (v := AV.rd _ _ _) rfl ?_ | refine st_mv rv_ ?_) | (refine st_eql rfl rfl rfl ?_ ?_ <;> (intro hc; try (exfalso; omega))) | refine st_len_rd rfl ?_ | (refine gq14 ?_; first | (refine st_append (m := 1) rv_ ir_ rfl rfl (by omega) ?_; intro va hpa hra hka hria) | (refine st_append rv_ ir_ rfl (by simp) (by first | omega | (simp; omega)) ?_; intro va hpa hra hka hria)) | refine st_lit (cs := [AV.rd _ _ _]) rfl rfl ?_) | (refine gx ?_; first | refine sx_seq ?_ | refine sx_ops rfl ?_ | refine sx_skip ?_ | refine sx_ret ?_ | refine sx_cond_f rfl ?_) | refine sk_norm ?_
  refine fin_row rfl hra fun _ => ?_
  simp
def insR (P : List (Rw Span)) (p : Rw Span) : List (Rw Span) := P.takeWhile (fun q => decide (loOf q.l < loOf p.l)) ++ p :: P.dropWhile (fun q => decide (loOf q.l < loOf p.l))
def sortR (l : List (Rw Span)) : List (Rw Span) := l.foldl insR []
theorem insR_perm (P : List (Rw Span)) (p : Rw Span) : (insR P p).Perm (P ++ [p]) := by
 unfold insR
 have h : (P.takeWhile (fun q => decide (loOf q.l < loOf p.l)) ++ p :: P.dropWhile (fun q => decide (loOf q.l < loOf p.l))).Perm (p :: P) := by
  have := List.perm_middle (a := p) (l₁ := P.takeWhile (fun q => decide (loOf q.l < loOf p.l))) (l₂ := P.dropWhile (fun q => decide (loOf q.l < loOf p.l)))
  rwa [List.takeWhile_append_dropWhile] at this
 exact h.trans (List.perm_append_comm (l₁ := [p]) (l₂ := P))
theorem sortR_perm_from (l : List (Rw Span)) : ∀ P : List (Rw Span), (l.foldl insR P).Perm (P ++ l) := by
 induction l with
 | nil => intro P; simp
 | cons p l ih =>
  intro P
  rw [List.foldl_cons]
  refine (ih _).trans ?_
  have := (insR_perm P p).append_right l
  simpa using this
theorem sortR_perm (l : List (Rw Span)) : (sortR l).Perm l := by
 have := sortR_perm_from l []
 unfold sortR
 simpa using this
theorem take_ins {P : List (Rw Span)} {p : Rw Span} {j : Nat} (h1 : ∀ q ∈ P.take j, loOf q.l < loOf p.l) (h2 : ∀ q, P[j]? = some q → ¬ loOf q.l < loOf p.l) : insR P p = P.take j ++ p :: P.drop j := by
 have key : ∀ (P : List (Rw Span)) (j : Nat), (∀ q ∈ P.take j, loOf q.l < loOf p.l) → (∀ q, P[j]? = some q → ¬ loOf q.l < loOf p.l) → P.takeWhile (fun q => decide (loOf q.l < loOf p.l)) = P.take j ∧ P.dropWhile (fun q => decide (loOf q.l < loOf p.l)) = P.drop j := by
  intro P
  induction P with
  | nil => intro j _ _; simp
  | cons q P ih =>
   intro j h1 h2
   cases j with
   | zero =>
    have := h2 q rfl
    rw [List.takeWhile_cons_of_neg (by simpa using this), List.dropWhile_cons_of_neg (by simpa using this)]
    simp
   | succ j =>
    have h3 := h1 q (by simp)
    obtain ⟨a, b⟩ := ih j (fun r hr => h1 r (by simp [hr])) (fun r hr => h2 r (by simpa using hr))
    rw [List.takeWhile_cons_of_pos (by simpa using h3), List.dropWhile_cons_of_pos (by simpa using h3), a, b]
    simp
 obtain ⟨a, b⟩ := key P j h1 h2
 unfold insR
 rw [a, b]
theorem loOf_get {l : List Span} {a : Span} (h : l[0]? = some a) : loOf l = a.lo := by
 cases l with
 | nil => cases h
 | cons b l => simp at h; subst h; rfl
def sortedR (l : Rw (Rw Span)) : Rw (Rw Span) := ⟨sortR l.l, l.l.isEmpty⟩
theorem sorted_ok {Φ : Lib} (L : LibC3 Φ) (l : Rw (Rw Span)) (hl : l.l.length ≤ 2000000) (hne : ∀ q ∈ l.l, q.l ≠ []) : Pure Φ 111 [l.mv Rw.sv] ((sortedR l).mv Rw.sv) := by
 refine runs_of (fun o => o == some 55) rfl L.f111 ?_
 repeat' first | refine st_nil ?_ | (refine gq0 ?_; first | refine st_mv (v := AV.int _ _) rfl ?_ | refine st_mv (v := AV.rd _ _ _) rfl ?_) | (refine gx ?_; first | refine sx_seq ?_ | refine sx_ops rfl ?_ | refine sx_block ?_) | refine sk_norm ?_
 refine sx_for l.l.length (fun i env h' => ∃ fl : Bool, (i = 0 → fl = true) ∧ (0 < i → fl = false) ∧ env.has [(0, l.mv Rw.sv), (3, .rd (sortR (l.l.take i)).length ((sortR (l.l.take i)).map Rw.sv) fl), (4, .int .i64 i)]) ⟨true, fun _ => rfl, by omega, hh_⟩ ?_
 rintro i env h' hi ⟨fl, hf0, hf1, he⟩
 by_cases hi2 : i < l.l.length
 ·obtain ⟨p, hp⟩ := ex_get hi2
  obtain ⟨b, hb⟩ := ex_get (l := p.l) (i := 0) (by have := List.length_pos_iff.2 (hne p (List.mem_of_getElem? hp)); omega)
  have hlb := loOf_get hb
  have hsn : sortR (l.l.take (i + 1)) = insR (sortR (l.l.take i)) p := by
   rw [take_snoc hp, sortR, List.foldl_append]; rfl
  have hPl : (sortR (l.l.take i)).length ≤ 2000000 := by
   have := (sortR_perm (l.l.take i)).length_eq
   rw [List.length_take] at this
   omega
  have hPn : ∀ q ∈ sortR (l.l.take i), q.l ≠ [] := fun q hq => hne q (List.mem_of_mem_take ((sortR_perm _).mem_iff.1 hq))
  generalize hP : sortR (l.l.take i) = P at *
  obtain ⟨env, rfl⟩ := he.ex
  clear he
  repeat' first | refine st_nil ?_ | (refine gw ?_; first | (refine gq0 ?_; first | refine st_mv (v := AV.int _ _) rfl ?_ | refine st_mv (v := AV.rd _ _ _) rfl ?_) | (refine st_lss rfl rfl rfl ?_ ?_ <;> (intro hc; try (exfalso; omega))) | refine st_len_rd rfl ?_) | (refine gx ?_; first | refine sx_seq ?_ | refine sx_ops rfl ?_ | refine sx_skip ?_ | refine sx_block ?_ | refine sx_cond_t rfl ?_) | refine sk_norm ?_
  refine sx_loop (fun m env h' => ∃ (j : Nat) (v : AV), m = P.length - j ∧ j ≤ P.length ∧ (∀ q ∈ P.take j, loOf q.l < loOf p.l) ∧ IsRow h' v 1 j ((P.take j).map Rw.sv) ∧ env.has [(0, l.mv Rw.sv), (3, .rd P.length (P.map Rw.sv) fl), (4, .int .i64 i), (5, v), (6, .int .i64 j)]) _ ⟨0, _, rfl, by omega, by simp, IsRow.nil _ _, hh_⟩ ?_
  rintro m env h' ⟨j, v, rfl, hj, hpre, hrow, he⟩
  obtain ⟨env, rfl⟩ := he.ex
  clear he
  have hfin : ∀ {ws : List (Rw Span)}, ws = P.take j ++ [p] ++ P.drop j → (∀ q, P[j]? = some q → ¬ loOf q.l < loOf p.l) → sortR (l.l.take (i + 1)) = ws := fun e h => by rw [hsn, take_ins hpre h, e]; simp
  by_cases hj2 : j < P.length
  ·obtain ⟨q, hq⟩ := ex_get hj2
   obtain ⟨a, ha⟩ := ex_get (l := q.l) (i := 0) (by have := List.length_pos_iff.2 (hPn q (List.mem_of_getElem? hq)); omega)
   have hla := loOf_get ha
   by_cases hab : a.lo < b.lo
   ·repeat' first | refine st_nil ?_ | (refine gw ?_; first | (refine gq0 ?_; first | refine st_mv (v := AV.int _ _) rfl ?_ | refine st_mv (v := AV.bool _) rfl ?_ | refine st_mv (v := AV.rd _ _ _) rfl ?_ | refine st_mv rv_ ?_) | refine st_gog rfl ?_ | refine st_load_r rfl b_ pv_ ?_ | (refine gq3 ?_; first | refine st_add rfl rfl rfl (by omega) (by omega) ?_ | (refine st_lss rfl rfl rfl ?_ ?_ <;> (intro hc; try (exfalso; omega)))) | refine st_field_r rfl (by simp) rfl ?_ | (refine gq5 ?_; first | refine st_index_map' rfl rfl hp (by omega) rfl ?_ | refine st_index_map' rfl rfl hq (by omega) rfl ?_ | refine st_index_flat' rfl fl_ rfl ha (by omega) rfl ?_ | refine st_index_flat' rfl fl_ rfl hb (by omega) rfl ?_) | refine st_len_rd rfl ?_ | refine st_pick_t (v := AV.bool _) rfl rfl ?_ | (refine st_append (m := 1) rv_ ir_ rfl rfl (by omega) ?_; intro va hpa hra hka hria) | refine st_lit (cs := [AV.rd _ _ _]) rfl rfl ?_) | (refine gx ?_; first | refine sx_seq ?_ | refine sx_ops rfl ?_ | refine sx_skip ?_ | refine sx_block ?_ | refine sx_cond_t rfl ?_) | refine sk_norm ?_ | refine bk_norm ?_
    refine lk_norm (P.length - (j + 1)) (by omega) ⟨j + 1, va, rfl, by omega, fun r hr => ?_, ?_, hh_⟩
    ·rw [take_snoc hq] at hr
     rcases List.mem_append.1 hr with hr | hr
     ·exact hpre r hr
     ·simp at hr; subst hr; rw [hla, hlb]; exact hab
    ·rw [take_snoc hq]
     simpa using hra
   ·repeat' first | refine st_nil ?_ | (refine gw ?_; first | (refine gq0 ?_; first | refine st_mv (v := AV.int _ _) rfl ?_ | refine st_mv (v := AV.bool _) rfl ?_ | refine st_mv (v := AV.rd _ _ _) rfl ?_ | refine st_mv rv_ ?_) | refine st_gog rfl ?_ | refine st_load_r rfl b_ pv_ ?_ | (refine st_lss rfl rfl rfl ?_ ?_ <;> (intro hc; try (exfalso; omega))) | refine st_field_r rfl (by simp) rfl ?_ | (refine gq5 ?_; first | refine st_index_map' rfl rfl hp (by omega) rfl ?_ | refine st_index_map' rfl rfl hq (by omega) rfl ?_ | refine st_index_flat' rfl fl_ rfl ha (by omega) rfl ?_ | refine st_index_flat' rfl fl_ rfl hb (by omega) rfl ?_) | refine st_len_rd rfl ?_ | refine st_pick_t (v := AV.bool _) rfl rfl ?_ | (refine gq14 ?_; first | (refine st_append (m := 1) rv_ ir_ rfl rfl (by omega) ?_; intro va hpa hra hka hria) | (refine st_append rv_ ir_ rfl (by simp) (by first | omega | (simp; omega)) ?_; intro va hpa hra hka hria)) | refine st_lit (cs := [AV.rd _ _ _]) rfl rfl ?_ | refine st_slice_lo_map rfl rfl rfl (by omega) (by omega) ?_) | (refine gx ?_; first | refine sx_seq ?_ | refine sx_ops rfl ?_ | refine sx_exit ?_ | refine sx_cond_f rfl ?_) | refine sk_norm ?_ | refine sk_exit ?_ | refine bk_exit ?_ | refine lk_exit ?_
    have hra2 : IsRow hpa va 1 (sortR (l.l.take (i + 1))).length ((sortR (l.l.take (i + 1))).map Rw.sv) := by
     rw [hfin rfl (fun r hr => by rw [hq] at hr; cases hr; rw [hla, hlb]; exact hab), List.map_append, List.map_append, List.length_append, List.length_append, List.length_take, Nat.min_eq_left hj]
     simp only [Int.toNat_natCast] at hra
     exact hra
    refine sx_freeze 5 (v := va) rfl rfl hra2 ?_
    intro h2 hk2
    repeat' first | refine st_nil ?_ | (refine gw ?_; first | (refine gq0 ?_; first | refine st_mv (v := AV.int _ _) rfl ?_ | refine st_mv (v := AV.rd _ _ _) rfl ?_) | refine st_add rfl rfl rfl (by omega) (by omega) ?_) | refine sx_ops rfl ?_ | refine sk_norm ?_ | refine bk_norm ?_
    exact lk_next hi2 ⟨false, by omega, fun _ => rfl, hh_⟩
  ·repeat' first | refine st_nil ?_ | (refine gw ?_; first | (refine gq0 ?_; first | refine st_mv (v := AV.int _ _) rfl ?_ | refine st_mv (v := AV.bool _) rfl ?_ | refine st_mv (v := AV.rd _ _ _) rfl ?_ | refine st_mv rv_ ?_) | refine st_skipg rfl ?_ | refine st_load_r rfl b_ pv_ ?_ | (refine st_lss rfl rfl rfl ?_ ?_ <;> (intro hc; try (exfalso; omega))) | refine st_index_map' rfl rfl hp (by omega) rfl ?_ | refine st_len_rd rfl ?_ | refine st_pick_f (v := AV.bool _) rfl rfl ?_ | (refine gq14 ?_; first | (refine st_append (m := 1) rv_ ir_ rfl rfl (by omega) ?_; intro va hpa hra hka hria) | (refine st_append rv_ ir_ rfl (by simp) (by first | omega | (simp; omega)) ?_; intro va hpa hra hka hria)) | refine st_lit (cs := [AV.rd _ _ _]) rfl rfl ?_ | refine st_slice_lo_map rfl rfl rfl (by omega) (by omega) ?_) | (refine gx ?_; first | refine sx_seq ?_ | refine sx_ops rfl ?_ | refine sx_exit ?_ | refine sx_cond_f rfl ?_) | refine sk_norm ?_ | refine sk_exit ?_ | refine bk_exit ?_ | refine lk_exit ?_
   have hra2 : IsRow hpa va 1 (sortR (l.l.take (i + 1))).length ((sortR (l.l.take (i + 1))).map Rw.sv) := by
    rw [hfin rfl (fun r hr => by have := (List.getElem?_eq_some_iff.1 hr).1; omega), List.map_append, List.map_append, List.length_append, List.length_append, List.length_take, Nat.min_eq_left hj]
    simp only [Int.toNat_natCast] at hra
    exact hra
   refine sx_freeze 5 (v := va) rfl rfl hra2 ?_
   intro h2 hk2
   repeat' first | refine st_nil ?_ | (refine gw ?_; first | (refine gq0 ?_; first | refine st_mv (v := AV.int _ _) rfl ?_ | refine st_mv (v := AV.rd _ _ _) rfl ?_) | refine st_add rfl rfl rfl (by omega) (by omega) ?_) | refine sx_ops rfl ?_ | refine sk_norm ?_ | refine bk_norm ?_
   exact lk_next hi2 ⟨false, by omega, fun _ => rfl, hh_⟩
 ·have hi3 : i = l.l.length := by omega
  obtain ⟨env, rfl⟩ := he.ex
  clear he
  repeat' first | refine st_nil ?_ | (refine gw ?_; first | (refine gq0 ?_; first | refine st_mv (v := AV.int _ _) rfl ?_ | refine st_mv (v := AV.rd _ _ _) rfl ?_) | (refine st_lss rfl rfl rfl ?_ ?_ <;> (intro hc; try (exfalso; omega))) | refine st_len_rd rfl ?_) | (refine gx ?_; first | refine sx_seq ?_ | refine sx_ops rfl ?_ | refine sx_ret ?_ | refine sx_exit ?_ | refine sx_cond_f rfl ?_) | refine sk_norm ?_ | refine sk_exit ?_ | refine bk_exit ?_ | refine lk_exit ?_
  rw [List.take_of_length_le (by omega)]
  refine fin_ret (v := .rd (sortR l.l).length ((sortR l.l).map Rw.sv) fl) rfl ?_
  have : fl = l.l.isEmpty := by
   cases hll : l.l with
   | nil => exact hf0 (by rw [hll] at hi; simpa using hi)
   | cons a r => rw [hll] at hi2; exact hf1 (by simp at hi2; omega)
  rw [this]
  rfl
end Go.Proofs.YtdldfflfbfpngaaGreatDoor
set_option linter.unusedVariables false
set_option linter.unusedSimpArgs false
namespace Go.Proofs.YtdldfflfbfpngaaGreatDoor
open Go
@[reducible] def interR (p s : Rw Span) : Rw Span := ⟨interS p.l s.l, false⟩
@[reducible] def minusR (p s : Rw Span) : Rw Span := ⟨minusS p.l s.l, false⟩
def splitA (s : Rw Span) (out : Rw (Rw Span)) (p : Rw Span) : Rw (Rw Span) := someR (someR out (interR p s)) (minusR p s)
def splitR (P : List (Rw Span)) (s : Rw Span) : Rw (Rw Span) := P.foldl (splitA s) ⟨[], true⟩
def stepA (st : Rw (Rw Span) × Rw Span) (s : Rw Span) : Rw (Rw Span) × Rw Span := (someR (splitR st.1.l s) (interR st.2 s), minusR st.2 s)
def all0 : Rw Span := ⟨[⟨0, 1114111⟩], true⟩
def foldA (l : List (Rw Span)) : Rw (Rw Span) × Rw Span := l.foldl stepA (⟨[], true⟩, all0)
def ofR (l : List (Rw Span)) : Rw (Rw Span) := sortedR (foldA l).1
def InU (P : List (Rw Span)) (x : Int) : Prop := ∃ q ∈ P, inS q.l x
def SameU (l : List (Rw Span)) (x y : Int) : Prop := ∀ s ∈ l, hasR s.l x = hasR s.l y
structure Ats (l P : List (Rw Span)) : Prop where
 good : ∀ q ∈ P, q.l ≠ [] ∧ normS q.l = q.l
 apart : P.Pairwise fun a b => ∀ x, ¬ (inS a.l x ∧ inS b.l x)
 same : ∀ x y, scal x = true → scal y = true → SameU l x y → ∀ q ∈ P, inS q.l x → inS q.l y
theorem Ats.nil (l : List (Rw Span)) : Ats l [] := ⟨by simp, List.Pairwise.nil, by simp⟩
theorem InU_app {P Q : List (Rw Span)} {x : Int} : InU (P ++ Q) x ↔ InU P x ∨ InU Q x := by
 unfold InU
 constructor
 ·rintro ⟨q, hq, hx⟩
  rcases List.mem_append.1 hq with hq | hq
  ·exact .inl ⟨q, hq, hx⟩
  ·exact .inr ⟨q, hq, hx⟩
 ·rintro (⟨q, hq, hx⟩ | ⟨q, hq, hx⟩)
  ·exact ⟨q, List.mem_append.2 (.inl hq), hx⟩
  ·exact ⟨q, List.mem_append.2 (.inr hq), hx⟩
theorem InU_one {q : Rw Span} {x : Int} : InU [q] x ↔ inS q.l x := by simp [InU]
theorem Ats.some {l : List (Rw Span)} {P : Rw (Rw Span)} (h : Ats l P.l) {s : Rw Span} (hn : normS s.l = s.l) (hd : ∀ x, ¬ (InU P.l x ∧ inS s.l x)) (hs : ∀ x y, scal x = true → scal y = true → SameU l x y → inS s.l x → inS s.l y) : Ats l (someR P s).l ∧ ∀ x, InU (someR P s).l x ↔ InU P.l x ∨ inS s.l x := by
 unfold someR
 by_cases he : s.l = []
 ·rw [if_pos he]
  refine ⟨h, fun x => ⟨.inl, fun h => ?_⟩⟩
  rcases h with h | ⟨t, ht, _⟩
  ·exact h
  ·rw [he] at ht; cases ht
 ·rw [if_neg he]
  refine ⟨⟨fun q hq => ?_, ?_, fun x y hx hy hxy q hq => ?_⟩, fun x => by rw [InU_app, InU_one]⟩
  ·rcases List.mem_append.1 hq with hq | hq
   ·exact h.good q hq
   ·simp at hq; subst hq; exact ⟨he, hn⟩
  ·rw [List.pairwise_append]
   refine ⟨h.apart, List.pairwise_singleton _ _, fun a ha b hb x hx => ?_⟩
   simp at hb; subst hb
   exact hd x ⟨⟨a, ha, hx.1⟩, hx.2⟩
  ·rcases List.mem_append.1 hq with hq | hq
   ·exact h.same x y hx hy hxy q hq
   ·simp at hq; subst hq; exact hs x y hx hy hxy
theorem hasR_of {s : List Span} {x : Int} (hx : scal x = true) : hasR s x = true ↔ inS s x := by
 rw [hasR_iff]
 exact ⟨fun h => h.2, fun h => ⟨hx, h⟩⟩
theorem same_inter {l : List (Rw Span)} {s p : Rw Span} (hp : ∀ x y, scal x = true → scal y = true → SameU l x y → inS p.l x → inS p.l y) {x y : Int} (hx : scal x = true) (hy : scal y = true) (h : SameU (l ++ [s]) x y) : (inS (interS p.l s.l) x → inS (interS p.l s.l) y) ∧ (inS (minusS p.l s.l) x → inS (minusS p.l s.l) y) := by
 have h1 : SameU l x y := fun t ht => h t (List.mem_append.2 (.inl ht))
 have h2 := h s (by simp)
 have h3 : inS s.l x ↔ inS s.l y := by rw [← hasR_of hx, ← hasR_of hy, h2]
 rw [inS_inter, inS_inter, inS_minus, inS_minus, h3]
 exact ⟨fun ⟨_, a, b⟩ => ⟨hy, hp x y hx hy h1 a, b⟩, fun ⟨_, a, b⟩ => ⟨hy, hp x y hx hy h1 a, b⟩⟩
theorem split_ok {l : List (Rw Span)} {P : List (Rw Span)} (h : Ats l P) (s : Rw Span) : ∀ n, n ≤ P.length → Ats (l ++ [s]) (splitR (P.take n) s).l ∧ ∀ x, InU (splitR (P.take n) s).l x ↔ InU (P.take n) x
 | 0, _ => ⟨by simpa [splitR] using Ats.nil _, fun x => by simp [splitR, InU]⟩
 | n + 1, hn => by
  obtain ⟨h1, h2⟩ := split_ok h s n (by omega)
  obtain ⟨p, hp⟩ := ex_get (l := P) (i := n) hn
  have hpm := List.mem_of_getElem? hp
  have hpn := (h.good p hpm).2
  have hsame := fun x y a b c => h.same x y a b c p hpm
  have hdis : ∀ x, ¬ (InU (P.take n) x ∧ inS p.l x) := fun x ⟨⟨q, hq, hx⟩, hx2⟩ => by
   have h3 := h.apart
   rw [← List.take_append_drop n P, List.pairwise_append] at h3
   have h4 : p ∈ P.drop n := by
    rw [List.drop_eq_getElem_cons (show n < P.length by omega), (List.getElem?_eq_some_iff.1 hp).2]
    simp
   exact h3.2.2 q hq p h4 x ⟨hx, hx2⟩
  have e : splitR (P.take (n + 1)) s = someR (someR (splitR (P.take n) s) (interR p s)) (minusR p s) := by
   rw [take_snoc hp, splitR, List.foldl_append]; rfl
  obtain ⟨a1, a2⟩ := Ats.some h1 (s := interR p s) (make_norm _ _ _) (fun x ⟨hx, hi⟩ => hdis x ⟨(h2 x).1 hx, (inS_inter.1 hi).2.1⟩) (fun x y hx hy hxy => (same_inter hsame hx hy hxy).1)
  obtain ⟨b1, b2⟩ := Ats.some a1 (s := minusR p s) (make_norm _ _ _) (fun x ⟨hx, hi⟩ => by
   have hm := inS_minus.1 hi
   rcases (a2 x).1 hx with hx | hx
   ·exact hdis x ⟨(h2 x).1 hx, hm.2.1⟩
   ·exact hm.2.2 (inS_inter.1 hx).2.2) (fun x y hx hy hxy => (same_inter hsame hx hy hxy).2)
  rw [e]
  refine ⟨b1, fun x => ?_⟩
  rw [b2, a2, h2, take_snoc hp, InU_app, InU_one, inS_inter, inS_minus]
  constructor
  ·rintro ((h | h) | h)
   ·exact .inl h
   ·exact .inr h.2.1
   ·exact .inr h.2.1
  ·rintro (h | h)
   ·exact .inl (.inl h)
   ·by_cases hs : inS s.l x
    ·exact .inl (.inr ⟨norm_scal hpn h, h, hs⟩)
    ·exact .inr ⟨norm_scal hpn h, h, hs⟩
structure Atoms (l : List (Rw Span)) (st : Rw (Rw Span) × Rw Span) : Prop where
 ats : Ats l st.1.l
 rest : ∀ x, scal x = true → (inS st.2.l x ↔ ∀ s ∈ l, ¬ inS s.l x)
 un : ∀ x, InU st.1.l x ↔ scal x = true ∧ ∃ s ∈ l, inS s.l x
theorem rest_same {l : List (Rw Span)} {st : Rw (Rw Span) × Rw Span} (h : Atoms l st) : ∀ x y, scal x = true → scal y = true → SameU l x y → inS st.2.l x → inS st.2.l y := fun x y hx hy hxy h1 => by
 rw [h.rest y hy]
 intro s hs hys
 refine (h.rest x hx).1 h1 s hs ?_
 have := hxy s hs
 rw [← hasR_of hx, this, hasR_of hy]
 exact hys
theorem atoms_step {l : List (Rw Span)} {st : Rw (Rw Span) × Rw Span} (h : Atoms l st) (s : Rw Span) : Atoms (l ++ [s]) (stepA st s) := by
 obtain ⟨h1, h2⟩ := split_ok h.ats s st.1.l.length (Nat.le_refl _)
 rw [List.take_length] at h1 h2
 obtain ⟨a1, a2⟩ := Ats.some h1 (s := interR st.2 s) (make_norm _ _ _) (fun x ⟨hx, hi⟩ => by
  have hi2 := inS_inter.1 hi
  obtain ⟨hsx, t, ht, htx⟩ := (h.un x).1 ((h2 x).1 hx)
  exact (h.rest x hsx).1 hi2.2.1 t ht htx) (fun x y hx hy hxy => (same_inter (rest_same h) hx hy hxy).1)
 refine ⟨a1, fun x hx => ?_, fun x => ?_⟩
 ·show inS (minusS st.2.l s.l) x ↔ _
  rw [inS_minus, h.rest x hx]
  constructor
  ·rintro ⟨_, h3, h4⟩ t ht
   rcases List.mem_append.1 ht with ht | ht
   ·exact h3 t ht
   ·simp at ht; subst ht; exact h4
  ·exact fun h3 => ⟨hx, fun t ht => h3 t (List.mem_append.2 (.inl ht)), h3 s (by simp)⟩
 ·show InU (someR (splitR st.1.l s) (interR st.2 s)).l x ↔ _
  rw [a2, h2, h.un, inS_inter]
  constructor
  ·rintro (⟨hx, t, ht, htx⟩ | ⟨hx, _, h3⟩)
   ·exact ⟨hx, t, List.mem_append.2 (.inl ht), htx⟩
   ·exact ⟨hx, s, by simp, h3⟩
  ·rintro ⟨hx, t, ht, htx⟩
   by_cases h4 : ∃ t ∈ l, inS t.l x
   ·exact .inl ⟨hx, h4⟩
   ·refine .inr ⟨hx, (h.rest x hx).2 fun t ht h5 => h4 ⟨t, ht, h5⟩, ?_⟩
    rcases List.mem_append.1 ht with ht | ht
    ·exact absurd ⟨t, ht, htx⟩ h4
    ·simp at ht; subst ht; exact htx
theorem atoms_zero : Atoms [] (⟨[], true⟩, all0) := by
 refine ⟨Ats.nil _, fun x hx => ?_, fun x => by simp [InU]⟩
 have := scal_iff.1 hx
 simp [all0, inS]
 omega
theorem atoms_ok (l : List (Rw Span)) : Atoms l (foldA l) := by
 have key : ∀ (m k : List (Rw Span)) (st : Rw (Rw Span) × Rw Span), Atoms k st → Atoms (k ++ m) (m.foldl stepA st) := by
  intro m
  induction m with
  | nil => intro k st h; simpa using h
  | cons s m ih =>
   intro k st h
   have := ih (k ++ [s]) _ (atoms_step h s)
   simpa using this
 simpa [foldA] using key l [] _ atoms_zero
theorem Ats.sub {l P Q : List (Rw Span)} (h : Ats l P) (hp : Q.Perm P) : Ats l Q :=
 ⟨fun q hq => h.good q (hp.mem_iff.1 hq), hp.symm.pairwise h.apart fun h x hx => h x ⟨hx.2, hx.1⟩, fun x y hx hy hxy q hq => h.same x y hx hy hxy q (hp.mem_iff.1 hq)⟩
def edgesU (l : List (Rw Span)) : List Int := [0, 57344] ++ l.flatMap fun s => s.l.flatMap fun t => [t.lo, t.hi + 1]
theorem lo_edge {l P : List (Rw Span)} (h : Ats l P) {q : Rw Span} (hq : q ∈ P) {t : Span} (ht : t ∈ q.l) : t.lo ∈ edgesU l := by
 have hn := (h.good q hq).2
 have hc := norm_canon hn
 have ht1 := hc.2 t ht
 have hlo : inS q.l t.lo := ⟨t, ht, Int.le_refl _, ht1⟩
 have hs1 := norm_scal hn hlo
 have hs2 := scal_iff.1 hs1
 unfold edgesU
 by_cases h0 : t.lo = 0 ∨ t.lo = 57344
 ·rcases h0 with h0 | h0 <;> rw [h0] <;> simp
 ·have hs3 : scal (t.lo - 1) = true := scal_iff.2 (by omega)
  have hno : ¬ inS q.l (t.lo - 1) := by
   rintro ⟨u, hu, h1, h2⟩
   have hut : u = t ∨ u ≠ t := Classical.em _
   rcases hut with rfl | hut
   ·omega
   ·obtain ⟨i, hi, rfl⟩ := List.getElem_of_mem hu
    obtain ⟨j, hj, rfl⟩ := List.getElem_of_mem ht
    have hpw := List.pairwise_iff_getElem.1 hc.1
    rcases Nat.lt_trichotomy i j with hij | hij | hij
    ·have := hpw i j hi hj hij
     omega
    ·subst hij; exact hut rfl
    ·have := hpw j i hj hi hij
     omega
  have hdiff : ¬ SameU l t.lo (t.lo - 1) := fun hs => hno (h.same _ _ hs1 hs3 hs q hq hlo)
  obtain ⟨s, hs⟩ := Classical.not_forall.1 hdiff
  obtain ⟨hsm, hne⟩ := Classical.not_imp.1 hs
  refine List.mem_append.2 (.inr (List.mem_flatMap.2 ⟨s, hsm, ?_⟩))
  have key : ∃ u ∈ s.l, t.lo = u.lo ∨ t.lo = u.hi + 1 := by
   apply Classical.byContradiction
   intro hx
   apply hne
   have : inS s.l t.lo ↔ inS s.l (t.lo - 1) := by
    constructor
    ·rintro ⟨u, hu, a, b⟩
     have : ¬ t.lo = u.lo := fun e => hx ⟨u, hu, .inl e⟩
     exact ⟨u, hu, by omega, by omega⟩
    ·rintro ⟨u, hu, a, b⟩
     have : ¬ t.lo = u.hi + 1 := fun e => hx ⟨u, hu, .inr e⟩
     exact ⟨u, hu, by omega, by omega⟩
   rw [Bool.eq_iff_iff, hasR_of hs1, hasR_of hs3, this]
  obtain ⟨u, hu, h1⟩ := key
  refine List.mem_flatMap.2 ⟨u, hu, ?_⟩
  rcases h1 with h1 | h1 <;> rw [h1] <;> simp
theorem nodup_sub_length {l m : List Int} (h : l.Nodup) (hs : ∀ x ∈ l, x ∈ m) : l.length ≤ m.length := by
 induction l generalizing m with
 | nil => simp
 | cons a l ih =>
  obtain ⟨h1, h2⟩ := List.nodup_cons.1 h
  have ha := hs a (by simp)
  have := ih (m := m.erase a) h2 fun x hx => by
   have hne : x ≠ a := fun e => h1 (e ▸ hx)
   exact (List.mem_erase_of_ne hne).2 (hs x (by simp [hx]))
  rw [List.length_erase_of_mem ha] at this
  have := List.length_pos_of_mem ha
  simp only [List.length_cons]
  omega
theorem Ats.cat {l P : List (Rw Span)} (h : Ats l P) : (catS P).length ≤ (edgesU l).length := by
 have h1 : ((catS P).map fun t => t.lo).Nodup := by
  unfold catS
  rw [List.map_flatMap]
  rw [List.Nodup, List.pairwise_flatMap]
  refine ⟨fun q hq => ?_, ?_⟩
  ·have hc := norm_canon (h.good q hq).2
   rw [List.pairwise_map]
   refine hc.1.imp_of_mem ?_
   intro a b ha hb hab e
   have := hc.2 a ha
   omega
  ·refine h.apart.imp_of_mem ?_
   intro a b ha hb hab x hx y hy e
   obtain ⟨t, ht, rfl⟩ := List.mem_map.1 hx
   obtain ⟨u, hu, rfl⟩ := List.mem_map.1 hy
   have e2 : t.lo = u.lo := e
   have hc := norm_canon (h.good a ha).2
   have hc2 := norm_canon (h.good b hb).2
   exact hab t.lo ⟨⟨t, ht, Int.le_refl _, hc.2 t ht⟩, ⟨u, hu, by omega, by rw [e2]; exact hc2.2 u hu⟩⟩
 have h2 := nodup_sub_length h1 (m := edgesU l) fun x hx => by
  obtain ⟨t, ht, rfl⟩ := List.mem_map.1 hx
  obtain ⟨q, hq, htq⟩ := List.mem_flatMap.1 ht
  exact lo_edge h hq htq
 simpa using h2
theorem Ats.count {l P : List (Rw Span)} (h : Ats l P) : P.length ≤ (catS P).length := by
 have : ∀ P : List (Rw Span), (∀ q ∈ P, q.l ≠ []) → P.length ≤ (catS P).length := by
  intro P
  induction P with
  | nil => simp
  | cons p P ih =>
   intro hg
   have h1 := ih fun q hq => hg q (by simp [hq])
   have h2 := List.length_pos_iff.2 (hg p (by simp))
   simp [catS] at h1 ⊢
   omega
 exact this P fun q hq => (h.good q hq).1
theorem edgesU_length (l : List (Rw Span)) : (edgesU l).length = 2 + 2 * (catS l).length := by
 unfold edgesU catS
 rw [List.length_append]
 congr 1
 induction l with
 | nil => rfl
 | cons s l ih =>
  rw [List.flatMap_cons, List.flatMap_cons, List.length_append, List.length_append, ih]
  have : (s.l.flatMap fun t => [t.lo, t.hi + 1]).length = 2 * s.l.length := by
   induction s.l with
   | nil => rfl
   | cons t r ih => rw [List.flatMap_cons, List.length_append, ih, List.length_cons]; simp; omega
  omega
end Go.Proofs.YtdldfflfbfpngaaGreatDoor
set_option linter.unusedVariables false
set_option linter.unusedSimpArgs false
namespace Go.Proofs.YtdldfflfbfpngaaGreatDoor
open Go
set_option maxHeartbeats 4000000
attribute [local irreducible] wops xcode wcode seqK blockK loopK finK wcall wop wstp Runs
theorem wide_norm {s : List Span} (h : normS s = s) : WideS s := by
 have h4 := norm_len_le h
 refine ⟨by omega, fun t ht => ?_⟩
 have h5 := norm_range h t ht
 have h6 := (norm_canon h).2 t ht
 omega
theorem foldA_snoc (l : List (Rw Span)) (s : Rw Span) : foldA (l ++ [s]) = stepA (foldA l) s := by
 unfold foldA
 rw [List.foldl_append]; rfl
theorem foldA_wide (l : List (Rw Span)) : WideS (foldA l).2.l := by
 rcases List.eq_nil_or_concat l with rfl | ⟨k, s, rfl⟩
 ·exact ⟨by decide, fun s hs => by
   have : s ∈ [(⟨0, 1114111⟩ : Span)] := hs
   simp at this; subst this; decide⟩
 ·rw [List.concat_eq_append, foldA_snoc]
  exact wide_norm (make_norm _ _ _)
theorem some_length (P : Rw (Rw Span)) (s : Rw Span) : (someR P s).l.length ≤ P.l.length + 1 := by
 unfold someR
 split
 ·omega
 ·simp
theorem catS_take (l : List (Rw Span)) (i : Nat) : (catS (l.take i)).length ≤ (catS l).length := by
 have h : catS l = catS (l.take i) ++ catS (l.drop i) := by
  unfold catS
  rw [← List.flatMap_append, List.take_append_drop]
 rw [h, List.length_append]
 omega
theorem of10_ok {Φ : Lib} (L : LibC3 Φ) (L2 : C2Lib Φ) (l : Rw (Rw Span)) (hl : l.l.length ≤ 1048576) (hw : ∀ s ∈ l.l, WideS s.l) (hc : (catS l.l).length ≤ 524288) : Pure Φ 97 [l.mv Rw.sv] ((ofR l.l).mv Rw.sv) := by
 have hlen : ∀ i, (foldA (l.l.take i)).1.l.length ≤ 1048578 := fun i => by
  have h1 := (atoms_ok (l.l.take i)).ats
  have h2 := h1.count
  have h3 := h1.cat
  have h4 := catS_take l.l i
  rw [edgesU_length] at h3
  omega
 refine runs_of (fun _ => false) rfl L.f97 ?_
 repeat' first | refine st_nil ?_ | (refine gw ?_; first | (refine gq0 ?_; first | refine st_mv (v := AV.int _ _) rfl ?_ | refine st_mv (v := AV.rd _ _ _) rfl ?_) | refine st_build (cs := [AV.int _ _, AV.int _ _]) rfl ?_ | refine st_lit (cs := [AV.int _ _, AV.int _ _]) rfl rfl ?_) | (refine gx ?_; first | refine sx_seq ?_ | refine sx_ops rfl ?_ | refine sx_block ?_) | refine sk_norm ?_
 refine sx_for l.l.length (fun i env h' => env.has [(0, l.mv Rw.sv), (3, (foldA (l.l.take i)).1.mv Rw.sv), (4, (foldA (l.l.take i)).2.sv), (5, .int .i64 i)]) (hh_) ?_
 rintro i env h' hi he
 by_cases hi2 : i < l.l.length
 ·obtain ⟨s, hs⟩ := ex_get hi2
  have hsw := hw s (List.mem_of_getElem? hs)
  have hat := atoms_ok (l.l.take i)
  have hrw := foldA_wide (l.l.take i)
  have hPl := hlen i
  have hnext : foldA (l.l.take (i + 1)) = stepA (foldA (l.l.take i)) s := by rw [take_snoc hs, foldA_snoc]
  have hsl : ∀ n, n ≤ (foldA (l.l.take i)).1.l.length → (splitR ((foldA (l.l.take i)).1.l.take n) s).l.length ≤ 1048578 := fun n hn => by
   have h1 := (split_ok hat.ats s n hn).1
   have h2 := h1.count
   have h3 := h1.cat
   have h4 := catS_take l.l (i + 1)
   rw [← take_snoc hs, edgesU_length] at h3
   omega
  generalize hst : foldA (l.l.take i) = st at *
  obtain ⟨P, rest⟩ := st
  simp only at *
  obtain ⟨env, rfl⟩ := he.ex
  clear he
  repeat' first | refine st_nil ?_ | (refine gw ?_; first | (refine gq0 ?_; first | refine st_mv (v := AV.int _ _) rfl ?_ | refine st_mv (v := AV.rd _ _ _) rfl ?_) | (refine st_lss rfl rfl rfl ?_ ?_ <;> (intro hc; try (exfalso; omega))) | refine st_len_rd rfl ?_) | (refine gx ?_; first | refine sx_seq ?_ | refine sx_ops rfl ?_ | refine sx_skip ?_ | refine sx_block ?_ | refine sx_cond_t rfl ?_) | refine sk_norm ?_
  refine sx_for P.l.length (fun j env h' => env.has [(0, l.mv Rw.sv), (3, P.mv Rw.sv), (4, rest.sv), (5, .int .i64 i), (6, (splitR (P.l.take j) s).mv Rw.sv), (7, .int .i64 j)]) (hh_) ?_
  rintro j env h' hj he
  have hsj := hsl j hj
  by_cases hj2 : j < P.l.length
  ·obtain ⟨p, hp⟩ := ex_get hj2
   have hpw := wide_norm (hat.ats.good p (List.mem_of_getElem? hp)).2
   have hnx : splitR (P.l.take (j + 1)) s = someR (someR (splitR (P.l.take j) s) (interR p s)) (minusR p s) := by rw [take_snoc hp, splitR, List.foldl_append]; rfl
   generalize splitR (P.l.take j) s = out at *
   have hso := some_length out (interR p s)
   have k1 : Pure Φ 109 [p.sv, s.sv] (interR p s).sv := inter_ok L L2 p s hpw hsw
   have k2 := some_ok L out (interR p s) (by omega)
   have k3 : Pure Φ 110 [p.sv, s.sv] (minusR p s).sv := minus_ok L L2 p s hpw hsw
   have k4 := some_ok L (someR out (interR p s)) (minusR p s) (by omega)
   generalize hq1 : interR p s = q1 at *
   generalize hq2 : minusR p s = q2 at *
   obtain ⟨env, rfl⟩ := he.ex
   clear he
   repeat' first | refine st_nil ?_ | (refine gw ?_; first | (refine gq0 ?_; first | refine st_mv (v := AV.int _ _) rfl ?_ | refine st_mv (v := AV.rd _ _ _) rfl ?_) | refine st_load_r rfl b_ pv_ ?_ | (refine gq3 ?_; first | refine st_add rfl rfl rfl (by omega) (by omega) ?_ | (refine st_lss rfl rfl rfl ?_ ?_ <;> (intro hc; try (exfalso; omega)))) | (refine gq5 ?_; first | refine st_index_map' rfl rfl hs (by omega) rfl ?_ | refine st_index_map' rfl rfl hp (by omega) rfl ?_) | refine st_len_rd rfl ?_ | refine st_call rfl nt_ ?_) | (refine gx ?_; first | refine sx_seq ?_ | refine sx_ops rfl ?_ | refine sx_skip ?_ | refine sx_block ?_ | refine sx_cond_t rfl ?_) | refine sk_norm ?_ | refine bk_norm ?_ | refine call_pure (by assumption) fz_ fz_ ?_
   refine lk_next hj2 ?_
   rw [hnx]
   exact hh_
  ·have hjj : j = P.l.length := by omega
   rw [hjj, List.take_length] at he hsj
   have hnx : stepA (P, rest) s = (someR (splitR P.l s) (interR rest s), minusR rest s) := rfl
   generalize splitR P.l s = out at *
   have k1 : Pure Φ 109 [rest.sv, s.sv] (interR rest s).sv := inter_ok L L2 rest s hrw hsw
   have k2 := some_ok L out (interR rest s) (by omega)
   have k3 : Pure Φ 110 [rest.sv, s.sv] (minusR rest s).sv := minus_ok L L2 rest s hrw hsw
   generalize hq1 : interR rest s = q1 at *
   generalize hq2 : minusR rest s = q2 at *
   obtain ⟨env, rfl⟩ := he.ex
   clear he
   repeat' first | refine st_nil ?_ | (refine gw ?_; first | (refine gq0 ?_; first | refine st_mv (v := AV.int _ _) rfl ?_ | refine st_mv (v := AV.rd _ _ _) rfl ?_) | refine st_load_r rfl b_ pv_ ?_ | (refine gq3 ?_; first | refine st_add rfl rfl rfl (by omega) (by omega) ?_ | (refine st_lss rfl rfl rfl ?_ ?_ <;> (intro hc; try (exfalso; omega)))) | refine st_index_map' rfl rfl hs (by omega) rfl ?_ | refine st_len_rd rfl ?_ | refine st_call rfl nt_ ?_) | (refine gx ?_; first | refine sx_seq ?_ | refine sx_ops rfl ?_ | refine sx_exit ?_ | refine sx_cond_f rfl ?_) | refine sk_norm ?_ | refine sk_exit ?_ | refine bk_norm ?_ | refine bk_exit ?_ | refine lk_exit ?_ | refine call_pure (by assumption) fz_ fz_ ?_
   refine lk_next hi2 ?_
   rw [hnext, hnx]
   exact hh_
 ·rw [List.take_of_length_le (by omega)] at he
  have hii : i = l.l.length := by omega
  have hPl := hlen i
  rw [List.take_of_length_le (by omega)] at hPl
  have k1 := sorted_ok L (foldA l.l).1 (by omega) (fun q hq => ((atoms_ok l.l).ats.good q hq).1)
  have hof : ofR l.l = sortedR (foldA l.l).1 := rfl
  rw [hof]
  generalize foldA l.l = st at *
  obtain ⟨env, rfl⟩ := he.ex
  clear he
  repeat' first | refine st_nil ?_ | (refine gw ?_; first | (refine gq0 ?_; first | refine st_mv (v := AV.int _ _) rfl ?_ | refine st_mv (v := AV.rd _ _ _) rfl ?_) | (refine st_lss rfl rfl rfl ?_ ?_ <;> (intro hc; try (exfalso; omega))) | refine st_len_rd rfl ?_ | refine st_call rfl nt_ ?_) | (refine gx ?_; first | refine sx_seq ?_ | refine sx_ops rfl ?_ | refine sx_ret ?_ | refine sx_exit ?_ | refine sx_cond_f rfl ?_) | refine sk_norm ?_ | refine sk_exit ?_ | refine bk_exit ?_ | refine lk_exit ?_ | refine call_pure (by assumption) fz_ fz_ ?_
  exact fin_ret (v := (sortedR st.1).mv Rw.sv) rfl rfl
end Go.Proofs.YtdldfflfbfpngaaGreatDoor
