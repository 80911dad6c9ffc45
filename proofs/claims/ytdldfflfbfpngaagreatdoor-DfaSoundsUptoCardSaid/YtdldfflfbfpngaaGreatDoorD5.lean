/- The document's sets. The document's sets: Make, Norm. -/
import Derived.Test.YtdldfflfbfpngaaGreatDoorC
import Derived.Test.YtdldfflfbfpngaaGreatDoorD2
import Derived.Test.YtdldfflfbfpngaaGreatDoorD4
import Derived.Test.YtdldfflfbfpngaaGreatDoorB2
set_option linter.unusedVariables false
set_option linter.unusedSimpArgs false
namespace Go.Proofs.YtdldfflfbfpngaaGreatDoor
open Go
set_option maxHeartbeats 4000000
attribute [local irreducible] wops xcode wcode seqK blockK loopK finK wcall wop wstp Runs
theorem scalar_ok {Φ : Lib} (L : C2Lib Φ) (x : Int) : Pure Φ 44 [.int .i64 x] (.bool (scal x)) := by
 refine runs_of (fun _ => false) rfl L.f44 ?_
 repeat' first | refine st_nil ?_ | (refine gw ?_; first | (refine gq0 ?_; first | refine st_mv (v := AV.int _ _) rfl ?_ | refine st_mv (v := AV.bool _) rfl ?_) | (refine gq1 ?_; first | refine st_skipg rfl ?_ | refine st_gog rfl ?_ | refine st_skipt rfl ?_) | (refine gq3 ?_; first | (refine st_lss rfl rfl rfl ?_ ?_ <;> (intro hc; try (exfalso; omega))) | (refine st_leq rfl rfl rfl ?_ ?_ <;> (intro hc; try (exfalso; omega))) | (refine st_gtr rfl rfl rfl ?_ ?_ <;> (intro hc; try (exfalso; omega))) | (refine st_geq rfl rfl rfl ?_ ?_ <;> (intro hc; try (exfalso; omega)))) | (refine gq7 ?_; first | refine st_pick_t (v := AV.bool _) rfl rfl ?_ | refine st_pick_f (v := AV.bool _) rfl rfl ?_)) | (refine gx ?_; first | refine sx_seq ?_ | refine sx_ops rfl ?_ | refine sx_ret ?_) | refine sk_norm ?_ | refine fin_ret (v := AV.bool _) rfl ?_
 all_goals simp [scal, *]
theorem rhas_ok {Φ : Lib} (L : C2Lib Φ) (l : List Span) (fl : Bool) (r : Int) (hl : l.length ≤ 1073741824) : Pure Φ 31 [.rd l.length (l.flatMap Span.av) fl, .int .i64 r] (.bool (hasR l r)) := by
 refine runs_of (fun _ => false) rfl L.f31 ?_
 repeat' first | refine st_nil ?_ | (refine gq0 ?_; first | refine st_mv (v := AV.int _ _) rfl ?_ | refine st_mv (v := AV.bool _) rfl ?_) | (refine gx ?_; first | refine sx_seq ?_ | refine sx_ops rfl ?_ | refine sx_block ?_) | refine sk_norm ?_
 refine sx_for l.length (fun i env h' => (∀ s ∈ l.take i, ¬ (s.lo ≤ r ∧ r ≤ s.hi)) ∧ env.has [(0, .rd l.length (l.flatMap Span.av) fl), (1, .int .i64 r), (5, .int .i64 i)]) ⟨by simp, hh_⟩ ?_
 rintro i env h' hi ⟨hpre, he⟩
 obtain ⟨env, rfl⟩ := he.ex
 clear he
 by_cases hi2 : i < l.length
 ·obtain ⟨s, hs⟩ := ex_get hi2
  have hgo : ¬ (s.lo ≤ r ∧ r ≤ s.hi) → ∀ t ∈ l.take (i + 1), ¬ (t.lo ≤ r ∧ r ≤ t.hi) := fun hn t ht => by
   rw [take_snoc hs] at ht
   rcases List.mem_append.1 ht with ht | ht
   ·exact hpre t ht
   ·simp only [List.mem_singleton] at ht
    subst ht; exact hn
  repeat' first | refine st_nil ?_ | (refine gw ?_; first | (refine gq0 ?_; first | refine st_mv (v := AV.int _ _) rfl ?_ | refine st_mv (v := AV.bool _) rfl ?_ | refine st_mv (v := AV.rd _ _ _) rfl ?_) | (refine gq1 ?_; first | refine st_skipg rfl ?_ | refine st_gog rfl ?_) | refine st_load_r rfl b_ pv_ ?_ | (refine gq3 ?_; first | refine st_add rfl rfl rfl (by omega) (by omega) ?_ | (refine st_lss rfl rfl rfl ?_ ?_ <;> (intro hc; try (exfalso; omega))) | (refine st_leq rfl rfl rfl ?_ ?_ <;> (intro hc; try (exfalso; omega))) | (refine st_geq rfl rfl rfl ?_ ?_ <;> (intro hc; try (exfalso; omega)))) | refine st_field_r rfl (by simp) rfl ?_ | refine st_index_flat rfl fl_ rfl rfl (by assumption) rfl ?_ | refine st_len_rd rfl ?_ | (refine gq7 ?_; first | refine st_pick_t (v := AV.bool _) rfl rfl ?_ | refine st_pick_f (v := AV.bool _) rfl rfl ?_) | refine st_call rfl nt_ ?_) | (refine gx ?_; first | refine sx_seq ?_ | refine sx_ops rfl ?_ | refine sx_skip ?_ | refine sx_block ?_ | refine sx_ret ?_ | refine sx_cond_t rfl ?_ | refine sx_cond_f rfl ?_) | refine sk_norm ?_ | refine sk_ret ?_ | refine bk_norm ?_ | refine bk_ret ?_ | refine lk_ret ?_ | refine call_pure (scalar_ok L _) fz_ fz_ ?_ | refine fin_ret (v := AV.bool _) rfl ?_
  ·have : (l.any fun s => decide (s.lo ≤ r) && decide (r ≤ s.hi)) = true := List.any_eq_true.2 ⟨s, List.mem_of_getElem? hs, by simp [*]⟩
   rw [hasR, this, Bool.and_true]
  ·exact lk_next hi2 ⟨hgo (by omega), hh_⟩
  ·exact lk_next hi2 ⟨hgo (by omega), hh_⟩
 ·repeat' first | refine st_nil ?_ | (refine gw ?_; first | (refine gq0 ?_; first | refine st_mv (v := AV.int _ _) rfl ?_ | refine st_mv (v := AV.bool _) rfl ?_ | refine st_mv (v := AV.rd _ _ _) rfl ?_) | (refine st_lss rfl rfl rfl ?_ ?_ <;> (intro hc; try (exfalso; omega))) | refine st_len_rd rfl ?_) | (refine gx ?_; first | refine sx_seq ?_ | refine sx_ops rfl ?_ | refine sx_ret ?_ | refine sx_exit ?_ | refine sx_cond_f rfl ?_) | refine sk_norm ?_ | refine sk_exit ?_ | refine bk_exit ?_ | refine lk_exit ?_ | refine fin_ret (v := AV.bool _) rfl ?_
  rw [List.take_of_length_le (by omega)] at hpre
  have : (l.any fun s => decide (s.lo ≤ r) && decide (r ≤ s.hi)) = false := by
   rw [List.any_eq_false]
   intro s hs
   have := hpre s hs
   simpa using this
  rw [hasR, this, Bool.and_false]
theorem alike_ok {Φ : Lib} (L : C2Lib Φ) (a b : List Span) (f g : Bool) (ha : a.length ≤ 1073741824) : Pure Φ 32 [.rd a.length (a.flatMap Span.av) f, .rd b.length (b.flatMap Span.av) g] (.bool (decide (a = b))) := by
 refine runs_of (fun _ => false) rfl L.f32 ?_
 repeat' first | refine st_nil ?_ | (refine gw ?_; first | (refine gq0 ?_; first | refine st_mv (v := AV.int _ _) rfl ?_ | refine st_mv (v := AV.bool _) rfl ?_ | refine st_mv (v := AV.rd _ _ _) rfl ?_) | (refine st_neq rfl rfl rfl ?_ ?_ <;> (intro hc; try (exfalso; omega))) | refine st_len_rd rfl ?_) | (refine gx ?_; first | refine sx_seq ?_ | refine sx_ops rfl ?_ | refine sx_skip ?_ | refine sx_block ?_ | refine sx_ret ?_ | refine sx_cond_t rfl ?_ | refine sx_cond_f rfl ?_) | refine sk_norm ?_ | refine sk_ret ?_ | refine fin_ret (v := AV.bool _) rfl ?_
 ·rw [decide_eq_false]
  rintro rfl
  exact hc rfl
 ·have hlen : a.length = b.length := by omega
  refine sx_for a.length (fun i env h' => a.take i = b.take i ∧ env.has [(0, .rd a.length (a.flatMap Span.av) f), (1, .rd b.length (b.flatMap Span.av) g), (5, .int .i64 i)]) ⟨rfl, hh_⟩ ?_
  rintro i env h' hi ⟨hpre, he⟩
  obtain ⟨env, rfl⟩ := he.ex
  clear he
  by_cases hi2 : i < a.length
  ·obtain ⟨x, hx⟩ := ex_get hi2
   obtain ⟨y, hy⟩ := ex_get (show i < b.length by omega)
   repeat' first | refine st_nil ?_ | (refine gw ?_; first | (refine gq0 ?_; first | refine st_mv (v := AV.int _ _) rfl ?_ | refine st_mv (v := AV.bool _) rfl ?_ | refine st_mv (v := AV.rd _ _ _) rfl ?_) | refine st_load_ra rfl (by first | rfl | (simp [*]; done) | fail) ?_ | (refine gq3 ?_; first | refine st_add rfl rfl rfl (by omega) (by omega) ?_ | (refine st_lss rfl rfl rfl ?_ ?_ <;> (intro hc; try (exfalso; omega)))) | refine st_index_flat rfl fl_ rfl rfl (by assumption) rfl ?_ | refine st_len_rd rfl ?_ | (refine st_eqS_span (neg := true) rfl rfl ?_ ?_ <;> intro hc)) | (refine gx ?_; first | refine sx_seq ?_ | refine sx_ops rfl ?_ | refine sx_skip ?_ | refine sx_block ?_ | refine sx_ret ?_ | refine sx_cond_t rfl ?_ | refine sx_cond_f rfl ?_) | refine sk_norm ?_ | refine sk_ret ?_ | refine bk_norm ?_ | refine bk_ret ?_ | refine lk_ret ?_ | refine fin_ret (v := AV.bool _) rfl ?_
   ·exact lk_next hi2 ⟨by rw [take_snoc hx, take_snoc hy, hpre, ‹x = y›], hh_⟩
   ·rw [decide_eq_false]
    rintro rfl
    rw [hx] at hy
    cases hy
    exact ‹¬ _ = _› rfl
  ·repeat' first | refine st_nil ?_ | (refine gw ?_; first | (refine gq0 ?_; first | refine st_mv (v := AV.int _ _) rfl ?_ | refine st_mv (v := AV.bool _) rfl ?_ | refine st_mv (v := AV.rd _ _ _) rfl ?_) | (refine st_lss rfl rfl rfl ?_ ?_ <;> (intro hc; try (exfalso; omega))) | refine st_len_rd rfl ?_) | (refine gx ?_; first | refine sx_seq ?_ | refine sx_ops rfl ?_ | refine sx_ret ?_ | refine sx_exit ?_ | refine sx_cond_f rfl ?_) | refine sk_norm ?_ | refine sk_exit ?_ | refine bk_exit ?_ | refine lk_exit ?_ | refine fin_ret (v := AV.bool _) rfl ?_
   rw [List.take_of_length_le (by omega), List.take_of_length_le (by omega)] at hpre
   simp [hpre]
theorem lay_ok {Φ : Lib} (L : C2Lib Φ) (l : List Int) (fl : Bool) (x : Int) (hl : l.length ≤ 1073741824) : Pure Φ 58 [.rd l.length (l.map (.int .i64)) fl, .int .i64 x] (rowI (layS l x)) := by
 refine runs_of (fun _ => false) rfl L.f58 ?_
 repeat' first | refine st_nil ?_ | (refine gq0 ?_; first | refine st_mv (v := AV.int _ _) rfl ?_ | refine st_mv (v := AV.rd _ _ _) rfl ?_) | (refine gx ?_; first | refine sx_seq ?_ | refine sx_ops rfl ?_ | refine sx_block ?_) | refine sk_norm ?_
 refine sx_for l.length (fun i env h' => ∃ v, (∀ y ∈ l.take i, y < x) ∧ IsRow h' v 1 i ((l.take i).map (.int .i64)) ∧ env.has [(0, .rd l.length (l.map (.int .i64)) fl), (1, .int .i64 x), (5, v), (6, .int .i64 i)]) ⟨_, by simp, IsRow.nil _ _, hh_⟩ ?_
 rintro i env h' hi ⟨v, hpre, hrow, he⟩
 obtain ⟨env, rfl⟩ := he.ex
 clear he
 have hlay := layS_at hpre
 by_cases hi2 : i < l.length
 ·obtain ⟨a, ha⟩ := ex_get hi2
  have hd : l.drop i = a :: l.drop (i + 1) := by
   obtain ⟨h1, rfl⟩ := List.getElem?_eq_some_iff.1 ha
   exact List.drop_eq_getElem_cons h1
  rw [hd, layS] at hlay
  have e1 : (i : Int).toNat = i := by omega
  have e2 : ((i : Int) + 1).toNat = i + 1 := by omega
  repeat' first | refine st_nil ?_ | (refine gw ?_; first | (refine gq0 ?_; first | refine st_mv (v := AV.int _ _) rfl ?_ | refine st_mv (v := AV.bool _) rfl ?_ | refine st_mv (v := AV.rd _ _ _) rfl ?_ | refine st_mv rv_ ?_) | refine st_gog rfl ?_ | refine st_load_r rfl b_ pv_ ?_ | (refine gq3 ?_; first | refine st_add rfl rfl rfl (by omega) (by omega) ?_ | (refine st_lss rfl rfl rfl ?_ ?_ <;> (intro hc; try (exfalso; omega))) | (refine st_eql rfl rfl rfl ?_ ?_ <;> (intro hc; try (exfalso; omega)))) | refine st_index_map rfl rfl rfl (by assumption) rfl ?_ | refine st_len_rd rfl ?_ | refine st_pick_t (v := AV.bool _) rfl rfl ?_ | (refine gq14 ?_; first | (refine st_append (m := 1) rv_ ir_ rfl rfl (by omega) ?_; intro va hpa hra hka hria) | (refine st_append rv_ ir_ rfl (by simp) (by first | omega | (simp; omega)) ?_; intro va hpa hra hka hria)) | refine st_lit (cs := [AV.int _ _]) rfl rfl ?_ | refine st_slice_lo_map rfl rfl rfl (by omega) (by omega) ?_) | (refine gx ?_; first | refine sx_seq ?_ | refine sx_ops rfl ?_ | refine sx_skip ?_ | refine sx_block ?_ | refine sx_ret ?_ | refine sx_exit ?_ | refine sx_cond_t rfl ?_ | refine sx_cond_f rfl ?_) | refine sk_norm ?_ | refine sk_exit ?_ | refine bk_norm ?_ | refine bk_exit ?_ | refine lk_exit ?_
  ·refine lk_next hi2 ⟨va, (fun y hy => ?_), ?_, hh_⟩
   ·rw [take_snoc ha] at hy
    rcases List.mem_append.1 hy with hy | hy
    ·exact hpre y hy
    ·simp only [List.mem_singleton] at hy
     omega
   ·rw [take_snoc ha, List.map_append]
    exact hra
  ·rw [if_neg (by omega), if_pos ‹_›] at hlay
   refine fin_row rfl hra fun _ => ?_
   have e3 : (l.drop (i + 1)).length = l.length - (i + 1) := by simp
   simp only [rowI, hlay, e2, List.length_append, List.length_take, List.length_cons, List.map_append, List.map_cons, List.append_assoc, List.cons_append, List.nil_append, e3, ‹a = x›]
   congr 1; omega
  ·rw [if_neg (by omega), if_neg ‹_›, ← hd] at hlay
   refine fin_row rfl hra fun _ => ?_
   have e3 : (l.drop i).length = l.length - i := by simp
   simp only [rowI, hlay, e1, List.length_append, List.length_take, List.length_cons, List.map_append, List.map_cons, List.append_assoc, List.cons_append, List.nil_append, e3]
   congr 1; omega
 ·have e1 : (i : Int).toNat = i := by omega
  repeat' first | refine st_nil ?_ | (refine gw ?_; first | (refine gq0 ?_; first | refine st_mv (v := AV.int _ _) rfl ?_ | refine st_mv (v := AV.bool _) rfl ?_ | refine st_mv (v := AV.rd _ _ _) rfl ?_ | refine st_mv rv_ ?_) | refine st_skipg rfl ?_ | (refine st_lss rfl rfl rfl ?_ ?_ <;> (intro hc; try (exfalso; omega))) | refine st_len_rd rfl ?_ | refine st_pick_f (v := AV.bool _) rfl rfl ?_ | (refine gq14 ?_; first | (refine st_append (m := 1) rv_ ir_ rfl rfl (by omega) ?_; intro va hpa hra hka hria) | (refine st_append rv_ ir_ rfl (by simp) (by first | omega | (simp; omega)) ?_; intro va hpa hra hka hria)) | refine st_lit (cs := [AV.int _ _]) rfl rfl ?_ | refine st_slice_lo_map rfl rfl rfl (by omega) (by omega) ?_) | (refine gx ?_; first | refine sx_seq ?_ | refine sx_ops rfl ?_ | refine sx_skip ?_ | refine sx_ret ?_ | refine sx_exit ?_ | refine sx_cond_f rfl ?_) | refine sk_norm ?_ | refine sk_exit ?_ | refine bk_exit ?_ | refine lk_exit ?_
  rw [List.drop_of_length_le (by omega), layS] at hlay
  refine fin_row rfl hra fun _ => ?_
  simp only [rowI, hlay, e1, List.length_append, List.length_take, List.length_cons, List.map_append, List.map_cons, List.append_assoc, List.cons_append, List.nil_append, List.drop_of_length_le (show l.length ≤ i by omega), List.length_nil, List.map_nil]
  congr 1; omega
theorem foldl_edge_length (l : List Span) : ∀ out : List Int, (l.foldl edgeOf out).length ≤ out.length + 2 * l.length := by
 induction l with
 | nil => intro out; simp
 | cons s l ih =>
  intro out
  have h1 := ih (edgeOf out s)
  have h2 : (edgeOf out s).length ≤ out.length + 2 := by
   simp only [edgeOf]
   have a := layS_length out s.lo
   have b := layS_length out (s.hi + 1)
   have c := layS_length (layS out s.lo) (s.hi + 1)
   split <;> split <;> omega
  rw [List.foldl_cons, List.length_cons]
  omega
theorem edgesS_length (l : List Span) : (edgesS l).length ≤ 2 + 2 * l.length := foldl_edge_length l _
theorem edges_ok {Φ : Lib} (L : C2Lib Φ) (l : List Span) (fl : Bool) (hl : l.length ≤ 67108864) (hw : ∀ s ∈ l, -9223372036854775808 ≤ s.hi) : Pure Φ 57 [.rd l.length (l.flatMap Span.av) fl] (rowI (edgesS l)) := by
 refine runs_of (fun _ => false) rfl L.f57 ?_
 repeat' first | refine st_nil ?_ | (refine gw ?_; first | (refine gq0 ?_; first | refine st_mv (v := AV.int _ _) rfl ?_ | refine st_mv (v := AV.rd _ _ _) rfl ?_) | refine st_call rfl nt_ ?_) | (refine gx ?_; first | refine sx_seq ?_ | refine sx_ops rfl ?_ | refine sx_block ?_) | refine sk_norm ?_ | refine call_pure (lay_ok L [] _ _ (by simp)) fz_ fz_ ?_ | refine call_pure (lay_ok L _ _ _ (by first | omega | (simp; omega) | decide | fail)) fz_ fz_ ?_
 refine sx_for l.length (fun i env h' => env.has [(0, .rd l.length (l.flatMap Span.av) fl), (3, rowI ((l.take i).foldl edgeOf [0, 57344])), (4, .int .i64 i)]) (hh_) ?_
 rintro i env h' hi he
 obtain ⟨env, rfl⟩ := he.ex
 clear he
 have hlen := foldl_edge_length (l.take i) [0, 57344]
 rw [List.length_take] at hlen
 simp only [List.length_cons, List.length_nil] at hlen
 by_cases hi2 : i < l.length
 ·obtain ⟨s, hs⟩ := ex_get hi2
  have hws := hw s (List.mem_of_getElem? hs)
  have hnx : (l.take (i + 1)).foldl edgeOf [0, 57344] = edgeOf ((l.take i).foldl edgeOf [0, 57344]) s := by
   rw [take_snoc hs, List.foldl_append]; rfl
  generalize (l.take i).foldl edgeOf [0, 57344] = out at *
  have hll := layS_length out s.lo
  have k1 := scalar_ok L s.lo
  have k2 := scalar_ok L (s.hi + 1)
  cases hsc : scal s.lo <;> cases hsh : scal (s.hi + 1)
  all_goals
   rw [hsc] at k1
   rw [hsh] at k2
   by_cases hh : s.hi < 1114111
  all_goals
   repeat' first | refine st_nil ?_ | (refine gw ?_; first | (refine gq0 ?_; first | refine st_mv (v := AV.int _ _) rfl ?_ | refine st_mv (v := AV.bool _) rfl ?_ | refine st_mv (v := AV.rd _ _ _) rfl ?_) | (refine gq1 ?_; first | refine st_skipg rfl ?_ | refine st_gog rfl ?_) | refine st_load_r rfl b_ pv_ ?_ | (refine gq3 ?_; first | refine st_add rfl rfl rfl (by omega) (by omega) ?_ | (refine st_lss rfl rfl rfl ?_ ?_ <;> (intro hc; try (exfalso; omega)))) | refine st_field_r rfl (by simp) rfl ?_ | refine st_index_flat rfl fl_ rfl rfl (by assumption) rfl ?_ | refine st_len_rd rfl ?_ | (refine gq7 ?_; first | refine st_pick_t (v := AV.bool _) rfl rfl ?_ | refine st_pick_f (v := AV.bool _) rfl rfl ?_) | refine st_call rfl nt_ ?_) | (refine gx ?_; first | refine sx_seq ?_ | refine sx_ops rfl ?_ | refine sx_skip ?_ | refine sx_block ?_ | refine sx_cond_t rfl ?_ | refine sx_cond_f rfl ?_) | refine sk_norm ?_ | refine bk_norm ?_ | refine call_pure (by assumption) fz_ fz_ ?_ | refine call_pure (lay_ok L _ _ _ (by first | omega | (simp; omega) | decide | fail)) fz_ fz_ ?_
  all_goals
   refine lk_next hi2 ?_
   rw [hnx]
   simp only [edgeOf, hsc, hsh, hh, if_true, if_false, and_self, and_true, and_false, Bool.false_eq_true]
   exact hh_
 ·repeat' first | refine st_nil ?_ | (refine gw ?_; first | (refine gq0 ?_; first | refine st_mv (v := AV.int _ _) rfl ?_ | refine st_mv (v := AV.rd _ _ _) rfl ?_) | (refine st_lss rfl rfl rfl ?_ ?_ <;> (intro hc; try (exfalso; omega))) | refine st_len_rd rfl ?_) | (refine gx ?_; first | refine sx_seq ?_ | refine sx_ops rfl ?_ | refine sx_ret ?_ | refine sx_exit ?_ | refine sx_cond_f rfl ?_) | refine sk_norm ?_ | refine sk_exit ?_ | refine bk_exit ?_ | refine lk_exit ?_ | refine fin_ret (v := AV.rd _ _ _) rfl ?_
  rw [List.take_of_length_le (by omega)]
  rfl
end Go.Proofs.YtdldfflfbfpngaaGreatDoor
set_option linter.unusedVariables false
set_option linter.unusedSimpArgs false
namespace Go.Proofs.YtdldfflfbfpngaaGreatDoor
open Go
set_option maxHeartbeats 4000000
attribute [local irreducible] wops xcode wcode seqK blockK loopK finK wcall wop wstp Runs
def adjO (out : List Span) (s : Span) : List Span := match out.getLast? with
 | some a => if a.hi = s.lo - 1 then out.set (out.length - 1) ⟨a.lo, s.hi⟩ else out ++ [s]
 | none => [s]
theorem adjO_ok (r : List Span) (s : Span) : adjO r.reverse s = (adjR r s).reverse := by
 cases r with
 | nil => rfl
 | cons a r =>
  simp only [adjO, adjR, List.reverse_cons, List.getLast?_append, List.getLast?_singleton, Option.some_or]
  split
  ·simp
  ·simp
theorem adjR_length (r : List Span) (s : Span) : (adjR r s).length ≤ r.length + 1 := by
 cases r with
 | nil => simp [adjR]
 | cons a r =>
  simp only [adjR]
  split <;> simp
theorem stepR_length (a b : List Span) (inn : Int) (E : List Int) (r : List Span) (i : Nat) : (stepR a b inn E r i).length ≤ r.length + 1 := by
 unfold stepR
 split
 ·exact adjR_length r _
 ·omega
theorem stepsR_length (a b : List Span) (inn : Int) (E : List Int) (i : Nat) : ((List.range i).foldl (stepR a b inn E) []).length ≤ i := by
 induction i with
 | zero => simp
 | succ i ih =>
  rw [List.range_succ, List.foldl_append, List.foldl_cons, List.foldl_nil]
  have := stepR_length a b inn E ((List.range i).foldl (stepR a b inn E) []) i
  omega
theorem foldl_lay_length (f : List Int) : ∀ e : List Int, (f.foldl layS e).length ≤ e.length + f.length := by
 induction f with
 | nil => intro e; simp
 | cons x f ih =>
  intro e
  have h1 := ih (layS e x)
  have h2 := layS_length e x
  rw [List.foldl_cons, List.length_cons]
  omega
theorem make_ok {Φ : Lib} (L : C2Lib Φ) (a b : List Span) (fa fb : Bool) (inn : Int) (h0 : 0 ≤ inn) (h15 : inn ≤ 15) (ha : a.length ≤ 67108864) (hwa : ∀ s ∈ a, -9223372036854775808 ≤ s.hi) (hb : b.length ≤ 67108864) (hwb : ∀ s ∈ b, -9223372036854775808 ≤ s.hi) :
  Pure Φ 45 [.rd a.length (a.flatMap Span.av) fa, .rd b.length (b.flatMap Span.av) fb, .int .i64 inn] (.rd (makeS a b inn).length ((makeS a b inn).flatMap Span.av) false) := by
 have ea := edges_ok L a fa ha hwa
 have eb := edges_ok L b fb hb hwb
 have la := edgesS_length a
 have lb := edgesS_length b
 refine runs_of (fun o => o == some 36 || o == some 47 || o == some 54 || o == some 62 || o == some 70) rfl L.f45 ?_
 repeat' first | refine st_nil ?_ | (refine gw ?_; first | (refine gq0 ?_; first | refine st_mv (v := AV.int _ _) rfl ?_ | refine st_mv (v := AV.rd _ _ _) rfl ?_) | refine st_call rfl nt_ ?_) | (refine gx ?_; first | refine sx_seq ?_ | refine sx_ops rfl ?_ | refine sx_block ?_) | refine sk_norm ?_ | refine call_pure (by assumption) fz_ fz_ ?_
 refine sx_for (edgesS b).length (fun i env h' => env.has [(0, .rd a.length (a.flatMap Span.av) fa), (1, .rd b.length (b.flatMap Span.av) fb), (2, .int .i64 inn), (7, rowI (((edgesS b).take i).foldl layS (edgesS a))), (8, rowI (edgesS b)), (9, .int .i64 i)]) (hh_) ?_
 rintro i env h' hi he
 obtain ⟨env, rfl⟩ := he.ex
 clear he
 by_cases hi2 : i < (edgesS b).length
 ·obtain ⟨x, hx⟩ := ex_get hi2
  have l1 := foldl_lay_length ((edgesS b).take i) (edgesS a)
  rw [List.length_take] at l1
  have hl := lay_ok L (((edgesS b).take i).foldl layS (edgesS a)) false x (by omega)
  repeat' first | refine st_nil ?_ | (refine gw ?_; first | (refine gq0 ?_; first | refine st_mv (v := AV.int _ _) rfl ?_ | refine st_mv (v := AV.rd _ _ _) rfl ?_) | refine st_load_r rfl b_ pv_ ?_ | (refine gq3 ?_; first | refine st_add rfl rfl rfl (by omega) (by omega) ?_ | (refine st_lss rfl rfl rfl ?_ ?_ <;> (intro hc; try (exfalso; omega)))) | refine st_index_map rfl rfl rfl (by assumption) rfl ?_ | refine st_len_rd rfl ?_ | refine st_call rfl nt_ ?_) | (refine gx ?_; first | refine sx_seq ?_ | refine sx_ops rfl ?_ | refine sx_skip ?_ | refine sx_block ?_ | refine sx_cond_t rfl ?_) | refine sk_norm ?_ | refine bk_norm ?_ | refine call_pure (by assumption) fz_ fz_ ?_
  refine lk_next hi2 ?_
  rw [take_snoc hx, List.foldl_append]
  exact hh_
 ·rw [List.take_of_length_le (by omega), ← makeE]
  have lE : (makeE a b).length ≤ 268435460 := by
   have := foldl_lay_length (edgesS b) (edgesS a)
   unfold makeE
   omega
  have hEr := (foldl_layS (edgesS b) (edgesS a) (edgesS_rises a))
  have hEs : ∀ y ∈ makeE a b, scal y = true := fun y hy => by
   rcases (hEr.2 y).1 hy with h | h <;> exact edgesS_scal h
  have hms : makeS a b inn = ((List.range (makeE a b).length).foldl (stepR a b inn (makeE a b)) []).reverse := rfl
  generalize makeE a b = E at *
  repeat' first | refine st_nil ?_ | (refine gw ?_; first | (refine gq0 ?_; first | refine st_mv (v := AV.int _ _) rfl ?_ | refine st_mv (v := AV.rd _ _ _) rfl ?_) | (refine st_lss rfl rfl rfl ?_ ?_ <;> (intro hc; try (exfalso; omega))) | refine st_len_rd rfl ?_) | (refine gx ?_; first | refine sx_seq ?_ | refine sx_ops rfl ?_ | refine sx_block ?_ | refine sx_exit ?_ | refine sx_cond_f rfl ?_) | refine sk_norm ?_ | refine sk_exit ?_ | refine bk_exit ?_ | refine lk_exit ?_
  refine sx_for E.length (fun i env h' => ∃ v out, out = ((List.range i).foldl (stepR a b inn E) []).reverse ∧ IsRow h' v 2 out.length (out.flatMap Span.av) ∧ env.has [(0, .rd a.length (a.flatMap Span.av) fa), (1, .rd b.length (b.flatMap Span.av) fb), (2, .int .i64 inn), (7, rowI E), (10, v), (11, .int .i64 i)]) ⟨_, [], rfl, IsRow.nil _ _, hh_⟩ ?_
  rintro i env h' hi ⟨v, out, hout, hrow, he⟩
  obtain ⟨env, rfl⟩ := he.ex
  clear he
  by_cases hi2 : i < E.length
  ·obtain ⟨x, hx⟩ := ex_get hi2
   have hxs := scal_iff.1 (hEs x (List.mem_of_getElem? hx))
   have hra := rhas_ok L a fa x (by omega)
   have hrb := rhas_ok L b fb x (by omega)
   have hol : out.length ≤ i := by rw [hout, List.length_reverse]; exact stepsR_length _ _ _ _ _
   have hnx : ((List.range (i + 1)).foldl (stepR a b inn E) []).reverse = if bitOf inn (kOf a b x) = true then adjO out (cutAt E i) else out := by
    rw [List.range_succ, List.foldl_append, List.foldl_cons, List.foldl_nil, hout, adjO_ok]
    have : E.getD i 0 = x := by rw [List.getD_eq_getElem?_getD, hx]; rfl
    generalize (List.range i).foldl (stepR a b inn E) [] = r
    rw [stepR, this]
    split <;> rfl
   have hcut : cutAt E i = ⟨x, if x < 55296 then min (if i + 1 < E.length then E.getD (i + 1) 0 - 1 else 1114111) 55295 else (if i + 1 < E.length then E.getD (i + 1) 0 - 1 else 1114111)⟩ := by
    rw [cutAt]
    have : E.getD i 0 = x := by rw [List.getD_eq_getElem?_getD, hx]; rfl
    simp only [this]
   repeat' first | refine st_nil ?_ | (refine gw ?_; first | (refine gq0 ?_; first | refine st_mv (v := AV.int _ _) rfl ?_ | refine st_mv (v := AV.rd _ _ _) rfl ?_) | (refine st_lss rfl rfl rfl ?_ ?_ <;> (intro hc; try (exfalso; omega))) | refine st_len_rd rfl ?_) | (refine gx ?_; first | refine sx_seq ?_ | refine sx_ops rfl ?_ | refine sx_skip ?_ | refine sx_block ?_ | refine sx_cond_t rfl ?_) | refine sk_norm ?_
   refine sx_mid2 (fun e h2 => IsRow h2 v 2 out.length (out.flatMap Span.av) ∧ e.has [(0, .rd a.length (a.flatMap Span.av) fa), (1, .rd b.length (b.flatMap Span.av) fb), (2, .int .i64 inn), (7, rowI E), (10, v), (11, .int .i64 i), (12, .int .i64 (if i + 1 < E.length then E.getD (i + 1) 0 - 1 else 1114111))]) ?_ ?_
   ·refine sx_seq (sx_opsZ rfl ?_)
    by_cases hn : i + 1 < E.length
    ·obtain ⟨y, hy⟩ := ex_get hn
     have hys := scal_iff.1 (hEs y (List.mem_of_getElem? hy))
     have e1 : E.getD (i + 1) 0 = y := by rw [List.getD_eq_getElem?_getD, hy]; rfl
     rw [if_pos hn, e1]
     repeat' first | refine st_nil ?_ | (refine gw ?_; first | (refine gq0 ?_; first | refine st_mv (v := AV.int _ _) rfl ?_ | refine st_mv (v := AV.rd _ _ _) rfl ?_) | refine st_load_r rfl b_ pv_ ?_ | (refine gq3 ?_; first | refine st_add rfl rfl rfl (by omega) (by omega) ?_ | refine st_sub rfl rfl rfl (by omega) (by omega) ?_ | (refine st_lss rfl rfl rfl ?_ ?_ <;> (intro hc; try (exfalso; omega)))) | refine st_index_map' rfl rfl hy (by omega) rfl ?_ | refine st_len_rd rfl ?_) | (refine gx ?_; first | refine sx_ops rfl ?_ | refine sx_cond_t rfl ?_) | refine sk_norm ?_
     exact ⟨hrow, hh_⟩
    ·rw [if_neg hn]
     repeat' first | refine st_nil ?_ | (refine gw ?_; first | (refine gq0 ?_; first | refine st_mv (v := AV.int _ _) rfl ?_ | refine st_mv (v := AV.rd _ _ _) rfl ?_) | (refine gq3 ?_; first | refine st_add rfl rfl rfl (by omega) (by omega) ?_ | (refine st_lss rfl rfl rfl ?_ ?_ <;> (intro hc; try (exfalso; omega)))) | refine st_len_rd rfl ?_) | (refine gx ?_; first | refine sx_skip ?_ | refine sx_cond_f rfl ?_) | refine sk_norm ?_
     exact ⟨hrow, hh_⟩
   have hhi : -1 ≤ (if i + 1 < E.length then E.getD (i + 1) 0 - 1 else 1114111) ∧ (if i + 1 < E.length then E.getD (i + 1) 0 - 1 else 1114111) ≤ 1114111 := by
    split
    ·rename_i hn
     obtain ⟨y, hy⟩ := ex_get hn
     have hys := scal_iff.1 (hEs y (List.mem_of_getElem? hy))
     have e1 : E.getD (i + 1) 0 = y := by rw [List.getD_eq_getElem?_getD, hy]; rfl
     rw [e1]; omega
    ·omega
   generalize (if i + 1 < E.length then E.getD (i + 1) 0 - 1 else 1114111) = hi1 at *
   rintro e h' ⟨hrow, he⟩
   obtain ⟨env, rfl⟩ := he.ex
   clear he
   repeat' first | refine sx_seq ?_
   refine sx_mid2 (fun e h2 => IsRow h2 v 2 out.length (out.flatMap Span.av) ∧ e.has [(0, .rd a.length (a.flatMap Span.av) fa), (1, .rd b.length (b.flatMap Span.av) fb), (2, .int .i64 inn), (7, rowI E), (10, v), (11, .int .i64 i), (12, .int .i64 (cutAt E i).hi)]) ?_ ?_
   ·refine sx_seq (sx_opsZ rfl ?_)
    rw [hcut]
    by_cases hn : x < 55296
    ·rw [if_pos hn]
     repeat' first | refine st_nil ?_ | (refine gw ?_; first | (refine gq0 ?_; first | refine st_mv (v := AV.int _ _) rfl ?_ | refine st_mv (v := AV.rd _ _ _) rfl ?_) | refine st_load_r rfl b_ pv_ ?_ | (refine st_lss rfl rfl rfl ?_ ?_ <;> (intro hc; try (exfalso; omega))) | refine st_index_map' rfl rfl hx (by omega) rfl ?_ | refine st_mn rfl rfl rfl ?_) | (refine gx ?_; first | refine sx_ops rfl ?_ | refine sx_cond_t rfl ?_) | refine sk_norm ?_
     exact ⟨hrow, hh_⟩
    ·rw [if_neg hn]
     repeat' first | refine st_nil ?_ | (refine gw ?_; first | (refine gq0 ?_; first | refine st_mv (v := AV.int _ _) rfl ?_ | refine st_mv (v := AV.rd _ _ _) rfl ?_) | refine st_load_r rfl b_ pv_ ?_ | (refine st_lss rfl rfl rfl ?_ ?_ <;> (intro hc; try (exfalso; omega))) | refine st_index_map' rfl rfl hx (by omega) rfl ?_) | (refine gx ?_; first | refine sx_skip ?_ | refine sx_cond_f rfl ?_) | refine sk_norm ?_
     exact ⟨hrow, hh_⟩
   have hclo : (cutAt E i).lo = x := by rw [hcut]
   generalize cutAt E i = cut at *
   rintro e h' ⟨hrow, he⟩
   obtain ⟨env, rfl⟩ := he.ex
   clear he
   repeat' first | refine st_nil ?_ | refine st_mv (v := AV.int _ _) rfl ?_ | (refine gx ?_; first | refine sx_seq ?_ | refine sx_ops rfl ?_) | refine sk_norm ?_
   refine sx_mid2 (fun e h2 => IsRow h2 v 2 out.length (out.flatMap Span.av) ∧ e.has [(0, .rd a.length (a.flatMap Span.av) fa), (1, .rd b.length (b.flatMap Span.av) fb), (2, .int .i64 inn), (7, rowI E), (10, v), (11, .int .i64 i), (12, .int .i64 cut.hi), (13, .int .i64 (if hasR a x = true then 1 else 0))]) ?_ ?_
   ·refine sx_seq (sx_opsZ rfl ?_)
    cases hh : hasR a x
    all_goals
     rw [hh] at hra
     repeat' first | refine st_nil ?_ | (refine gw ?_; first | (refine gq0 ?_; first | refine st_mv (v := AV.int _ _) rfl ?_ | refine st_mv (v := AV.rd _ _ _) rfl ?_) | refine st_load_r rfl b_ pv_ ?_ | refine st_add rfl rfl rfl (by omega) (by omega) ?_ | refine st_index_map' rfl rfl hx (by omega) rfl ?_ | refine st_call rfl nt_ ?_) | (refine gx ?_; first | refine sx_ops rfl ?_ | refine sx_skip ?_ | refine sx_cond_t rfl ?_ | refine sx_cond_f rfl ?_) | refine sk_norm ?_ | refine call_pure (by assumption) fz_ fz_ ?_
    all_goals exact ⟨hrow, hh_⟩
   rintro e h' ⟨hrow, he⟩
   obtain ⟨env, rfl⟩ := he.ex
   clear he
   repeat' first | refine sx_seq ?_
   refine sx_mid2 (fun e h2 => IsRow h2 v 2 out.length (out.flatMap Span.av) ∧ e.has [(0, .rd a.length (a.flatMap Span.av) fa), (1, .rd b.length (b.flatMap Span.av) fb), (2, .int .i64 inn), (7, rowI E), (10, v), (11, .int .i64 i), (12, .int .i64 cut.hi), (13, .int .i64 (kOf a b x : Nat))]) ?_ ?_
   ·refine sx_seq (sx_opsZ rfl ?_)
    unfold kOf
    cases hh : hasR a x
    all_goals cases hh2 : hasR b x
    all_goals
     rw [hh2] at hrb
     repeat' first | refine st_nil ?_ | (refine gw ?_; first | (refine gq0 ?_; first | refine st_mv (v := AV.int _ _) rfl ?_ | refine st_mv (v := AV.rd _ _ _) rfl ?_) | refine st_load_r rfl b_ pv_ ?_ | refine st_add rfl rfl rfl (by omega) (by omega) ?_ | refine st_index_map' rfl rfl hx (by omega) rfl ?_ | refine st_call rfl nt_ ?_) | (refine gx ?_; first | refine sx_ops rfl ?_ | refine sx_skip ?_ | refine sx_cond_t rfl ?_ | refine sx_cond_f rfl ?_) | refine sk_norm ?_ | refine call_pure (by assumption) fz_ fz_ ?_
    all_goals exact ⟨hrow, hh_⟩
   have hk4 : kOf a b x ≤ 3 := by unfold kOf; split <;> split <;> omega
   generalize kOf a b x = kk at *
   rintro e h' ⟨hrow, he⟩
   obtain ⟨env, rfl⟩ := he.ex
   clear he
   repeat' first | refine sx_seq ?_
   have hbit : bitOf inn kk = false ∨ bitOf inn kk = true := by cases bitOf inn kk <;> simp
   refine sx_mid2 (fun e h2 => IsRow h2 v 2 out.length (out.flatMap Span.av) ∧ bitOf inn kk = true ∧ e.has [(0, .rd a.length (a.flatMap Span.av) fa), (1, .rd b.length (b.flatMap Span.av) fb), (2, .int .i64 inn), (7, rowI E), (10, v), (11, .int .i64 i), (12, .int .i64 cut.hi)]) ?_ ?_
   ·refine sx_seq (sx_opsZ rfl ?_)
    have hk : kk = 0 ∨ kk = 1 ∨ kk = 2 ∨ kk = 3 := by omega
    rcases hk with rfl | rfl | rfl | rfl
    all_goals
     repeat' first | refine st_nil ?_ | (refine gw ?_; first | refine st_mv (v := AV.int _ _) rfl ?_ | refine st_load_r rfl b_ pv_ ?_ | (refine gq3 ?_; first | refine st_add rfl rfl rfl (by omega) (by omega) ?_ | (refine st_eql rfl rfl rfl ?_ ?_ <;> (intro hc; try (exfalso; omega))) | refine st_rem rfl rfl rfl (by omega) (by omega) ?_ | refine st_quo rfl rfl (by omega) (by omega) (by omega) ?_) | refine st_index_rd (cs' := [_]) rfl rfl (by omega) (by omega) rfl ?_ | refine st_lit (cs := [AV.int _ _, AV.int _ _, AV.int _ _, AV.int _ _]) rfl rfl ?_) | (refine gx ?_; first | refine sx_ops rfl ?_ | refine sx_skip ?_ | refine sx_exit ?_ | refine sx_cond_t rfl ?_ | refine sx_cond_f rfl ?_) | refine sk_norm ?_ | refine sk_exit ?_ | refine bk_exit ?_
    all_goals first
     | (refine lk_next hi2 ⟨v, out, ?_, hrow, hh_⟩; rw [hnx, if_neg (by simp [bitOf]; omega)])
     | exact ⟨hrow, by simp [bitOf]; omega, hh_⟩
   rintro e h' ⟨hrow, hbt, he⟩
   obtain ⟨env, rfl⟩ := he.ex
   clear he
   rw [if_pos hbt] at hnx
   rcases hlb : out[out.length - 1]? with _ | s
   ·have h0 : out = [] := by
     rw [List.getElem?_eq_none_iff] at hlb
     exact List.eq_nil_of_length_eq_zero (by omega)
    have h00 : out.length = 0 := by rw [h0]; rfl
    repeat' first | refine st_nil ?_ | (refine gw ?_; first | (refine gq0 ?_; first | refine st_mv (v := AV.int _ _) rfl ?_ | refine st_mv (v := AV.bool _) rfl ?_ | refine st_mv (v := AV.rd _ _ _) rfl ?_ | refine st_mv rv_ ?_) | refine st_skipg rfl ?_ | refine st_load_r rfl b_ pv_ ?_ | (refine gq3 ?_; first | refine st_add rfl rfl rfl (by omega) (by omega) ?_ | (refine st_gtr rfl rfl rfl ?_ ?_ <;> (intro hc; try (exfalso; omega)))) | refine st_index_map' rfl rfl hx (by omega) rfl ?_ | refine st_len_row rv_ (by assumption) ?_ | refine st_pick_f (v := AV.bool _) rfl rfl ?_ | (refine st_append (m := 1) rv_ ir_ rfl rfl (by omega) ?_; intro va hpa hra hka hria) | refine st_build (cs := [AV.int _ _, AV.int _ _]) rfl ?_ | refine st_lit (cs := [AV.int _ _, AV.int _ _]) rfl rfl ?_) | (refine gx ?_; first | refine sx_seq ?_ | refine sx_ops rfl ?_ | refine sx_cond_f rfl ?_) | refine sk_norm ?_ | refine bk_norm ?_
    have e : adjO out cut = out ++ [cut] := by rw [h0]; rfl
    refine lk_next hi2 ⟨va, _, hnx.symm, ?_, hh_⟩
    rw [e, List.length_append, List.flatMap_append]
    simpa [Span.av, hclo] using hra
   ·have hol2 := lt_of_getElem? hlb
    have hlast : out.getLast? = some s := by rw [List.getLast?_eq_getElem?, hlb]
    repeat' first | refine st_nil ?_ | (refine gw ?_; first | (refine gq0 ?_; first | refine st_mv (v := AV.int _ _) rfl ?_ | refine st_mv (v := AV.bool _) rfl ?_ | refine st_mv (v := AV.rd _ _ _) rfl ?_ | refine st_mv rv_ ?_) | refine st_gog rfl ?_ | (refine gq2 ?_; first | refine st_load_flat1 (e := 2) (j := 1) (g := _) rfl hg_ hlb fl_ eq_ (by decide) rfl ?_ | refine st_load_r rfl b_ pv_ ?_) | (refine gq3 ?_; first | refine st_add rfl rfl rfl (by omega) (by omega) ?_ | refine st_sub rfl rfl rfl (by omega) (by omega) ?_ | (refine st_gtr rfl rfl rfl ?_ ?_ <;> (intro hc; try (exfalso; omega))) | (refine st_eql rfl rfl rfl ?_ ?_ <;> (intro hc; try (exfalso; omega)))) | refine st_field_p rfl rfl ?_ | (refine gq5 ?_; first | refine st_index_map' rfl rfl hx (by omega) rfl ?_ | (refine st_index_row rv_ (by assumption) rfl (by omega) (by omega) ?_; intro ir gr hvr hgr hgp; have hner := Heap.ne_of hgr; have hner2 := Heap.ne_of2 hgr)) | refine st_len_row rv_ (by assumption) ?_ | refine st_pick_t (v := AV.bool _) rfl rfl ?_ | (refine st_append (m := 1) rv_ ir_ rfl rfl (by omega) ?_; intro va hpa hra hka hria) | refine st_build (cs := [AV.int _ _, AV.int _ _]) rfl ?_ | refine st_lit (cs := [AV.int _ _, AV.int _ _]) rfl rfl ?_) | (refine gx ?_; first | refine sx_seq ?_ | refine sx_ops rfl ?_ | refine sx_cond_t rfl ?_ | refine sx_cond_f rfl ?_) | refine sk_norm ?_ | refine bk_norm ?_
    ·refine st_store_flat1 (e := 2) (j := 1) (a' := ⟨s.lo, cut.hi⟩) rfl rfl hg_ hlb Span.av_length (by omega) (by decide) rfl rfl rfl ?_
     repeat' first | refine st_nil ?_ | (refine gw ?_; first | refine st_mv (v := AV.int _ _) rfl ?_ | refine st_add rfl rfl rfl (by omega) (by omega) ?_) | refine sx_ops rfl ?_ | refine sk_norm ?_ | refine bk_norm ?_
     have e : adjO out cut = out.set (out.length - 1) ⟨s.lo, cut.hi⟩ := by
      simp only [adjO, hlast]
      rw [if_pos (by omega)]
     refine lk_next hi2 ⟨v, _, hnx.symm, ?_, hh_⟩
     rw [e, List.length_set]
     exact IsRow.set_row hvr hgp (by rw [flat_length Span.av 2 Span.av_length, List.length_set])
    ·have e : adjO out cut = out ++ [cut] := by
      simp only [adjO, hlast]
      rw [if_neg (by omega)]
     refine lk_next hi2 ⟨va, _, hnx.symm, ?_, hh_⟩
     rw [e, List.length_append, List.flatMap_append]
     simpa [Span.av, hclo] using hra
  ·repeat' first | refine st_nil ?_ | (refine gw ?_; first | (refine gq0 ?_; first | refine st_mv (v := AV.int _ _) rfl ?_ | refine st_mv (v := AV.rd _ _ _) rfl ?_ | refine st_mv rv_ ?_) | (refine st_lss rfl rfl rfl ?_ ?_ <;> (intro hc; try (exfalso; omega))) | refine st_len_rd rfl ?_) | (refine gx ?_; first | refine sx_seq ?_ | refine sx_ops rfl ?_ | refine sx_ret ?_ | refine sx_exit ?_ | refine sx_cond_f rfl ?_) | refine sk_norm ?_ | refine sk_exit ?_ | refine bk_exit ?_ | refine lk_exit ?_
   have : i = E.length := by omega
   subst this
   rw [← hms] at hout
   subst hout
   exact fin_row rfl hrow (fun _ => rfl)
theorem rnorm_ok {Φ : Lib} (L : C2Lib Φ) (l : List Span) (fl : Bool) (ha : l.length ≤ 67108864) (hw : ∀ s ∈ l, -9223372036854775808 ≤ s.hi) :
  Pure Φ 33 [.rd l.length (l.flatMap Span.av) fl] (.rd (normS l).length ((normS l).flatMap Span.av) false) := by
 have hm := make_ok L l [] fl true 2 (by decide) (by decide) ha hw (by simp) (fun s h => by cases h)
 rw [makeS_norm] at hm
 refine runs_of (fun _ => false) rfl L.f33 ?_
 repeat' first | refine st_nil ?_ | (refine gw ?_; first | refine st_mv (v := AV.rd _ _ _) rfl ?_ | refine st_call rfl nt_ ?_) | (refine gx ?_; first | refine sx_seq ?_ | refine sx_ops rfl ?_ | refine sx_ret ?_) | refine sk_norm ?_ | refine call_pure (by assumption) fz_ fz_ ?_ | refine fin_ret (v := AV.rd _ _ _) rfl ?_
 rfl
end Go.Proofs.YtdldfflfbfpngaaGreatDoor
