/- The document's sets and machines at one place. The document's machines: turn, same, longest. -/
import Derived.Test.YtdldfflfbfpngaaGreatDoorE6
set_option linter.unusedVariables false
set_option linter.unusedSimpArgs false
namespace Go.Proofs.YtdldfflfbfpngaaGreatDoor
open Go
set_option maxHeartbeats 4000000
attribute [local irreducible] wops xcode wcode seqK blockK loopK finK wcall wop wstp Runs
@[reducible] def interS (a b : List Span) : List Span := makeS a b 8
@[reducible] def minusS (a b : List Span) : List Span := makeS a b 2
theorem bit8 {a b : List Span} {x : Int} : bitOf 8 (kOf a b x) = true ↔ hasR a x = true ∧ hasR b x = true := by
 unfold kOf bitOf
 cases hasR a x <;> cases hasR b x <;> decide
theorem bit2 {a b : List Span} {x : Int} : bitOf 2 (kOf a b x) = true ↔ hasR a x = true ∧ ¬ hasR b x = true := by
 unfold kOf bitOf
 cases hasR a x <;> cases hasR b x <;> decide
theorem hasR_iff {a : List Span} {x : Int} : hasR a x = true ↔ scal x = true ∧ inS a x := by
 rw [← (normS_ok a).2 x, inS_normS]
theorem inS_inter {a b : List Span} {x : Int} : inS (interS a b) x ↔ scal x = true ∧ inS a x ∧ inS b x := by
 rw [(makeS_ok a b 8).2 x, bit8, hasR_iff, hasR_iff]
 constructor
 ·rintro ⟨h1, ⟨_, h2⟩, _, h3⟩; exact ⟨h1, h2, h3⟩
 ·rintro ⟨h1, h2, h3⟩; exact ⟨h1, ⟨h1, h2⟩, h1, h3⟩
theorem inS_minus {a b : List Span} {x : Int} : inS (minusS a b) x ↔ scal x = true ∧ inS a x ∧ ¬ inS b x := by
 rw [(makeS_ok a b 2).2 x, bit2, hasR_iff, hasR_iff]
 constructor
 ·rintro ⟨h1, ⟨_, h2⟩, h3⟩; exact ⟨h1, h2, fun h => h3 ⟨h1, h⟩⟩
 ·rintro ⟨h1, h2, h3⟩; exact ⟨h1, ⟨h1, h2⟩, fun h => h3 h.2⟩
theorem make_norm (a b : List Span) (k : Int) : normS (makeS a b k) = makeS a b k := norm_of_canon (makeS_ok a b k).1 fun x hx => (((makeS_ok a b k).2 x).1 hx).1
structure WideS (l : List Span) : Prop where
 len : l.length ≤ 67108864
 hi : ∀ s ∈ l, -9223372036854775808 ≤ s.hi
theorem inter_ok {Φ : Lib} (L : LibC3 Φ) (L2 : C2Lib Φ) (a b : Rw Span) (ha : WideS a.l) (hb : WideS b.l) : Pure Φ 109 [a.sv, b.sv] (.rd (interS a.l b.l).length ((interS a.l b.l).flatMap Span.av) false) := by
 have h1 := make_ok L2 a.l b.l a.fl b.fl 8 (by decide) (by decide) ha.len ha.hi hb.len hb.hi
 refine runs_of (fun _ => false) rfl L.f109 ?_
 repeat' first | refine st_nil ?_ | (refine gw ?_; first | refine st_mv (v := AV.rd _ _ _) rfl ?_ | refine st_call rfl nt_ ?_) | (refine gx ?_; first | refine sx_seq ?_ | refine sx_ops rfl ?_ | refine sx_ret ?_) | refine sk_norm ?_ | refine call_pure (by assumption) fz_ fz_ ?_ | refine fin_ret (v := AV.rd _ _ _) rfl ?_
 rfl
theorem minus_ok {Φ : Lib} (L : LibC3 Φ) (L2 : C2Lib Φ) (a b : Rw Span) (ha : WideS a.l) (hb : WideS b.l) : Pure Φ 110 [a.sv, b.sv] (.rd (minusS a.l b.l).length ((minusS a.l b.l).flatMap Span.av) false) := by
 have h1 := make_ok L2 a.l b.l a.fl b.fl 2 (by decide) (by decide) ha.len ha.hi hb.len hb.hi
 refine runs_of (fun _ => false) rfl L.f110 ?_
 repeat' first | refine st_nil ?_ | (refine gw ?_; first | refine st_mv (v := AV.rd _ _ _) rfl ?_ | refine st_call rfl nt_ ?_) | (refine gx ?_; first | refine sx_seq ?_ | refine sx_ops rfl ?_ | refine sx_ret ?_) | refine sk_norm ?_ | refine call_pure (by assumption) fz_ fz_ ?_ | refine fin_ret (v := AV.rd _ _ _) rfl ?_
 rfl
theorem same11_ok {Φ : Lib} (L : LibC3 Φ) (a b : Rw Int) (ha : a.l.length ≤ 1073741824) : Pure Φ 112 [a.iv, b.iv] (.bool (decide (a.l = b.l))) := by
 refine runs_of (fun _ => false) rfl L.f112 ?_
 repeat' first | refine st_nil ?_ | (refine gw ?_; first | (refine gq0 ?_; first | refine st_mv (v := AV.int _ _) rfl ?_ | refine st_mv (v := AV.bool _) rfl ?_ | refine st_mv (v := AV.rd _ _ _) rfl ?_) | (refine st_neq rfl rfl rfl ?_ ?_ <;> (intro hc; try (exfalso; omega))) | refine st_len_rd rfl ?_) | (refine gx ?_; first | refine sx_seq ?_ | refine sx_ops rfl ?_ | refine sx_skip ?_ | refine sx_block ?_ | refine sx_ret ?_ | refine sx_cond_t rfl ?_ | refine sx_cond_f rfl ?_) | refine sk_norm ?_ | refine sk_ret ?_ | refine fin_ret (v := AV.bool _) rfl ?_
 ·rw [decide_eq_false]
  intro e
  have := congrArg List.length e
  omega
 ·have hlen : a.l.length = b.l.length := by omega
  refine sx_for a.l.length (fun i env h' => a.l.take i = b.l.take i ∧ env.has [(0, a.iv), (1, b.iv), (5, .int .i64 i)]) ⟨rfl, hh_⟩ ?_
  rintro i env h' hi ⟨hpre, he⟩
  obtain ⟨env, rfl⟩ := he.ex
  clear he
  by_cases hi2 : i < a.l.length
  ·obtain ⟨x, hx⟩ := ex_get hi2
   obtain ⟨y, hy⟩ := ex_get (l := b.l) (show i < b.l.length by omega)
   by_cases hxy : x = y
   ·repeat' first | refine st_nil ?_ | (refine gw ?_; first | (refine gq0 ?_; first | refine st_mv (v := AV.int _ _) rfl ?_ | refine st_mv (v := AV.rd _ _ _) rfl ?_) | refine st_load_r rfl b_ pv_ ?_ | (refine gq3 ?_; first | refine st_add rfl rfl rfl (by omega) (by omega) ?_ | (refine st_lss rfl rfl rfl ?_ ?_ <;> (intro hc; try (exfalso; omega))) | (refine st_neq rfl rfl rfl ?_ ?_ <;> (intro hc; try (exfalso; omega)))) | (refine gq5 ?_; first | refine st_index_map' rfl rfl hx (by omega) rfl ?_ | refine st_index_map' rfl rfl hy (by omega) rfl ?_) | refine st_len_rd rfl ?_) | (refine gx ?_; first | refine sx_seq ?_ | refine sx_ops rfl ?_ | refine sx_skip ?_ | refine sx_block ?_ | refine sx_cond_t rfl ?_ | refine sx_cond_f rfl ?_) | refine sk_norm ?_ | refine bk_norm ?_
    exact lk_next hi2 ⟨by rw [take_snoc hx, take_snoc hy, hpre, hxy], hh_⟩
   ·repeat' first | refine st_nil ?_ | (refine gw ?_; first | (refine gq0 ?_; first | refine st_mv (v := AV.int _ _) rfl ?_ | refine st_mv (v := AV.bool _) rfl ?_ | refine st_mv (v := AV.rd _ _ _) rfl ?_) | refine st_load_r rfl b_ pv_ ?_ | (refine gq3 ?_; first | (refine st_lss rfl rfl rfl ?_ ?_ <;> (intro hc; try (exfalso; omega))) | (refine st_neq rfl rfl rfl ?_ ?_ <;> (intro hc; try (exfalso; omega)))) | (refine gq5 ?_; first | refine st_index_map' rfl rfl hx (by omega) rfl ?_ | refine st_index_map' rfl rfl hy (by omega) rfl ?_) | refine st_len_rd rfl ?_) | (refine gx ?_; first | refine sx_seq ?_ | refine sx_ops rfl ?_ | refine sx_skip ?_ | refine sx_block ?_ | refine sx_ret ?_ | refine sx_cond_t rfl ?_) | refine sk_norm ?_ | refine sk_ret ?_ | refine bk_ret ?_ | refine lk_ret ?_ | refine fin_ret (v := AV.bool _) rfl ?_
    rw [decide_eq_false]
    intro e
    rw [e, hy] at hx
    exact hxy (Option.some.inj hx).symm
  ·repeat' first | refine st_nil ?_ | (refine gw ?_; first | (refine gq0 ?_; first | refine st_mv (v := AV.int _ _) rfl ?_ | refine st_mv (v := AV.bool _) rfl ?_ | refine st_mv (v := AV.rd _ _ _) rfl ?_) | (refine st_lss rfl rfl rfl ?_ ?_ <;> (intro hc; try (exfalso; omega))) | refine st_len_rd rfl ?_) | (refine gx ?_; first | refine sx_seq ?_ | refine sx_ops rfl ?_ | refine sx_ret ?_ | refine sx_exit ?_ | refine sx_cond_f rfl ?_) | refine sk_norm ?_ | refine sk_exit ?_ | refine bk_exit ?_ | refine lk_exit ?_ | refine fin_ret (v := AV.bool _) rfl ?_
   rw [decide_eq_true]
   rw [List.take_of_length_le (by omega), List.take_of_length_le (by omega)] at hpre
   exact hpre
theorem same10_ok {Φ : Lib} (L : LibC3 Φ) (L2 : C2Lib Φ) (a b : Rw (Rw Span)) (ha : a.l.length ≤ 1073741824) (hal : ∀ r ∈ a.l, r.l.length ≤ 1073741824) : Pure Φ 162 [a.mv Rw.sv, b.mv Rw.sv] (.bool (decide (plainS a.l = plainS b.l))) := by
 have hal0 : (plainS a.l).length = a.l.length := by simp [plainS]
 have hbl0 : (plainS b.l).length = b.l.length := by simp [plainS]
 refine runs_of (fun _ => false) rfl L.f162 ?_
 repeat' first | refine st_nil ?_ | (refine gw ?_; first | (refine gq0 ?_; first | refine st_mv (v := AV.int _ _) rfl ?_ | refine st_mv (v := AV.bool _) rfl ?_ | refine st_mv (v := AV.rd _ _ _) rfl ?_) | (refine st_neq rfl rfl rfl ?_ ?_ <;> (intro hc; try (exfalso; omega))) | refine st_len_rd rfl ?_) | (refine gx ?_; first | refine sx_seq ?_ | refine sx_ops rfl ?_ | refine sx_skip ?_ | refine sx_block ?_ | refine sx_ret ?_ | refine sx_cond_t rfl ?_ | refine sx_cond_f rfl ?_) | refine sk_norm ?_ | refine sk_ret ?_ | refine fin_ret (v := AV.bool _) rfl ?_
 ·rw [decide_eq_false]
  intro e
  have := congrArg List.length e
  omega
 ·have hlen : a.l.length = b.l.length := by omega
  refine sx_for a.l.length (fun i env h' => plainS (a.l.take i) = plainS (b.l.take i) ∧ env.has [(0, a.mv Rw.sv), (1, b.mv Rw.sv), (5, .int .i64 i)]) ⟨rfl, hh_⟩ ?_
  rintro i env h' hi ⟨hpre, he⟩
  obtain ⟨env, rfl⟩ := he.ex
  clear he
  by_cases hi2 : i < a.l.length
  ·obtain ⟨x, hx⟩ := ex_get hi2
   obtain ⟨y, hy⟩ := ex_get (l := b.l) (show i < b.l.length by omega)
   have k1 := alike_ok L2 x.l y.l x.fl y.fl (hal x (List.mem_of_getElem? hx))
   have hxm : (plainS a.l)[i]? = some x.l := by unfold plainS; rw [List.getElem?_map, hx]; rfl
   have hym : (plainS b.l)[i]? = some y.l := by unfold plainS; rw [List.getElem?_map, hy]; rfl
   by_cases hxy : x.l = y.l
   ·rw [decide_eq_true hxy] at k1
    repeat' first | refine st_nil ?_ | (refine gw ?_; first | (refine gq0 ?_; first | refine st_mv (v := AV.int _ _) rfl ?_ | refine st_mv (v := AV.rd _ _ _) rfl ?_) | refine st_load_r rfl b_ pv_ ?_ | (refine gq3 ?_; first | refine st_add rfl rfl rfl (by omega) (by omega) ?_ | (refine st_lss rfl rfl rfl ?_ ?_ <;> (intro hc; try (exfalso; omega)))) | (refine gq5 ?_; first | refine st_index_map' rfl rfl hx (by omega) rfl ?_ | refine st_index_map' rfl rfl hy (by omega) rfl ?_) | refine st_len_rd rfl ?_ | refine st_call rfl nt_ ?_ | refine st_not (b := true) rfl ?_) | (refine gx ?_; first | refine sx_seq ?_ | refine sx_ops rfl ?_ | refine sx_skip ?_ | refine sx_block ?_ | refine sx_cond_t rfl ?_ | refine sx_cond_f rfl ?_) | refine sk_norm ?_ | refine bk_norm ?_ | refine call_pure (by assumption) fz_ fz_ ?_
    refine lk_next hi2 ⟨?_, hh_⟩
    unfold plainS at hpre ⊢
    rw [take_snoc hx, take_snoc hy, List.map_append, List.map_append, hpre, List.map_singleton, List.map_singleton, hxy]
   ·rw [decide_eq_false hxy] at k1
    repeat' first | refine st_nil ?_ | (refine gw ?_; first | (refine gq0 ?_; first | refine st_mv (v := AV.int _ _) rfl ?_ | refine st_mv (v := AV.bool _) rfl ?_ | refine st_mv (v := AV.rd _ _ _) rfl ?_) | refine st_load_r rfl b_ pv_ ?_ | (refine st_lss rfl rfl rfl ?_ ?_ <;> (intro hc; try (exfalso; omega))) | (refine gq5 ?_; first | refine st_index_map' rfl rfl hx (by omega) rfl ?_ | refine st_index_map' rfl rfl hy (by omega) rfl ?_) | refine st_len_rd rfl ?_ | refine st_call rfl nt_ ?_ | refine st_not (b := false) rfl ?_) | (refine gx ?_; first | refine sx_seq ?_ | refine sx_ops rfl ?_ | refine sx_skip ?_ | refine sx_block ?_ | refine sx_ret ?_ | refine sx_cond_t rfl ?_) | refine sk_norm ?_ | refine sk_ret ?_ | refine bk_ret ?_ | refine lk_ret ?_ | refine call_pure (by assumption) fz_ fz_ ?_ | refine fin_ret (v := AV.bool _) rfl ?_
    rw [decide_eq_false]
    intro e
    rw [e, hym] at hxm
    exact hxy (Option.some.inj hxm).symm
  ·repeat' first | refine st_nil ?_ | (refine gw ?_; first | (refine gq0 ?_; first | refine st_mv (v := AV.int _ _) rfl ?_ | refine st_mv (v := AV.bool _) rfl ?_ | refine st_mv (v := AV.rd _ _ _) rfl ?_) | (refine st_lss rfl rfl rfl ?_ ?_ <;> (intro hc; try (exfalso; omega))) | refine st_len_rd rfl ?_) | (refine gx ?_; first | refine sx_seq ?_ | refine sx_ops rfl ?_ | refine sx_ret ?_ | refine sx_exit ?_ | refine sx_cond_f rfl ?_) | refine sk_norm ?_ | refine sk_exit ?_ | refine bk_exit ?_ | refine lk_exit ?_ | refine fin_ret (v := AV.bool _) rfl ?_
   rw [decide_eq_true]
   rw [List.take_of_length_le (by omega), List.take_of_length_le (by omega)] at hpre
   exact hpre
structure Dfa.Wide (d : Dfa) : Prop where
 fits : d.Fits
 wide : ∀ p ∈ d.parts.l, WideS p.l
end Go.Proofs.YtdldfflfbfpngaaGreatDoor
set_option linter.unusedVariables false
set_option linter.unusedSimpArgs false
namespace Go.Proofs.YtdldfflfbfpngaaGreatDoor
open Go
set_option maxHeartbeats 4000000
attribute [local irreducible] wops xcode wcode seqK blockK loopK finK wcall wop wstp Runs
noncomputable def longD (d : Dfa) (l : List Int) : Int × Int := if soundD d = true then longP d.plain l else (0, -1)
end Go.Proofs.YtdldfflfbfpngaaGreatDoor
