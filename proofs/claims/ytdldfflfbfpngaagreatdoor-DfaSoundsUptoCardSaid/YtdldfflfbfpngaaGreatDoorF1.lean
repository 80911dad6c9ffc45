/- The document's sets and machines at one place. The document's machines: turn, same, longest. -/
import Derived.Test.YtdldfflfbfpngaaGreatDoorE6
set_option linter.unusedVariables false
set_option linter.unusedSimpArgs false
namespace Go.Proofs.YtdldfflfbfpngaaGreatDoor
open Go
set_option maxHeartbeats 4000000
attribute [local irreducible] wops xcode wcode seqK blockK loopK finK wcall wop wstp Runs
@[reducible] def interS (a b : List Span) : List Span := makeS a b 8
@[reducible] def minusS (a b : List Span) : List Span := makeS a b 2
theorem bit8 {a b : List Span} {x : Int} : bitOf 8 (kOf a b x) = true ↔ hasR a x = true ∧ hasR b x = true := by
 unfold kOf bitOf
 cases hasR a x <;> cases hasR b x <;> decide
theorem bit2 {a b : List Span} {x : Int} : bitOf 2 (kOf a b x) = true ↔ hasR a x = true ∧ ¬ hasR b x = true := by
 unfold kOf bitOf
 cases hasR a x <;> cases hasR b x <;> decide
theorem hasR_iff {a : List Span} {x : Int} : hasR a x = true ↔ scal x = true ∧ inS a x := by
 rw [← (normS_ok a).2 x, inS_normS]
theorem inS_inter {a b : List Span} {x : Int} : inS (interS a b) x ↔ scal x = true ∧ inS a x ∧ inS b x := by
 rw [(makeS_ok a b 8).2 x, bit8, hasR_iff, hasR_iff]
 constructor
 ·rintro ⟨h1, ⟨_, h2⟩, _, h3⟩; exact ⟨h1, h2, h3⟩
 ·rintro ⟨h1, h2, h3⟩; exact ⟨h1, ⟨h1, h2⟩, h1, h3⟩
theorem inS_minus {a b : List Span} {x : Int} : inS (minusS a b) x ↔ scal x = true ∧ inS a x ∧ ¬ inS b x := by
 rw [(makeS_ok a b 2).2 x, bit2, hasR_iff, hasR_iff]
 constructor
 ·rintro ⟨h1, ⟨_, h2⟩, h3⟩; exact ⟨h1, h2, fun h => h3 ⟨h1, h⟩⟩
 ·rintro ⟨h1, h2, h3⟩; exact ⟨h1, ⟨h1, h2⟩, fun h => h3 h.2⟩
theorem make_norm (a b : List Span) (k : Int) : normS (makeS a b k) = makeS a b k := norm_of_canon (makeS_ok a b k).1 fun x hx => (((makeS_ok a b k).2 x).1 hx).1
theorem inter_nil {a b : List Span} (ha : normS a = a) : interS a b = [] ↔ ∀ x, ¬ (inS a x ∧ inS b x) := by
 have h := canon_ne (makeS_ok a b 8).1
 constructor
 ·intro e x hx
  have : inS (interS a b) x := inS_inter.2 ⟨norm_scal ha hx.1, hx⟩
  rw [e] at this
  obtain ⟨s, hs, _⟩ := this
  cases hs
 ·intro hn
  apply Classical.byContradiction
  intro hne
  obtain ⟨x, hx⟩ := h.1 hne
  exact hn x (inS_inter.1 hx).2
structure WideS (l : List Span) : Prop where
 len : l.length ≤ 67108864
 hi : ∀ s ∈ l, -9223372036854775808 ≤ s.hi
theorem inter_ok {Φ : Lib} (L : LibC3 Φ) (L2 : C2Lib Φ) (a b : Rw Span) (ha : WideS a.l) (hb : WideS b.l) : Pure Φ 109 [a.sv, b.sv] (.rd (interS a.l b.l).length ((interS a.l b.l).flatMap Span.av) false) := by
 have h1 := make_ok L2 a.l b.l a.fl b.fl 8 (by decide) (by decide) ha.len ha.hi hb.len hb.hi
 refine runs_of (fun _ => false) rfl L.f109 ?_
 repeat' first | refine st_nil ?_ | (refine gw ?_; first | refine st_mv (v := AV.rd _ _ _) rfl ?_ | refine st_call rfl nt_ ?_) | (refine gx ?_; first | refine sx_seq ?_ | refine sx_ops rfl ?_ | refine sx_ret ?_) | refine sk_norm ?_ | refine call_pure (by assumption) fz_ fz_ ?_ | refine fin_ret (v := AV.rd _ _ _) rfl ?_
 rfl
theorem minus_ok {Φ : Lib} (L : LibC3 Φ) (L2 : C2Lib Φ) (a b : Rw Span) (ha : WideS a.l) (hb : WideS b.l) : Pure Φ 110 [a.sv, b.sv] (.rd (minusS a.l b.l).length ((minusS a.l b.l).flatMap Span.av) false) := by
 have h1 := make_ok L2 a.l b.l a.fl b.fl 2 (by decide) (by decide) ha.len ha.hi hb.len hb.hi
 refine runs_of (fun _ => false) rfl L.f110 ?_
 repeat' first | refine st_nil ?_ | (refine gw ?_; first | refine st_mv (v := AV.rd _ _ _) rfl ?_ | refine st_call rfl nt_ ?_) | (refine gx ?_; first | refine sx_seq ?_ | refine sx_ops rfl ?_ | refine sx_ret ?_) | refine sk_norm ?_ | refine call_pure (by assumption) fz_ fz_ ?_ | refine fin_ret (v := AV.rd _ _ _) rfl ?_
 rfl
theorem which_ok {Φ : Lib} (L : LibC3 Φ) (L2 : C2Lib Φ) (P : Rw (Rw Span)) (hp : P.l.length ≤ 1073741824) (hpl : ∀ r ∈ P.l, r.l.length ≤ 1073741824) (x : Int) : Pure Φ 161 [P.mv Rw.sv, .int .i64 x] (.int .i64 (idxV (whichP (plainS P.l) x))) := by
 have hlen : (plainS P.l).length = P.l.length := by simp [plainS]
 refine runs_of (fun _ => false) rfl L.f161 ?_
 repeat' first | refine st_nil ?_ | refine st_mv (v := AV.int _ _) rfl ?_ | (refine gx ?_; first | refine sx_seq ?_ | refine sx_ops rfl ?_ | refine sx_block ?_) | refine sk_norm ?_
 refine sx_for P.l.length (fun i env h' => (∀ q ∈ (plainS P.l).take i, hasR q x = false) ∧ env.has [(0, P.mv Rw.sv), (1, .int .i64 x), (5, .int .i64 i)]) ⟨by simp, hh_⟩ ?_
 rintro i env h' hi ⟨hpre, he⟩
 obtain ⟨env, rfl⟩ := he.ex
 clear he
 by_cases hi2 : i < P.l.length
 ·obtain ⟨p, hpp⟩ := ex_get hi2
  have k1 := rhas_ok L2 p.l p.fl x (hpl p (List.mem_of_getElem? hpp))
  have hpm : (plainS P.l)[i]? = some p.l := by unfold plainS; rw [List.getElem?_map, hpp]; rfl
  cases hb : hasR p.l x
  ·rw [hb] at k1
   repeat' first | refine st_nil ?_ | (refine gw ?_; first | (refine gq0 ?_; first | refine st_mv (v := AV.int _ _) rfl ?_ | refine st_mv (v := AV.rd _ _ _) rfl ?_) | refine st_load_r rfl b_ pv_ ?_ | (refine gq3 ?_; first | refine st_add rfl rfl rfl (by omega) (by omega) ?_ | (refine st_lss rfl rfl rfl ?_ ?_ <;> (intro hc; try (exfalso; omega)))) | refine st_index_map' rfl rfl hpp (by omega) rfl ?_ | refine st_len_rd rfl ?_ | refine st_call rfl nt_ ?_) | (refine gx ?_; first | refine sx_seq ?_ | refine sx_ops rfl ?_ | refine sx_skip ?_ | refine sx_block ?_ | refine sx_cond_t rfl ?_ | refine sx_cond_f rfl ?_) | refine sk_norm ?_ | refine bk_norm ?_ | refine call_pure (by assumption) fz_ fz_ ?_
   refine lk_next hi2 ⟨fun q hq => ?_, hh_⟩
   rw [take_snoc hpm] at hq
   rcases List.mem_append.1 hq with hq | hq
   ·exact hpre q hq
   ·simp at hq; subst hq; exact hb
  ·rw [hb] at k1
   repeat' first | refine st_nil ?_ | (refine gw ?_; first | (refine gq0 ?_; first | refine st_mv (v := AV.int _ _) rfl ?_ | refine st_mv (v := AV.rd _ _ _) rfl ?_) | refine st_load_r rfl b_ pv_ ?_ | (refine st_lss rfl rfl rfl ?_ ?_ <;> (intro hc; try (exfalso; omega))) | refine st_index_map' rfl rfl hpp (by omega) rfl ?_ | refine st_len_rd rfl ?_ | refine st_call rfl nt_ ?_) | (refine gx ?_; first | refine sx_seq ?_ | refine sx_ops rfl ?_ | refine sx_skip ?_ | refine sx_block ?_ | refine sx_ret ?_ | refine sx_cond_t rfl ?_) | refine sk_norm ?_ | refine sk_ret ?_ | refine bk_ret ?_ | refine lk_ret ?_ | refine call_pure (by assumption) fz_ fz_ ?_ | refine fin_ret (v := AV.int _ _) rfl ?_
   have : whichP (plainS P.l) x = some i := by
    unfold whichP
    rw [List.findIdx?_eq_some_iff_getElem]
    obtain ⟨h1, h2⟩ := List.getElem?_eq_some_iff.1 hpm
    refine ⟨h1, by rw [h2]; exact hb, fun j hj => ?_⟩
    rw [hpre _ (List.mem_take_iff_getElem.2 ⟨j, by omega, rfl⟩)]
    simp
   rw [this]
   rfl
 ·repeat' first | refine st_nil ?_ | (refine gw ?_; first | (refine gq0 ?_; first | refine st_mv (v := AV.int _ _) rfl ?_ | refine st_mv (v := AV.rd _ _ _) rfl ?_) | (refine st_lss rfl rfl rfl ?_ ?_ <;> (intro hc; try (exfalso; omega))) | refine st_len_rd rfl ?_) | (refine gx ?_; first | refine sx_seq ?_ | refine sx_ops rfl ?_ | refine sx_ret ?_ | refine sx_exit ?_ | refine sx_cond_f rfl ?_) | refine sk_norm ?_ | refine sk_exit ?_ | refine bk_exit ?_ | refine lk_exit ?_ | refine fin_ret (v := AV.int _ _) rfl ?_
  have : whichP (plainS P.l) x = none := by
   unfold whichP
   rw [List.findIdx?_eq_none_iff]
   rw [List.take_of_length_le (by omega)] at hpre
   exact hpre
  rw [this]
  rfl
structure Dfa.Wide (d : Dfa) : Prop where
 fits : d.Fits
 wide : ∀ p ∈ d.parts.l, WideS p.l
theorem rsound11_ok {Φ : Lib} (L : LibC3 Φ) (L2 : C2Lib Φ) (d : Dfa) (hw : d.Wide) : Pure Φ 157 [.agg d.av] (.bool (soundD d)) := by
 have hfp := hw.fits.parts
 have hfn := hw.fits.next
 have hft := hw.fits.tags
 have hpl : d.plain.p = d.parts.l.length := by simp [Dfa.plain, plainS, PD.p]
 have hnl : d.plain.n = d.tags.l.length := by simp [Dfa.plain, PD.n]
 have hxl : d.plain.next.length = d.next.l.length := by simp [Dfa.plain, plainI]
 have hpart : ∀ {i : Nat} {p : Rw Span}, d.parts.l[i]? = some p → d.plain.part i = p.l := fun {i p} hp => by
  simp [PD.part, Dfa.plain, plainS, List.getD_eq_getElem?_getD, hp]
 refine runs_of (fun _ => false) rfl L.f157 ?_
 refine sx_seq ?_
 refine sx_ops rfl ?_
 refine st_box (v := .agg d.av) rfl rfl ?_
 intro ib hib
 have hbox : (Heap.empty.set ib (.cells 0 (AV.agg d.av).cells)).get ib = some (.cells 0 d.av) := Heap.get_set_self _ _ _
 generalize Heap.empty.set ib (.cells 0 (AV.agg d.av).cells) = h0 at hbox
 repeat' first | refine st_nil ?_ | (refine gw ?_; first | refine st_mv rx_ ?_ | (refine gq2 ?_; first | refine st_load_t rx_ ?_ | refine st_load_p rfl hq_ (by simp) b_ pv_ ?_) | (refine gq3 ?_; first | refine st_bin_t1 rx_ ?_ | refine st_bin_t2 rx_ ?_ | (refine st_lss rfl rfl rfl ?_ ?_ <;> (intro hc; try (exfalso; omega))) | (refine st_gtr rfl rfl rfl ?_ ?_ <;> (intro hc; try (exfalso; omega))) | (refine st_neq rfl rfl rfl ?_ ?_ <;> (intro hc; try (exfalso; omega)))) | (refine gq6 ?_; first | refine st_len_t rx_ ?_ | refine st_len_rd rfl ?_) | (refine gq4 ?_; first | refine st_field_t rx_ ?_ | refine st_field_p rfl (Nat.zero_add _) ?_) | (refine gq1 ?_; first | refine st_skipg rfl ?_ | refine st_gog rfl ?_) | (refine gq7 ?_; first | refine st_pick_t (v := AV.bool _) rfl rfl ?_ | refine st_pick_f (v := AV.bool _) rfl rfl ?_)) | (refine gx ?_; first | refine sx_seq ?_ | refine sx_ops rfl ?_ | refine sx_skip ?_ | refine sx_block ?_ | refine sx_ret ?_ | refine sx_cond_t rfl ?_ | refine sx_cond_f rfl ?_) | refine sk_norm ?_ | refine sk_ret ?_ | refine fin_ret (v := AV.bool _) rfl ?_
 all_goals first
  | (rw [soundD_f (fun h => by have := h.p1; have := h.n1; have := h.n2; have := h.nl; omega)]; done)
  | skip
 refine sx_for d.parts.l.length (fun i env h' => (∀ j, j < i → normS (d.plain.part j) = d.plain.part j) ∧ (∀ a b, a < b → b < i → ∀ x, ¬ (inS (d.plain.part a) x ∧ inS (d.plain.part b) x)) ∧ h'.get ib = some (.cells 0 d.av) ∧ env.has [(1, .ptr ib 0 0), (3, .int .i64 d.tags.l.length), (4, .int .i64 i)]) ⟨by omega, by omega, hbox, hh_⟩ ?_
 rintro i env h' hi ⟨hn, hap, hb1, he⟩
 obtain ⟨env, rfl⟩ := he.ex
 clear he
 by_cases hi2 : i < d.parts.l.length
 ·obtain ⟨p, hp⟩ := ex_get hi2
  have hpw := hw.wide p (List.mem_of_getElem? hp)
  have hpp := hpart hp
  have k1 := rnorm_ok L2 p.l p.fl hpw.len hpw.hi
  have k2 := alike_ok L2 (normS p.l) p.l false p.fl (by have := normS_length p.l; have := hpw.len; omega)
  by_cases hpn : normS p.l = p.l
  ·rw [decide_eq_true hpn] at k2
   repeat' first | refine st_nil ?_ | (refine gw ?_; first | refine st_mv rx_ ?_ | (refine gq2 ?_; first | refine st_load_t rx_ ?_ | refine st_load_r rfl b_ pv_ ?_ | refine st_load_p rfl hq_ (by simp) b_ pv_ ?_) | (refine gq3 ?_; first | refine st_bin_t1 rx_ ?_ | refine st_bin_t2 rx_ ?_ | (refine st_lss rfl rfl rfl ?_ ?_ <;> (intro hc; try (exfalso; omega)))) | (refine gq5 ?_; first | refine st_index_t1 rx_ ?_ | refine st_index_t2 rx_ ?_ | refine st_index_map' rfl rfl hp (by omega) rfl ?_) | (refine gq6 ?_; first | refine st_len_t rx_ ?_ | refine st_len_rd rfl ?_) | (refine gq4 ?_; first | refine st_field_t rx_ ?_ | refine st_field_p rfl (Nat.zero_add _) ?_) | refine st_call rfl nt_ ?_ | refine st_not (b := true) rfl ?_) | (refine gx ?_; first | refine sx_seq ?_ | refine sx_ops rfl ?_ | refine sx_skip ?_ | refine sx_block ?_ | refine sx_cond_t rfl ?_ | refine sx_cond_f rfl ?_) | refine sk_norm ?_ | refine call_pure (by assumption) fz_ fz_ ?_
   refine sx_for i (fun j env h' => (∀ q, q < j → ∀ x, ¬ (inS (d.plain.part q) x ∧ inS p.l x)) ∧ h'.get ib = some (.cells 0 d.av) ∧ env.has [(1, .ptr ib 0 0), (3, .int .i64 d.tags.l.length), (4, .int .i64 i), (5, .int .i64 j)]) ⟨by omega, hb1, hh_⟩ ?_
   clear hb1
   rintro j env h' hj ⟨hc1, hb1, he⟩
   obtain ⟨env, rfl⟩ := he.ex
   clear he
   by_cases hj2 : j < i
   ·obtain ⟨q, hq⟩ := ex_get (l := d.parts.l) (i := j) (by omega)
    have hqp := hpart hq
    have k3 := inter_ok L L2 p q hpw (hw.wide q (List.mem_of_getElem? hq))
    have hin := inter_nil (a := p.l) (b := q.l) hpn
    cases hI : interS p.l q.l with
    | nil =>
     rw [hI] at k3
     have hno := hin.1 hI
     have hl0 : ([] : List Span).length = 0 := rfl
     repeat' first | refine st_nil ?_ | (refine gw ?_; first | refine st_mv rx_ ?_ | (refine gq2 ?_; first | refine st_load_t rx_ ?_ | refine st_load_r rfl b_ pv_ ?_ | refine st_load_p rfl hq_ (by simp) b_ pv_ ?_) | (refine gq3 ?_; first | refine st_bin_t1 rx_ ?_ | refine st_bin_t2 rx_ ?_ | refine st_add rfl rfl rfl (by omega) (by omega) ?_ | (refine st_lss rfl rfl rfl ?_ ?_ <;> (intro hc; try (exfalso; omega))) | (refine st_gtr rfl rfl rfl ?_ ?_ <;> (intro hc; try (exfalso; omega)))) | (refine gq5 ?_; first | refine st_index_t1 rx_ ?_ | refine st_index_t2 rx_ ?_ | refine st_index_map' rfl rfl hp (by omega) rfl ?_ | refine st_index_map' rfl rfl hq (by omega) rfl ?_) | (refine gq6 ?_; first | refine st_len_t rx_ ?_ | refine st_len_rd rfl ?_) | (refine gq4 ?_; first | refine st_field_t rx_ ?_ | refine st_field_p rfl (Nat.zero_add _) ?_) | refine st_call rfl nt_ ?_) | (refine gx ?_; first | refine sx_seq ?_ | refine sx_ops rfl ?_ | refine sx_skip ?_ | refine sx_block ?_ | refine sx_cond_t rfl ?_ | refine sx_cond_f rfl ?_) | refine sk_norm ?_ | refine bk_norm ?_ | refine call_pure (by assumption) fz_ fz_ ?_
     refine lk_next hj2 ⟨fun a ha x hx => ?_, hb1, hh_⟩
     by_cases e : a = j
     ·subst e
      rw [hqp] at hx
      exact hno x ⟨hx.2, hx.1⟩
     ·exact hc1 a (by omega) x hx
    | cons s l =>
     rw [hI] at k3
     have hl0 : (s :: l).length = l.length + 1 := rfl
     repeat' first | refine st_nil ?_ | (refine gw ?_; first | refine st_mv rx_ ?_ | (refine gq2 ?_; first | refine st_load_t rx_ ?_ | refine st_load_r rfl b_ pv_ ?_ | refine st_load_p rfl hq_ (by simp) b_ pv_ ?_) | (refine gq3 ?_; first | refine st_bin_t1 rx_ ?_ | refine st_bin_t2 rx_ ?_ | (refine st_lss rfl rfl rfl ?_ ?_ <;> (intro hc; try (exfalso; omega))) | (refine st_gtr rfl rfl rfl ?_ ?_ <;> (intro hc; try (exfalso; omega)))) | (refine gq5 ?_; first | refine st_index_t1 rx_ ?_ | refine st_index_t2 rx_ ?_ | refine st_index_map' rfl rfl hp (by omega) rfl ?_ | refine st_index_map' rfl rfl hq (by omega) rfl ?_) | (refine gq6 ?_; first | refine st_len_t rx_ ?_ | refine st_len_rd rfl ?_) | (refine gq4 ?_; first | refine st_field_t rx_ ?_ | refine st_field_p rfl (Nat.zero_add _) ?_) | refine st_call rfl nt_ ?_) | (refine gx ?_; first | refine sx_seq ?_ | refine sx_ops rfl ?_ | refine sx_skip ?_ | refine sx_block ?_ | refine sx_ret ?_ | refine sx_cond_t rfl ?_) | refine sk_norm ?_ | refine sk_ret ?_ | refine bk_ret ?_ | refine lk_ret ?_ | refine call_pure (by assumption) fz_ fz_ ?_
     refine fin_ret (v := .bool false) rfl ?_
     rw [soundD_f]
     intro h
     have : interS p.l q.l = [] := hin.2 fun x hx => h.apart j i hj2 (by omega) x ⟨by rw [hqp]; exact hx.2, by rw [hpp]; exact hx.1⟩
     rw [hI] at this
     cases this
   ·repeat' first | refine st_nil ?_ | (refine gw ?_; first | refine st_mv rx_ ?_ | (refine gq3 ?_; first | refine st_bin_t1 rx_ ?_ | refine st_bin_t2 rx_ ?_ | refine st_add rfl rfl rfl (by omega) (by omega) ?_ | (refine st_lss rfl rfl rfl ?_ ?_ <;> (intro hc; try (exfalso; omega))))) | (refine gx ?_; first | refine sx_seq ?_ | refine sx_ops rfl ?_ | refine sx_exit ?_ | refine sx_cond_f rfl ?_) | refine sk_norm ?_ | refine sk_exit ?_ | refine bk_norm ?_ | refine bk_exit ?_ | refine lk_exit ?_
    refine lk_next hi2 ⟨fun a ha => ?_, fun a b hab hb => ?_, hb1, hh_⟩
    ·by_cases e : a = i
     ·subst e; rw [hpp]; exact hpn
     ·exact hn a (by omega)
    ·by_cases e : b = i
     ·subst e; rw [hpp]; exact hc1 a (by omega)
     ·exact hap a b hab (by omega)
  ·rw [decide_eq_false hpn] at k2
   repeat' first | refine st_nil ?_ | (refine gw ?_; first | refine st_mv rx_ ?_ | (refine gq2 ?_; first | refine st_load_t rx_ ?_ | refine st_load_r rfl b_ pv_ ?_ | refine st_load_p rfl hq_ (by simp) b_ pv_ ?_) | (refine gq3 ?_; first | refine st_bin_t1 rx_ ?_ | refine st_bin_t2 rx_ ?_ | (refine st_lss rfl rfl rfl ?_ ?_ <;> (intro hc; try (exfalso; omega)))) | (refine gq5 ?_; first | refine st_index_t1 rx_ ?_ | refine st_index_t2 rx_ ?_ | refine st_index_map' rfl rfl hp (by omega) rfl ?_) | (refine gq6 ?_; first | refine st_len_t rx_ ?_ | refine st_len_rd rfl ?_) | (refine gq4 ?_; first | refine st_field_t rx_ ?_ | refine st_field_p rfl (Nat.zero_add _) ?_) | refine st_call rfl nt_ ?_ | refine st_not (b := false) rfl ?_) | (refine gx ?_; first | refine sx_seq ?_ | refine sx_ops rfl ?_ | refine sx_skip ?_ | refine sx_block ?_ | refine sx_ret ?_ | refine sx_cond_t rfl ?_) | refine sk_norm ?_ | refine sk_ret ?_ | refine bk_ret ?_ | refine lk_ret ?_ | refine call_pure (by assumption) fz_ fz_ ?_
   refine fin_ret (v := .bool false) rfl ?_
   rw [soundD_f]
   intro h
   exact hpn (h.norm p.l (List.mem_map.2 ⟨p, List.mem_of_getElem? hp, rfl⟩))
 ·have hi3 : i = d.parts.l.length := by omega
  subst hi3
  repeat' first | refine st_nil ?_ | (refine gw ?_; first | refine st_mv rx_ ?_ | (refine gq2 ?_; first | refine st_load_t rx_ ?_ | refine st_load_p rfl hq_ (by simp) b_ pv_ ?_) | (refine gq3 ?_; first | refine st_bin_t1 rx_ ?_ | refine st_bin_t2 rx_ ?_ | (refine st_lss rfl rfl rfl ?_ ?_ <;> (intro hc; try (exfalso; omega)))) | (refine gq6 ?_; first | refine st_len_t rx_ ?_ | refine st_len_rd rfl ?_) | (refine gq4 ?_; first | refine st_field_t rx_ ?_ | refine st_field_p rfl (Nat.zero_add _) ?_)) | (refine gx ?_; first | refine sx_seq ?_ | refine sx_ops rfl ?_ | refine sx_block ?_ | refine sx_exit ?_ | refine sx_cond_f rfl ?_) | refine sk_norm ?_ | refine sk_exit ?_ | refine bk_exit ?_ | refine lk_exit ?_
  refine sx_for d.tags.l.length (fun i env h' => (∀ r ∈ d.next.l.take i, r.l.length = d.parts.l.length ∧ ∀ x ∈ r.l, x = -1 ∨ In d.tags.l.length x) ∧ (∀ t ∈ d.tags.l.take i, -1 ≤ t) ∧ h'.get ib = some (.cells 0 d.av) ∧ env.has [(1, .ptr ib 0 0), (3, .int .i64 d.tags.l.length), (6, .int .i64 i)]) ⟨by simp, by simp, hb1, hh_⟩ ?_
  clear hb1
  rintro i env h' hi ⟨hrs, hts, hb1, he⟩
  obtain ⟨env, rfl⟩ := he.ex
  clear he
  by_cases hi2 : i < d.tags.l.length
  ·obtain ⟨r, hr⟩ := ex_get (l := d.next.l) (i := i) (by omega)
   obtain ⟨t, ht⟩ := ex_get hi2
   have hrm : r.l ∈ d.plain.next := List.mem_map.2 ⟨r, List.mem_of_getElem? hr, rfl⟩
   have hrl := hw.fits.rows r (List.mem_of_getElem? hr)
   have htm : t ∈ d.plain.tags := List.mem_of_getElem? ht
   by_cases hok1 : r.l.length = d.parts.l.length ∧ -1 ≤ t
   ·obtain ⟨o1, o2⟩ := hok1
    repeat' first | refine st_nil ?_ | (refine gw ?_; first | refine st_mv rx_ ?_ | (refine gq2 ?_; first | refine st_load_t rx_ ?_ | refine st_load_r rfl b_ pv_ ?_ | refine st_load_p rfl hq_ (by simp) b_ pv_ ?_) | (refine gq3 ?_; first | refine st_bin_t1 rx_ ?_ | refine st_bin_t2 rx_ ?_ | (refine st_lss rfl rfl rfl ?_ ?_ <;> (intro hc; try (exfalso; omega))) | (refine st_neq rfl rfl rfl ?_ ?_ <;> (intro hc; try (exfalso; omega)))) | (refine gq5 ?_; first | refine st_index_t1 rx_ ?_ | refine st_index_t2 rx_ ?_ | refine st_index_map' rfl rfl hr (by omega) rfl ?_ | refine st_index_map' rfl rfl ht (by omega) rfl ?_) | (refine gq6 ?_; first | refine st_len_t rx_ ?_ | refine st_len_rd rfl ?_) | (refine gq4 ?_; first | refine st_field_t rx_ ?_ | refine st_field_p rfl (Nat.zero_add _) ?_) | refine st_gog rfl ?_ | refine st_pick_f (v := AV.bool _) rfl rfl ?_) | (refine gx ?_; first | refine sx_seq ?_ | refine sx_ops rfl ?_ | refine sx_skip ?_ | refine sx_block ?_ | refine sx_cond_t rfl ?_ | refine sx_cond_f rfl ?_) | refine sk_norm ?_
    refine sx_for r.l.length (fun j env h' => (∀ x ∈ r.l.take j, x = -1 ∨ In d.tags.l.length x) ∧ h'.get ib = some (.cells 0 d.av) ∧ env.has [(1, .ptr ib 0 0), (3, .int .i64 d.tags.l.length), (6, .int .i64 i), (7, .int .i64 j)]) ⟨by simp, hb1, hh_⟩ ?_
    clear hb1
    rintro j env h' hj ⟨hxs, hb1, he⟩
    obtain ⟨env, rfl⟩ := he.ex
    clear he
    by_cases hj2 : j < r.l.length
    ·obtain ⟨x, hx⟩ := ex_get hj2
     by_cases hxo : x = -1 ∨ In d.tags.l.length x
     ·have hx2 : -1 ≤ x ∧ x < d.tags.l.length := by unfold In at hxo; omega
      repeat' first | refine st_nil ?_ | (refine gw ?_; first | refine st_mv rx_ ?_ | (refine gq2 ?_; first | refine st_load_t rx_ ?_ | refine st_load_r rfl b_ pv_ ?_ | refine st_load_p rfl hq_ (by simp) b_ pv_ ?_) | (refine gq3 ?_; first | refine st_bin_t1 rx_ ?_ | refine st_bin_t2 rx_ ?_ | refine st_add rfl rfl rfl (by omega) (by omega) ?_ | (refine st_lss rfl rfl rfl ?_ ?_ <;> (intro hc; try (exfalso; omega))) | (refine st_geq rfl rfl rfl ?_ ?_ <;> (intro hc; try (exfalso; omega)))) | (refine gq5 ?_; first | refine st_index_t1 rx_ ?_ | refine st_index_t2 rx_ ?_ | refine st_index_map' rfl rfl hr (by omega) rfl ?_ | refine st_index_map' rfl rfl hx (by omega) rfl ?_) | (refine gq6 ?_; first | refine st_len_t rx_ ?_ | refine st_len_rd rfl ?_) | (refine gq4 ?_; first | refine st_field_t rx_ ?_ | refine st_field_p rfl (Nat.zero_add _) ?_) | refine st_gog rfl ?_ | refine st_pick_f (v := AV.bool _) rfl rfl ?_) | (refine gx ?_; first | refine sx_seq ?_ | refine sx_ops rfl ?_ | refine sx_skip ?_ | refine sx_block ?_ | refine sx_cond_t rfl ?_ | refine sx_cond_f rfl ?_) | refine sk_norm ?_ | refine bk_norm ?_
      refine lk_next hj2 ⟨fun y hy => ?_, hb1, hh_⟩
      rw [take_snoc hx] at hy
      rcases List.mem_append.1 hy with hy | hy
      ·exact hxs y hy
      ·simp at hy; subst hy; exact hxo
     ·have hx2 : x < -1 ∨ (d.tags.l.length : Int) ≤ x := by unfold In at hxo; omega
      repeat' first | refine st_nil ?_ | (refine gw ?_; first | refine st_mv rx_ ?_ | (refine gq2 ?_; first | refine st_load_t rx_ ?_ | refine st_load_r rfl b_ pv_ ?_ | refine st_load_p rfl hq_ (by simp) b_ pv_ ?_) | (refine gq3 ?_; first | refine st_bin_t1 rx_ ?_ | refine st_bin_t2 rx_ ?_ | (refine st_lss rfl rfl rfl ?_ ?_ <;> (intro hc; try (exfalso; omega))) | (refine st_geq rfl rfl rfl ?_ ?_ <;> (intro hc; try (exfalso; omega)))) | (refine gq5 ?_; first | refine st_index_t1 rx_ ?_ | refine st_index_t2 rx_ ?_ | refine st_index_map' rfl rfl hr (by omega) rfl ?_ | refine st_index_map' rfl rfl hx (by omega) rfl ?_) | (refine gq6 ?_; first | refine st_len_t rx_ ?_ | refine st_len_rd rfl ?_) | (refine gq4 ?_; first | refine st_field_t rx_ ?_ | refine st_field_p rfl (Nat.zero_add _) ?_) | (refine gq1 ?_; first | refine st_skipg rfl ?_ | refine st_gog rfl ?_) | (refine gq7 ?_; first | refine st_pick_t (v := AV.bool _) rfl rfl ?_ | refine st_pick_f (v := AV.bool _) rfl rfl ?_)) | (refine gx ?_; first | refine sx_seq ?_ | refine sx_ops rfl ?_ | refine sx_skip ?_ | refine sx_block ?_ | refine sx_ret ?_ | refine sx_cond_t rfl ?_) | refine sk_norm ?_ | refine sk_ret ?_ | refine bk_ret ?_ | refine lk_ret ?_
      all_goals
       refine fin_ret (v := .bool false) rfl ?_
       rw [soundD_f]
       intro h
       have := (h.rows _ hrm).2 x (List.mem_of_getElem? hx)
       rw [hnl] at this
       exact hxo this
    ·rw [List.take_of_length_le (by omega)] at hxs
     repeat' first | refine st_nil ?_ | (refine gw ?_; first | refine st_mv rx_ ?_ | (refine gq2 ?_; first | refine st_load_t rx_ ?_ | refine st_load_r rfl b_ pv_ ?_ | refine st_load_p rfl hq_ (by simp) b_ pv_ ?_) | (refine gq3 ?_; first | refine st_bin_t1 rx_ ?_ | refine st_bin_t2 rx_ ?_ | refine st_add rfl rfl rfl (by omega) (by omega) ?_ | (refine st_lss rfl rfl rfl ?_ ?_ <;> (intro hc; try (exfalso; omega)))) | (refine gq5 ?_; first | refine st_index_t1 rx_ ?_ | refine st_index_t2 rx_ ?_ | refine st_index_map' rfl rfl hr (by omega) rfl ?_) | (refine gq6 ?_; first | refine st_len_t rx_ ?_ | refine st_len_rd rfl ?_) | (refine gq4 ?_; first | refine st_field_t rx_ ?_ | refine st_field_p rfl (Nat.zero_add _) ?_)) | (refine gx ?_; first | refine sx_seq ?_ | refine sx_ops rfl ?_ | refine sx_exit ?_ | refine sx_cond_f rfl ?_) | refine sk_norm ?_ | refine sk_exit ?_ | refine bk_norm ?_ | refine bk_exit ?_ | refine lk_exit ?_
     refine lk_next hi2 ⟨fun q hq => ?_, fun q hq => ?_, hb1, hh_⟩
     ·rw [take_snoc hr] at hq
      rcases List.mem_append.1 hq with hq | hq
      ·exact hrs q hq
      ·simp at hq; subst hq; exact ⟨o1, hxs⟩
     ·rw [take_snoc ht] at hq
      rcases List.mem_append.1 hq with hq | hq
      ·exact hts q hq
      ·simp at hq; subst hq; exact o2
   ·repeat' first | refine st_nil ?_ | (refine gw ?_; first | refine st_mv rx_ ?_ | (refine gq2 ?_; first | refine st_load_t rx_ ?_ | refine st_load_r rfl b_ pv_ ?_ | refine st_load_p rfl hq_ (by simp) b_ pv_ ?_) | (refine gq3 ?_; first | refine st_bin_t1 rx_ ?_ | refine st_bin_t2 rx_ ?_ | (refine st_lss rfl rfl rfl ?_ ?_ <;> (intro hc; try (exfalso; omega))) | (refine st_neq rfl rfl rfl ?_ ?_ <;> (intro hc; try (exfalso; omega)))) | (refine gq5 ?_; first | refine st_index_t1 rx_ ?_ | refine st_index_t2 rx_ ?_ | refine st_index_map' rfl rfl hr (by omega) rfl ?_ | refine st_index_map' rfl rfl ht (by omega) rfl ?_) | (refine gq6 ?_; first | refine st_len_t rx_ ?_ | refine st_len_rd rfl ?_) | (refine gq4 ?_; first | refine st_field_t rx_ ?_ | refine st_field_p rfl (Nat.zero_add _) ?_) | (refine gq1 ?_; first | refine st_skipg rfl ?_ | refine st_gog rfl ?_) | (refine gq7 ?_; first | refine st_pick_t (v := AV.bool _) rfl rfl ?_ | refine st_pick_f (v := AV.bool _) rfl rfl ?_)) | (refine gx ?_; first | refine sx_seq ?_ | refine sx_ops rfl ?_ | refine sx_skip ?_ | refine sx_block ?_ | refine sx_ret ?_ | refine sx_cond_t rfl ?_) | refine sk_norm ?_ | refine sk_ret ?_ | refine bk_ret ?_ | refine lk_ret ?_
    all_goals
     refine fin_ret (v := .bool false) rfl ?_
     rw [soundD_f]
     intro h
     have h1 := (h.rows _ hrm).1
     have h2 := h.tags _ htm
     rw [hpl] at h1
     exact hok1 ⟨h1, h2⟩
  ·rw [List.take_of_length_le (by omega)] at hrs
   rw [List.take_of_length_le (by omega)] at hts
   repeat' first | refine st_nil ?_ | (refine gw ?_; first | refine st_mv rx_ ?_ | (refine gq3 ?_; first | refine st_bin_t1 rx_ ?_ | refine st_bin_t2 rx_ ?_ | (refine st_lss rfl rfl rfl ?_ ?_ <;> (intro hc; try (exfalso; omega))))) | (refine gx ?_; first | refine sx_seq ?_ | refine sx_ops rfl ?_ | refine sx_ret ?_ | refine sx_exit ?_ | refine sx_cond_f rfl ?_) | refine sk_norm ?_ | refine sk_exit ?_ | refine bk_exit ?_ | refine lk_exit ?_
   refine fin_ret (v := .bool true) rfl ?_
   rw [soundD_t]
   refine ⟨by omega, by omega, by omega, by omega, fun q hq => ?_, fun a b hab hb => hap a b hab (by omega), fun r hr => ?_, hts⟩
   ·obtain ⟨k, hk, rfl⟩ := List.getElem_of_mem hq
    have hk2 : k < d.parts.l.length := by simpa [Dfa.plain, plainS] using hk
    have := hn k hk2
    rw [show d.plain.part k = d.plain.parts[k] by simp [PD.part, List.getD_eq_getElem?_getD, hk]] at this
    exact this
   ·obtain ⟨q, hq, rfl⟩ := List.mem_map.1 hr
    rw [hpl, hnl]
    exact hrs q hq
end Go.Proofs.YtdldfflfbfpngaaGreatDoor
set_option linter.unusedVariables false
set_option linter.unusedSimpArgs false
namespace Go.Proofs.YtdldfflfbfpngaaGreatDoor
open Go
set_option maxHeartbeats 4000000
attribute [local irreducible] wops xcode wcode seqK blockK loopK finK wcall wop wstp Runs
noncomputable def longD (d : Dfa) (l : List Int) : Int × Int := if soundD d = true then longP d.plain l else (0, -1)
theorem rlong11_ok {Φ : Lib} (L : LibC3 Φ) (L2 : C2Lib Φ) (d : Dfa) (hw : d.Wide) (t : Rw Int) (ht : t.l.length ≤ 1048576) : Pure Φ 158 [.agg d.av, t.iv] (.tup [.int .i64 (longD d t.l).1, .int .i64 (longD d t.l).2]) := by
 have hsd := rsound11_ok L L2 d hw
 have hfp := hw.fits.parts
 have hfn := hw.fits.next
 have hft := hw.fits.tags
 have hpl : d.plain.p = d.parts.l.length := by simp [Dfa.plain, plainS, PD.p]
 have hnl : d.plain.n = d.tags.l.length := by simp [Dfa.plain, PD.n]
 have hxl : d.plain.next.length = d.next.l.length := by simp [Dfa.plain, plainI]
 refine runs_of (fun _ => false) rfl L.f158 ?_
 refine sx_seq ?_
 refine sx_ops rfl ?_
 refine st_box (v := .agg d.av) rfl rfl ?_
 intro ib hib
 have hbox : (Heap.empty.set ib (.cells 0 (AV.agg d.av).cells)).get ib = some (.cells 0 d.av) := Heap.get_set_self _ _ _
 generalize Heap.empty.set ib (.cells 0 (AV.agg d.av).cells) = h0 at hbox
 by_cases hok : d.plain.Ok
 ·rw [soundD_t hok] at hsd
  rw [longD, if_pos (soundD_t hok)]
  have hnl2 := hok.nl
  repeat' first | refine st_nil ?_ | (refine gw ?_; first | refine st_mv rx_ ?_ | (refine gq2 ?_; first | refine st_load_t rx_ ?_ | refine st_load_p rfl hq_ (by simp) b_ pv_ ?_) | refine st_call rfl nt_ ?_ | refine st_not (b := true) rfl ?_) | (refine gx ?_; first | refine sx_seq ?_ | refine sx_ops rfl ?_ | refine sx_skip ?_ | refine sx_block ?_ | refine sx_cond_f rfl ?_) | refine sk_norm ?_ | refine call_pure (by assumption) fz_ fz_ ?_
  refine sx_for t.l.length (fun i env h' => ∃ (a : Nat) (lo tg : Int), a < d.tags.l.length ∧ longFromP d.plain a (t.l.drop i) i (lo, tg) = longP d.plain t.l ∧ h'.get ib = some (.cells 0 d.av) ∧ env.has [(1, t.iv), (2, .ptr ib 0 0), (6, .int .i64 lo), (7, .int .i64 tg), (8, .int .i64 a), (9, .int .i64 i)]) ⟨0, 0, -1, by have := hok.n1; omega, rfl, hbox, hh_⟩ ?_
  clear hbox
  rintro i env h' hi ⟨a, lo, tg, han, hlong, hb1, he⟩
  obtain ⟨env, rfl⟩ := he.ex
  clear he
  by_cases hi2 : i < t.l.length
  ·obtain ⟨c, hc⟩ := ex_get hi2
   obtain ⟨r, hr⟩ := ex_get (l := d.next.l) (i := a) (by omega)
   have hrow : d.plain.row a = r.l := by simp [PD.row, Dfa.plain, plainI, List.getD_eq_getElem?_getD, hr]
   have hrm : r.l ∈ d.plain.next := List.mem_map.2 ⟨r, List.mem_of_getElem? hr, rfl⟩
   obtain ⟨hrl, hrt⟩ := hok.rows _ hrm
   have k1 := which_ok L L2 d.parts (by omega) (fun q hq => by have := (hw.wide q hq).len; omega) c
   rw [List.drop_eq_getElem_cons hi2, (List.getElem?_eq_some_iff.1 hc).2] at hlong
   unfold longFromP at hlong
   rw [show d.plain.parts = plainS d.parts.l from rfl] at hlong
   cases hwh : whichP (plainS d.parts.l) c with
   | none =>
    rw [hwh] at k1 hlong
    have hm1 : idxV none < 0 := by decide
    repeat' first | refine st_nil ?_ | (refine gw ?_; first | refine st_mv rx_ ?_ | (refine gq2 ?_; first | refine st_load_t rx_ ?_ | refine st_load_r rfl b_ pv_ ?_ | refine st_load_p rfl hq_ (by simp) b_ pv_ ?_) | (refine gq3 ?_; first | refine st_bin_t1 rx_ ?_ | refine st_bin_t2 rx_ ?_ | (refine st_lss rfl rfl rfl ?_ ?_ <;> (intro hc; try (exfalso; omega)))) | (refine gq5 ?_; first | refine st_index_t1 rx_ ?_ | refine st_index_t2 rx_ ?_ | refine st_index_map rfl rfl rfl (by assumption) rfl ?_) | (refine gq6 ?_; first | refine st_len_t rx_ ?_ | refine st_len_rd rfl ?_) | (refine gq4 ?_; first | refine st_field_t rx_ ?_ | refine st_field_p rfl (Nat.zero_add _) ?_) | refine st_call rfl nt_ ?_) | (refine gx ?_; first | refine sx_seq ?_ | refine sx_ops rfl ?_ | refine sx_skip ?_ | refine sx_block ?_ | refine sx_ret ?_ | refine sx_exit ?_ | refine sx_cond_t rfl ?_) | refine sk_norm ?_ | refine sk_exit ?_ | refine bk_exit ?_ | refine bk_other rfl ?_ | refine lk_exit ?_ | refine call_pure (by assumption) fz_ fz_ ?_
    refine fin_ret (v := .tup [.int .i64 lo, .int .i64 tg]) rfl ?_
    rw [← hlong]
   | some k =>
    rw [hwh] at k1 hlong
    have hk : k < d.parts.l.length := by
     have := (which_some hok (r := c) (k := k)).1 hwh
     omega
    obtain ⟨x, hx⟩ := ex_get (l := r.l) (i := k) (by omega)
    have hcol : col d.plain.row a k = x := by rw [col, hrow, List.getD_eq_getElem?_getD, hx]; rfl
    have hm1 : ¬ idxV (some k) < 0 := by simp [idxV]
    have hm2 : idxV (some k) = (k : Int) := rfl
    rw [hm2] at k1
    simp only [hcol] at hlong
    rcases hrt x (List.mem_of_getElem? hx) with hx1 | hx1
    ·subst hx1
     rw [if_pos (by decide)] at hlong
     repeat' first | refine st_nil ?_ | (refine gw ?_; first | refine st_mv rx_ ?_ | (refine gq2 ?_; first | refine st_load_t rx_ ?_ | refine st_load_r rfl b_ pv_ ?_ | refine st_load_p rfl hq_ (by simp) b_ pv_ ?_) | (refine gq3 ?_; first | refine st_bin_t1 rx_ ?_ | refine st_bin_t2 rx_ ?_ | (refine st_lss rfl rfl rfl ?_ ?_ <;> (intro hc; try (exfalso; omega)))) | (refine gq5 ?_; first | refine st_index_t1 rx_ ?_ | refine st_index_t2 rx_ ?_ | refine st_index_map' rfl rfl hr (by omega) rfl ?_ | refine st_index_map' rfl rfl hx (by omega) rfl ?_ | refine st_index_map rfl rfl rfl (by assumption) rfl ?_) | (refine gq6 ?_; first | refine st_len_t rx_ ?_ | refine st_len_rd rfl ?_) | (refine gq4 ?_; first | refine st_field_t rx_ ?_ | refine st_field_p rfl (Nat.zero_add _) ?_) | refine st_call rfl nt_ ?_) | (refine gx ?_; first | refine sx_seq ?_ | refine sx_ops rfl ?_ | refine sx_skip ?_ | refine sx_block ?_ | refine sx_ret ?_ | refine sx_exit ?_ | refine sx_cond_t rfl ?_ | refine sx_cond_f rfl ?_) | refine sk_norm ?_ | refine sk_exit ?_ | refine bk_exit ?_ | refine bk_other rfl ?_ | refine lk_exit ?_ | refine call_pure (by assumption) fz_ fz_ ?_
     refine fin_ret (v := .tup [.int .i64 lo, .int .i64 tg]) rfl ?_
     rw [← hlong]
    ·obtain ⟨b, rfl⟩ : ∃ b : Nat, x = b := ⟨x.toNat, by unfold In at hx1; omega⟩
     have hb : b < d.tags.l.length := by unfold In at hx1; omega
     obtain ⟨g, hg⟩ := ex_get hb
     have htag : d.plain.tag b = g := by simp [PD.tag, Dfa.plain, List.getD_eq_getElem?_getD, hg]
     rw [if_neg (by omega), htag] at hlong
     by_cases hg0 : 0 ≤ g
     ·rw [if_pos hg0] at hlong
      repeat' first | refine st_nil ?_ | (refine gw ?_; first | refine st_mv rx_ ?_ | (refine gq2 ?_; first | refine st_load_t rx_ ?_ | refine st_load_r rfl b_ pv_ ?_ | refine st_load_p rfl hq_ (by simp) b_ pv_ ?_) | (refine gq3 ?_; first | refine st_bin_t1 rx_ ?_ | refine st_bin_t2 rx_ ?_ | refine st_add rfl rfl rfl (by omega) (by omega) ?_ | (refine st_lss rfl rfl rfl ?_ ?_ <;> (intro hc; try (exfalso; omega))) | (refine st_geq rfl rfl rfl ?_ ?_ <;> (intro hc; try (exfalso; omega)))) | (refine gq5 ?_; first | refine st_index_t1 rx_ ?_ | refine st_index_t2 rx_ ?_ | refine st_index_map' rfl rfl hr (by omega) rfl ?_ | refine st_index_map' rfl rfl hx (by omega) rfl ?_ | refine st_index_map' rfl rfl hg (by omega) rfl ?_ | refine st_index_map rfl rfl rfl (by assumption) rfl ?_) | (refine gq6 ?_; first | refine st_len_t rx_ ?_ | refine st_len_rd rfl ?_) | (refine gq4 ?_; first | refine st_field_t rx_ ?_ | refine st_field_p rfl (Nat.zero_add _) ?_) | refine st_call rfl nt_ ?_) | (refine gx ?_; first | refine sx_seq ?_ | refine sx_ops rfl ?_ | refine sx_skip ?_ | refine sx_block ?_ | refine sx_cond_t rfl ?_ | refine sx_cond_f rfl ?_) | refine sk_norm ?_ | refine bk_norm ?_ | refine call_pure (by assumption) fz_ fz_ ?_
      exact lk_next hi2 ⟨b, _, _, hb, hlong, hb1, hh_⟩
     ·rw [if_neg hg0] at hlong
      repeat' first | refine st_nil ?_ | (refine gw ?_; first | refine st_mv rx_ ?_ | (refine gq2 ?_; first | refine st_load_t rx_ ?_ | refine st_load_r rfl b_ pv_ ?_ | refine st_load_p rfl hq_ (by simp) b_ pv_ ?_) | (refine gq3 ?_; first | refine st_bin_t1 rx_ ?_ | refine st_bin_t2 rx_ ?_ | refine st_add rfl rfl rfl (by omega) (by omega) ?_ | (refine st_lss rfl rfl rfl ?_ ?_ <;> (intro hc; try (exfalso; omega))) | (refine st_geq rfl rfl rfl ?_ ?_ <;> (intro hc; try (exfalso; omega)))) | (refine gq5 ?_; first | refine st_index_t1 rx_ ?_ | refine st_index_t2 rx_ ?_ | refine st_index_map' rfl rfl hr (by omega) rfl ?_ | refine st_index_map' rfl rfl hx (by omega) rfl ?_ | refine st_index_map' rfl rfl hg (by omega) rfl ?_ | refine st_index_map rfl rfl rfl (by assumption) rfl ?_) | (refine gq6 ?_; first | refine st_len_t rx_ ?_ | refine st_len_rd rfl ?_) | (refine gq4 ?_; first | refine st_field_t rx_ ?_ | refine st_field_p rfl (Nat.zero_add _) ?_) | refine st_call rfl nt_ ?_) | (refine gx ?_; first | refine sx_seq ?_ | refine sx_ops rfl ?_ | refine sx_skip ?_ | refine sx_block ?_ | refine sx_cond_t rfl ?_ | refine sx_cond_f rfl ?_) | refine sk_norm ?_ | refine bk_norm ?_ | refine call_pure (by assumption) fz_ fz_ ?_
      exact lk_next hi2 ⟨b, _, _, hb, hlong, hb1, hh_⟩
  ·rw [List.drop_of_length_le (by omega)] at hlong
   unfold longFromP at hlong
   repeat' first | refine st_nil ?_ | (refine gw ?_; first | refine st_mv rx_ ?_ | (refine gq3 ?_; first | refine st_bin_t1 rx_ ?_ | refine st_bin_t2 rx_ ?_ | (refine st_lss rfl rfl rfl ?_ ?_ <;> (intro hc; try (exfalso; omega)))) | (refine gq6 ?_; first | refine st_len_t rx_ ?_ | refine st_len_rd rfl ?_)) | (refine gx ?_; first | refine sx_seq ?_ | refine sx_ops rfl ?_ | refine sx_ret ?_ | refine sx_exit ?_ | refine sx_cond_f rfl ?_) | refine sk_norm ?_ | refine sk_exit ?_ | refine bk_exit ?_ | refine lk_exit ?_
   refine fin_ret (v := .tup [.int .i64 lo, .int .i64 tg]) rfl ?_
   rw [← hlong]
 ·rw [soundD_f hok] at hsd
  have : ¬ soundD d = true := by rw [soundD_f hok]; decide
  rw [longD, if_neg this]
  repeat' first | refine st_nil ?_ | (refine gw ?_; first | refine st_mv rx_ ?_ | (refine gq2 ?_; first | refine st_load_t rx_ ?_ | refine st_load_p rfl hq_ (by simp) b_ pv_ ?_) | refine st_call rfl nt_ ?_ | refine st_not (b := false) rfl ?_) | (refine gx ?_; first | refine sx_seq ?_ | refine sx_ops rfl ?_ | refine sx_ret ?_ | refine sx_cond_t rfl ?_) | refine sk_norm ?_ | refine sk_ret ?_ | refine call_pure (by assumption) fz_ fz_ ?_
  exact fin_ret (v := .tup [.int .i64 0, .int .i64 (-1)]) rfl rfl
end Go.Proofs.YtdldfflfbfpngaaGreatDoor
