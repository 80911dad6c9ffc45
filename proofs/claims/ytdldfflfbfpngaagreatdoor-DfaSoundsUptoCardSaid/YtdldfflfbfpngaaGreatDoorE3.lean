/- slices.Concat, set.Union, set.Size. dfa.Sound. -/
import Derived.Test.YtdldfflfbfpngaaGreatDoorB2
import Derived.Test.YtdldfflfbfpngaaGreatDoorE2
import Derived.Test.YtdldfflfbfpngaaGreatDoorA7
import Derived.Test.YtdldfflfbfpngaaGreatDoorP2
set_option linter.unusedVariables false
set_option linter.unusedSimpArgs false
namespace Go.Proofs.YtdldfflfbfpngaaGreatDoor
open Go
set_option maxHeartbeats 4000000
attribute [local irreducible] wops xcode wcode seqK blockK loopK finK wcall wop wstp Runs
structure GrowLib (Φ : Lib) : Prop where
 spans : Φ 128 = some (.ext (extGrow 2))
theorem grow_ok {Φ : Lib} (G : GrowLib Φ) {h : Heap} {n : Nat} (hn : n ≤ 268435456) : Runs Φ 128 [.rd 0 [] true, .int .i64 n] h (fun v h' => IsRow h' v 2 0 [] ∧ (∀ k, h.get k ≠ none → h'.get k = h.get k) ∧ ∀ k, v.rowId = some k → h.get k = none) := by
 refine Runs.ext rfl G.spans ⟨by omega, by omega, fun _ => ⟨IsRow.nil _ _, fun _ _ => rfl, fun k hk => by cases hk⟩, fun _ id hid => ⟨.inr ⟨id, 1, rfl, Heap.get_set_self _ _ _, Nat.le_refl _, rfl⟩, fun k hk => Heap.get_set_ne _ _ (fun e => hk (e ▸ hid)), fun k hk => by cases hk; exact hid⟩⟩
def catS (P : List (Rw Span)) : List Span := P.flatMap (·.l)
theorem catS_take_le (P : List (Rw Span)) (i : Nat) : (catS (P.take i)).length ≤ (catS P).length := by
 have : catS P = catS (P.take i) ++ catS (P.drop i) := by
  unfold catS
  rw [← List.flatMap_append, List.take_append_drop]
 rw [this, List.length_append]
 omega
theorem catS_snoc {P : List (Rw Span)} {i : Nat} {p : Rw Span} (h : P[i]? = some p) : catS (P.take (i + 1)) = catS (P.take i) ++ p.l := by
 unfold catS
 rw [take_snoc h, List.flatMap_append]
 simp
theorem concat_ok {Φ : Lib} (L : LibC3 Φ) (G : GrowLib Φ) (P : List (Rw Span)) (f : Bool) (hl : P.length ≤ 134217728) (hb : (catS P).length ≤ 134217728) : Pure Φ 125 [.rd P.length (P.map Rw.sv) f] (.rd (catS P).length ((catS P).flatMap Span.av) false) := by
 refine runs_of (fun o => o == some 31) rfl L.f125 ?_
 repeat' first | refine st_nil ?_ | (refine gw ?_; first | (refine gq0 ?_; first | refine st_mv (v := AV.int _ _) rfl ?_ | refine st_mv (v := AV.rd _ _ _) rfl ?_) | refine st_len_rd rfl ?_) | (refine gx ?_; first | refine sx_seq ?_ | refine sx_ops rfl ?_ | refine sx_block ?_) | refine sk_norm ?_
 refine sx_for P.length (fun i env h' => env.has [(0, .rd P.length (P.map Rw.sv) f), (3, .int .i64 (catS (P.take i)).length), (9, .rd P.length (P.map Rw.sv) f), (10, .int .i64 P.length), (11, .int .i64 i)]) hh_ ?_
 rintro i env h' hi he
 obtain ⟨env, rfl⟩ := he.ex
 clear he
 have hle := catS_take_le P i
 by_cases hi2 : i < P.length
 ·obtain ⟨p, hp⟩ := ex_get hi2
  have hsn := catS_snoc hp
  have hle2 := catS_take_le P (i + 1)
  have hl2 : (catS (P.take (i + 1))).length = (catS (P.take i)).length + p.l.length := by rw [hsn, List.length_append]
  repeat' first | refine st_nil ?_ | (refine gw ?_; first | (refine gq0 ?_; first | refine st_mv (v := AV.int _ _) rfl ?_ | refine st_mv (v := AV.rd _ _ _) rfl ?_) | refine st_load_r rfl b_ pv_ ?_ | (refine gq3 ?_; first | refine st_add rfl rfl rfl (by omega) (by omega) ?_ | (refine st_lss rfl rfl rfl ?_ ?_ <;> (intro hc; try (exfalso; omega)))) | refine st_index_map' rfl rfl hp (by omega) rfl ?_ | refine st_len_rd rfl ?_) | (refine gx ?_; first | refine sx_seq ?_ | refine sx_ops rfl ?_ | refine sx_skip ?_ | refine sx_block ?_ | refine sx_cond_t rfl ?_ | refine sx_cond_f rfl ?_) | refine sk_norm ?_ | refine bk_norm ?_
  refine lk_next hi2 ?_
  rw [hl2]
  exact hh_
 ·rw [List.take_of_length_le (by omega)]
  repeat' first | refine st_nil ?_ | (refine gw ?_; first | refine st_mv (v := AV.int _ _) rfl ?_ | (refine st_lss rfl rfl rfl ?_ ?_ <;> (intro hc; try (exfalso; omega))) | refine st_call rfl nt_ ?_) | (refine gx ?_; first | refine sx_seq ?_ | refine sx_ops rfl ?_ | refine sx_exit ?_ | refine sx_cond_f rfl ?_) | refine sk_norm ?_ | refine sk_exit ?_ | refine bk_exit ?_ | refine lk_exit ?_
  refine call_any (grow_ok G (by omega)) ?_
  rintro v h2 ⟨hv, _, _⟩
  have hnt := hv.notTup
  repeat' first | refine st_nil ?_ | (refine gw ?_; first | (refine gq0 ?_; first | refine st_mv (v := AV.int _ _) rfl ?_ | refine st_mv (v := AV.rd _ _ _) rfl ?_ | refine st_mv rv_ ?_) | refine st_len_rd rfl ?_) | (refine gx ?_; first | refine sx_seq ?_ | refine sx_ops rfl ?_ | refine sx_block ?_) | refine sk_norm ?_
  refine sx_for P.length (fun i env h' => ∃ v, IsRow h' v 2 (catS (P.take i)).length ((catS (P.take i)).flatMap Span.av) ∧ env.has [(6, v), (25, .rd P.length (P.map Rw.sv) f), (26, .int .i64 P.length), (27, .int .i64 i)]) ⟨v, hv, hh_⟩ ?_
  clear hv hnt
  rintro i env h' hi ⟨v, hv, he⟩
  obtain ⟨env, rfl⟩ := he.ex
  clear he
  have hnt := hv.notTup
  have hle := catS_take_le P i
  by_cases hi2 : i < P.length
  ·obtain ⟨p, hp⟩ := ex_get hi2
   have hsn := catS_snoc hp
   have hle2 := catS_take_le P (i + 1)
   have hl2 : (catS (P.take (i + 1))).length = (catS (P.take i)).length + p.l.length := by rw [hsn, List.length_append]
   repeat' first | refine st_nil ?_ | (refine gw ?_; first | refine st_mv (v := AV.rd _ _ _) rfl ?_ | refine st_load_r rfl b_ pv_ ?_ | (refine st_lss rfl rfl rfl ?_ ?_ <;> (intro hc; try (exfalso; omega))) | refine st_index_map' rfl rfl hp (by omega) rfl ?_) | (refine gx ?_; first | refine sx_seq ?_ | refine sx_ops rfl ?_ | refine sx_skip ?_ | refine sx_block ?_ | refine sx_cond_t rfl ?_) | refine sk_norm ?_
   refine sx_opsZ rfl ?_
   refine st_mv (v := v) rfl ?_
   refine st_mv (v := p.sv) rfl ?_
   refine st_append (v := v) rfl hv rfl (flat_length Span.av 2 Span.av_length _) (by omega) ?_
   intro va h3 hra hka hria
   repeat' first | refine st_nil ?_ | (refine gw ?_; first | (refine gq0 ?_; first | refine st_mv (v := AV.int _ _) rfl ?_ | refine st_mv rv_ ?_) | refine st_add rfl rfl rfl (by omega) (by omega) ?_) | refine sx_ops rfl ?_ | refine sk_norm ?_ | refine bk_norm ?_
   refine lk_next hi2 ⟨va, ?_, hh_⟩
   rw [hl2, hsn, List.flatMap_append]
   exact hra
  ·rw [List.take_of_length_le (by omega)] at hv
   repeat' first | refine st_nil ?_ | (refine gw ?_; first | refine st_mv rv_ ?_ | (refine st_lss rfl rfl rfl ?_ ?_ <;> (intro hc; try (exfalso; omega)))) | (refine gx ?_; first | refine sx_seq ?_ | refine sx_ops rfl ?_ | refine sx_ret ?_ | refine sx_exit ?_ | refine sx_cond_f rfl ?_) | refine sk_norm ?_ | refine sk_exit ?_ | refine bk_exit ?_ | refine lk_exit ?_
   exact fin_row rfl hv (fun _ => rfl)
theorem union_ok {Φ : Lib} (L : LibC3 Φ) (L1 : C1Lib Φ) (S : SortLib Φ) (G : GrowLib Φ) (P : List (Rw Span)) (f : Bool) (hl : P.length ≤ 134217728) (hb : (catS P).length ≤ 1048576) : Pure Φ 119 [.rd P.length (P.map Rw.sv) f] (.rd (normS (catS P)).length ((normS (catS P)).flatMap Span.av) false) := by
 have h1 := concat_ok L G P f hl (by omega)
 have h2 := norm_ok L1 S (catS P) hb false
 refine runs_of (fun _ => false) rfl L.f119 ?_
 repeat' first | refine st_nil ?_ | (refine gw ?_; first | refine st_mv (v := AV.rd _ _ _) rfl ?_ | refine st_call rfl nt_ ?_) | (refine gx ?_; first | refine sx_seq ?_ | refine sx_ops rfl ?_ | refine sx_ret ?_) | refine sk_norm ?_ | refine call_pure (by assumption) fz_ fz_ ?_ | refine fin_ret (v := AV.rd _ _ _) rfl ?_
 rfl
theorem normS_range {l : List Span} {s : Span} (hs : s ∈ normS l) : 0 ≤ s.lo ∧ s.lo ≤ s.hi ∧ s.hi ≤ 1114111 := by
 obtain ⟨b1, b2⟩ := normS_ok l
 have h1 := b1.2 s hs
 have h2 := (b2 s.hi).1 ⟨s, hs, h1, Int.le_refl _⟩
 have h3 := (b2 s.lo).1 ⟨s, hs, Int.le_refl _, h1⟩
 simp only [hasR, Bool.and_eq_true] at h2 h3
 have := scal_iff.1 h2.1
 have := scal_iff.1 h3.1
 omega
theorem sizeF_range {l : List Span} (h : ∀ s ∈ l, 0 ≤ s.lo ∧ s.lo ≤ s.hi ∧ s.hi ≤ 1114111) : 0 ≤ sizeF l ∧ sizeF l ≤ l.length * 1114112 := by
 refine snoc_ind (P := fun l => (∀ s ∈ l, 0 ≤ s.lo ∧ s.lo ≤ s.hi ∧ s.hi ≤ 1114111) → 0 ≤ sizeF l ∧ sizeF l ≤ l.length * 1114112) ?_ ?_ l h
 ·intro _; simp [sizeF]
 ·intro l s ih h
  have h1 := ih fun x hx => h x (by simp [hx])
  have h2 := h s (by simp)
  rw [sizeF_snoc, List.length_append]
  simp only [List.length_cons, List.length_nil]
  omega
theorem size_ok {Φ : Lib} (L : LibC3 Φ) (L1 : C1Lib Φ) (S : SortLib Φ) (l : List Span) (hl : l.length ≤ 1048576) (fl : Bool) : Pure Φ 122 [.rd l.length (l.flatMap Span.av) fl] (.int .i64 (sizeF (normS l))) := by
 have h1 := norm_ok L1 S l hl fl
 have hlen := normS_length l
 have hr := fun s hs => normS_range (l := l) (s := s) hs
 refine runs_of (fun _ => false) rfl L.f122 ?_
 repeat' first | refine st_nil ?_ | (refine gw ?_; first | (refine gq0 ?_; first | refine st_mv (v := AV.int _ _) rfl ?_ | refine st_mv (v := AV.rd _ _ _) rfl ?_) | refine st_len_rd rfl ?_ | refine st_call rfl nt_ ?_) | (refine gx ?_; first | refine sx_seq ?_ | refine sx_ops rfl ?_ | refine sx_block ?_) | refine sk_norm ?_ | refine call_pure (by assumption) fz_ fz_ ?_
 generalize normS l = m at hlen hr
 refine sx_for m.length (fun i env h' => env.has [(3, .int .i64 (sizeF (m.take i))), (7, .rd m.length (m.flatMap Span.av) false), (8, .int .i64 m.length), (9, .int .i64 i)]) hh_ ?_
 rintro i env h' hi he
 obtain ⟨env, rfl⟩ := he.ex
 clear he
 have hsz := sizeF_range (l := m.take i) fun s hs => hr s (List.mem_of_mem_take hs)
 rw [List.length_take] at hsz
 by_cases hi2 : i < m.length
 ·obtain ⟨s, hs⟩ := ex_get hi2
  have hsr := hr s (List.mem_of_getElem? hs)
  repeat' first | refine st_nil ?_ | (refine gw ?_; first | refine st_mv (v := AV.int _ _) rfl ?_ | (refine gq2 ?_; first | refine st_load_ra rfl (by first | rfl | (simp [*]; done) | fail) ?_ | refine st_load_p rfl hg_ (by simp) b_ pv_ ?_) | (refine gq3 ?_; first | refine st_add rfl rfl rfl (by omega) (by omega) ?_ | refine st_sub rfl rfl rfl (by omega) (by omega) ?_ | (refine st_lss rfl rfl rfl ?_ ?_ <;> (intro hc; try (exfalso; omega)))) | refine st_field_p rfl (Nat.zero_add _) ?_ | refine st_index_flat' rfl fl_ rfl hs (by omega) rfl ?_ | (refine st_alloc ?_; intro id hid; try simp only [Heap.set_none] at hid) | refine st_store_s (cs' := [AV.int _ _, AV.int _ _]) rfl rfl rfl rfl b_ rfl ?_) | (refine gx ?_; first | refine sx_seq ?_ | refine sx_ops rfl ?_ | refine sx_skip ?_ | refine sx_block ?_ | refine sx_cond_t rfl ?_) | refine sk_norm ?_ | refine bk_norm ?_
  refine lk_next hi2 ?_
  rw [take_snoc hs, sizeF_snoc]
  exact hh_
 ·rw [List.take_of_length_le (by omega)]
  repeat' first | refine st_nil ?_ | (refine gw ?_; first | refine st_mv (v := AV.int _ _) rfl ?_ | (refine st_lss rfl rfl rfl ?_ ?_ <;> (intro hc; try (exfalso; omega)))) | (refine gx ?_; first | refine sx_seq ?_ | refine sx_ops rfl ?_ | refine sx_ret ?_ | refine sx_exit ?_ | refine sx_cond_f rfl ?_) | refine sk_norm ?_ | refine sk_exit ?_ | refine bk_exit ?_ | refine lk_exit ?_ | refine fin_ret (v := AV.int _ _) rfl ?_
  rfl
end Go.Proofs.YtdldfflfbfpngaaGreatDoor
set_option linter.unusedVariables false
set_option linter.unusedSimpArgs false
namespace Go.Proofs.YtdldfflfbfpngaaGreatDoor
open Go
set_option maxHeartbeats 4000000
attribute [local irreducible] wops xcode wcode seqK blockK loopK finK wcall wop wstp Runs
def plainS (P : List (Rw Span)) : List (List Span) := P.map (·.l)
def plainI (P : List (Rw Int)) : List (List Int) := P.map (·.l)
def Dfa.plain (d : Dfa) : PD := ⟨plainS d.parts.l, plainI d.next.l, d.tags.l⟩
theorem catS_plain (P : List (Rw Span)) : catS P = catL (plainS P) := by
 unfold catS catL plainS
 rw [List.flatMap_map]
 rfl
noncomputable def decB (p : Prop) : Bool := @decide p (Classical.propDecidable p)
theorem decB_iff {p : Prop} : decB p = true ↔ p := by unfold decB; exact @decide_eq_true_iff p (Classical.propDecidable p)
theorem decB_t {p : Prop} (h : p) : decB p = true := decB_iff.2 h
theorem decB_f {p : Prop} (h : ¬ p) : decB p = false := by
 rw [Bool.eq_false_iff]
 exact fun e => h (decB_iff.1 e)
noncomputable def apartB (P : List (List Span)) : Bool := decB ((∀ p ∈ P, normS p = p) ∧ ApartP P)
theorem apartB_t {P : List (List Span)} (h : ∀ p ∈ P, normS p = p) (h2 : ApartP P) : apartB P = true := decB_t ⟨h, h2⟩
theorem apartB_f {P : List (List Span)} (h : ¬ ((∀ p ∈ P, normS p = p) ∧ ApartP P)) : apartB P = false := decB_f h
theorem catS_part {P : List (Rw Span)} {i : Nat} {p : Rw Span} (h : P[i]? = some p) : p.l.length ≤ (catS P).length := by
 have h1 := catS_snoc h
 have h2 := catS_take_le P (i + 1)
 rw [h1, List.length_append] at h2
 omega
theorem sizesF_range {P : List (List Span)} (h : ∀ p ∈ P, normS p = p) (hn : ∀ p ∈ P, p.length ≤ 1048576) : 0 ≤ sizesF P ∧ sizesF P ≤ P.length * 1168231104512 := by
 refine snoc_ind (P := fun P => (∀ p ∈ P, normS p = p) → (∀ p ∈ P, p.length ≤ 1048576) → 0 ≤ sizesF P ∧ sizesF P ≤ P.length * 1168231104512) ?_ ?_ P h hn
 ·intro _ _; simp [sizesF]
 ·intro P p ih h hn
  have h1 := ih (fun x hx => h x (by simp [hx])) fun x hx => hn x (by simp [hx])
  have h2 := hn p (by simp)
  have h3 := sizeF_range (l := p) fun s hs => by
   rw [← h p (by simp)] at hs
   exact normS_range hs
  rw [sizesF_snoc, List.length_append]
  simp only [List.length_cons, List.length_nil]
  omega
theorem apart_ok {Φ : Lib} (L : LibC3 Φ) (L1 : C1Lib Φ) (S : SortLib Φ) (G : GrowLib Φ) (P : List (Rw Span)) (f : Bool) (hl : P.length ≤ 1048576) (hb : (catS P).length ≤ 524288) : Pure Φ 113 [.rd P.length (P.map Rw.sv) f] (.bool (apartB (plainS P))) := by
 have hu := union_ok L L1 S G P f (by omega) (by omega)
 have hul := normS_length (catS P)
 refine runs_of (fun _ => false) rfl L.f113 ?_
 repeat' first | refine st_nil ?_ | (refine gw ?_; first | (refine gq0 ?_; first | refine st_mv (v := AV.int _ _) rfl ?_ | refine st_mv (v := AV.bool _) rfl ?_ | refine st_mv (v := AV.rd _ _ _) rfl ?_) | refine st_len_rd rfl ?_) | (refine gx ?_; first | refine sx_seq ?_ | refine sx_ops rfl ?_ | refine sx_block ?_) | refine sk_norm ?_
 refine sx_for P.length (fun i env h' => (∀ p ∈ plainS (P.take i), normS p = p) ∧ env.has [(0, .rd P.length (P.map Rw.sv) f), (3, .int .i64 (sizesF (plainS (P.take i)))), (6, .rd P.length (P.map Rw.sv) f), (7, .int .i64 P.length), (8, .int .i64 i)]) ⟨by simp [plainS], hh_⟩ ?_
 rintro i env h' hi ⟨hn, he⟩
 obtain ⟨env, rfl⟩ := he.ex
 clear he
 have hsz := sizesF_range hn fun p hp => by
  obtain ⟨q, hq, rfl⟩ := List.mem_map.1 hp
  obtain ⟨j, hj, rfl⟩ := List.getElem_of_mem (List.mem_of_mem_take hq)
  exact Nat.le_trans (catS_part (List.getElem?_eq_getElem hj)) (by omega)
 rw [show (plainS (P.take i)).length = min i P.length by simp [plainS]] at hsz
 by_cases hi2 : i < P.length
 ·obtain ⟨p, hp⟩ := ex_get hi2
  have hpl := catS_part hp
  have k1 := norm_ok L1 S p.l (by omega) p.fl
  have k2 := equal_ok L1 (normS p.l) p.l false p.fl (by have := normS_length p.l; omega)
  have k3 := size_ok L L1 S p.l (by omega) p.fl
  have hsn : plainS (P.take (i + 1)) = plainS (P.take i) ++ [p.l] := by rw [take_snoc hp]; simp [plainS]
  have hpm : p.l ∈ plainS P := List.mem_map.2 ⟨p, List.mem_of_getElem? hp, rfl⟩
  by_cases hpn : normS p.l = p.l
  ·have hz : sizeF (normS p.l) = sizeF p.l := by rw [hpn]
   rw [decide_eq_true hpn] at k2
   rw [hz] at k3
   have hsz2 := sizeF_range (l := p.l) fun s hs => by
    rw [← hpn] at hs
    exact normS_range hs
   repeat' first | refine st_nil ?_ | (refine gw ?_; first | (refine gq0 ?_; first | refine st_mv (v := AV.int _ _) rfl ?_ | refine st_mv (v := AV.rd _ _ _) rfl ?_) | refine st_load_r rfl b_ pv_ ?_ | (refine gq3 ?_; first | refine st_add rfl rfl rfl (by omega) (by omega) ?_ | (refine st_lss rfl rfl rfl ?_ ?_ <;> (intro hc; try (exfalso; omega)))) | refine st_index_map' rfl rfl hp (by omega) rfl ?_ | refine st_call rfl nt_ ?_ | refine st_not (b := true) rfl ?_) | (refine gx ?_; first | refine sx_seq ?_ | refine sx_ops rfl ?_ | refine sx_skip ?_ | refine sx_block ?_ | refine sx_cond_t rfl ?_ | refine sx_cond_f rfl ?_) | refine sk_norm ?_ | refine bk_norm ?_ | refine call_pure (by assumption) fz_ fz_ ?_
   refine lk_next hi2 ⟨fun q hq => ?_, ?_⟩
   ·rw [hsn] at hq
    rcases List.mem_append.1 hq with hq | hq
    ·exact hn q hq
    ·simp at hq; subst hq; exact hpn
   ·rw [hsn, sizesF_snoc]
    exact hh_
  ·rw [decide_eq_false hpn] at k2
   repeat' first | refine st_nil ?_ | (refine gw ?_; first | (refine gq0 ?_; first | refine st_mv (v := AV.bool _) rfl ?_ | refine st_mv (v := AV.rd _ _ _) rfl ?_) | refine st_load_r rfl b_ pv_ ?_ | (refine st_lss rfl rfl rfl ?_ ?_ <;> (intro hc; try (exfalso; omega))) | refine st_index_map' rfl rfl hp (by omega) rfl ?_ | refine st_call rfl nt_ ?_ | refine st_not (b := false) rfl ?_) | (refine gx ?_; first | refine sx_seq ?_ | refine sx_ops rfl ?_ | refine sx_skip ?_ | refine sx_block ?_ | refine sx_ret ?_ | refine sx_cond_t rfl ?_) | refine sk_norm ?_ | refine sk_ret ?_ | refine bk_ret ?_ | refine lk_ret ?_ | refine call_pure (by assumption) fz_ fz_ ?_ | refine fin_ret (v := AV.bool _) rfl ?_
   rw [apartB_f]
   exact fun h => hpn (h.1 p.l hpm)
 ·rw [List.take_of_length_le (by omega)] at hn ⊢
  have k4 := size_ok L L1 S (normS (catS P)) (by omega) false
  rw [normS_norm] at k4
  obtain ⟨s1, s2⟩ := sizes_apart (plainS P) hn
  rw [← catS_plain] at s1 s2
  repeat' first | refine st_nil ?_ | (refine gw ?_; first | (refine gq0 ?_; first | refine st_mv (v := AV.int _ _) rfl ?_ | refine st_mv (v := AV.bool _) rfl ?_ | refine st_mv (v := AV.rd _ _ _) rfl ?_) | (refine gq3 ?_; first | (refine st_lss rfl rfl rfl ?_ ?_ <;> (intro hc; try (exfalso; omega))) | (refine st_eql rfl rfl rfl ?_ ?_ <;> (intro hc; try (exfalso; omega)))) | refine st_call rfl nt_ ?_) | (refine gx ?_; first | refine sx_seq ?_ | refine sx_ops rfl ?_ | refine sx_ret ?_ | refine sx_exit ?_ | refine sx_cond_f rfl ?_) | refine sk_norm ?_ | refine sk_exit ?_ | refine bk_exit ?_ | refine lk_exit ?_ | refine call_pure (by assumption) fz_ fz_ ?_ | refine fin_ret (v := AV.bool _) rfl ?_
  ·rw [apartB_t hn (s2.1 ‹_›)]
  ·rw [apartB_f]
   exact fun h => absurd (s2.2 h.2) ‹_›
theorem odd_ok {Φ : Lib} (L : LibC3 Φ) (to : Int) (k : Nat) (id : Nat) (h : Heap) (hr : h.get id = some (.cells 0 [.int .i64 k])) :
  Runs Φ 114 [.int .i64 to, .ptr id 0 0] h (fun v h' => v = .bool (decide (to < -1) || decide ((k : Int) ≤ to)) ∧ h.Ext h') := by
 refine runs_of (fun _ => false) rfl L.f114 ?_
 repeat' first | refine st_nil ?_ | (refine gw ?_; first | (refine gq0 ?_; first | refine st_mv (v := AV.int _ _) rfl ?_ | refine st_mv (v := AV.bool _) rfl ?_) | (refine gq1 ?_; first | refine st_skipg rfl ?_ | refine st_gog rfl ?_) | refine st_load_p rfl hg_ (by simp) b_ pv_ ?_ | (refine gq3 ?_; first | (refine st_lss rfl rfl rfl ?_ ?_ <;> (intro hc; try (exfalso; omega))) | (refine st_geq rfl rfl rfl ?_ ?_ <;> (intro hc; try (exfalso; omega)))) | (refine gq7 ?_; first | refine st_pick_t (v := AV.bool _) rfl rfl ?_ | refine st_pick_f (v := AV.bool _) rfl rfl ?_)) | (refine gx ?_; first | refine sx_seq ?_ | refine sx_ops rfl ?_ | refine sx_ret ?_) | refine sk_norm ?_ | refine fin_ret (v := AV.bool _) rfl ?_
 all_goals refine ⟨?_, Heap.Ext.refl _⟩
 all_goals simp [*]
 all_goals omega
structure Dfa.Fits (d : Dfa) : Prop where
 cat : (catS d.parts.l).length ≤ 524288
 parts : d.parts.l.length ≤ 1048576
 next : d.next.l.length ≤ 1048576
 rows : ∀ r ∈ d.next.l, r.l.length ≤ 1048576
 tags : d.tags.l.length ≤ 1048576
noncomputable def soundD (d : Dfa) : Bool := decB d.plain.Ok
theorem soundD_t {d : Dfa} (h : d.plain.Ok) : soundD d = true := decB_t h
theorem soundD_f {d : Dfa} (h : ¬ d.plain.Ok) : soundD d = false := decB_f h
theorem any_odd {r : List Int} {k : Nat} : (r.any fun to => decide (to < -1) || decide ((k : Int) ≤ to)) = false ↔ ∀ x ∈ r, x = -1 ∨ In k x := by
 rw [List.any_eq_false]
 constructor
 ·intro h x hx
  have := h x hx
  simp only [Bool.or_eq_true, decide_eq_true_eq] at this
  unfold In; omega
 ·intro h x hx
  have := h x hx
  unfold In at this
  simp only [Bool.or_eq_true, decide_eq_true_eq]
  omega
theorem dsound_ok {Φ : Lib} (L : LibC3 Φ) (L1 : C1Lib Φ) (S : SortLib Φ) (G : GrowLib Φ) (d : Dfa) (hf : d.Fits) : Pure Φ 100 [.agg d.av] (.bool (soundD d)) := by
 have hfp := hf.parts
 have hfn := hf.next
 have hft := hf.tags
 have hap := apart_ok L L1 S G d.parts.l d.parts.fl (by omega) hf.cat
 have hpl : d.plain.p = d.parts.l.length := by simp [Dfa.plain, plainS, PD.p]
 have hnl : d.plain.n = d.tags.l.length := by simp [Dfa.plain, PD.n]
 have hxl : d.plain.next.length = d.next.l.length := by simp [Dfa.plain, plainI]
 have hrow : ∀ {i : Nat} {r : Rw Int}, d.next.l[i]? = some r → r.l ∈ d.plain.next := fun hr => List.mem_map.2 ⟨_, List.mem_of_getElem? hr, rfl⟩
 refine runs_of (fun _ => false) rfl L.f100 ?_
 cases hA : apartB (plainS d.parts.l)
 all_goals rw [hA] at hap
 ·have hno : ¬ d.plain.Ok := fun h => by
   have := apartB_t (P := plainS d.parts.l) h.norm h.apart
   rw [this] at hA; cases hA
  rw [soundD_f hno]
  repeat' first | refine st_nil ?_ | (refine gw ?_; first | refine st_mv (v := AV.bool _) rfl ?_ | (refine gq1 ?_; first | refine st_skipg rfl ?_ | refine st_gog rfl ?_) | refine st_load_p rfl hg_ (by simp) b_ pv_ ?_ | (refine gq3 ?_; first | (refine st_gtr rfl rfl rfl ?_ ?_ <;> (intro hc; try (exfalso; omega))) | (refine st_eql rfl rfl rfl ?_ ?_ <;> (intro hc; try (exfalso; omega))) | (refine st_neq rfl rfl rfl ?_ ?_ <;> (intro hc; try (exfalso; omega)))) | refine st_field_p rfl (Nat.zero_add _) ?_ | refine st_len_rd rfl ?_ | (refine gq7 ?_; first | refine st_pick_t (v := AV.bool _) rfl rfl ?_ | refine st_pick_f (v := AV.bool _) rfl rfl ?_) | refine st_call rfl nt_ ?_ | (refine st_alloc ?_; intro id hid; try simp only [Heap.set_none] at hid) | (refine st_box (v := AV.agg _) rfl rfl ?_; intro id hid; try simp only [Heap.set_none] at hid) | refine st_store_s (cs' := [AV.int _ _]) rfl rfl rfl rfl b_ rfl ?_ | refine st_not (b := false) rfl ?_) | (refine gx ?_; first | refine sx_seq ?_ | refine sx_ops rfl ?_ | refine sx_ret ?_ | refine sx_cond_t rfl ?_) | refine sk_norm ?_ | refine sk_ret ?_ | refine call_pure (by assumption) fz_ fz_ ?_ | refine fin_ret (v := AV.bool _) rfl ?_
  all_goals rfl
 ·have hA2 := decB_iff.1 hA
  repeat' first | refine st_nil ?_ | (refine gw ?_; first | (refine gq0 ?_; first | refine st_mv (v := AV.int _ _) rfl ?_ | refine st_mv (v := AV.bool _) rfl ?_ | refine st_mv (v := AV.fn _ _) rfl ?_) | (refine gq1 ?_; first | refine st_skipg rfl ?_ | refine st_gog rfl ?_) | refine st_load_p rfl hg_ (by simp) b_ pv_ ?_ | (refine gq3 ?_; first | (refine st_gtr rfl rfl rfl ?_ ?_ <;> (intro hc; try (exfalso; omega))) | (refine st_eql rfl rfl rfl ?_ ?_ <;> (intro hc; try (exfalso; omega))) | (refine st_neq rfl rfl rfl ?_ ?_ <;> (intro hc; try (exfalso; omega)))) | refine st_field_p rfl (Nat.zero_add _) ?_ | refine st_len_rd rfl ?_ | (refine gq7 ?_; first | refine st_pick_t (v := AV.bool _) rfl rfl ?_ | refine st_pick_f (v := AV.bool _) rfl rfl ?_) | refine st_call rfl nt_ ?_ | (refine st_alloc ?_; intro id hid; try simp only [Heap.set_none] at hid) | (refine st_box (v := AV.agg _) rfl rfl ?_; intro id hid; try simp only [Heap.set_none] at hid) | refine st_store_s (cs' := [AV.int _ _]) rfl rfl rfl rfl b_ rfl ?_ | refine st_not (b := true) rfl ?_ | refine st_mkfn (vs := [AV.ptr _ _ _]) rfl rfl ?_) | (refine gx ?_; first | refine sx_seq ?_ | refine sx_ops rfl ?_ | refine sx_skip ?_ | refine sx_block ?_ | refine sx_ret ?_ | refine sx_cond_t rfl ?_ | refine sx_cond_f rfl ?_) | refine sk_norm ?_ | refine sk_ret ?_ | refine call_pure (by assumption) fz_ fz_ ?_ | refine fin_ret (v := AV.bool _) rfl ?_
  all_goals first
   | (rw [soundD_f (fun h => by have := h.p1; have := h.n1; have := h.n2; have := h.nl; omega)]; done)
   | skip
  rename_i ib hib _ _ _
  refine sx_for d.next.l.length (fun i env h' => (∀ r ∈ d.next.l.take i, r.l.length = d.parts.l.length ∧ ∀ x ∈ r.l, x = -1 ∨ In d.tags.l.length x) ∧ (∀ t ∈ d.tags.l.take i, -1 ≤ t) ∧ h'.get ib = some (.cells 0 d.av) ∧ h'.get id = some (.cells 0 [.int .i64 d.tags.l.length]) ∧ env.has [(1, .ptr ib 0 0), (4, .fn 114 [.ptr id 0 0]), (37, d.next.mv Rw.iv), (38, .int .i64 d.next.l.length), (39, .int .i64 i)]) ⟨by simp, by simp, hg_, hg_, hh_⟩ ?_
  rintro i env h' hi ⟨hrs, hts, hb1, hb2, he⟩
  obtain ⟨env, rfl⟩ := he.ex
  clear he
  by_cases hi2 : i < d.next.l.length
  ·obtain ⟨r, hr⟩ := ex_get hi2
   obtain ⟨t, ht⟩ := ex_get (l := d.tags.l) (show i < d.tags.l.length by omega)
   have hrl := hf.rows r (List.mem_of_getElem? hr)
   have hrm := hrow hr
   have htm : t ∈ d.plain.tags := List.mem_of_getElem? ht
   repeat' first | refine st_nil ?_ | (refine gw ?_; first | (refine gq0 ?_; first | refine st_mv (v := AV.int _ _) rfl ?_ | refine st_mv (v := AV.bool _) rfl ?_ | refine st_mv (v := AV.rd _ _ _) rfl ?_ | refine st_mv (v := AV.fn _ _) rfl ?_) | (refine gq1 ?_; first | refine st_skipg rfl ?_ | refine st_gog rfl ?_) | (refine gq2 ?_; first | refine st_load_r rfl b_ pv_ ?_ | refine st_load_p rfl hg_ (by simp) b_ pv_ ?_) | (refine gq3 ?_; first | (refine st_lss rfl rfl rfl ?_ ?_ <;> (intro hc; try (exfalso; omega))) | (refine st_neq rfl rfl rfl ?_ ?_ <;> (intro hc; try (exfalso; omega)))) | refine st_field_p rfl (Nat.zero_add _) ?_ | (refine gq5 ?_; first | refine st_index_map' rfl rfl hr (by omega) rfl ?_ | refine st_index_map' rfl rfl ht (by omega) rfl ?_) | refine st_len_rd rfl ?_ | (refine gq7 ?_; first | refine st_pick_t (v := AV.bool _) rfl rfl ?_ | refine st_pick_f (v := AV.bool _) rfl rfl ?_) | refine st_call rfl nt_ ?_) | (refine gx ?_; first | refine sx_seq ?_ | refine sx_ops rfl ?_ | refine sx_skip ?_ | refine sx_block ?_ | refine sx_ret ?_ | refine sx_cond_t rfl ?_) | refine sk_norm ?_ | refine sk_ret ?_ | refine bk_ret ?_ | refine lk_ret ?_ | refine fin_ret (v := AV.bool _) rfl ?_
   all_goals first
    | (rw [soundD_f (fun h => by have h1 := (h.rows _ hrm).1; have h2 := h.tags _ htm; rw [hpl] at h1; omega)]; done)
    | skip
   refine call_any (containsFunc1_ok L1 r.l r.fl 114 [.ptr id 0 0] _ h' (by omega) fun x _ => odd_ok L x d.tags.l.length id h' hb2) ?_
   rintro _ h2 ⟨rfl, rfl⟩
   cases ho : (r.l.any fun to => decide (to < -1) || decide ((d.tags.l.length : Int) ≤ to))
   ·repeat' first | refine st_nil ?_ | (refine gw ?_; first | refine st_mv (v := AV.int _ _) rfl ?_ | refine st_add rfl rfl rfl (by omega) (by omega) ?_ | refine st_pick_f (v := AV.bool _) rfl rfl ?_) | (refine gx ?_; first | refine sx_ops rfl ?_ | refine sx_skip ?_ | refine sx_cond_f rfl ?_) | refine sk_norm ?_ | refine bk_norm ?_
    refine lk_next hi2 ⟨fun q hq => ?_, fun q hq => ?_, hb1, hb2, hh_⟩
    ·rw [take_snoc hr] at hq
     rcases List.mem_append.1 hq with hq | hq
     ·exact hrs q hq
     ·simp at hq; subst hq
      exact ⟨by omega, any_odd.1 ho⟩
    ·rw [take_snoc ht] at hq
     rcases List.mem_append.1 hq with hq | hq
     ·exact hts q hq
     ·simp at hq; subst hq
      omega
   ·repeat' first | refine st_nil ?_ | (refine gw ?_; first | refine st_mv (v := AV.bool _) rfl ?_ | refine st_pick_f (v := AV.bool _) rfl rfl ?_) | (refine gx ?_; first | refine sx_seq ?_ | refine sx_ops rfl ?_ | refine sx_ret ?_ | refine sx_cond_t rfl ?_) | refine sk_norm ?_ | refine sk_ret ?_ | refine bk_ret ?_ | refine lk_ret ?_ | refine fin_ret (v := AV.bool _) rfl ?_
    rw [soundD_f]
    intro h
    have h1 := any_odd.2 (h.rows _ hrm).2
    rw [hnl, ho] at h1
    cases h1
  ·rw [List.take_of_length_le (by omega)] at hrs
   rw [List.take_of_length_le (by omega)] at hts
   repeat' first | refine st_nil ?_ | (refine gw ?_; first | refine st_mv (v := AV.bool _) rfl ?_ | (refine st_lss rfl rfl rfl ?_ ?_ <;> (intro hc; try (exfalso; omega)))) | (refine gx ?_; first | refine sx_seq ?_ | refine sx_ops rfl ?_ | refine sx_ret ?_ | refine sx_exit ?_ | refine sx_cond_f rfl ?_) | refine sk_norm ?_ | refine sk_exit ?_ | refine bk_exit ?_ | refine lk_exit ?_ | refine fin_ret (v := AV.bool _) rfl ?_
   rw [soundD_t]
   refine ⟨by omega, by omega, by omega, by omega, hA2.1, hA2.2, fun r hr => ?_, hts⟩
   obtain ⟨q, hq, rfl⟩ := List.mem_map.1 hr
   rw [hpl, hnl]
   exact hrs q hq
end Go.Proofs.YtdldfflfbfpngaaGreatDoor
