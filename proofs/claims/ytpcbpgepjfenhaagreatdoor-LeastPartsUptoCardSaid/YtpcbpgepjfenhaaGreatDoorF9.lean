/- The statements: parts. -/
import Derived.Test.YtpcbpgepjfenhaaGreatDoorF8
set_option linter.unusedVariables false
set_option linter.unusedSimpArgs false
namespace Go.Proofs.YtpcbpgepjfenhaaGreatDoor
open Go
set_option maxHeartbeats 4000000
theorem sizeF_pos {l : List Span} (hl : l ≠ []) (hn : normS l = l) : 0 < sizeF (normS l) := by
 have hr := fun s hs => normS_range (l := l) (s := s) hs
 rw [hn] at hr ⊢
 cases l with
 | nil => exact absurd rfl hl
 | cons a l =>
  rw [sizeF_cons]
  have h1 := hr a (by simp)
  have h2 := (sizeF_range (l := l) fun s hs => hr s (by simp [hs])).1
  omega
attribute [local irreducible] wops xcode wcode seqK blockK loopK finK wcall wop wstp Runs
set_option maxRecDepth 100000 in
theorem parts_ok {Φ : Lib} (L : LibC3 Φ) (L1 : C1Lib Φ) (L2 : C2Lib Φ) (L4 : LibC4 Φ) (S : SortLib Φ) (G : GrowLib Φ) (J : JoinLib Φ) (kk : Int) (hk : 0 ≤ kk ∧ kk ≤ 255) (l : List Arc) (fl : Bool) (hl : l.length ≤ 1048576) (ha : ∀ a ∈ l, a.Ok) (tg : List Int) (ft : Bool) (htl : tg.length ≤ 1048576) (htg : ∀ t ∈ tg, -128 ≤ t ∧ t ≤ 127) :
  Pure Φ 92 [.int .u8 kk, .rd l.length (l.flatMap Arc.av) fl, .rd tg.length (tg.map (.int .i8)) ft] (.bool true) := by
 have hkn := known11_ok L L1 S G J
 refine runs_of (fun _ => false) rfl L4.f92 ?_
 repeat' first | refine st_nil ?_ | (refine gw ?_; first | refine st_mv rx_ ?_ | refine st_call rfl nt_ ?_) | (refine gx ?_; first | refine sx_seq ?_ | refine sx_ops rfl ?_) | refine sk_norm ?_
 refine call_ex (machine_ok L2 kk hk l fl hl ha tg ft htl htg) (by simp [AV.frozenL, AV.frozen]) (by rintro _ ⟨n, rfl, _⟩; simp [AV.frozen, AV.frozenL]) ?_
 rintro _ ⟨n, rfl, hn, hf, hsm⟩
 repeat' first | refine st_call rfl nt_ ?_
 refine call_ex (rof11_ok L L2 L4 n hn hf hsm) (by simp [AV.frozenL, AV.frozen]) ?_ ?_
 ·rintro _ (⟨e, _, rfl⟩ | ⟨d, rfl, _⟩) <;> simp [AV.frozen, AV.frozenL]
 rintro _ (⟨e, he0, rfl⟩ | ⟨d, rfl, hok, hw, hts⟩)
 ·repeat' first | refine st_nil ?_ | (refine gw ?_; first | refine st_mv rx_ ?_ | (refine g3 ?_; first | refine st_bin_t1 rx_ ?_ | (refine st_neq rfl rfl rfl ?_ ?_ <;> (intro hc; try (exfalso; omega)))) | (refine g13 ?_; first | refine st_store_t1 rx_ ?_ | refine st_store_t2 rx_ ?_ | refine st_store_s (cs' := [AV.rd _ _ _, AV.rd _ _ _, AV.rd _ _ _]) rfl rfl rfl rfl b_ rfl ?_) | refine st_skipg rfl ?_ | refine st_pick_t (v := AV.bool _) rfl rfl ?_ | refine st_call rfl nt_ ?_ | (refine st_alloc ?_; intro id hid; try simp only [Heap.set_none] at hid) | refine st_extract rfl rfl ?_) | (refine gx ?_; first | refine sx_seq ?_ | refine sx_ops rfl ?_ | refine sx_ret ?_ | refine sx_cond_t rfl ?_) | refine sk_norm ?_ | refine sk_ret ?_ | refine call_pure (by assumption) fz_ fz_ ?_
  all_goals exact fin_ret (v := .bool true) rfl rfl
 ·by_cases hl25 : 25 < l.length
  ·repeat' first | refine st_nil ?_ | (refine gw ?_; first | refine st_mv rx_ ?_ | (refine g3 ?_; first | refine st_bin_t1 rx_ ?_ | (refine st_gtr rfl rfl rfl ?_ ?_ <;> (intro hc; try (exfalso; omega))) | (refine st_neq rfl rfl rfl ?_ ?_ <;> (intro hc; try (exfalso; omega)))) | (refine g13 ?_; first | refine st_store_t1 rx_ ?_ | refine st_store_t2 rx_ ?_ | refine st_store_s (cs' := [AV.rd _ _ _, AV.rd _ _ _, AV.rd _ _ _]) rfl rfl rfl rfl b_ rfl ?_) | (refine g6 ?_; first | refine st_len_t rx_ ?_ | refine st_len_rd rfl ?_) | (refine g1 ?_; first | refine st_skipg rfl ?_ | refine st_gog rfl ?_) | (refine g7 ?_; first | refine st_pick_t (v := AV.bool _) rfl rfl ?_ | refine st_pick_f (v := AV.bool _) rfl rfl ?_) | refine st_call rfl nt_ ?_ | (refine st_alloc ?_; intro id hid; try simp only [Heap.set_none] at hid) | refine st_extract rfl rfl ?_) | (refine gx ?_; first | refine sx_seq ?_ | refine sx_ops rfl ?_ | refine sx_ret ?_ | refine sx_cond_t rfl ?_) | refine sk_norm ?_ | refine sk_ret ?_ | refine call_pure (by assumption) fz_ fz_ ?_
   all_goals exact fin_ret (v := .bool true) rfl rfl
  ·repeat' first | refine st_nil ?_ | (refine gw ?_; first | refine st_mv rx_ ?_ | (refine g2 ?_; first | refine st_load_t rx_ ?_ | refine st_load_p rfl hg_ (by simp) b_ pv_ ?_) | (refine g3 ?_; first | refine st_bin_t1 rx_ ?_ | (refine st_gtr rfl rfl rfl ?_ ?_ <;> (intro hc; try (exfalso; omega))) | (refine st_neq rfl rfl rfl ?_ ?_ <;> (intro hc; try (exfalso; omega)))) | (refine g13 ?_; first | refine st_store_t1 rx_ ?_ | refine st_store_t2 rx_ ?_ | refine st_store_s (cs' := [AV.rd _ _ _, AV.rd _ _ _, AV.rd _ _ _]) rfl rfl rfl rfl b_ rfl ?_) | (refine g6 ?_; first | refine st_len_t rx_ ?_ | refine st_len_rd rfl ?_) | refine st_gog rfl ?_ | refine st_pick_f (v := AV.bool _) rfl rfl ?_ | refine st_call rfl nt_ ?_ | (refine st_alloc ?_; intro id hid; try simp only [Heap.set_none] at hid) | refine st_not (b := true) rfl ?_ | refine st_extract rfl rfl ?_) | (refine gx ?_; first | refine sx_seq ?_ | refine sx_ops rfl ?_ | refine sx_skip ?_ | refine sx_cond_f rfl ?_) | refine sk_norm ?_ | refine call_pure (by assumption) fz_ fz_ ?_
   refine least_good L L1 S G J d hw.fits (fun t ht => by have := hts t ht; omega) hok ?_
   intro x hx
   have hxo := hx.ok hok
   have hxw := hx.wide hok hw.fits
   obtain ⟨hne, hany, hapart⟩ := hx.parts hok
   have hpl : x.plain.p = x.parts.l.length := by simp [Dfa.plain, plainS, PD.p]
   have hp2 := hxo.p1
   have htab := hxo.tab
   have hn2 := hxo.n2
   have hnn : x.plain.n = x.tags.l.length := by simp [Dfa.plain, PD.n]
   have hrl : x.next.l.length = x.plain.n := by
    have := hxo.nl
    simpa [Dfa.plain, plainI] using this
   have hcol : ∀ (s : Nat) (r : Rw Int) (q : Nat) (z : Int), x.next.l[s]? = some r → r.l[q]? = some z → col x.plain.row s q = z := fun s r q z h1 h2 => by
    simp [col, PD.row, Dfa.plain, plainI, List.getD_eq_getElem?_getD, h1, h2]
   have hlen : ∀ (s : Nat) (r : Rw Int), x.next.l[s]? = some r → r.l.length = x.parts.l.length := fun s r h1 => by
    have h2 := lt_of_getElem? h1
    have h3 := htab.len (s : Int) (by unfold In; omega)
    rw [← hpl, ← h3]
    simp [PD.row, Dfa.plain, plainI, List.getD_eq_getElem?_getD, h1]
   repeat' first | refine st_nil ?_ | (refine gw ?_; first | refine st_mv rx_ ?_ | (refine g3 ?_; first | refine st_bin_t1 rx_ ?_ | (refine st_neq rfl rfl rfl ?_ ?_ <;> (intro hc; try (exfalso; omega)))) | (refine g13 ?_; first | refine st_store_t1 rx_ ?_ | refine st_store_t2 rx_ ?_ | refine st_store_s (cs' := [AV.rd _ _ _, AV.rd _ _ _, AV.rd _ _ _]) rfl rfl rfl rfl b_ rfl ?_) | (refine st_alloc ?_; intro id hid; try simp only [Heap.set_none] at hid) | refine st_extract rfl rfl ?_) | (refine gx ?_; first | refine sx_seq ?_ | refine sx_ops rfl ?_ | refine sx_skip ?_ | refine sx_block ?_ | refine sx_cond_f rfl ?_) | refine sk_norm ?_
   rename_i i7 hi7 hc7
   obtain ⟨i9, rfl⟩ : ∃ y, y = id := ⟨_, rfl⟩
   refine sx_for x.parts.l.length (fun p env h' => h'.get i9 = some (.cells 0 x.av) ∧ env.has [(9, .ptr i9 0 0), (11, .int .i64 p)]) ⟨Heap.get_set_self _ _ _, hh_⟩ ?_
   rintro p env h' hp ⟨h9, he⟩
   obtain ⟨env, rfl⟩ := he.ex
   clear he
   by_cases hp3 : p < x.parts.l.length
   ·repeat' first | refine st_nil ?_ | (refine gw ?_; first | refine st_mv rx_ ?_ | (refine g2 ?_; first | refine st_load_t rx_ ?_ | refine st_load_p rfl hg_ (by simp) b_ pv_ ?_) | (refine g3 ?_; first | refine st_bin_t1 rx_ ?_ | refine st_bin_t2 rx_ ?_ | (refine st_lss rfl rfl rfl ?_ ?_ <;> (intro hc; try (exfalso; omega)))) | (refine g6 ?_; first | refine st_len_t rx_ ?_ | refine st_len_rd rfl ?_) | (refine g4 ?_; first | refine st_field_t rx_ ?_ | refine st_field_p rfl (Nat.zero_add _) ?_)) | (refine gx ?_; first | refine sx_seq ?_ | refine sx_ops rfl ?_ | refine sx_skip ?_ | refine sx_block ?_ | refine sx_cond_t rfl ?_) | refine sk_norm ?_
    refine sx_for x.next.l.length (fun i env h' => h'.get i9 = some (.cells 0 x.av) ∧ ∃ b : Bool, (b = false → ∀ s : Nat, s < i → col x.plain.row s p = -1) ∧ env.has [(9, .ptr i9 0 0), (11, .int .i64 p), (12, .bool b), (13, .int .i64 i)]) ⟨h9, false, fun _ s hs => by omega, hh_⟩ ?_
    clear h9
    rintro i env h' hi ⟨h9, b, hb, he⟩
    obtain ⟨env, rfl⟩ := he.ex
    clear he
    by_cases hi2 : i < x.next.l.length
    ·obtain ⟨r, hr⟩ := ex_get hi2
     have hrle := hlen i r hr
     obtain ⟨z, hz⟩ := ex_get (l := r.l) (i := p) (by omega)
     have hzc := hcol i r p z hr hz
     cases b with
     | true =>
      repeat' first | refine st_nil ?_ | (refine gw ?_; first | refine st_mv rx_ ?_ | (refine g2 ?_; first | refine st_load_t rx_ ?_ | refine st_load_p rfl hg_ (by simp) b_ pv_ ?_) | (refine g3 ?_; first | refine st_bin_t1 rx_ ?_ | refine st_bin_t2 rx_ ?_ | refine st_add rfl rfl rfl (by omega) (by omega) ?_ | (refine st_lss rfl rfl rfl ?_ ?_ <;> (intro hc; try (exfalso; omega)))) | (refine g6 ?_; first | refine st_len_t rx_ ?_ | refine st_len_rd rfl ?_) | (refine g4 ?_; first | refine st_field_t rx_ ?_ | refine st_field_p rfl (Nat.zero_add _) ?_) | refine st_skipg rfl ?_ | refine st_pick_t (v := AV.bool _) rfl rfl ?_) | (refine gx ?_; first | refine sx_seq ?_ | refine sx_ops rfl ?_ | refine sx_skip ?_ | refine sx_block ?_ | refine sx_cond_t rfl ?_) | refine sk_norm ?_ | refine bk_norm ?_
      exact lk_next hi2 ⟨h9, true, (fun h => by cases h), hh_⟩
     | false =>
      by_cases hz0 : 0 ≤ z
      ·repeat' first | refine st_nil ?_ | (refine gw ?_; first | refine st_mv rx_ ?_ | (refine g2 ?_; first | refine st_load_t rx_ ?_ | refine st_load_r rfl b_ pv_ ?_ | refine st_load_p rfl hg_ (by simp) b_ pv_ ?_) | (refine g3 ?_; first | refine st_bin_t1 rx_ ?_ | refine st_bin_t2 rx_ ?_ | refine st_add rfl rfl rfl (by omega) (by omega) ?_ | (refine st_lss rfl rfl rfl ?_ ?_ <;> (intro hc; try (exfalso; omega))) | (refine st_geq rfl rfl rfl ?_ ?_ <;> (intro hc; try (exfalso; omega)))) | (refine g5 ?_; first | refine st_index_t1 rx_ ?_ | refine st_index_t2 rx_ ?_ | refine st_index_map' rfl rfl hr (by omega) rfl ?_ | refine st_index_map' rfl rfl hz (by omega) rfl ?_) | (refine g6 ?_; first | refine st_len_t rx_ ?_ | refine st_len_rd rfl ?_) | (refine g4 ?_; first | refine st_field_t rx_ ?_ | refine st_field_p rfl (Nat.zero_add _) ?_) | refine st_gog rfl ?_ | refine st_pick_f (v := AV.bool _) rfl rfl ?_) | (refine gx ?_; first | refine sx_seq ?_ | refine sx_ops rfl ?_ | refine sx_skip ?_ | refine sx_block ?_ | refine sx_cond_t rfl ?_) | refine sk_norm ?_ | refine bk_norm ?_
       exact lk_next hi2 ⟨h9, true, (fun h => by cases h), hh_⟩
      ·repeat' first | refine st_nil ?_ | (refine gw ?_; first | refine st_mv rx_ ?_ | (refine g2 ?_; first | refine st_load_t rx_ ?_ | refine st_load_r rfl b_ pv_ ?_ | refine st_load_p rfl hg_ (by simp) b_ pv_ ?_) | (refine g3 ?_; first | refine st_bin_t1 rx_ ?_ | refine st_bin_t2 rx_ ?_ | refine st_add rfl rfl rfl (by omega) (by omega) ?_ | (refine st_lss rfl rfl rfl ?_ ?_ <;> (intro hc; try (exfalso; omega))) | (refine st_geq rfl rfl rfl ?_ ?_ <;> (intro hc; try (exfalso; omega)))) | (refine g5 ?_; first | refine st_index_t1 rx_ ?_ | refine st_index_t2 rx_ ?_ | refine st_index_map' rfl rfl hr (by omega) rfl ?_ | refine st_index_map' rfl rfl hz (by omega) rfl ?_) | (refine g6 ?_; first | refine st_len_t rx_ ?_ | refine st_len_rd rfl ?_) | (refine g4 ?_; first | refine st_field_t rx_ ?_ | refine st_field_p rfl (Nat.zero_add _) ?_) | refine st_gog rfl ?_ | refine st_pick_f (v := AV.bool _) rfl rfl ?_) | (refine gx ?_; first | refine sx_seq ?_ | refine sx_ops rfl ?_ | refine sx_skip ?_ | refine sx_block ?_ | refine sx_cond_t rfl ?_) | refine sk_norm ?_ | refine bk_norm ?_
       refine lk_next hi2 ⟨h9, false, fun _ s hs => ?_, hh_⟩
       by_cases e : s = i
       ·subst e
        rcases htab.col (s := (s : Int)) (by unfold In; omega) p with h1 | h1
        ·exact h1
        ·rw [hzc] at h1 ⊢
         unfold In at h1; omega
       ·exact hb rfl s (by omega)
    ·have hi3 : i = x.next.l.length := by omega
     subst hi3
     have hbt : b = true := by
      cases b with
      | true => rfl
      | false =>
       obtain ⟨s, hs, hsc⟩ := hany p (by omega)
       have hs2 : s = (s.toNat : Int) := by unfold In at hs; omega
       rw [hs2] at hsc
       exact absurd (hb rfl s.toNat (by unfold In at hs; omega)) hsc
     subst hbt
     obtain ⟨q, hq⟩ := ex_get hp3
     have hqn : normS q.l = q.l := hxo.norm q.l (List.mem_map.2 ⟨q, List.mem_of_getElem? hq, rfl⟩)
     have hqe : q.l ≠ [] := hne q.l (List.mem_map.2 ⟨q, List.mem_of_getElem? hq, rfl⟩)
     have hqw := hxw.wide q (List.mem_of_getElem? hq)
     have hsz := sizeF_pos hqe hqn
     have hql : q.l.length ≤ 1048576 := by
      have h1 := hxw.fits.cat
      have h2 : q.l.length ≤ (catS x.parts.l).length := by
       obtain ⟨a, b, hab⟩ := List.append_of_mem (List.mem_of_getElem? hq)
       rw [hab]
       simp only [catS, List.flatMap_append, List.flatMap_cons, List.length_append]
       omega
      omega
     have ks := rsize_ok L4 L2 q.l hql hqw.hi q.fl
     generalize sizeF (normS q.l) = sz at ks hsz
     repeat' first | refine st_nil ?_ | (refine gw ?_; first | refine st_mv rx_ ?_ | (refine g2 ?_; first | refine st_load_t rx_ ?_ | refine st_load_r rfl b_ pv_ ?_ | refine st_load_p rfl hg_ (by simp) b_ pv_ ?_) | (refine g3 ?_; first | refine st_bin_t1 rx_ ?_ | refine st_bin_t2 rx_ ?_ | (refine st_lss rfl rfl rfl ?_ ?_ <;> (intro hc; try (exfalso; omega))) | (refine st_eql rfl rfl rfl ?_ ?_ <;> (intro hc; try (exfalso; omega)))) | (refine g5 ?_; first | refine st_index_t1 rx_ ?_ | refine st_index_t2 rx_ ?_ | refine st_index_map' rfl rfl hq (by omega) rfl ?_) | (refine g6 ?_; first | refine st_len_t rx_ ?_ | refine st_len_rd rfl ?_) | (refine g4 ?_; first | refine st_field_t rx_ ?_ | refine st_field_p rfl (Nat.zero_add _) ?_) | refine st_gog rfl ?_ | refine st_pick_f (v := AV.bool _) rfl rfl ?_ | refine st_call rfl nt_ ?_ | refine st_not (b := true) rfl ?_) | (refine gx ?_; first | refine sx_seq ?_ | refine sx_ops rfl ?_ | refine sx_skip ?_ | refine sx_block ?_ | refine sx_exit ?_ | refine sx_cond_f rfl ?_) | refine sk_norm ?_ | refine sk_exit ?_ | refine bk_exit ?_ | refine lk_exit ?_ | refine call_pure (by assumption) fz_ fz_ ?_
     refine sx_for p (fun j env h' => h'.get i9 = some (.cells 0 x.av) ∧ env.has [(9, .ptr i9 0 0), (11, .int .i64 p), (14, .int .i64 j)]) ⟨h9, hh_⟩ ?_
     clear h9
     rintro j env h' hj ⟨h9, he⟩
     obtain ⟨env, rfl⟩ := he.ex
     clear he
     by_cases hj2 : j < p
     ·repeat' first | refine st_nil ?_ | (refine gw ?_; first | refine st_mv rx_ ?_ | (refine g3 ?_; first | refine st_bin_t1 rx_ ?_ | refine st_bin_t2 rx_ ?_ | (refine st_lss rfl rfl rfl ?_ ?_ <;> (intro hc; try (exfalso; omega))))) | (refine gx ?_; first | refine sx_seq ?_ | refine sx_ops rfl ?_ | refine sx_skip ?_ | refine sx_block ?_ | refine sx_cond_t rfl ?_) | refine sk_norm ?_
      refine sx_for x.next.l.length (fun i env h' => h'.get i9 = some (.cells 0 x.av) ∧ ∃ b : Bool, (b = false → ∀ s : Nat, s < i → col x.plain.row s p = col x.plain.row s j) ∧ env.has [(9, .ptr i9 0 0), (11, .int .i64 p), (14, .int .i64 j), (15, .bool b), (16, .int .i64 i)]) ⟨h9, false, fun _ s hs => by omega, hh_⟩ ?_
      clear h9 hb
      rintro i env h' hi ⟨h9, b, hb, he⟩
      obtain ⟨env, rfl⟩ := he.ex
      clear he
      by_cases hi2 : i < x.next.l.length
      ·obtain ⟨r, hr⟩ := ex_get hi2
       have hrle := hlen i r hr
       obtain ⟨z, hz⟩ := ex_get (l := r.l) (i := p) (by omega)
       obtain ⟨w, hw2⟩ := ex_get (l := r.l) (i := j) (by omega)
       have hzc := hcol i r p z hr hz
       have hwc := hcol i r j w hr hw2
       cases b with
       | true =>
        repeat' first | refine st_nil ?_ | (refine gw ?_; first | refine st_mv rx_ ?_ | (refine g2 ?_; first | refine st_load_t rx_ ?_ | refine st_load_p rfl hg_ (by simp) b_ pv_ ?_) | (refine g3 ?_; first | refine st_bin_t1 rx_ ?_ | refine st_bin_t2 rx_ ?_ | refine st_add rfl rfl rfl (by omega) (by omega) ?_ | (refine st_lss rfl rfl rfl ?_ ?_ <;> (intro hc; try (exfalso; omega)))) | (refine g6 ?_; first | refine st_len_t rx_ ?_ | refine st_len_rd rfl ?_) | (refine g4 ?_; first | refine st_field_t rx_ ?_ | refine st_field_p rfl (Nat.zero_add _) ?_) | refine st_skipg rfl ?_ | refine st_pick_t (v := AV.bool _) rfl rfl ?_) | (refine gx ?_; first | refine sx_seq ?_ | refine sx_ops rfl ?_ | refine sx_skip ?_ | refine sx_block ?_ | refine sx_cond_t rfl ?_) | refine sk_norm ?_ | refine bk_norm ?_
        exact lk_next hi2 ⟨h9, true, (fun h => by cases h), hh_⟩
       | false =>
        by_cases hzw : z = w
        ·subst hzw
         repeat' first | refine st_nil ?_ | (refine gw ?_; first | refine st_mv rx_ ?_ | (refine g2 ?_; first | refine st_load_t rx_ ?_ | refine st_load_r rfl b_ pv_ ?_ | refine st_load_p rfl hg_ (by simp) b_ pv_ ?_) | (refine g3 ?_; first | refine st_bin_t1 rx_ ?_ | refine st_bin_t2 rx_ ?_ | refine st_add rfl rfl rfl (by omega) (by omega) ?_ | (refine st_lss rfl rfl rfl ?_ ?_ <;> (intro hc; try (exfalso; omega))) | (refine st_neq rfl rfl rfl ?_ ?_ <;> (intro hc; try (exfalso; omega)))) | (refine g5 ?_; first | refine st_index_t1 rx_ ?_ | refine st_index_t2 rx_ ?_ | refine st_index_map' rfl rfl hr (by omega) rfl ?_ | refine st_index_map' rfl rfl hz (by omega) rfl ?_ | refine st_index_map' rfl rfl hw2 (by omega) rfl ?_) | (refine g6 ?_; first | refine st_len_t rx_ ?_ | refine st_len_rd rfl ?_) | (refine g4 ?_; first | refine st_field_t rx_ ?_ | refine st_field_p rfl (Nat.zero_add _) ?_) | refine st_gog rfl ?_ | refine st_pick_f (v := AV.bool _) rfl rfl ?_) | (refine gx ?_; first | refine sx_seq ?_ | refine sx_ops rfl ?_ | refine sx_skip ?_ | refine sx_block ?_ | refine sx_cond_t rfl ?_) | refine sk_norm ?_ | refine bk_norm ?_
         refine lk_next hi2 ⟨h9, false, fun _ s hs => ?_, hh_⟩
         by_cases e : s = i
         ·subst e
          rw [hzc, hwc]
         ·exact hb rfl s (by omega)
        ·repeat' first | refine st_nil ?_ | (refine gw ?_; first | refine st_mv rx_ ?_ | (refine g2 ?_; first | refine st_load_t rx_ ?_ | refine st_load_r rfl b_ pv_ ?_ | refine st_load_p rfl hg_ (by simp) b_ pv_ ?_) | (refine g3 ?_; first | refine st_bin_t1 rx_ ?_ | refine st_bin_t2 rx_ ?_ | refine st_add rfl rfl rfl (by omega) (by omega) ?_ | (refine st_lss rfl rfl rfl ?_ ?_ <;> (intro hc; try (exfalso; omega))) | (refine st_neq rfl rfl rfl ?_ ?_ <;> (intro hc; try (exfalso; omega)))) | (refine g5 ?_; first | refine st_index_t1 rx_ ?_ | refine st_index_t2 rx_ ?_ | refine st_index_map' rfl rfl hr (by omega) rfl ?_ | refine st_index_map' rfl rfl hz (by omega) rfl ?_ | refine st_index_map' rfl rfl hw2 (by omega) rfl ?_) | (refine g6 ?_; first | refine st_len_t rx_ ?_ | refine st_len_rd rfl ?_) | (refine g4 ?_; first | refine st_field_t rx_ ?_ | refine st_field_p rfl (Nat.zero_add _) ?_) | refine st_gog rfl ?_ | refine st_pick_f (v := AV.bool _) rfl rfl ?_) | (refine gx ?_; first | refine sx_seq ?_ | refine sx_ops rfl ?_ | refine sx_skip ?_ | refine sx_block ?_ | refine sx_cond_t rfl ?_) | refine sk_norm ?_ | refine bk_norm ?_
         exact lk_next hi2 ⟨h9, true, (fun h => by cases h), hh_⟩
      ·have hi3 : i = x.next.l.length := by omega
       subst hi3
       have hbt : b = true := by
        cases b with
        | true => rfl
        | false =>
         have := hapart p j (by omega) (by omega) fun s hs => by
          have hs2 : s = (s.toNat : Int) := by unfold In at hs; omega
          rw [hs2]
          exact hb rfl s.toNat (by unfold In at hs; omega)
         omega
       subst hbt
       repeat' first | refine st_nil ?_ | (refine gw ?_; first | refine st_mv rx_ ?_ | (refine g2 ?_; first | refine st_load_t rx_ ?_ | refine st_load_p rfl hg_ (by simp) b_ pv_ ?_) | (refine g3 ?_; first | refine st_bin_t1 rx_ ?_ | refine st_bin_t2 rx_ ?_ | refine st_add rfl rfl rfl (by omega) (by omega) ?_ | (refine st_lss rfl rfl rfl ?_ ?_ <;> (intro hc; try (exfalso; omega)))) | (refine g6 ?_; first | refine st_len_t rx_ ?_ | refine st_len_rd rfl ?_) | (refine g4 ?_; first | refine st_field_t rx_ ?_ | refine st_field_p rfl (Nat.zero_add _) ?_) | refine st_not (b := true) rfl ?_) | (refine gx ?_; first | refine sx_seq ?_ | refine sx_ops rfl ?_ | refine sx_skip ?_ | refine sx_exit ?_ | refine sx_cond_f rfl ?_) | refine sk_norm ?_ | refine sk_exit ?_ | refine bk_norm ?_ | refine bk_exit ?_ | refine lk_exit ?_
       exact lk_next hj2 ⟨h9, hh_⟩
     ·have hj3 : j = p := by omega
      subst hj3
      repeat' first | refine st_nil ?_ | (refine gw ?_; first | refine st_mv rx_ ?_ | (refine g3 ?_; first | refine st_bin_t1 rx_ ?_ | refine st_bin_t2 rx_ ?_ | refine st_add rfl rfl rfl (by omega) (by omega) ?_ | (refine st_lss rfl rfl rfl ?_ ?_ <;> (intro hc; try (exfalso; omega))))) | (refine gx ?_; first | refine sx_seq ?_ | refine sx_ops rfl ?_ | refine sx_exit ?_ | refine sx_cond_f rfl ?_) | refine sk_norm ?_ | refine sk_exit ?_ | refine bk_norm ?_ | refine bk_exit ?_ | refine lk_exit ?_
      exact lk_next hp3 ⟨h9, hh_⟩
   ·repeat' first | refine st_nil ?_ | (refine gw ?_; first | refine st_mv rx_ ?_ | (refine g2 ?_; first | refine st_load_t rx_ ?_ | refine st_load_p rfl hg_ (by simp) b_ pv_ ?_) | (refine g3 ?_; first | refine st_bin_t1 rx_ ?_ | refine st_bin_t2 rx_ ?_ | (refine st_lss rfl rfl rfl ?_ ?_ <;> (intro hc; try (exfalso; omega)))) | (refine g6 ?_; first | refine st_len_t rx_ ?_ | refine st_len_rd rfl ?_) | (refine g4 ?_; first | refine st_field_t rx_ ?_ | refine st_field_p rfl (Nat.zero_add _) ?_)) | (refine gx ?_; first | refine sx_seq ?_ | refine sx_ops rfl ?_ | refine sx_ret ?_ | refine sx_exit ?_ | refine sx_cond_f rfl ?_) | refine sk_norm ?_ | refine sk_exit ?_ | refine bk_exit ?_ | refine lk_exit ?_
    exact fin_ret (v := .bool true) rfl rfl
end Go.Proofs.YtpcbpgepjfenhaaGreatDoor
