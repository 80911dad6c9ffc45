/- A least machine is no larger: it fits where the machine did. Alike machines; the statements' known machine. The known machine: the plain law. -/
import Derived.Test.YtdldfflfbfpngaaGreatDoorF1
set_option linter.unusedVariables false
set_option linter.unusedSimpArgs false
namespace Go.Proofs.YtdldfflfbfpngaaGreatDoor
open Go
attribute [local irreducible] wops xcode wcode seqK blockK loopK finK wcall wop wstp Runs
theorem wide_of {x : Dfa} (hx : x.plain.Ok) (hc : (catL x.plain.parts).length ≤ 524288) : x.Wide := by
 have hpl : x.plain.p = x.parts.l.length := by simp [Dfa.plain, plainS, PD.p]
 have hnl : x.plain.n = x.tags.l.length := by simp [Dfa.plain, PD.n]
 have hxl : x.plain.next.length = x.next.l.length := by simp [Dfa.plain, plainI]
 have h1 := hx.p1
 have h2 := hx.n2
 have h3 := hx.nl
 refine ⟨⟨by rw [catS_plain]; exact hc, by omega, by omega, fun r hr => ?_, by omega⟩, fun p hp => ?_⟩
 ·have := (hx.rows r.l (List.mem_map.2 ⟨r, hr, rfl⟩)).1
  omega
 ·have hn := hx.norm p.l (List.mem_map.2 ⟨p, hp, rfl⟩)
  have h4 := norm_len_le hn
  have h5 := norm_range hn
  refine ⟨by omega, fun s hs => ?_⟩
  have h6 := (norm_canon hn).2 s hs
  have := h5 s hs
  omega
end Go.Proofs.YtdldfflfbfpngaaGreatDoor
set_option linter.unusedVariables false
set_option linter.unusedSimpArgs false
namespace Go.Proofs.YtdldfflfbfpngaaGreatDoor
open Go
set_option maxHeartbeats 4000000
attribute [local irreducible] wops xcode wcode seqK blockK loopK finK wcall wop wstp Runs
theorem plain_eq {d e : Dfa} : d.plain = e.plain ↔ plainS d.parts.l = plainS e.parts.l ∧ d.tags.l = e.tags.l ∧ d.next.l.length = e.next.l.length ∧ ∀ (i : Nat) (r q : Rw Int), d.next.l[i]? = some r → e.next.l[i]? = some q → r.l = q.l := by
 rw [PD.ext'_iff]
 constructor
 ·rintro ⟨h1, h2, h3⟩
  refine ⟨h1, h3, ?_, fun i r q hr hq => ?_⟩
  ·have := congrArg List.length h2
   simpa [Dfa.plain, plainI] using this
  ·have := congrArg (fun l : List (List Int) => l[i]?) h2
   simpa [Dfa.plain, plainI, hr, hq] using this
 ·rintro ⟨h1, h3, h4, h5⟩
  refine ⟨h1, ?_, h3⟩
  refine List.ext_getElem (by simpa [Dfa.plain, plainI] using h4) fun i a b => ?_
  have a' : i < d.next.l.length := by simpa [Dfa.plain, plainI] using a
  have b' : i < e.next.l.length := by omega
  have := h5 i _ _ (List.getElem?_eq_getElem a') (List.getElem?_eq_getElem b')
  simpa [Dfa.plain, plainI] using this
theorem rsame11_ok {Φ : Lib} (L : LibC3 Φ) (L2 : C2Lib Φ) (d e : Dfa) (hd : d.Wide) (he : e.Wide) : Pure Φ 159 [.agg d.av, .agg e.av] (.bool (decB (d.plain = e.plain))) := by
 have hfp := hd.fits.parts
 have hfn := hd.fits.next
 have hft := hd.fits.tags
 have hgn := he.fits.next
 have k1 := same10_ok L L2 d.parts e.parts (by omega) (fun r hr => by have := (hd.wide r hr).len; omega)
 have k2 := same11_ok L d.tags e.tags (by omega)
 refine runs_of (fun _ => false) rfl L.f159 ?_
 refine sx_seq ?_
 refine sx_ops rfl ?_
 refine st_box (v := .agg d.av) rfl rfl ?_
 intro ib hib
 have hbox : (Heap.empty.set ib (.cells 0 (AV.agg d.av).cells)).get ib = some (.cells 0 d.av) := Heap.get_set_self _ _ _
 generalize Heap.empty.set ib (.cells 0 (AV.agg d.av).cells) = h0 at hbox
 refine st_box (v := .agg e.av) rfl rfl ?_
 intro ie hie
 have hne : ie ≠ ib := fun h => by subst h; rw [hie] at hbox; cases hbox
 have hboy : (h0.set ie (.cells 0 (AV.agg e.av).cells)).get ie = some (.cells 0 e.av) := Heap.get_set_self _ _ _
 have hbox : (h0.set ie (.cells 0 (AV.agg e.av).cells)).get ib = some (.cells 0 d.av) := by rw [Heap.get_set_ne _ _ hne.symm]; exact hbox
 generalize h0.set ie (.cells 0 (AV.agg e.av).cells) = h1 at hbox hboy
 by_cases c1 : plainS d.parts.l = plainS e.parts.l
 case neg =>
  rw [decide_eq_false c1] at k1
  rw [decB_f (fun h => c1 (plain_eq.1 h).1)]
  repeat' first | refine st_nil ?_ | (refine gw ?_; first | refine st_mv rx_ ?_ | (refine gq2 ?_; first | refine st_load_t rx_ ?_ | refine st_load_p rfl hq_ (by simp) b_ pv_ ?_) | (refine gq4 ?_; first | refine st_field_t rx_ ?_ | refine st_field_p rfl (Nat.zero_add _) ?_) | refine st_skipg rfl ?_ | refine st_pick_t (v := AV.bool _) rfl rfl ?_ | refine st_call rfl nt_ ?_ | refine st_not (b := false) rfl ?_) | (refine gx ?_; first | refine sx_seq ?_ | refine sx_ops rfl ?_ | refine sx_ret ?_ | refine sx_cond_t rfl ?_) | refine sk_norm ?_ | refine sk_ret ?_ | refine call_pure (by assumption) fz_ fz_ ?_
  exact fin_ret (v := .bool false) rfl rfl
 rw [decide_eq_true c1] at k1
 by_cases c2 : d.tags.l = e.tags.l
 case neg =>
  rw [decide_eq_false c2] at k2
  rw [decB_f (fun h => c2 (plain_eq.1 h).2.1)]
  repeat' first | refine st_nil ?_ | (refine gw ?_; first | refine st_mv rx_ ?_ | (refine gq2 ?_; first | refine st_load_t rx_ ?_ | refine st_load_p rfl hq_ (by simp) b_ pv_ ?_) | (refine gq4 ?_; first | refine st_field_t rx_ ?_ | refine st_field_p rfl (Nat.zero_add _) ?_) | (refine gq1 ?_; first | refine st_skipg rfl ?_ | refine st_gog rfl ?_) | (refine gq7 ?_; first | refine st_pick_t (v := AV.bool _) rfl rfl ?_ | refine st_pick_f (v := AV.bool _) rfl rfl ?_) | refine st_call rfl nt_ ?_ | (refine gq17 ?_; first | refine st_not (b := true) rfl ?_ | refine st_not (b := false) rfl ?_)) | (refine gx ?_; first | refine sx_seq ?_ | refine sx_ops rfl ?_ | refine sx_ret ?_ | refine sx_cond_t rfl ?_) | refine sk_norm ?_ | refine sk_ret ?_ | refine call_pure (by assumption) fz_ fz_ ?_
  exact fin_ret (v := .bool false) rfl rfl
 rw [decide_eq_true c2] at k2
 by_cases c3 : d.next.l.length = e.next.l.length
 case neg =>
  rw [decB_f (fun h => c3 (plain_eq.1 h).2.2.1)]
  repeat' first | refine st_nil ?_ | (refine gw ?_; first | refine st_mv rx_ ?_ | (refine gq2 ?_; first | refine st_load_t rx_ ?_ | refine st_load_p rfl hq_ (by simp) b_ pv_ ?_) | (refine gq3 ?_; first | refine st_bin_t1 rx_ ?_ | refine st_bin_t2 rx_ ?_ | (refine st_neq rfl rfl rfl ?_ ?_ <;> (intro hc; try (exfalso; omega)))) | (refine gq6 ?_; first | refine st_len_t rx_ ?_ | refine st_len_rd rfl ?_) | (refine gq4 ?_; first | refine st_field_t rx_ ?_ | refine st_field_p rfl (Nat.zero_add _) ?_) | refine st_gog rfl ?_ | refine st_pick_f (v := AV.bool _) rfl rfl ?_ | refine st_call rfl nt_ ?_ | refine st_not (b := true) rfl ?_) | (refine gx ?_; first | refine sx_seq ?_ | refine sx_ops rfl ?_ | refine sx_ret ?_ | refine sx_cond_t rfl ?_) | refine sk_norm ?_ | refine sk_ret ?_ | refine call_pure (by assumption) fz_ fz_ ?_
  exact fin_ret (v := .bool false) rfl rfl
 repeat' first | refine st_nil ?_ | (refine gw ?_; first | refine st_mv rx_ ?_ | (refine gq2 ?_; first | refine st_load_t rx_ ?_ | refine st_load_p rfl hq_ (by simp) b_ pv_ ?_) | (refine gq3 ?_; first | refine st_bin_t1 rx_ ?_ | refine st_bin_t2 rx_ ?_ | (refine st_neq rfl rfl rfl ?_ ?_ <;> (intro hc; try (exfalso; omega)))) | (refine gq6 ?_; first | refine st_len_t rx_ ?_ | refine st_len_rd rfl ?_) | (refine gq4 ?_; first | refine st_field_t rx_ ?_ | refine st_field_p rfl (Nat.zero_add _) ?_) | refine st_gog rfl ?_ | refine st_pick_f (v := AV.bool _) rfl rfl ?_ | refine st_call rfl nt_ ?_ | refine st_not (b := true) rfl ?_) | (refine gx ?_; first | refine sx_seq ?_ | refine sx_ops rfl ?_ | refine sx_skip ?_ | refine sx_block ?_ | refine sx_cond_f rfl ?_) | refine sk_norm ?_ | refine call_pure (by assumption) fz_ fz_ ?_
 refine sx_for d.next.l.length (fun i env h' => (∀ (j : Nat) (r q : Rw Int), j < i → d.next.l[j]? = some r → e.next.l[j]? = some q → r.l = q.l) ∧ h'.get ib = some (.cells 0 d.av) ∧ h'.get ie = some (.cells 0 e.av) ∧ env.has [(2, .ptr ib 0 0), (3, .ptr ie 0 0), (5, .int .i64 i)]) ⟨by omega, hbox, hboy, hh_⟩ ?_
 clear hbox hboy
 rintro i env h' hi ⟨hpre, hb1, hb2, hv⟩
 have he := hv
 obtain ⟨env, rfl⟩ := he.ex
 clear he
 by_cases hi2 : i < d.next.l.length
 ·obtain ⟨r, hr⟩ := ex_get hi2
  obtain ⟨q, hq⟩ := ex_get (l := e.next.l) (i := i) (by omega)
  have k3 := same11_ok L r q (by have := hd.fits.rows r (List.mem_of_getElem? hr); omega)
  by_cases hrq : r.l = q.l
  ·rw [decide_eq_true hrq] at k3
   repeat' first | refine st_nil ?_ | (refine gw ?_; first | refine st_mv rx_ ?_ | (refine gq2 ?_; first | refine st_load_t rx_ ?_ | refine st_load_r rfl b_ pv_ ?_ | refine st_load_p rfl hq_ (by simp) b_ pv_ ?_) | (refine gq3 ?_; first | refine st_bin_t1 rx_ ?_ | refine st_bin_t2 rx_ ?_ | refine st_add rfl rfl rfl (by omega) (by omega) ?_ | (refine st_lss rfl rfl rfl ?_ ?_ <;> (intro hc; try (exfalso; omega)))) | (refine gq5 ?_; first | refine st_index_t1 rx_ ?_ | refine st_index_t2 rx_ ?_ | refine st_index_map' rfl rfl hr (by omega) rfl ?_ | refine st_index_map' rfl rfl hq (by omega) rfl ?_) | (refine gq6 ?_; first | refine st_len_t rx_ ?_ | refine st_len_rd rfl ?_) | (refine gq4 ?_; first | refine st_field_t rx_ ?_ | refine st_field_p rfl (Nat.zero_add _) ?_) | refine st_call rfl nt_ ?_ | refine st_not (b := true) rfl ?_) | (refine gx ?_; first | refine sx_seq ?_ | refine sx_ops rfl ?_ | refine sx_skip ?_ | refine sx_block ?_ | refine sx_cond_t rfl ?_ | refine sx_cond_f rfl ?_) | refine sk_norm ?_ | refine bk_norm ?_ | refine call_pure (by assumption) fz_ fz_ ?_
   refine lk_next hi2 ⟨fun j r' q' hj hr' hq' => ?_, hb1, hb2, hh_⟩
   by_cases ej : j = i
   ·subst ej
    rw [hr] at hr'; rw [hq] at hq'
    cases hr'; cases hq'; exact hrq
   ·exact hpre j r' q' (by omega) hr' hq'
  ·rw [decide_eq_false hrq] at k3
   rw [decB_f (fun h => hrq ((plain_eq.1 h).2.2.2 i r q hr hq))]
   repeat' first | refine st_nil ?_ | (refine gw ?_; first | refine st_mv rx_ ?_ | (refine gq2 ?_; first | refine st_load_t rx_ ?_ | refine st_load_r rfl b_ pv_ ?_ | refine st_load_p rfl hq_ (by simp) b_ pv_ ?_) | (refine gq3 ?_; first | refine st_bin_t1 rx_ ?_ | refine st_bin_t2 rx_ ?_ | (refine st_lss rfl rfl rfl ?_ ?_ <;> (intro hc; try (exfalso; omega)))) | (refine gq5 ?_; first | refine st_index_t1 rx_ ?_ | refine st_index_t2 rx_ ?_ | refine st_index_map' rfl rfl hr (by omega) rfl ?_ | refine st_index_map' rfl rfl hq (by omega) rfl ?_) | (refine gq6 ?_; first | refine st_len_t rx_ ?_ | refine st_len_rd rfl ?_) | (refine gq4 ?_; first | refine st_field_t rx_ ?_ | refine st_field_p rfl (Nat.zero_add _) ?_) | refine st_call rfl nt_ ?_ | refine st_not (b := false) rfl ?_) | (refine gx ?_; first | refine sx_seq ?_ | refine sx_ops rfl ?_ | refine sx_skip ?_ | refine sx_block ?_ | refine sx_ret ?_ | refine sx_cond_t rfl ?_) | refine sk_norm ?_ | refine sk_ret ?_ | refine bk_ret ?_ | refine lk_ret ?_ | refine call_pure (by assumption) fz_ fz_ ?_
   exact fin_ret (v := .bool false) rfl rfl
 ·rw [decB_t (plain_eq.2 ⟨c1, c2, c3, fun j r q hr hq => hpre j r q (by have := (List.getElem?_eq_some_iff.1 hr).1; omega) hr hq⟩)]
  repeat' first | refine st_nil ?_ | (refine gw ?_; first | refine st_mv rx_ ?_ | (refine gq2 ?_; first | refine st_load_t rx_ ?_ | refine st_load_p rfl hq_ (by simp) b_ pv_ ?_) | (refine gq3 ?_; first | refine st_bin_t1 rx_ ?_ | refine st_bin_t2 rx_ ?_ | (refine st_lss rfl rfl rfl ?_ ?_ <;> (intro hc; try (exfalso; omega)))) | (refine gq6 ?_; first | refine st_len_t rx_ ?_ | refine st_len_rd rfl ?_) | (refine gq4 ?_; first | refine st_field_t rx_ ?_ | refine st_field_p rfl (Nat.zero_add _) ?_)) | (refine gx ?_; first | refine sx_seq ?_ | refine sx_ops rfl ?_ | refine sx_ret ?_ | refine sx_exit ?_ | refine sx_cond_f rfl ?_) | refine sk_norm ?_ | refine sk_exit ?_ | refine bk_exit ?_ | refine lk_exit ?_
  exact fin_ret (v := .bool true) rfl rfl
end Go.Proofs.YtdldfflfbfpngaaGreatDoor
set_option linter.unusedVariables false
set_option linter.unusedSimpArgs false
namespace Go.Proofs.YtdldfflfbfpngaaGreatDoor
open Go
def d1 : Dfa := ⟨⟨[⟨[⟨97, 97⟩], true⟩, ⟨[⟨99, 99⟩], true⟩], true⟩, ⟨[⟨[1, 2], true⟩, ⟨[-1, 3], true⟩, ⟨[-1, 3], true⟩, ⟨[-1, -1], true⟩], true⟩, ⟨[-1, 0, 0, -1], true⟩⟩
def p1 : PD := ⟨[[⟨97, 97⟩], [⟨99, 99⟩]], [[1, 2], [-1, 3], [-1, 3], [-1, -1]], [-1, 0, 0, -1]⟩
instance (n : Nat) (x : Int) : Decidable (In n x) := inferInstanceAs (Decidable (0 ≤ x ∧ x < n))
def k1 (s : Int) : Int := if s = 2 then 1 else s
def p2 : PD := ⟨[[⟨97, 97⟩], [⟨99, 99⟩]], [[1, 2], [-1, -1], [-1, -1], [-1, -1]], [-1, 0, 0, -1]⟩
def d0 : Dfa := ⟨⟨[], true⟩, ⟨[], true⟩, ⟨[], true⟩⟩
theorem d0_no : ¬ d0.plain.Ok := fun h => absurd h.n1 (by decide)
theorem d0_fits : d0.Fits := ⟨by decide, by decide, by decide, (fun r hr => by cases hr), by decide⟩
end Go.Proofs.YtdldfflfbfpngaaGreatDoor
