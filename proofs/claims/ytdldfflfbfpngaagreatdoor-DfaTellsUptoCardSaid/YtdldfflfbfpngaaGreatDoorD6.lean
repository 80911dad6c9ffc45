/- The document's machines: closed. The document's machines: Start, Step, Tags, Longest. The document's machines: Tags, Longest. -/
import Derived.Test.YtdldfflfbfpngaaGreatDoorD5
import Derived.Test.YtdldfflfbfpngaaGreatDoorD4
set_option linter.unusedVariables false
set_option linter.unusedSimpArgs false
namespace Go.Proofs.YtdldfflfbfpngaaGreatDoor
open Go
set_option maxHeartbeats 4000000
attribute [local irreducible] wops xcode wcode seqK blockK loopK finK wcall wop wstp Runs
def bN : Bool → AV
 | true => .int .i64 1
 | false => .int .i64 0
theorem closed_ok {Φ : Lib} (L : C2Lib Φ) (n : Nfa) (hn : n.Ok) (hf : n.Fits) {h : Heap} {v : AV} {bs : List Bool} (hlen : bs.length = n.k) (hrow : IsRow h v 1 n.k (bs.map bN)) :
  Runs Φ 29 [.agg n.av, v] h (fun v' _ => v' = rowI (closeN n (fun i : Nat => bs[i]? = some true))) := by
 have hmost := hn.most
 have hpos := hn.pos
 rcases hrow with ⟨_, h1, _⟩ | ⟨ir, g, rfl, hr, hg, hrl⟩
 ·omega
 generalize hP : (fun i : Nat => bs[i]? = some true) = P
 have hbw : Between n P bs := ⟨hlen, fun i hi => by rw [← hP] at hi; exact hi, fun i hi => .base (by rw [← hP]; exact hi)⟩
 clear hlen hP hrl
 refine runs_of (fun _ => false) rfl L.f29 ?_
 repeat' first | refine st_nil ?_ | (refine gw ?_; first | (refine gq0 ?_; first | refine st_mv (v := AV.bool _) rfl ?_ | refine st_mv (v := AV.rd _ _ _) rfl ?_) | (refine st_box (v := AV.agg _) rfl rfl ?_; intro id hid; try simp only [Heap.set_none] at hid)) | (refine gx ?_; first | refine sx_seq ?_ | refine sx_ops rfl ?_ | refine sx_block ?_) | refine sk_norm ?_
 rename Nat => ib
 rename Heap.get _ _ = none => hib
 have hne : ir ≠ ib := by rintro rfl; rw [hr] at hib; cases hib
 have hne' := Ne.symm hne
 refine sx_loop (fun m env h' => ∃ bs more, m = 2 * bs.count false + (if more = true then 1 else 0) ∧ Between n P bs ∧ (more = false → ∀ i, bs[i]? = some true → ∀ t ∈ n.frees i, bs[t.toNat]? = some true) ∧ h'.get ib = some (.cells 0 n.av) ∧ h'.get ir = some (.cells g (bs.map bN)) ∧ env.has [(1, .own ir g 1 0 n.k none), (2, .ptr ib 0 0), (5, .bool more)]) _ ⟨bs, true, rfl, hbw, (fun h => by cases h), Heap.get_set_self _ _ _, (by rw [Heap.get_set_ne _ _ hne]; exact hr), hh_⟩ ?_
 clear hr hib hbw bs
 rintro m env h' ⟨bs, more, rfl, hbw, hcl, hbox, hr, he⟩
 obtain ⟨env, rfl⟩ := he.ex
 clear he
 cases more
 ·have hre := hbw.closed (hcl rfl)
  have hlen := hbw.len
  have hmc := marked_close hre
  repeat' first | refine st_nil ?_ | (refine gq0 ?_; first | refine st_mv (v := AV.int _ _) rfl ?_ | refine st_mv (v := AV.bool _) rfl ?_ | refine st_mv (v := AV.rd _ _ _) rfl ?_) | (refine gx ?_; first | refine sx_seq ?_ | refine sx_ops rfl ?_ | refine sx_block ?_ | refine sx_exit ?_ | refine sx_cond_f rfl ?_) | refine sk_norm ?_ | refine sk_exit ?_ | refine bk_exit ?_ | refine lk_exit ?_
  refine sx_for n.k (fun i env h' => ∃ v, h'.get ir = some (.cells g (bs.map bN)) ∧ IsRow h' v 1 (marked bs i).length ((marked bs i).map (.int .i64)) ∧ v.rowId ≠ some ir ∧ env.has [(1, .own ir g 1 0 n.k none), (8, v), (9, .int .i64 i)]) ⟨_, hr, IsRow.nil _ _, (by simp [AV.rowId]), hh_⟩ ?_
  rintro i env h' hi ⟨v, hr, hrow, hv, he⟩
  obtain ⟨env, rfl⟩ := he.ex
  clear he
  have hml := marked_length bs i
  by_cases hi2 : i < n.k
  ·obtain ⟨b, hb⟩ := ex_get (show i < bs.length by omega)
   have hms := marked_succ hb
   cases b
   ·repeat' first | refine st_nil ?_ | (refine gw ?_; first | (refine gq0 ?_; first | refine st_mv (v := AV.int _ _) rfl ?_ | refine st_mv (v := AV.own _ _ _ _ _ _) rfl ?_) | refine st_load_map (g := _) rfl hg_ hb eq_ ?_ | (refine gq3 ?_; first | refine st_add rfl rfl rfl (by omega) (by omega) ?_ | (refine st_lss rfl rfl rfl ?_ ?_ <;> (intro hc; try (exfalso; omega))) | (refine st_eql rfl rfl rfl ?_ ?_ <;> (intro hc; try (exfalso; omega)))) | refine st_index_own rfl rfl (by omega) (by omega) ?_ | refine st_len_own rfl ?_) | (refine gx ?_; first | refine sx_seq ?_ | refine sx_ops rfl ?_ | refine sx_skip ?_ | refine sx_block ?_ | refine sx_cond_t rfl ?_ | refine sx_cond_f rfl ?_) | refine sk_norm ?_ | refine bk_norm ?_
    refine lk_next hi2 ⟨v, hr, ?_, hv, hh_⟩
    rw [hms]; simpa using hrow
   ·repeat' first | refine st_nil ?_ | (refine gw ?_; first | (refine gq0 ?_; first | refine st_mv (v := AV.int _ _) rfl ?_ | refine st_mv (v := AV.own _ _ _ _ _ _) rfl ?_ | refine st_mv rv_ ?_) | refine st_load_map (g := _) rfl hg_ hb eq_ ?_ | (refine gq3 ?_; first | refine st_add rfl rfl rfl (by omega) (by omega) ?_ | (refine st_lss rfl rfl rfl ?_ ?_ <;> (intro hc; try (exfalso; omega))) | (refine st_eql rfl rfl rfl ?_ ?_ <;> (intro hc; try (exfalso; omega)))) | refine st_index_own rfl rfl (by omega) (by omega) ?_ | refine st_len_own rfl ?_ | (refine st_append (m := 1) rv_ ir_ rfl rfl (by omega) ?_; intro va hpa hra hka hria) | refine st_lit (cs := [AV.int _ _]) rfl rfl ?_) | (refine gx ?_; first | refine sx_seq ?_ | refine sx_ops rfl ?_ | refine sx_skip ?_ | refine sx_block ?_ | refine sx_cond_t rfl ?_) | refine sk_norm ?_ | refine bk_norm ?_
    refine lk_next hi2 ⟨va, (hka ir (by rw [hr]; simp) hv).trans hr, ?_, (fun e => ?_), hh_⟩
    ·rw [hms]; simpa using hra
    ·rcases hria ir e with h | h
     ·exact hv h
     ·rw [hr] at h; cases h
  ·repeat' first | refine st_nil ?_ | (refine gw ?_; first | (refine gq0 ?_; first | refine st_mv (v := AV.int _ _) rfl ?_ | refine st_mv (v := AV.own _ _ _ _ _ _) rfl ?_ | refine st_mv rv_ ?_) | (refine st_lss rfl rfl rfl ?_ ?_ <;> (intro hc; try (exfalso; omega))) | refine st_len_own rfl ?_) | (refine gx ?_; first | refine sx_seq ?_ | refine sx_ops rfl ?_ | refine sx_ret ?_ | refine sx_exit ?_ | refine sx_cond_f rfl ?_) | refine sk_norm ?_ | refine sk_exit ?_ | refine bk_exit ?_ | refine lk_exit ?_
   have : i = n.k := by omega
   subst this
   rw [hmc] at hrow
   exact fin_row rfl hrow (fun _ => rfl)
 ·repeat' first | refine st_nil ?_ | (refine gq0 ?_; first | refine st_mv (v := AV.int _ _) rfl ?_ | refine st_mv (v := AV.bool _) rfl ?_) | (refine gx ?_; first | refine sx_seq ?_ | refine sx_ops rfl ?_ | refine sx_skip ?_ | refine sx_block ?_ | refine sx_cond_t rfl ?_) | refine sk_norm ?_
  refine sx_for n.k (fun i env h' => ∃ bs2 more, Between n P bs2 ∧ bs2.count false ≤ bs.count false ∧ (more = true → bs2.count false < bs.count false) ∧ (more = false → ∀ i', i' < i → bs2[i']? = some true → ∀ t ∈ n.frees i', bs2[t.toNat]? = some true) ∧ h'.get ib = some (.cells 0 n.av) ∧ h'.get ir = some (.cells g (bs2.map bN)) ∧ env.has [(1, .own ir g 1 0 n.k none), (2, .ptr ib 0 0), (5, .bool more), (6, .int .i64 i)]) ⟨bs, false, hbw, Nat.le_refl _, (fun h => by cases h), (fun _ i' hi => by omega), hbox, hr, hh_⟩ ?_
  clear hbw hbox hr hcl
  rintro i env h' hi ⟨bs2, more, hbw, hcl, hcm, hcc, hbox, hr, he⟩
  obtain ⟨env, rfl⟩ := he.ex
  clear he
  by_cases hi2 : i < n.k
  ·obtain ⟨fs, hfs⟩ := ex_get (l := n.free.l) (show i < n.free.l.length by rw [hn.free]; exact hi2)
   have hfsl := hf.frees fs (List.mem_of_getElem? hfs)
   have hfr : n.frees i = fs.l := by simp [Nfa.frees, List.getD_eq_getElem?_getD, hfs]
   repeat' first | refine st_nil ?_ | (refine gw ?_; first | (refine gq0 ?_; first | refine st_mv (v := AV.int _ _) rfl ?_ | refine st_mv (v := AV.own _ _ _ _ _ _) rfl ?_) | (refine st_lss rfl rfl rfl ?_ ?_ <;> (intro hc; try (exfalso; omega))) | refine st_len_own rfl ?_) | (refine gx ?_; first | refine sx_seq ?_ | refine sx_ops rfl ?_ | refine sx_skip ?_ | refine sx_block ?_ | refine sx_cond_t rfl ?_) | refine sk_norm ?_
   refine sx_for fs.l.length (fun j env h' => ∃ bs2 more, Between n P bs2 ∧ bs2.count false ≤ bs.count false ∧ (more = true → bs2.count false < bs.count false) ∧ (more = false → ∀ i', i' < i → bs2[i']? = some true → ∀ t ∈ n.frees i', bs2[t.toNat]? = some true) ∧ (more = false → bs2[i]? = some true → ∀ t ∈ fs.l.take j, bs2[t.toNat]? = some true) ∧ h'.get ib = some (.cells 0 n.av) ∧ h'.get ir = some (.cells g (bs2.map bN)) ∧ env.has [(1, .own ir g 1 0 n.k none), (2, .ptr ib 0 0), (5, .bool more), (6, .int .i64 i), (7, .int .i64 j)]) ⟨bs2, more, hbw, hcl, hcm, hcc, (fun _ _ t ht => by simp at ht), hbox, hr, hh_⟩ ?_
   clear hbw hbox hr hcl hcm hcc
   rintro j env h' hj ⟨bs2, more, hbw, hcl, hcm, hcc, hcj, hbox, hr, he⟩
   obtain ⟨env, rfl⟩ := he.ex
   clear he
   have hlen := hbw.len
   obtain ⟨b, hb⟩ := ex_get (show i < bs2.length by omega)
   have hdone : (j = fs.l.length ∨ b = false) → more = false → ∀ i', i' < i + 1 → bs2[i']? = some true → ∀ t ∈ n.frees i', bs2[t.toNat]? = some true := fun hd hm i' hi' hb' t ht => by
    by_cases e : i' = i
    ·subst e
     rcases hd with rfl | rfl
     ·rw [List.take_length, ← hfr] at hcj
      exact hcj hm hb' t ht
     ·rw [hb] at hb'; cases hb'
    ·exact hcc hm i' (by omega) hb' t ht
   by_cases hj2 : j < fs.l.length
   ·obtain ⟨t, ht⟩ := ex_get hj2
    have htm := List.mem_of_getElem? ht
    have htk := hn.frees i hi2 t (hfr ▸ htm)
    cases b
    ·repeat' first | refine st_nil ?_ | (refine gw ?_; first | (refine gq0 ?_; first | refine st_mv (v := AV.int _ _) rfl ?_ | refine st_mv (v := AV.bool _) rfl ?_ | refine st_mv (v := AV.own _ _ _ _ _ _) rfl ?_) | refine st_gog rfl ?_ | (refine gq2 ?_; first | refine st_load_map (g := _) rfl hg_ hb eq_ ?_ | refine st_load_r rfl b_ pv_ ?_ | refine st_load_p rfl hg_ (by simp) b_ pv_ ?_) | (refine gq3 ?_; first | refine st_add rfl rfl rfl (by omega) (by omega) ?_ | (refine st_lss rfl rfl rfl ?_ ?_ <;> (intro hc; try (exfalso; omega))) | (refine st_eql rfl rfl rfl ?_ ?_ <;> (intro hc; try (exfalso; omega)))) | refine st_field_p rfl (Nat.zero_add _) ?_ | (refine gq5 ?_; first | refine st_index_map rfl rfl rfl (by assumption) rfl ?_ | refine st_index_own rfl rfl (by omega) (by omega) ?_) | refine st_len_rd rfl ?_ | refine st_pick_t (v := AV.bool _) rfl rfl ?_) | (refine gx ?_; first | refine sx_seq ?_ | refine sx_ops rfl ?_ | refine sx_exit ?_ | refine sx_cond_f rfl ?_) | refine sk_norm ?_ | refine sk_exit ?_ | refine bk_norm ?_ | refine bk_exit ?_ | refine lk_exit ?_
     exact lk_next hi2 ⟨bs2, more, hbw, hcl, hcm, hdone (.inr rfl), hbox, hr, hh_⟩
    ·obtain ⟨c, hc'⟩ := ex_get (show t.toNat < bs2.length by omega)
     cases c
     ·repeat' first | refine st_nil ?_ | (refine gw ?_; first | (refine gq0 ?_; first | refine st_mv (v := AV.int _ _) rfl ?_ | refine st_mv (v := AV.bool _) rfl ?_ | refine st_mv (v := AV.own _ _ _ _ _ _) rfl ?_) | refine st_gog rfl ?_ | (refine gq2 ?_; first | refine st_load_map (g := _) rfl hg_ hb eq_ ?_ | refine st_load_map (g := _) rfl hg_ hc' eq_ ?_ | refine st_load_r rfl b_ pv_ ?_ | refine st_load_p rfl hg_ (by simp) b_ pv_ ?_) | (refine gq3 ?_; first | refine st_add rfl rfl rfl (by omega) (by omega) ?_ | (refine st_lss rfl rfl rfl ?_ ?_ <;> (intro hc; try (exfalso; omega))) | (refine st_eql rfl rfl rfl ?_ ?_ <;> (intro hc; try (exfalso; omega)))) | refine st_field_p rfl (Nat.zero_add _) ?_ | (refine gq5 ?_; first | refine st_index_map' rfl rfl ht (by omega) rfl ?_ | refine st_index_map rfl rfl rfl (by assumption) rfl ?_ | refine st_index_own rfl rfl (by omega) (by omega) ?_) | refine st_len_rd rfl ?_ | refine st_pick_t (v := AV.bool _) rfl rfl ?_ | refine st_store_p (v := AV.int _ _) rfl rfl hg_ rfl rfl b_ sv_ ?_) | (refine gx ?_; first | refine sx_seq ?_ | refine sx_ops rfl ?_ | refine sx_skip ?_ | refine sx_block ?_ | refine sx_cond_t rfl ?_) | refine sk_norm ?_ | refine bk_norm ?_
      have e : (bs2.map bN).set (t.toNat * 1) (AV.int .i64 1) = (bs2.set t.toNat true).map bN := by rw [Nat.mul_one, List.map_set]; rfl
      rw [e]
      have hcnt := count_set_true hc'
      exact lk_next hj2 ⟨bs2.set t.toNat true, true, hbw.set hb (hfr ▸ htm) (by omega), by omega, fun _ => by omega, (fun h => by cases h), (fun h => by cases h), by rw [Heap.get_set_ne _ _ hne']; exact hbox, Heap.get_set_self _ _ _, hh_⟩
     ·repeat' first | refine st_nil ?_ | (refine gw ?_; first | (refine gq0 ?_; first | refine st_mv (v := AV.int _ _) rfl ?_ | refine st_mv (v := AV.bool _) rfl ?_ | refine st_mv (v := AV.own _ _ _ _ _ _) rfl ?_) | refine st_gog rfl ?_ | (refine gq2 ?_; first | refine st_load_map (g := _) rfl hg_ hb eq_ ?_ | refine st_load_map (g := _) rfl hg_ hc' eq_ ?_ | refine st_load_r rfl b_ pv_ ?_ | refine st_load_p rfl hg_ (by simp) b_ pv_ ?_) | (refine gq3 ?_; first | refine st_add rfl rfl rfl (by omega) (by omega) ?_ | (refine st_lss rfl rfl rfl ?_ ?_ <;> (intro hc; try (exfalso; omega))) | (refine st_eql rfl rfl rfl ?_ ?_ <;> (intro hc; try (exfalso; omega)))) | refine st_field_p rfl (Nat.zero_add _) ?_ | (refine gq5 ?_; first | refine st_index_map' rfl rfl ht (by omega) rfl ?_ | refine st_index_map rfl rfl rfl (by assumption) rfl ?_ | refine st_index_own rfl rfl (by omega) (by omega) ?_) | refine st_len_rd rfl ?_ | refine st_pick_t (v := AV.bool _) rfl rfl ?_) | (refine gx ?_; first | refine sx_seq ?_ | refine sx_ops rfl ?_ | refine sx_skip ?_ | refine sx_block ?_ | refine sx_cond_t rfl ?_ | refine sx_cond_f rfl ?_) | refine sk_norm ?_ | refine bk_norm ?_
      refine lk_next hj2 ⟨bs2, more, hbw, hcl, hcm, hcc, (fun hm hbi u hu => ?_), hbox, hr, hh_⟩
      rw [take_snoc ht] at hu
      rcases List.mem_append.1 hu with hu | hu
      ·exact hcj hm hbi u hu
      ·simp only [List.mem_singleton] at hu
       subst hu
       exact hc'
   ·repeat' first | refine st_nil ?_ | (refine gw ?_; first | (refine gq0 ?_; first | refine st_mv (v := AV.int _ _) rfl ?_ | refine st_mv (v := AV.bool _) rfl ?_) | refine st_skipg rfl ?_ | (refine gq2 ?_; first | refine st_load_r rfl b_ pv_ ?_ | refine st_load_p rfl hg_ (by simp) b_ pv_ ?_) | (refine gq3 ?_; first | refine st_add rfl rfl rfl (by omega) (by omega) ?_ | (refine st_lss rfl rfl rfl ?_ ?_ <;> (intro hc; try (exfalso; omega)))) | refine st_field_p rfl (Nat.zero_add _) ?_ | refine st_index_map rfl rfl rfl (by assumption) rfl ?_ | refine st_len_rd rfl ?_ | refine st_pick_f (v := AV.bool _) rfl rfl ?_) | (refine gx ?_; first | refine sx_seq ?_ | refine sx_ops rfl ?_ | refine sx_exit ?_ | refine sx_cond_f rfl ?_) | refine sk_norm ?_ | refine sk_exit ?_ | refine bk_norm ?_ | refine bk_exit ?_ | refine lk_exit ?_
    exact lk_next hi2 ⟨bs2, more, hbw, hcl, hcm, hdone (.inl (by omega)), hbox, hr, hh_⟩
  ·have : i = n.k := by omega
   subst this
   have hlen := hbw.len
   repeat' first | refine st_nil ?_ | (refine gw ?_; first | (refine gq0 ?_; first | refine st_mv (v := AV.int _ _) rfl ?_ | refine st_mv (v := AV.own _ _ _ _ _ _) rfl ?_) | (refine st_lss rfl rfl rfl ?_ ?_ <;> (intro hc; try (exfalso; omega))) | refine st_len_own rfl ?_) | (refine gx ?_; first | refine sx_seq ?_ | refine sx_ops rfl ?_ | refine sx_exit ?_ | refine sx_cond_f rfl ?_) | refine sk_norm ?_ | refine sk_exit ?_ | refine bk_norm ?_ | refine bk_exit ?_ | refine lk_exit ?_
   refine lk_norm (2 * bs2.count false + (if more = true then 1 else 0)) ?_ ?_
   ·cases more
    ·simp; omega
    ·have := hcm rfl
     simp; omega
   ·refine ⟨bs2, more, rfl, hbw, fun hm i' hb' => hcc hm i' ?_ hb', hbox, hr, hh_⟩
    have := lt_of_getElem? hb'
    omega
theorem flat_false (m : Nat) : (List.replicate m [AV.int .i64 0]).flatten = (List.replicate m false).map bN := by
 induction m with
 | zero => rfl
 | succ m ih => rw [List.replicate_succ, List.flatten_cons, ih, List.replicate_succ]; rfl
end Go.Proofs.YtdldfflfbfpngaaGreatDoor
set_option linter.unusedVariables false
set_option linter.unusedSimpArgs false
namespace Go.Proofs.YtdldfflfbfpngaaGreatDoor
open Go
set_option maxHeartbeats 4000000
attribute [local irreducible] wops xcode wcode seqK blockK loopK finK wcall wop wstp Runs
theorem hasR_hasS (l : List Span) (r : Int) : hasR l r = hasS l r := by
 unfold hasR hasS
 cases h : scal r
 ·have : r < 0 ∨ 1114111 < r ∨ (55296 ≤ r ∧ r ≤ 57343) := by
   have : ¬ scal r = true := by simp [h]
   rw [scal_iff] at this
   omega
  rw [if_pos this]; rfl
 ·have := scal_iff.1 h
  rw [if_neg (by omega)]
  simp
structure MarkB (n : Nfa) (P : Nat → Prop) (bs : List Bool) : Prop where
 len : bs.length = n.k
 ex : ∀ i : Nat, bs[i]? = some true ↔ P i
theorem MarkB.begin (n : Nfa) : MarkB n (fun _ => False) (List.replicate n.k false) := by
 refine ⟨by simp, fun i => ?_⟩
 simp only [iff_false, List.getElem?_replicate]
 split <;> simp
theorem MarkB.iff {n : Nfa} {P P' : Nat → Prop} {bs : List Bool} (hm : MarkB n P bs) (h : ∀ i, P i ↔ P' i) : MarkB n P' bs := ⟨hm.len, fun i => (hm.ex i).trans (h i)⟩
theorem MarkB.set {n : Nfa} {P : Nat → Prop} {bs : List Bool} (hm : MarkB n P bs) {t : Nat} (ht : t < n.k) : MarkB n (fun i => P i ∨ i = t) (bs.set t true) :=
 ⟨by simp [hm.len], fun i => by rw [set_true_iff (by rw [hm.len]; exact ht), hm.ex]; exact Or.comm⟩
theorem rstart_ok {Φ : Lib} (L : C2Lib Φ) (n : Nfa) (hf : n.Fits) : Pure Φ 15 [.agg n.av] (rowI (start1 n)) := by
 have hft := hf.tags
 have hsk := rsound_ok L n hf
 refine runs_of (fun _ => false) rfl L.f15 ?_
 cases hs : soundN n
 all_goals rw [hs] at hsk
 ·repeat' first | refine st_nil ?_ | (refine gw ?_; first | refine st_mv (v := AV.rd _ _ _) rfl ?_ | refine st_load_p rfl hg_ (by simp) b_ pv_ ?_ | refine st_call rfl nt_ ?_ | (refine st_box (v := AV.agg _) rfl rfl ?_; intro id hid; try simp only [Heap.set_none] at hid) | refine st_not (b := false) rfl ?_) | (refine gx ?_; first | refine sx_seq ?_ | refine sx_ops rfl ?_ | refine sx_ret ?_ | refine sx_cond_t rfl ?_) | refine sk_norm ?_ | refine sk_ret ?_ | refine call_pure (by assumption) fz_ fz_ ?_
  exact fin_row rfl (IsRow.nil _ 1) (fun _ => by simp [start1, hs])
 ·have hn := sound_ok_iff.1 hs
  have hpos := hn.pos
  have hk : n.k = n.tags.l.length := rfl
  repeat' first | refine st_nil ?_ | (refine gw ?_; first | (refine gq0 ?_; first | refine st_mv (v := AV.rd _ _ _) rfl ?_ | refine st_mv (v := AV.own _ _ _ _ _ _) rfl ?_) | refine st_load_p rfl hg_ (by simp) b_ pv_ ?_ | refine st_field_p rfl (Nat.zero_add _) ?_ | refine st_index_own rfl rfl (by omega) (by omega) ?_ | refine st_len_rd rfl ?_ | refine st_call rfl nt_ ?_ | (refine st_box (v := AV.agg _) rfl rfl ?_; intro id hid; try simp only [Heap.set_none] at hid) | refine st_store_p (v := AV.int _ _) rfl rfl hg_ rfl rfl b_ sv_ ?_ | refine st_not (b := true) rfl ?_ | (refine st_mkslice rfl rfl (by omega) (by omega) ?_; intro id hid; try simp only [Heap.set_none] at hid)) | (refine gx ?_; first | refine sx_seq ?_ | refine sx_ops rfl ?_ | refine sx_skip ?_ | refine sx_cond_f rfl ?_) | refine sk_norm ?_ | refine call_pure (by assumption) fz_ fz_ ?_
  rename Nat => im
  rename im ≠ _ ∧ _ => him
  refine call_any (closed_ok L n hn hf (v := .own im 1 1 0 n.k none) (bs := (List.replicate n.k false).set 0 true) (by simp) ?_) ?_
  ·refine IsRow.own ?_ (Nat.le_refl _) (by simp)
   have e : ((List.replicate (n.tags.l.length : Int).toNat [AV.int .i64 0]).flatten).set ((0 + Int.toNat 0) * 1) (.int .i64 1) = ((List.replicate n.k false).set 0 true).map bN := by
    rw [flat_false, List.map_set]; rfl
   rw [← e]
   exact hg_
  rintro _ h2 rfl
  repeat' first | refine st_nil ?_ | refine st_mv (v := AV.rd _ _ _) rfl ?_ | refine sx_ret ?_ | refine sk_norm ?_ | refine fin_ret (v := AV.rd _ _ _) rfl ?_
  rw [start1, if_pos hs, startN, closeN_congr (P' := (· = 0)) (fun i => (((MarkB.begin n).set hpos).ex i).trans (by simp))]
theorem rstep_ok {Φ : Lib} (L : C2Lib Φ) (n : Nfa) (hf : n.Fits) (at_ : List Int) (fl : Bool) (hat : at_.length ≤ 1048576) (r : Int) : Pure Φ 18 [.agg n.av, .rd at_.length (at_.map (.int .i64)) fl, .int .i64 r] (rowI (step1 n at_ r)) := by
 have hft := hf.tags
 have hsk := rsound_ok L n hf
 refine runs_of (fun _ => false) rfl L.f18 ?_
 cases hs : soundN n
 all_goals rw [hs] at hsk
 ·repeat' first | refine st_nil ?_ | (refine gw ?_; first | refine st_mv (v := AV.rd _ _ _) rfl ?_ | refine st_load_p rfl hg_ (by simp) b_ pv_ ?_ | refine st_call rfl nt_ ?_ | (refine st_box (v := AV.agg _) rfl rfl ?_; intro id hid; try simp only [Heap.set_none] at hid) | refine st_not (b := false) rfl ?_) | (refine gx ?_; first | refine sx_seq ?_ | refine sx_ops rfl ?_ | refine sx_ret ?_ | refine sx_cond_t rfl ?_) | refine sk_norm ?_ | refine sk_ret ?_ | refine call_pure (by assumption) fz_ fz_ ?_
  exact fin_row rfl (IsRow.nil _ 1) (fun _ => by simp [step1, hs])
 ·have hn := sound_ok_iff.1 hs
  have hpos := hn.pos
  have hk : n.k = n.tags.l.length := rfl
  repeat' first | refine st_nil ?_ | (refine gw ?_; first | (refine gq0 ?_; first | refine st_mv (v := AV.int _ _) rfl ?_ | refine st_mv (v := AV.rd _ _ _) rfl ?_ | refine st_mv (v := AV.own _ _ _ _ _ _) rfl ?_) | refine st_load_p rfl hg_ (by simp) b_ pv_ ?_ | refine st_field_p rfl (Nat.zero_add _) ?_ | refine st_len_rd rfl ?_ | refine st_call rfl nt_ ?_ | (refine st_box (v := AV.agg _) rfl rfl ?_; intro id hid; try simp only [Heap.set_none] at hid) | refine st_not (b := true) rfl ?_ | (refine st_mkslice rfl rfl (by omega) (by omega) ?_; intro id hid; try simp only [Heap.set_none] at hid)) | (refine gx ?_; first | refine sx_seq ?_ | refine sx_ops rfl ?_ | refine sx_skip ?_ | refine sx_block ?_ | refine sx_cond_f rfl ?_) | refine sk_norm ?_ | refine call_pure (by assumption) fz_ fz_ ?_
  rename_i ib hib
  rename Nat => im
  rename im ≠ _ ∧ _ => him
  have hne' := Ne.symm him.1
  refine sx_for at_.length (fun i env h' => ∃ bs, MarkB n (goesTo n (at_.take i) r) bs ∧ h'.get ib = some (.cells 0 n.av) ∧ h'.get im = some (.cells 1 (bs.map bN)) ∧ env.has [(1, .rd at_.length (at_.map (.int .i64)) fl), (2, .int .i64 r), (3, .ptr ib 0 0), (7, .own im 1 1 0 n.k none), (8, .int .i64 i)]) ⟨_, (MarkB.begin n).iff (fun j => (goesTo_nil n r j).symm), hg_, (by rw [Heap.get_set_self, flat_false]; rfl), hh_⟩ ?_
  clear him hib
  rintro i env h' hi ⟨bs, hm, hbox, hr, he⟩
  obtain ⟨env, rfl⟩ := he.ex
  clear he
  by_cases hi2 : i < at_.length
  ·obtain ⟨s, hs⟩ := ex_get hi2
   by_cases hin : 0 ≤ s ∧ s < n.k
   ·obtain ⟨es, hes⟩ := ex_get (l := n.edges.l) (show s.toNat < n.edges.l.length by rw [hn.edges]; omega)
    have hout : n.outs s.toNat = es.l := by simp [Nfa.outs, List.getD_eq_getElem?_getD, hes]
    have hesf := hf.edge es (List.mem_of_getElem? hes)
    repeat' first | refine st_nil ?_ | (refine gw ?_; first | (refine gq0 ?_; first | refine st_mv (v := AV.int _ _) rfl ?_ | refine st_mv (v := AV.bool _) rfl ?_ | refine st_mv (v := AV.rd _ _ _) rfl ?_) | refine st_gog rfl ?_ | (refine gq2 ?_; first | refine st_load_r rfl b_ pv_ ?_ | refine st_load_p rfl hg_ (by simp) b_ pv_ ?_) | (refine gq3 ?_; first | (refine st_lss rfl rfl rfl ?_ ?_ <;> (intro hc; try (exfalso; omega))) | (refine st_geq rfl rfl rfl ?_ ?_ <;> (intro hc; try (exfalso; omega)))) | refine st_field_p rfl (Nat.zero_add _) ?_ | (refine gq5 ?_; first | refine st_index_map' rfl rfl hs (by omega) rfl ?_ | refine st_index_map' rfl rfl (by assumption) (by omega) rfl ?_) | refine st_len_rd rfl ?_ | refine st_pick_f (v := AV.bool _) rfl rfl ?_) | (refine gx ?_; first | refine sx_seq ?_ | refine sx_ops rfl ?_ | refine sx_skip ?_ | refine sx_block ?_ | refine sx_cond_t rfl ?_ | refine sx_cond_f rfl ?_) | refine sk_norm ?_
    refine sx_for es.l.length (fun j env h' => ∃ bs, MarkB n (goesFront n (at_.take i) r (es.l.take j)) bs ∧ h'.get ib = some (.cells 0 n.av) ∧ h'.get im = some (.cells 1 (bs.map bN)) ∧ env.has [(1, .rd at_.length (at_.map (.int .i64)) fl), (2, .int .i64 r), (3, .ptr ib 0 0), (7, .own im 1 1 0 n.k none), (8, .int .i64 i), (9, es.av Edge.av), (10, .int .i64 j)]) ⟨_, hm.iff (fun j => (goesFront_nil n _ r j).symm), hbox, hr, hh_⟩ ?_
    clear hm hbox hr
    rintro j env h' hj ⟨bs, hm, hbox, hr, he⟩
    obtain ⟨env, rfl⟩ := he.ex
    clear he
    by_cases hj2 : j < es.l.length
    ·obtain ⟨e, he⟩ := ex_get hj2
     have hmem := List.mem_of_getElem? he
     have hto := (hn.outs s.toNat (by omega) e (hout ▸ hmem)).1
     have hlen := hm.len
     have hhas := rhas_ok L e.set.l e.set.fl r (by have := hesf.2 e hmem; omega)
     have hsame : hasR e.set.l r = hasS e.set.l r := hasR_hasS _ _
     rw [hsame] at hhas
     cases hh : hasS e.set.l r
     all_goals rw [hh] at hhas
     ·repeat' first | refine st_nil ?_ | (refine gw ?_; first | (refine gq0 ?_; first | refine st_mv (v := AV.int _ _) rfl ?_ | refine st_mv (v := AV.rd _ _ _) rfl ?_) | refine st_load_r rfl b_ pv_ ?_ | (refine gq3 ?_; first | refine st_add rfl rfl rfl (by omega) (by omega) ?_ | (refine st_lss rfl rfl rfl ?_ ?_ <;> (intro hc; try (exfalso; omega)))) | refine st_field_r rfl (by simp) rfl ?_ | refine st_index_flat' rfl fl_ rfl he (by omega) rfl ?_ | refine st_len_rd rfl ?_ | refine st_call rfl nt_ ?_) | (refine gx ?_; first | refine sx_seq ?_ | refine sx_ops rfl ?_ | refine sx_skip ?_ | refine sx_block ?_ | refine sx_cond_t rfl ?_ | refine sx_cond_f rfl ?_) | refine sk_norm ?_ | refine bk_norm ?_ | refine call_pure (by assumption) fz_ fz_ ?_
      refine lk_next hj2 ⟨_, hm.iff (fun j => ?_), hbox, hr, hh_⟩
      rw [take_snoc he]
      exact goesFront_not hh j
     ·obtain ⟨c, hc'⟩ := ex_get (show e.to.toNat < bs.length by omega)
      repeat' first | refine st_nil ?_ | (refine gw ?_; first | (refine gq0 ?_; first | refine st_mv (v := AV.int _ _) rfl ?_ | refine st_mv (v := AV.rd _ _ _) rfl ?_ | refine st_mv (v := AV.own _ _ _ _ _ _) rfl ?_) | refine st_load_r rfl b_ pv_ ?_ | (refine gq3 ?_; first | refine st_add rfl rfl rfl (by omega) (by omega) ?_ | (refine st_lss rfl rfl rfl ?_ ?_ <;> (intro hc; try (exfalso; omega)))) | refine st_field_r rfl (by simp) rfl ?_ | (refine gq5 ?_; first | refine st_index_flat' rfl fl_ rfl he (by omega) rfl ?_ | refine st_index_own rfl rfl (by omega) (by omega) ?_) | refine st_len_rd rfl ?_ | refine st_call rfl nt_ ?_ | refine st_store_p (v := AV.int _ _) rfl rfl hg_ rfl rfl b_ sv_ ?_) | (refine gx ?_; first | refine sx_seq ?_ | refine sx_ops rfl ?_ | refine sx_skip ?_ | refine sx_block ?_ | refine sx_cond_t rfl ?_) | refine sk_norm ?_ | refine bk_norm ?_ | refine call_pure (by assumption) fz_ fz_ ?_
      have e1 : (bs.map bN).set (e.to.toNat * 1) (AV.int .i64 1) = (bs.set e.to.toNat true).map bN := by rw [Nat.mul_one, List.map_set]; rfl
      rw [e1]
      refine lk_next hj2 ⟨_, (hm.set (by omega)).iff (fun j => ?_), by rw [Heap.get_set_ne _ _ hne']; exact hbox, Heap.get_set_self _ _ _, hh_⟩
      rw [take_snoc he]
      exact goesFront_has hh j
    ·repeat' first | refine st_nil ?_ | (refine gw ?_; first | (refine gq0 ?_; first | refine st_mv (v := AV.int _ _) rfl ?_ | refine st_mv (v := AV.rd _ _ _) rfl ?_) | (refine gq3 ?_; first | refine st_add rfl rfl rfl (by omega) (by omega) ?_ | (refine st_lss rfl rfl rfl ?_ ?_ <;> (intro hc; try (exfalso; omega)))) | refine st_len_rd rfl ?_) | (refine gx ?_; first | refine sx_seq ?_ | refine sx_ops rfl ?_ | refine sx_exit ?_ | refine sx_cond_f rfl ?_) | refine sk_norm ?_ | refine sk_exit ?_ | refine bk_norm ?_ | refine bk_exit ?_ | refine lk_exit ?_
     refine lk_next hi2 ⟨_, hm.iff (fun j => ?_), hbox, hr, hh_⟩
     rw [take_snoc hs, List.take_of_length_le (l := es.l) (by omega), ← hout]
     exact goesTo_in hin j
   ·repeat' first | refine st_nil ?_ | (refine gw ?_; first | (refine gq0 ?_; first | refine st_mv (v := AV.int _ _) rfl ?_ | refine st_mv (v := AV.bool _) rfl ?_ | refine st_mv (v := AV.rd _ _ _) rfl ?_) | (refine gq1 ?_; first | refine st_skipg rfl ?_ | refine st_gog rfl ?_) | (refine gq2 ?_; first | refine st_load_r rfl b_ pv_ ?_ | refine st_load_p rfl hg_ (by simp) b_ pv_ ?_) | (refine gq3 ?_; first | refine st_add rfl rfl rfl (by omega) (by omega) ?_ | (refine st_lss rfl rfl rfl ?_ ?_ <;> (intro hc; try (exfalso; omega))) | (refine st_geq rfl rfl rfl ?_ ?_ <;> (intro hc; try (exfalso; omega)))) | refine st_field_p rfl (Nat.zero_add _) ?_ | refine st_index_map' rfl rfl hs (by omega) rfl ?_ | refine st_len_rd rfl ?_ | (refine gq7 ?_; first | refine st_pick_t (v := AV.bool _) rfl rfl ?_ | refine st_pick_f (v := AV.bool _) rfl rfl ?_)) | (refine gx ?_; first | refine sx_seq ?_ | refine sx_ops rfl ?_ | refine sx_skip ?_ | refine sx_block ?_ | refine sx_exit ?_ | refine sx_cond_t rfl ?_) | refine sk_norm ?_ | refine sk_exit ?_ | refine bk_exit ?_
    all_goals
     refine lk_next hi2 ⟨_, hm.iff (fun j => ?_), hbox, hr, hh_⟩
     rw [take_snoc hs]
     exact (goesTo_out hin j).symm
  ·repeat' first | refine st_nil ?_ | (refine gw ?_; first | (refine gq0 ?_; first | refine st_mv (v := AV.int _ _) rfl ?_ | refine st_mv (v := AV.rd _ _ _) rfl ?_ | refine st_mv (v := AV.own _ _ _ _ _ _) rfl ?_) | refine st_load_p rfl hg_ (by simp) b_ pv_ ?_ | (refine st_lss rfl rfl rfl ?_ ?_ <;> (intro hc; try (exfalso; omega))) | refine st_len_rd rfl ?_ | refine st_call rfl nt_ ?_) | (refine gx ?_; first | refine sx_seq ?_ | refine sx_ops rfl ?_ | refine sx_exit ?_ | refine sx_cond_f rfl ?_) | refine sk_norm ?_ | refine sk_exit ?_ | refine bk_exit ?_ | refine lk_exit ?_
   rw [List.take_of_length_le (by omega)] at hm
   refine call_any (closed_ok L n hn hf (v := .own im 1 1 0 n.k none) (bs := bs) hm.len (IsRow.own hr (Nat.le_refl _) (by simp [hm.len]))) ?_
   rintro _ h2 rfl
   repeat' first | refine st_nil ?_ | refine st_mv (v := AV.rd _ _ _) rfl ?_ | refine sx_ret ?_ | refine sk_norm ?_ | refine fin_ret (v := AV.rd _ _ _) rfl ?_
   rw [step1, if_pos hs, stepN, closeN_congr hm.ex]
end Go.Proofs.YtdldfflfbfpngaaGreatDoor
set_option linter.unusedVariables false
set_option linter.unusedSimpArgs false
namespace Go.Proofs.YtdldfflfbfpngaaGreatDoor
open Go
set_option maxHeartbeats 4000000
theorem sx_freeze {Φ : Lib} {Z : Option Nat → Bool} {l : List DOper} {K : Ex → Env → Heap → Prop} {env : Env} {h : Heap} (t : Nat) {v : AV} {e n : Nat} {cs : List AV} (hz : Z (firstDst l) = true) (ht : env t = v) (hr : IsRow h v e n cs)
  (k : ∀ h', (∀ id, v.rowId ≠ some id → h'.get id = h.get id) → wops (Runs Φ) l (K .norm) (env.put t (.rd n cs false)) h') : xcode (Runs Φ) Z (.ops l) K env h := by
 rw [xcode_ops, if_pos hz]
 refine .inr ⟨fun id => v.rowId = some id, env.put t (.rd n cs false), fun i => ?_, k _ fun id hid => ?_⟩
 ·by_cases hi : i = t
  ·subst hi
   rw [ht, Env.put_apply, if_pos rfl]
   exact hr.fz _ (fun _ h => h) (FzL.same _)
  ·rw [Env.put_apply, if_neg hi]
   exact .same _
 ·simp only [Heap.drop, hid, if_false]
attribute [local irreducible] wops xcode wcode seqK blockK loopK finK wcall wop wstp Runs
theorem foldl_lay_rises (l : List Int) : (l.foldl layS []).Pairwise (· < ·) ∧ ∀ y, y ∈ l.foldl layS [] ↔ y ∈ l := by
 have h := foldl_layS l [] .nil
 exact ⟨h.1, fun y => (h.2 y).trans (by simp)⟩
theorem foldl_lay_tags (n : Nfa) (at_ : List Int) : (at_.filterMap n.tagOf).foldl layS [] = tagsN n at_ := by
 obtain ⟨h1, h2⟩ := foldl_lay_rises (at_.filterMap n.tagOf)
 refine rise_unique h1 (tagsN_rises n at_) fun x => ?_
 rw [h2, tagsN, compactL_mem, (List.mergeSort_perm _ _).mem_iff]
theorem rtags_ok {Φ : Lib} (L : C2Lib Φ) (n : Nfa) (hf : n.Fits) (at_ : List Int) (fl : Bool) (hat : at_.length ≤ 1048576) : Pure Φ 17 [.agg n.av, .rd at_.length (at_.map (.int .i64)) fl] (rowI (tags1 n at_)) := by
 have hft := hf.tags
 have hsk := rsound_ok L n hf
 refine runs_of (fun o => o == some 7) rfl L.f17 ?_
 cases hs : soundN n
 all_goals rw [hs] at hsk
 ·repeat' first | refine st_nil ?_ | (refine gw ?_; first | refine st_mv (v := AV.rd _ _ _) rfl ?_ | refine st_load_p rfl hg_ (by simp) b_ pv_ ?_ | refine st_call rfl nt_ ?_ | (refine st_box (v := AV.agg _) rfl rfl ?_; intro id hid; try simp only [Heap.set_none] at hid) | refine st_not (b := false) rfl ?_) | (refine gx ?_; first | refine sx_seq ?_ | refine sx_ops rfl ?_ | refine sx_ret ?_ | refine sx_cond_t rfl ?_) | refine sk_norm ?_ | refine sk_ret ?_ | refine call_pure (by assumption) fz_ fz_ ?_
  exact fin_row rfl (IsRow.nil _ 1) (fun _ => by simp [tags1, hs])
 ·have hn := sound_ok_iff.1 hs
  have hk : n.k = n.tags.l.length := rfl
  repeat' first | refine st_nil ?_ | (refine gw ?_; first | (refine gq0 ?_; first | refine st_mv (v := AV.int _ _) rfl ?_ | refine st_mv (v := AV.rd _ _ _) rfl ?_) | refine st_load_p rfl hg_ (by simp) b_ pv_ ?_ | refine st_call rfl nt_ ?_ | (refine st_box (v := AV.agg _) rfl rfl ?_; intro id hid; try simp only [Heap.set_none] at hid) | refine st_not (b := true) rfl ?_) | (refine gx ?_; first | refine sx_seq ?_ | refine sx_ops rfl ?_ | refine sx_skip ?_ | refine sx_block ?_ | refine sx_cond_f rfl ?_) | refine sk_norm ?_ | refine call_pure (by assumption) fz_ fz_ ?_
  rename Nat => ib
  rename Heap.get _ _ = none => hib
  refine sx_for at_.length (fun i env h' => ∃ v, h'.get ib = some (.cells 0 n.av) ∧ IsRow h' v 1 (((at_.take i).filterMap n.tagOf).foldl layS []).length ((((at_.take i).filterMap n.tagOf).foldl layS []).map (.int .i64)) ∧ v.rowId ≠ some ib ∧ env.has [(1, .rd at_.length (at_.map (.int .i64)) fl), (2, .ptr ib 0 0), (5, v), (6, .int .i64 i)]) ⟨_, Heap.get_set_self _ _ _, IsRow.nil _ _, (by simp [AV.rowId]), hh_⟩ ?_
  rintro i env h' hi ⟨v, hbox, hrow, hv, he⟩
  obtain ⟨env, rfl⟩ := he.ex
  clear he
  by_cases hi2 : i < at_.length
  ·obtain ⟨s, hs⟩ := ex_get hi2
   have hlen : (((at_.take i).filterMap n.tagOf).foldl layS []).length ≤ i := by
    have h1 := foldl_lay_length ((at_.take i).filterMap n.tagOf) []
    have h2 := List.length_filterMap_le n.tagOf (at_.take i)
    rw [List.length_take] at h2
    simp at h1; omega
   by_cases hin : 0 ≤ s ∧ s < n.k
   ·obtain ⟨t, ht⟩ := ex_get (l := n.tags.l) (show s.toNat < n.tags.l.length by omega)
    have hgd : n.tags.l.getD s.toNat 0 = t := by rw [List.getD_eq_getElem?_getD, ht]; rfl
    by_cases ht0 : 0 ≤ t
    ·have hyes : n.tagOf s = some t := by rw [Nfa.tagOf, if_pos ⟨hin.1, hin.2, by rw [hgd]; exact ht0⟩, hgd]
     have hnx : ((at_.take (i + 1)).filterMap n.tagOf).foldl layS [] = layS (((at_.take i).filterMap n.tagOf).foldl layS []) t := by
      rw [take_snoc hs, List.filterMap_append, List.foldl_append]
      simp [hyes]
     generalize ((at_.take i).filterMap n.tagOf).foldl layS [] = out at *
     repeat' first | refine st_nil ?_ | (refine gw ?_; first | (refine gq0 ?_; first | refine st_mv (v := AV.int _ _) rfl ?_ | refine st_mv (v := AV.bool _) rfl ?_ | refine st_mv (v := AV.rd _ _ _) rfl ?_) | refine st_gog rfl ?_ | (refine gq2 ?_; first | refine st_load_r rfl b_ pv_ ?_ | refine st_load_p rfl hg_ (by simp) b_ pv_ ?_) | (refine gq3 ?_; first | (refine st_lss rfl rfl rfl ?_ ?_ <;> (intro hc; try (exfalso; omega))) | (refine st_geq rfl rfl rfl ?_ ?_ <;> (intro hc; try (exfalso; omega)))) | refine st_field_p rfl (Nat.zero_add _) ?_ | (refine gq5 ?_; first | refine st_index_map' rfl rfl hs (by omega) rfl ?_ | refine st_index_map' rfl rfl ht (by omega) rfl ?_) | refine st_len_rd rfl ?_ | refine st_pick_f (v := AV.bool _) rfl rfl ?_) | (refine gx ?_; first | refine sx_seq ?_ | refine sx_ops rfl ?_ | refine sx_skip ?_ | refine sx_block ?_ | refine sx_cond_t rfl ?_ | refine sx_cond_f rfl ?_) | refine sk_norm ?_
     refine sx_freeze 5 (v := v) rfl rfl hrow ?_
     intro h1 hk1
     have hbox1 := (hk1 ib hv).trans hbox
     clear hbox hrow hk1
     repeat' first | refine st_nil ?_ | (refine gw ?_; first | (refine gq0 ?_; first | refine st_mv (v := AV.int _ _) rfl ?_ | refine st_mv (v := AV.rd _ _ _) rfl ?_) | (refine gq2 ?_; first | refine st_load_r rfl b_ pv_ ?_ | refine st_load_p rfl hg_ (by simp) b_ pv_ ?_) | refine st_field_p rfl (Nat.zero_add _) ?_ | (refine gq5 ?_; first | refine st_index_map' rfl rfl hs (by omega) rfl ?_ | refine st_index_map' rfl rfl ht (by omega) rfl ?_)) | (refine gx ?_; first | refine sx_seq ?_ | refine sx_ops rfl ?_ | refine sx_block ?_) | refine sk_norm ?_
     refine sx_for out.length (fun q env h' => ∃ w, (∀ y ∈ out.take q, y < t) ∧ h'.get ib = some (.cells 0 n.av) ∧ IsRow h' w 1 q ((out.take q).map (.int .i64)) ∧ w.rowId ≠ some ib ∧ env.has [(1, .rd at_.length (at_.map (.int .i64)) fl), (2, .ptr ib 0 0), (5, rowI out), (6, .int .i64 i), (7, w), (8, .int .i64 t), (9, .int .i64 q)]) ⟨_, by simp, hbox1, IsRow.nil _ _, (by simp [AV.rowId]), hh_⟩ ?_
     clear hbox1
     rintro q env h' hq ⟨w, hpre, hbox, hrow, hw, he⟩
     obtain ⟨env, rfl⟩ := he.ex
     clear he
     have hlay := layS_at hpre
     have hkeep : ∀ {va : AV} {hpa : Heap} {w' : AV} {h2 : Heap}, h2.get ib = some (.cells 0 n.av) → w'.rowId ≠ some ib → (∀ id, h2.get id ≠ none → w'.rowId ≠ some id → hpa.get id = h2.get id) → (∀ id, va.rowId = some id → w'.rowId = some id ∨ h2.get id = none) → hpa.get ib = some (.cells 0 n.av) ∧ va.rowId ≠ some ib := fun hb hw' hka hria => ⟨(hka ib (by rw [hb]; simp) hw').trans hb, fun e => by
      rcases hria ib e with h | h
      ·exact hw' h
      ·rw [hb] at h; cases h⟩
     by_cases hq2 : q < out.length
     ·obtain ⟨a, ha⟩ := ex_get hq2
      have hd : out.drop q = a :: out.drop (q + 1) := by
       obtain ⟨h1, rfl⟩ := List.getElem?_eq_some_iff.1 ha
       exact List.drop_eq_getElem_cons h1
      rw [hd, layS] at hlay
      have e1 : (q : Int).toNat = q := by omega
      have e2 : ((q : Int) + 1).toNat = q + 1 := by omega
      repeat' first | refine st_nil ?_ | (refine gw ?_; first | (refine gq0 ?_; first | refine st_mv (v := AV.int _ _) rfl ?_ | refine st_mv (v := AV.bool _) rfl ?_ | refine st_mv (v := AV.rd _ _ _) rfl ?_ | refine st_mv rv_ ?_) | refine st_gog rfl ?_ | refine st_load_r rfl b_ pv_ ?_ | (refine gq3 ?_; first | refine st_add rfl rfl rfl (by omega) (by omega) ?_ | (refine st_lss rfl rfl rfl ?_ ?_ <;> (intro hc; try (exfalso; omega))) | (refine st_eql rfl rfl rfl ?_ ?_ <;> (intro hc; try (exfalso; omega)))) | refine st_index_map' rfl rfl ha (by omega) rfl ?_ | refine st_len_rd rfl ?_ | refine st_pick_t (v := AV.bool _) rfl rfl ?_ | (refine gq14 ?_; first | (refine st_append (m := 1) rv_ ir_ rfl rfl (by omega) ?_; intro va hpa hra hka hria) | (refine st_append rv_ ir_ rfl (by simp) (by first | omega | (simp; omega)) ?_; intro va hpa hra hka hria)) | refine st_lit (cs := [AV.int _ _]) rfl rfl ?_ | refine st_slice_lo_map rfl rfl rfl (by omega) (by omega) ?_) | (refine gx ?_; first | refine sx_seq ?_ | refine sx_ops rfl ?_ | refine sx_skip ?_ | refine sx_block ?_ | refine sx_exit ?_ | refine sx_cond_t rfl ?_ | refine sx_cond_f rfl ?_) | refine sk_norm ?_ | refine sk_exit ?_ | refine bk_norm ?_ | refine bk_exit ?_ | refine lk_exit ?_
      ·obtain ⟨k1, k2⟩ := hkeep hbox hw hka hria
       refine lk_next hq2 ⟨va, (fun y hy => ?_), k1, ?_, k2, hh_⟩
       ·rw [take_snoc ha] at hy
        rcases List.mem_append.1 hy with hy | hy
        ·exact hpre y hy
        ·simp only [List.mem_singleton] at hy
         omega
       ·rw [take_snoc ha, List.map_append]
        exact hra
      ·rename_i va1 hpa1 hra1 hka1 hria1
       obtain ⟨k1, k2⟩ := hkeep hbox hw hka1 hria1
       obtain ⟨k3, k4⟩ := hkeep k1 k2 hka hria
       rw [if_neg (by omega), if_pos (by omega)] at hlay
       have hat2 : a = t := by omega
       refine lk_next hi2 ⟨va, k3, ?_, k4, hh_⟩
       have e4 : (out.take q).length = q := by rw [List.length_take]; omega
       have e3 : (out.drop (q + 1)).length = out.length - (q + 1) := by simp
       rw [e2] at hra
       simp only [hnx, hlay, hat2, List.length_append, List.length_cons, List.map_append, List.map_cons, List.append_assoc, List.cons_append, List.nil_append] at hra ⊢
       rw [show (out.take q).length + ((out.drop (q + 1)).length + 1) = q + 1 + (out.drop (q + 1)).length by omega]
       exact hra
      ·rename_i va1 hpa1 hra1 hka1 hria1
       obtain ⟨k1, k2⟩ := hkeep hbox hw hka1 hria1
       obtain ⟨k3, k4⟩ := hkeep k1 k2 hka hria
       rw [if_neg (by omega), if_neg (by omega), ← hd] at hlay
       refine lk_next hi2 ⟨va, k3, ?_, k4, hh_⟩
       have e4 : (out.take q).length = q := by rw [List.length_take]; omega
       have e3 : (out.drop q).length = out.length - q := by simp
       rw [e1] at hra
       simp only [hnx, hlay, List.length_append, List.length_cons, List.map_append, List.map_cons, List.append_assoc, List.cons_append, List.nil_append] at hra ⊢
       rw [show (out.take q).length + ((out.drop q).length + 1) = q + 1 + (out.drop q).length by omega]
       exact hra
     ·have e1 : (q : Int).toNat = q := by omega
      repeat' first | refine st_nil ?_ | (refine gw ?_; first | (refine gq0 ?_; first | refine st_mv (v := AV.int _ _) rfl ?_ | refine st_mv (v := AV.bool _) rfl ?_ | refine st_mv (v := AV.rd _ _ _) rfl ?_ | refine st_mv rv_ ?_) | refine st_skipg rfl ?_ | (refine gq3 ?_; first | refine st_add rfl rfl rfl (by omega) (by omega) ?_ | (refine st_lss rfl rfl rfl ?_ ?_ <;> (intro hc; try (exfalso; omega)))) | refine st_len_rd rfl ?_ | refine st_pick_f (v := AV.bool _) rfl rfl ?_ | (refine gq14 ?_; first | (refine st_append (m := 1) rv_ ir_ rfl rfl (by omega) ?_; intro va hpa hra hka hria) | (refine st_append rv_ ir_ rfl (by simp) (by first | omega | (simp; omega)) ?_; intro va hpa hra hka hria)) | refine st_lit (cs := [AV.int _ _]) rfl rfl ?_ | refine st_slice_lo_map rfl rfl rfl (by omega) (by omega) ?_) | (refine gx ?_; first | refine sx_seq ?_ | refine sx_ops rfl ?_ | refine sx_skip ?_ | refine sx_exit ?_ | refine sx_cond_f rfl ?_) | refine sk_norm ?_ | refine sk_exit ?_ | refine bk_norm ?_ | refine bk_exit ?_ | refine lk_exit ?_
      rename_i va1 hpa1 hra1 hka1 hria1
      obtain ⟨k1, k2⟩ := hkeep hbox hw hka1 hria1
      obtain ⟨k3, k4⟩ := hkeep k1 k2 hka hria
      rw [List.drop_of_length_le (by omega), layS] at hlay
      refine lk_next hi2 ⟨va, k3, ?_, k4, hh_⟩
      have e4 : (out.take q).length = q := by rw [List.length_take]; omega
      rw [e1, List.drop_of_length_le (by omega)] at hra
      simp only [hnx, hlay, List.length_append, List.length_cons, List.map_append, List.map_cons, List.append_assoc, List.cons_append, List.nil_append, List.length_nil, List.map_nil, List.append_nil, Nat.add_zero] at hra ⊢
      rw [show (out.take q).length + (0 + 1) = q + 1 by omega]
      exact hra
    ·have hno : n.tagOf s = none := by rw [Nfa.tagOf, if_neg (fun h => ht0 (hgd ▸ h.2.2))]
     repeat' first | refine st_nil ?_ | (refine gw ?_; first | (refine gq0 ?_; first | refine st_mv (v := AV.int _ _) rfl ?_ | refine st_mv (v := AV.bool _) rfl ?_ | refine st_mv (v := AV.rd _ _ _) rfl ?_) | refine st_gog rfl ?_ | (refine gq2 ?_; first | refine st_load_r rfl b_ pv_ ?_ | refine st_load_p rfl hg_ (by simp) b_ pv_ ?_) | (refine gq3 ?_; first | refine st_add rfl rfl rfl (by omega) (by omega) ?_ | (refine st_lss rfl rfl rfl ?_ ?_ <;> (intro hc; try (exfalso; omega))) | (refine st_geq rfl rfl rfl ?_ ?_ <;> (intro hc; try (exfalso; omega)))) | refine st_field_p rfl (Nat.zero_add _) ?_ | (refine gq5 ?_; first | refine st_index_map' rfl rfl hs (by omega) rfl ?_ | refine st_index_map' rfl rfl ht (by omega) rfl ?_) | refine st_len_rd rfl ?_ | refine st_pick_f (v := AV.bool _) rfl rfl ?_) | (refine gx ?_; first | refine sx_seq ?_ | refine sx_ops rfl ?_ | refine sx_skip ?_ | refine sx_block ?_ | refine sx_exit ?_ | refine sx_cond_t rfl ?_) | refine sk_norm ?_ | refine sk_exit ?_ | refine bk_exit ?_
     refine lk_next hi2 ⟨v, hbox, ?_, hv, hh_⟩
     rw [take_snoc hs, List.filterMap_append, List.foldl_append]
     simpa [hno] using hrow
   ·have hno : n.tagOf s = none := by rw [Nfa.tagOf, if_neg (fun h => hin ⟨h.1, h.2.1⟩)]
    repeat' first | refine st_nil ?_ | (refine gw ?_; first | (refine gq0 ?_; first | refine st_mv (v := AV.int _ _) rfl ?_ | refine st_mv (v := AV.bool _) rfl ?_ | refine st_mv (v := AV.rd _ _ _) rfl ?_) | (refine gq1 ?_; first | refine st_skipg rfl ?_ | refine st_gog rfl ?_) | (refine gq2 ?_; first | refine st_load_r rfl b_ pv_ ?_ | refine st_load_p rfl hg_ (by simp) b_ pv_ ?_) | (refine gq3 ?_; first | refine st_add rfl rfl rfl (by omega) (by omega) ?_ | (refine st_lss rfl rfl rfl ?_ ?_ <;> (intro hc; try (exfalso; omega))) | (refine st_geq rfl rfl rfl ?_ ?_ <;> (intro hc; try (exfalso; omega)))) | refine st_field_p rfl (Nat.zero_add _) ?_ | refine st_index_map' rfl rfl hs (by omega) rfl ?_ | refine st_len_rd rfl ?_ | (refine gq7 ?_; first | refine st_pick_t (v := AV.bool _) rfl rfl ?_ | refine st_pick_f (v := AV.bool _) rfl rfl ?_)) | (refine gx ?_; first | refine sx_seq ?_ | refine sx_ops rfl ?_ | refine sx_skip ?_ | refine sx_block ?_ | refine sx_exit ?_ | refine sx_cond_t rfl ?_) | refine sk_norm ?_ | refine sk_exit ?_ | refine bk_exit ?_
    all_goals
     refine lk_next hi2 ⟨v, hbox, ?_, hv, hh_⟩
     rw [take_snoc hs, List.filterMap_append, List.foldl_append]
     simpa [hno] using hrow
  ·repeat' first | refine st_nil ?_ | (refine gw ?_; first | (refine gq0 ?_; first | refine st_mv (v := AV.int _ _) rfl ?_ | refine st_mv (v := AV.rd _ _ _) rfl ?_ | refine st_mv rv_ ?_) | (refine st_lss rfl rfl rfl ?_ ?_ <;> (intro hc; try (exfalso; omega))) | refine st_len_rd rfl ?_) | (refine gx ?_; first | refine sx_seq ?_ | refine sx_ops rfl ?_ | refine sx_ret ?_ | refine sx_exit ?_ | refine sx_cond_f rfl ?_) | refine sk_norm ?_ | refine sk_exit ?_ | refine bk_exit ?_ | refine lk_exit ?_
   rw [List.take_of_length_le (by omega), foldl_lay_tags] at hrow
   exact fin_row rfl hrow (fun _ => by rw [tags1, if_pos hs])
theorem rlongest_ok {Φ : Lib} (L : C2Lib Φ) (n : Nfa) (hf : n.Fits) (s : List Int) (fl : Bool) (hsl : s.length ≤ 1048576) : Pure Φ 20 [.agg n.av, .rd s.length (s.map (.int .i64)) fl] (.tup [.int .i64 (longest1 n s).1, .int .i64 (longest1 n s).2]) := by
 have hft := hf.tags
 have hk : n.k = n.tags.l.length := rfl
 refine runs_of (fun _ => false) rfl L.f20 ?_
 have hst := rstart_ok L n hf
 repeat' first | refine st_nil ?_ | (refine gw ?_; first | (refine gq0 ?_; first | refine st_mv (v := AV.int _ _) rfl ?_ | refine st_mv (v := AV.rd _ _ _) rfl ?_) | refine st_load_p rfl hg_ (by simp) b_ pv_ ?_ | refine st_call rfl nt_ ?_ | (refine st_box (v := AV.agg _) rfl rfl ?_; intro id hid; try simp only [Heap.set_none] at hid)) | (refine gx ?_; first | refine sx_seq ?_ | refine sx_ops rfl ?_ | refine sx_block ?_) | refine sk_norm ?_ | refine call_pure (by assumption) fz_ fz_ ?_
 rename Nat => ib
 rename Heap.get _ _ = none => hib
 refine sx_for s.length (fun i env h' => ∃ at_ a b, h'.get ib = some (.cells 0 n.av) ∧ at_.length ≤ n.k ∧ (soundN n = true → longFrom n i at_ (s.drop i) (a, b) = longest1 n s) ∧ (soundN n = false → (a, b) = longest1 n s) ∧ env.has [(1, .rd s.length (s.map (.int .i64)) fl), (2, .ptr ib 0 0), (6, rowI at_), (7, .int .i64 a), (8, .int .i64 b), (9, .int .i64 i)]) ⟨start1 n, 0, -1, Heap.get_set_self _ _ _, ?_, ?_, ?_, hh_⟩ ?_
 ·unfold start1; split
  ·exact closeN_length _ _
  ·simp
 ·intro h; simp [longest1, h, longestN, start1]
 ·intro h; simp [longest1, h]
 rintro i env h' hi ⟨at_, a, b, hbox, hal, hlong, hbad, he⟩
 obtain ⟨env, rfl⟩ := he.ex
 clear he
 by_cases hi2 : i < s.length
 ·obtain ⟨r, hr⟩ := ex_get hi2
  have hd : s.drop i = r :: s.drop (i + 1) := by
   obtain ⟨h1, rfl⟩ := List.getElem?_eq_some_iff.1 hr
   exact List.drop_eq_getElem_cons h1
  have k1 := rstep_ok L n hf at_ false (by omega) r
  have hsl2 : (step1 n at_ r).length ≤ n.k := by
   unfold step1; split
   ·exact closeN_length _ _
   ·simp
  have k2 := rtags_ok L n hf (step1 n at_ r) false (by omega)
  have hun : soundN n = true → step1 n at_ r = stepN n at_ r := fun h => by rw [step1, if_pos h]
  have hun2 : soundN n = true → tags1 n (step1 n at_ r) = tagsN n (stepN n at_ r) := fun h => by rw [tags1, if_pos h, hun h]
  have hun3 : soundN n = false → tags1 n (step1 n at_ r) = [] := fun h => by rw [tags1, h]; rfl
  rw [hd] at hlong
  have hlong2 : soundN n = true → longFrom n (i + 1) (step1 n at_ r) (s.drop (i + 1)) (match tags1 n (step1 n at_ r) with
   | [] => (a, b)
   | t :: _ => ((i + 1 : Nat), t)) = longest1 n s := fun h => by
    have := hlong h
    rw [longFrom, ← hun2 h, ← hun h] at this
    exact this
  rcases htg : tags1 n (step1 n at_ r) with _ | ⟨t, tl⟩
  all_goals rw [htg] at hlong2 k2
  ·have hl0 : ([] : List Int).length = 0 := rfl
   repeat' first | refine st_nil ?_ | (refine gw ?_; first | (refine gq0 ?_; first | refine st_mv (v := AV.int _ _) rfl ?_ | refine st_mv (v := AV.rd _ _ _) rfl ?_) | (refine gq2 ?_; first | refine st_load_r rfl b_ pv_ ?_ | refine st_load_p rfl hg_ (by simp) b_ pv_ ?_) | (refine gq3 ?_; first | refine st_add rfl rfl rfl (by omega) (by omega) ?_ | (refine st_lss rfl rfl rfl ?_ ?_ <;> (intro hc; try (exfalso; omega))) | (refine st_gtr rfl rfl rfl ?_ ?_ <;> (intro hc; try (exfalso; omega)))) | refine st_index_map rfl rfl rfl (by assumption) rfl ?_ | refine st_len_rd rfl ?_ | refine st_call rfl nt_ ?_) | (refine gx ?_; first | refine sx_seq ?_ | refine sx_ops rfl ?_ | refine sx_skip ?_ | refine sx_block ?_ | refine sx_cond_t rfl ?_ | refine sx_cond_f rfl ?_) | refine sk_norm ?_ | refine bk_norm ?_ | refine call_pure (by assumption) fz_ fz_ ?_
   exact lk_next hi2 ⟨step1 n at_ r, a, b, hbox, hsl2, hlong2, hbad, hh_⟩
  ·have ht0 : (t :: tl)[0]? = some t := rfl
   have hl0 : (t :: tl).length = tl.length + 1 := rfl
   repeat' first | refine st_nil ?_ | (refine gw ?_; first | (refine gq0 ?_; first | refine st_mv (v := AV.int _ _) rfl ?_ | refine st_mv (v := AV.rd _ _ _) rfl ?_) | (refine gq2 ?_; first | refine st_load_r rfl b_ pv_ ?_ | refine st_load_p rfl hg_ (by simp) b_ pv_ ?_) | (refine gq3 ?_; first | refine st_add rfl rfl rfl (by omega) (by omega) ?_ | (refine st_lss rfl rfl rfl ?_ ?_ <;> (intro hc; try (exfalso; omega))) | (refine st_gtr rfl rfl rfl ?_ ?_ <;> (intro hc; try (exfalso; omega)))) | refine st_index_map rfl rfl rfl (by assumption) rfl ?_ | refine st_len_rd rfl ?_ | refine st_call rfl nt_ ?_) | (refine gx ?_; first | refine sx_seq ?_ | refine sx_ops rfl ?_ | refine sx_skip ?_ | refine sx_block ?_ | refine sx_cond_t rfl ?_) | refine sk_norm ?_ | refine bk_norm ?_ | refine call_pure (by assumption) fz_ fz_ ?_
   exact lk_next hi2 ⟨step1 n at_ r, _, _, hbox, hsl2, hlong2, fun h => absurd (hun3 h) (by rw [htg]; simp), hh_⟩
 ·have : (a, b) = longest1 n s := by
   cases hs : soundN n
   ·exact hbad hs
   ·rw [← hlong hs, List.drop_of_length_le (by omega), longFrom]
  repeat' first | refine st_nil ?_ | (refine gw ?_; first | (refine gq0 ?_; first | refine st_mv (v := AV.int _ _) rfl ?_ | refine st_mv (v := AV.rd _ _ _) rfl ?_) | (refine st_lss rfl rfl rfl ?_ ?_ <;> (intro hc; try (exfalso; omega))) | refine st_len_rd rfl ?_) | (refine gx ?_; first | refine sx_seq ?_ | refine sx_ops rfl ?_ | refine sx_ret ?_ | refine sx_exit ?_ | refine sx_cond_f rfl ?_) | refine sk_norm ?_ | refine sk_exit ?_ | refine bk_exit ?_ | refine lk_exit ?_ | refine fin_ret (v := AV.tup _) rfl ?_
  rw [← this]
  rfl
end Go.Proofs.YtdldfflfbfpngaaGreatDoor
