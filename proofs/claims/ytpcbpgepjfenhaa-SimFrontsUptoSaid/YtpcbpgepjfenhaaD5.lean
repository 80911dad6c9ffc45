/- slices.Compact; sim: tags, Tags, Longest. -/
import Derived.Test.YtpcbpgepjfenhaaD4
set_option linter.unusedVariables false
set_option linter.unusedSimpArgs false
namespace Go.Proofs.Ytpcbpgepjfenhaa
open Go
set_option maxHeartbeats 4000000
attribute [local irreducible] wops xcode wcode seqK blockK loopK finK wcall wop wstp Runs

theorem flat_reps (z : AV) : ∀ m : Nat, (List.replicate m [z]).flatten = List.replicate m z
  | 0 => rfl
  | m + 1 => by rw [List.replicate_succ, List.flatten_cons, flat_reps z m]; rfl
theorem st_clear_own {F : FnSem} {r : List DOper} {Q : Env → Heap → Prop} {env : Env} {h : Heap} {x : DOpd} {z : AV} {cs : List AV} {id g off len : Nat} {lim : Option Nat} (hx : ev env x = .own id g 1 off len lim) (hg : h.get id = some (.cells g cs)) (hl : off + len ≤ cs.length) (k : wops F r Q env (h.set id (.cells g (cs.take off ++ List.replicate len z ++ cs.drop (off + len))))) : wops F (⟨none, .clear [z] x, none⟩ :: r) Q env h := by
  have e := flat_reps z len
  simp only [wops_go, wop_clear, effRes, hx, hg, putDst_none]
  rw [if_pos ⟨trivial, rfl, by rw [Nat.mul_one]; exact hl⟩]
  simp only [wres_val, Nat.mul_one, e]
  exact k

theorem IsPre.fz {h : Heap} {v : AV} {e n : Nat} {cs cs' : List AV} (hr : IsPre h v e n cs) (S : Nat → Prop) (hS : ∀ id, v.rowId = some id → S id) (hc : FzL h S cs cs') : FzV h S v (.rd n cs' false) := by
  rcases hr with ⟨rfl, rfl, rfl⟩ | ⟨id, g, all, rfl, h2, h3, h4, h5⟩
  · cases hc
    exact .rd .nil (fun h => by cases h)
  · refine .own (hS id rfl) h2 (by rw [Nat.zero_add]; exact h4) ?_
    rw [Nat.zero_mul, List.drop_zero, h5]
    exact hc
theorem fin_pre {rs : List DRes} {Q : AV → Heap → Prop} {env : Env} {h : Heap} {v : AV} {e n : Nat} {cs : List AV} (hv : resVals env h rs = some v) (hr : IsPre h v e n cs) (k : ∀ h', Q (.rd n cs false) h') : finK rs Q .ret env h :=
  fin_ret_fz (fun id => v.rowId = some id) hv (hr.fz _ (fun _ h => h) (FzL.same _)) (k _)

theorem compactL_take {zs : List Int} {m : Nat} {x y : Int} (hx : zs[m]? = some x) (hy : zs[m - 1]? = some y) (hm : 1 ≤ m) : compactL (zs.take (m + 1)) = if x = y then compactL (zs.take m) else compactL (zs.take m) ++ [x] := by
  rw [take_snoc hx, compactL_snoc, cptStep, compactL_last]
  have : (zs.take m).getLast? = some y := by
    rw [List.getLast?_eq_getElem?, List.length_take, Nat.min_eq_left (by have := lt_of_getElem? hx; omega), List.getElem?_take, if_pos (by omega), hy]
  rw [this]
  by_cases e : x = y
  · subst e; simp
  · simp [e, Ne.symm e]

theorem compact_ok {Φ : Lib} (L : C1Lib Φ) {h : Heap} {v : AV} {zs : List Int} (hr : IsRow h v 1 zs.length (zs.map (.int .i64))) (hl : zs.length ≤ 1073741824) : Runs Φ 43 [v] h (fun v' h' => IsPre h' v' 1 (compactL zs).length ((compactL zs).map (.int .i64))) := by
  refine runs_of (fun _ => false) rfl L.f43 ?_
  rcases hr with ⟨rfl, h1, h2⟩ | ⟨id, g, rfl, h2, h3, h4⟩
  · have : zs = [] := List.eq_nil_of_length_eq_zero h1
    subst this
    repeat' first | refine st_nil ?_ | (show wops _ _ _ _ _; first | (show wops _ (⟨_, .mv _, none⟩ :: _) _ _ _; refine st_mv (v := AV.rd _ _ _) rfl ?_) | (show wops _ (⟨_, .bin _ _ _, none⟩ :: _) _ _ _; (refine st_lss rfl rfl rfl ?_ ?_ <;> (intro hc; try (exfalso; omega)))) | (show wops _ (⟨_, .len _ _, none⟩ :: _) _ _ _; refine st_len_rd rfl ?_)) | (show xcode _ _ _ _ _ _; first | refine sx_seq ?_ | refine sx_ops rfl ?_ | refine sx_ret ?_ | refine sx_cond_t rfl ?_) | refine sk_norm ?_ | refine sk_ret ?_
    exact fin_ret (v := .rd 0 [] true) rfl (.inl ⟨rfl, rfl, rfl⟩)
  · have hpre : ∀ {c : List AV} {i : Nat} {h' : Heap} {l : List AV}, h'.get id = some (.cells g c) → i ≤ c.length → c.take i = l → IsPre h' (.own id g 1 0 i none) 1 i l := fun hg hi hc => .inr ⟨id, g, _, rfl, hg, h3, by omega, by rw [Nat.mul_one]; exact hc⟩
    repeat' first | refine st_nil ?_ | (show wops _ _ _ _ _; first | (show wops _ (⟨_, .mv _, none⟩ :: _) _ _ _; first | refine st_mv (v := AV.int _ _) rfl ?_ | refine st_mv (v := AV.rd _ _ _) rfl ?_ | refine st_mv (v := AV.own _ _ _ _ _ _) rfl ?_) | (show wops _ (⟨_, .bin _ _ _, none⟩ :: _) _ _ _; (refine st_lss rfl rfl rfl ?_ ?_ <;> (intro hc; try (exfalso; omega)))) | (show wops _ (⟨_, .len _ _, none⟩ :: _) _ _ _; refine st_len_own rfl ?_)) | (show xcode _ _ _ _ _ _; first | refine sx_seq ?_ | refine sx_ops rfl ?_ | refine sx_skip ?_ | refine sx_block ?_ | refine sx_ret ?_ | refine sx_cond_t rfl ?_ | refine sx_cond_f rfl ?_) | refine sk_norm ?_ | refine sk_ret ?_
    · have : compactL zs = zs := by
        match zs, hc with
        | [], _ => rfl
        | [a], _ => rfl
        | a :: b :: l, hc => simp at hc; omega
      rw [this]
      exact fin_ret (v := .own id g 1 0 zs.length none) rfl (hpre h2 (by simp) (List.take_of_length_le (by simp)))
    · refine sx_sub zs.length (fun i env h' => h' = h ∧ 1 ≤ i ∧ compactL (zs.take i) = zs.take i ∧ env.has [(0, .own id g 1 0 zs.length none), (3, .int .i64 i)]) 1 (by omega) ⟨rfl, by omega, ?_, hh_⟩ ?_
      · match zs, hc with
        | [], _ => rfl
        | a :: l, _ => rfl
      rintro i env h' hi ⟨rfl, hi1, hcp, he⟩
      obtain ⟨env, rfl⟩ := he.ex
      clear he
      by_cases hi2 : i < zs.length
      · obtain ⟨x, hx⟩ := ex_get hi2
        obtain ⟨y, hy⟩ := ex_get (show i - 1 < zs.length by omega)
        have hct := compactL_take hx hy hi1
        repeat' first | refine st_nil ?_ | (show wops _ _ _ _ _; first | (show wops _ (⟨_, .mv _, none⟩ :: _) _ _ _; first | refine st_mv (v := AV.int _ _) rfl ?_ | refine st_mv (v := AV.own _ _ _ _ _ _) rfl ?_) | (show wops _ (⟨_, .load _ _ _ _, none⟩ :: _) _ _ _; first | refine st_load_map (g := _) rfl hg_ hx eq_ ?_ | refine st_load_map (g := _) rfl hg_ hy eq_ ?_) | (show wops _ (⟨_, .bin _ _ _, none⟩ :: _) _ _ _; first | refine st_add rfl rfl rfl (by omega) (by omega) ?_ | refine st_sub rfl rfl rfl (by omega) (by omega) ?_ | (refine st_lss rfl rfl rfl ?_ ?_ <;> (intro hc; try (exfalso; omega))) | (refine st_eql rfl rfl rfl ?_ ?_ <;> (intro hc; try (exfalso; omega)))) | (show wops _ (⟨_, .indexAddr _ _ _, none⟩ :: _) _ _ _; refine st_index_own rfl rfl (by omega) (by omega) ?_) | (show wops _ (⟨_, .len _ _, none⟩ :: _) _ _ _; refine st_len_own rfl ?_) | (show wops _ (⟨_, .slice _ _ _ _ _, none⟩ :: _) _ _ _; refine st_slice_lo_own rfl rfl (by omega) (by omega) ?_)) | (show xcode _ _ _ _ _ _; first | refine sx_seq ?_ | refine sx_ops rfl ?_ | refine sx_skip ?_ | refine sx_block ?_ | refine sx_cond_t rfl ?_ | refine sx_cond_f rfl ?_) | refine sk_norm ?_ | refine bk_norm ?_
        · rw [if_pos hc] at hct
          have e0 : (i : Int).toNat = i := by omega
          refine sx_sub (zs.length - i) (fun k env h' => ∃ (j : Nat) (c : List Int), c.length = zs.length ∧ h'.get id = some (.cells g (c.map (.int .i64))) ∧ 1 ≤ k ∧ j = (compactL (zs.take (i + k))).length ∧ c.take j = compactL (zs.take (i + k)) ∧ c.drop (i + k - 1) = zs.drop (i + k - 1) ∧ j + 1 ≤ i + k ∧ env.has [(0, .own id g 1 0 zs.length none), (3, .int .i64 j), (4, .own id g 1 (i : Int).toNat ((zs.length : Int) - i).toNat none), (5, .int .i64 k)]) 1 (by omega) ⟨i, zs, rfl, h2, Nat.le_refl _, ?_, ?_, rfl, Nat.le_refl _, hh_⟩ ?_
          · rw [hct, hcp, List.length_take]; omega
          · rw [hct, hcp]
          clear h2 hx hy hct
          rintro k env h2 hk ⟨j, c, hcl, hgc, hk1, hj, hcj, hcd, hjm, he⟩
          obtain ⟨env, rfl⟩ := he.ex
          clear he
          have hget : ∀ q, i + k - 1 ≤ q → c[q]? = zs[q]? := fun q hq => by
            have := congrArg (fun l => l[q - (i + k - 1)]?) hcd
            simp only [List.getElem?_drop] at this
            rwa [show i + k - 1 + (q - (i + k - 1)) = q by omega] at this
          by_cases hk2 : k < zs.length - i
          · obtain ⟨x2, hx⟩ := ex_get (show i + k < zs.length by omega)
            obtain ⟨y2, hy⟩ := ex_get (show i + k - 1 < zs.length by omega)
            have hcx := (hget (i + k) (by omega)).trans hx
            have hcy := (hget (i + k - 1) (by omega)).trans hy
            have hct := compactL_take hx hy (by omega)
            repeat' first | refine st_nil ?_ | (show wops _ _ _ _ _; first | (show wops _ (⟨_, .mv _, none⟩ :: _) _ _ _; first | refine st_mv (v := AV.int _ _) rfl ?_ | refine st_mv (v := AV.own _ _ _ _ _ _) rfl ?_) | (show wops _ (⟨_, .load _ _ _ _, none⟩ :: _) _ _ _; first | refine st_load_map (g := _) rfl hg_ hcx eq_ ?_ | refine st_load_map (g := _) rfl hg_ hcy eq_ ?_) | (show wops _ (⟨_, .bin _ _ _, none⟩ :: _) _ _ _; first | refine st_add rfl rfl rfl (by omega) (by omega) ?_ | refine st_sub rfl rfl rfl (by omega) (by omega) ?_ | (refine st_lss rfl rfl rfl ?_ ?_ <;> (intro hc; try (exfalso; omega))) | (refine st_neq rfl rfl rfl ?_ ?_ <;> (intro hc; try (exfalso; omega)))) | (show wops _ (⟨_, .indexAddr _ _ _, none⟩ :: _) _ _ _; refine st_index_own rfl rfl (by omega) (by omega) ?_) | (show wops _ (⟨_, .len _ _, none⟩ :: _) _ _ _; refine st_len_own rfl ?_) | (show wops _ (⟨_, .store _ _ _, none⟩ :: _) _ _ _; refine st_store1 (g := _) rfl rfl hg_ (by simp only [Nat.zero_add, Nat.mul_one]; exact rfl) (by omega) rfl rfl (by exact rfl) ?_)) | (show xcode _ _ _ _ _ _; first | refine sx_seq ?_ | refine sx_ops rfl ?_ | refine sx_skip ?_ | refine sx_block ?_ | refine sx_cond_t rfl ?_ | refine sx_cond_f rfl ?_) | refine sk_norm ?_ | refine bk_norm ?_
            · rw [if_neg ‹_›] at hct
              refine lk_next hk2 ⟨j + 1, c.set j x2, by simpa using hcl, Heap.get_set_self _ _ _, by omega, ?_, ?_, ?_, by omega, hh_⟩
              · rw [show i + (k + 1) = i + k + 1 by omega, hct, List.length_append, ← hj]; rfl
              · rw [show i + (k + 1) = i + k + 1 by omega, hct, ← hcj, List.take_add_one, List.take_set_of_le (by omega), List.getElem?_set_self (by omega)]; rfl
              · rw [List.drop_set_of_lt (by omega), show i + (k + 1) - 1 = (i + k - 1) + 1 by omega, ← List.drop_drop, ← List.drop_drop, hcd]
            · rw [if_pos ‹_›] at hct
              refine lk_next hk2 ⟨j, c, hcl, hgc, by omega, ?_, ?_, ?_, by omega, hh_⟩
              · rw [show i + (k + 1) = i + k + 1 by omega, hct]; exact hj
              · rw [show i + (k + 1) = i + k + 1 by omega, hct]; exact hcj
              · rw [show i + (k + 1) - 1 = (i + k - 1) + 1 by omega, ← List.drop_drop, ← List.drop_drop, hcd]
          · rw [List.take_of_length_le (l := zs) (by omega)] at hj hcj
            repeat' first | refine st_nil ?_ | (show wops _ _ _ _ _; first | (show wops _ (⟨_, .mv _, none⟩ :: _) _ _ _; first | refine st_mv (v := AV.int _ _) rfl ?_ | refine st_mv (v := AV.own _ _ _ _ _ _) rfl ?_) | (show wops _ (⟨_, .bin _ _ _, none⟩ :: _) _ _ _; (refine st_lss rfl rfl rfl ?_ ?_ <;> (intro hc; try (exfalso; omega)))) | (show wops _ (⟨_, .len _ _, none⟩ :: _) _ _ _; refine st_len_own rfl ?_) | (show wops _ (⟨_, .slice _ _ _ _ _, none⟩ :: _) _ _ _; first | refine st_slice_hi_own rfl rfl (by omega) (by omega) ?_ | refine st_slice_lo_own rfl rfl (by omega) (by omega) ?_) | (show wops _ (⟨_, .clear _ _, none⟩ :: _) _ _ _; refine st_clear_own rfl hg_ (by first | (simp; done) | (simp; omega)) ?_)) | (show xcode _ _ _ _ _ _; first | refine sx_seq ?_ | refine sx_ops rfl ?_ | refine sx_ret ?_ | refine sx_exit ?_ | refine sx_cond_f rfl ?_) | refine sk_norm ?_ | refine sk_ret ?_ | refine sk_exit ?_ | refine bk_ret ?_ | refine bk_exit ?_ | refine lk_ret ?_ | refine lk_exit ?_
            have ej : (j : Int).toNat = j := by omega
            refine fin_ret (v := .own id g 1 0 j none) rfl ?_
            rw [← hj]
            refine hpre (Heap.get_set_self _ _ _) ?_ ?_
            · rw [ej, List.length_append, List.length_append, List.length_take, List.length_map]; omega
            · rw [ej, List.append_assoc, List.take_append_of_le_length (by rw [List.length_take, List.length_map]; omega), List.take_take, Nat.min_self, ← List.map_take, hcj]
        · rw [if_neg hc] at hct
          refine lk_next hi2 ⟨rfl, by omega, ?_, hh_⟩
          rw [hct, hcp, take_snoc hx]
      · repeat' first | refine st_nil ?_ | (show wops _ _ _ _ _; first | (show wops _ (⟨_, .mv _, none⟩ :: _) _ _ _; first | refine st_mv (v := AV.int _ _) rfl ?_ | refine st_mv (v := AV.own _ _ _ _ _ _) rfl ?_) | (show wops _ (⟨_, .bin _ _ _, none⟩ :: _) _ _ _; (refine st_lss rfl rfl rfl ?_ ?_ <;> (intro hc; try (exfalso; omega)))) | (show wops _ (⟨_, .len _ _, none⟩ :: _) _ _ _; refine st_len_own rfl ?_)) | (show xcode _ _ _ _ _ _; first | refine sx_seq ?_ | refine sx_ops rfl ?_ | refine sx_ret ?_ | refine sx_exit ?_ | refine sx_cond_f rfl ?_) | refine sk_norm ?_ | refine sk_exit ?_ | refine bk_exit ?_ | refine lk_exit ?_
        rw [List.take_of_length_le (by omega)] at hcp
        rw [hcp]
        exact fin_ret (v := .own id g 1 0 zs.length none) rfl (hpre h2 (by simp) (List.take_of_length_le (by simp)))

theorem tags_ok {Φ : Lib} (L : C1Lib Φ) (S : SortLib Φ) (n : Nfa) (hf : n.Fits) (at_ : List Int) (fl : Bool) (hat : at_.length ≤ 1048576) : Pure Φ 30 [.agg n.av, .rd at_.length (at_.map (.int .i64)) fl] (rowI (tagsN n at_)) := by
  have hft := hf.tags
  have hk : n.k = n.tags.l.length := rfl
  refine runs_of (fun _ => false) rfl L.f30 ?_
  repeat' first | refine st_nil ?_ | (show wops _ _ _ _ _; first | (show wops _ (⟨_, .mv _, none⟩ :: _) _ _ _; first | refine st_mv (v := AV.int _ _) rfl ?_ | refine st_mv (v := AV.rd _ _ _) rfl ?_) | (show wops _ (⟨_, .len _ _, none⟩ :: _) _ _ _; refine st_len_rd rfl ?_) | (show wops _ (⟨_, .box _, none⟩ :: _) _ _ _; (refine st_box (v := AV.agg _) rfl rfl ?_; intro id hid; try simp only [Heap.set_none] at hid))) | (show xcode _ _ _ _ _ _; first | refine sx_seq ?_ | refine sx_ops rfl ?_ | refine sx_block ?_) | refine sk_norm ?_
  rename Nat => ib
  rename Heap.get _ _ = none => hib
  refine sx_for at_.length (fun i env h' => ∃ v, h'.get ib = some (.cells 0 n.av) ∧ IsRow h' v 1 ((at_.take i).filterMap n.tagOf).length (((at_.take i).filterMap n.tagOf).map (.int .i64)) ∧ v.rowId ≠ some ib ∧ env.has [(2, .ptr ib 0 0), (5, v), (8, .rd at_.length (at_.map (.int .i64)) fl), (9, .int .i64 at_.length), (10, .int .i64 i)]) ⟨_, Heap.get_set_self _ _ _, IsRow.nil _ _, (by simp [AV.rowId]), hh_⟩ ?_
  rintro i env h' hi ⟨v, hbox, hrow, hv, he⟩
  obtain ⟨env, rfl⟩ := he.ex
  clear he
  have hlen : ((at_.take i).filterMap n.tagOf).length ≤ i := Nat.le_trans (List.length_filterMap_le _ _) (by rw [List.length_take]; omega)
  by_cases hi2 : i < at_.length
  · obtain ⟨s, hs⟩ := ex_get hi2
    by_cases hin : 0 ≤ s ∧ s < n.k
    · obtain ⟨t, ht⟩ := ex_get (l := n.tags.l) (show s.toNat < n.tags.l.length by omega)
      have hgd : n.tags.l.getD s.toNat 0 = t := by rw [List.getD_eq_getElem?_getD, ht]; rfl
      repeat' first | refine st_nil ?_ | (show wops _ _ _ _ _; first | (show wops _ (⟨_, .mv _, none⟩ :: _) _ _ _; first | refine st_mv (v := AV.int _ _) rfl ?_ | refine st_mv (v := AV.bool _) rfl ?_ | refine st_mv (by simp only [ev_tmp, Env.puts, Env.put_apply, reduceIte, Nat.reduceEqDiff]; exact rfl) ?_) | (show wops _ (⟨_, _, some _⟩ :: _) _ _ _; refine st_gog rfl ?_) | (show wops _ (⟨_, .load _ _ _ _, none⟩ :: _) _ _ _; first | refine st_load_r rfl (by first | (simp; done) | (simp; omega)) pv_ ?_ | refine st_load_p rfl hg_ (by simp) (by first | (simp; done) | (simp; omega)) pv_ ?_) | (show wops _ (⟨_, .bin _ _ _, none⟩ :: _) _ _ _; first | refine st_add rfl rfl rfl (by omega) (by omega) ?_ | (refine st_lss rfl rfl rfl ?_ ?_ <;> (intro hc; try (exfalso; omega))) | (refine st_geq rfl rfl rfl ?_ ?_ <;> (intro hc; try (exfalso; omega)))) | (show wops _ (⟨_, .fieldAddr _ _, none⟩ :: _) _ _ _; refine st_field_p rfl (Nat.zero_add _) ?_) | (show wops _ (⟨_, .indexAddr _ _ _, none⟩ :: _) _ _ _; first | refine st_index_map rfl rfl rfl (by assumption) rfl ?_ | refine st_index_map' rfl rfl (by assumption) (by omega) rfl ?_) | (show wops _ (⟨_, .len _ _, none⟩ :: _) _ _ _; refine st_len_rd rfl ?_) | (show wops _ (⟨_, .pick _ _ _, none⟩ :: _) _ _ _; refine st_pick_t (v := AV.bool _) rfl rfl ?_) | (show wops _ (⟨_, .append _ _ _, none⟩ :: _) _ _ _; (refine st_append (m := 1) rv_ ir_ rfl rfl (by omega) ?_; intro va hpa hra hka hria)) | (show wops _ (⟨_, .lit _ _ _ _, none⟩ :: _) _ _ _; refine st_lit (cs := [AV.int _ _]) rfl rfl ?_)) | (show xcode _ _ _ _ _ _; first | refine sx_seq ?_ | refine sx_ops rfl ?_ | refine sx_skip ?_ | refine sx_block ?_ | refine sx_cond_t rfl ?_ | refine sx_cond_f rfl ?_) | refine sk_norm ?_ | refine bk_norm ?_
      · have hyes : n.tagOf s = some t := by rw [Nfa.tagOf, if_pos ⟨hin.1, hin.2, by rw [hgd]; assumption⟩, hgd]
        refine lk_next hi2 ⟨va, (hka ib (by rw [hbox]; simp) hv).trans hbox, ?_, (fun e => ?_), hh_⟩
        · rw [take_snoc hs, List.filterMap_append]
          simpa [hyes] using hra
        · rcases hria ib e with h | h
          · exact hv h
          · rw [hbox] at h; cases h
      · have hno : n.tagOf s = none := by rw [Nfa.tagOf, if_neg (fun h => ‹¬ 0 ≤ t› (hgd ▸ h.2.2))]
        refine lk_next hi2 ⟨v, hbox, ?_, hv, hh_⟩
        rw [take_snoc hs, List.filterMap_append]
        simpa [hno] using hrow
    · have hno : n.tagOf s = none := by rw [Nfa.tagOf, if_neg (fun h => hin ⟨h.1, h.2.1⟩)]
      repeat' first | refine st_nil ?_ | (show wops _ _ _ _ _; first | (show wops _ (⟨_, .mv _, none⟩ :: _) _ _ _; first | refine st_mv (v := AV.int _ _) rfl ?_ | refine st_mv (v := AV.bool _) rfl ?_) | (show wops _ (⟨_, _, some _⟩ :: _) _ _ _; first | refine st_skipg rfl ?_ | refine st_gog rfl ?_) | (show wops _ (⟨_, .load _ _ _ _, none⟩ :: _) _ _ _; first | refine st_load_r rfl (by first | (simp; done) | (simp; omega)) pv_ ?_ | refine st_load_p rfl hg_ (by simp) (by first | (simp; done) | (simp; omega)) pv_ ?_) | (show wops _ (⟨_, .bin _ _ _, none⟩ :: _) _ _ _; first | refine st_add rfl rfl rfl (by omega) (by omega) ?_ | (refine st_lss rfl rfl rfl ?_ ?_ <;> (intro hc; try (exfalso; omega))) | (refine st_geq rfl rfl rfl ?_ ?_ <;> (intro hc; try (exfalso; omega)))) | (show wops _ (⟨_, .fieldAddr _ _, none⟩ :: _) _ _ _; refine st_field_p rfl (Nat.zero_add _) ?_) | (show wops _ (⟨_, .indexAddr _ _ _, none⟩ :: _) _ _ _; refine st_index_map rfl rfl rfl (by assumption) rfl ?_) | (show wops _ (⟨_, .len _ _, none⟩ :: _) _ _ _; refine st_len_rd rfl ?_) | (show wops _ (⟨_, .pick _ _ _, none⟩ :: _) _ _ _; first | refine st_pick_t (v := AV.bool _) rfl rfl ?_ | refine st_pick_f (v := AV.bool _) rfl rfl ?_)) | (show xcode _ _ _ _ _ _; first | refine sx_seq ?_ | refine sx_ops rfl ?_ | refine sx_skip ?_ | refine sx_block ?_ | refine sx_cond_t rfl ?_ | refine sx_cond_f rfl ?_) | refine sk_norm ?_ | refine bk_norm ?_
      all_goals
        refine lk_next hi2 ⟨v, hbox, ?_, hv, hh_⟩
        rw [take_snoc hs, List.filterMap_append]
        simpa [hno] using hrow
  · repeat' first | refine st_nil ?_ | (show wops _ _ _ _ _; first | (show wops _ (⟨_, .mv _, none⟩ :: _) _ _ _; refine st_mv (by simp only [ev_tmp, Env.puts, Env.put_apply, reduceIte, Nat.reduceEqDiff]; exact rfl) ?_) | (show wops _ (⟨_, .bin _ _ _, none⟩ :: _) _ _ _; (refine st_lss rfl rfl rfl ?_ ?_ <;> (intro hc; try (exfalso; omega)))) | (show wops _ (⟨_, .call _ _ _, none⟩ :: _) _ _ _; refine st_call rfl nt_ ?_)) | (show xcode _ _ _ _ _ _; first | refine sx_seq ?_ | refine sx_ops rfl ?_ | refine sx_exit ?_ | refine sx_cond_f rfl ?_) | refine sk_norm ?_ | refine sk_exit ?_ | refine bk_exit ?_ | refine lk_exit ?_
    rw [List.take_of_length_le (by omega)] at hrow
    rw [List.take_of_length_le (by omega)] at hlen
    refine call_any (sort_row S hrow (by omega)) ?_
    rintro _ h2 ⟨hr2, _⟩
    repeat' first | refine st_nil ?_ | (show wops _ _ _ _ _; first | (show wops _ (⟨_, .mv _, none⟩ :: _) _ _ _; refine st_mv (by simp only [ev_tmp, Env.puts, Env.put_apply, reduceIte, Nat.reduceEqDiff]; exact rfl) ?_) | (show wops _ (⟨_, .call _ _ _, none⟩ :: _) _ _ _; refine st_call rfl nt_ ?_)) | (show xcode _ _ _ _ _ _; first | refine sx_seq ?_ | refine sx_ops rfl ?_) | refine sk_norm ?_
    rw [← List.length_mergeSort (l := at_.filterMap n.tagOf) (le := fun x y => decide (x ≤ y))] at hr2
    refine call_any (compact_ok L hr2 (by rw [List.length_mergeSort]; omega)) ?_
    intro v' h3 hp
    repeat' first | refine st_nil ?_ | (show wops _ _ _ _ _; first | (show wops _ (⟨_, .mv _, none⟩ :: _) _ _ _; refine st_mv (by simp only [ev_tmp, Env.puts, Env.put_apply, reduceIte, Nat.reduceEqDiff]; exact rfl) ?_)) | (show xcode _ _ _ _ _ _; first | refine sx_ret ?_) | refine sk_norm ?_
    exact fin_pre rfl hp (fun _ => rfl)

noncomputable def tags1 (n : Nfa) (at_ : List Int) : List Int := if soundN n = true then tagsN n at_ else []
noncomputable def longest1 (n : Nfa) (s : List Int) : Int × Int := if soundN n = true then longestN n s else (0, -1)

-- uses hsk
theorem tagss_ok {Φ : Lib} (L : C1Lib Φ) (S : SortLib Φ) (n : Nfa) (hf : n.Fits) (at_ : List Int) (fl : Bool) (hat : at_.length ≤ 1048576) : Pure Φ 16 [.agg n.av, .rd at_.length (at_.map (.int .i64)) fl] (rowI (tags1 n at_)) := by
  refine runs_of (fun _ => false) rfl L.f16 ?_
  have hsk := sound_ok L S n hf
  cases hs : soundN n
  all_goals rw [hs] at hsk
  · repeat' first | refine st_nil ?_ | (show wops _ _ _ _ _; first | (show wops _ (⟨_, .mv _, none⟩ :: _) _ _ _; refine st_mv (v := AV.rd _ _ _) rfl ?_) | (show wops _ (⟨_, .load _ _ _ _, none⟩ :: _) _ _ _; refine st_load_p rfl hg_ (by simp) (by first | (simp; done) | (simp; omega)) pv_ ?_) | (show wops _ (⟨_, .call _ _ _, none⟩ :: _) _ _ _; refine st_call rfl nt_ ?_) | (show wops _ (⟨_, .box _, none⟩ :: _) _ _ _; (refine st_box (v := AV.agg _) rfl rfl ?_; intro id hid; try simp only [Heap.set_none] at hid)) | (show wops _ (⟨_, .un _ _, none⟩ :: _) _ _ _; refine st_not (b := false) rfl ?_)) | (show xcode _ _ _ _ _ _; first | refine sx_seq ?_ | refine sx_ops rfl ?_ | refine sx_ret ?_ | refine sx_cond_t rfl ?_) | refine sk_norm ?_ | refine sk_ret ?_ | refine call_pure (by assumption) fz_ fz_ ?_
    exact fin_row rfl (IsRow.nil _ 1) (fun _ => by simp [tags1, hs])
  · repeat' first | refine st_nil ?_ | (show wops _ _ _ _ _; first | (show wops _ (⟨_, .mv _, none⟩ :: _) _ _ _; refine st_mv (v := AV.rd _ _ _) rfl ?_) | (show wops _ (⟨_, .load _ _ _ _, none⟩ :: _) _ _ _; refine st_load_p rfl hg_ (by simp) (by first | (simp; done) | (simp; omega)) pv_ ?_) | (show wops _ (⟨_, .call _ _ _, none⟩ :: _) _ _ _; refine st_call rfl nt_ ?_) | (show wops _ (⟨_, .box _, none⟩ :: _) _ _ _; (refine st_box (v := AV.agg _) rfl rfl ?_; intro id hid; try simp only [Heap.set_none] at hid)) | (show wops _ (⟨_, .un _ _, none⟩ :: _) _ _ _; refine st_not (b := true) rfl ?_)) | (show xcode _ _ _ _ _ _; first | refine sx_seq ?_ | refine sx_ops rfl ?_ | refine sx_skip ?_ | refine sx_cond_f rfl ?_) | refine sk_norm ?_ | refine call_pure (by assumption) fz_ fz_ ?_
    refine call_pure (tags_ok L S n hf at_ fl hat) (by simp [AV.frozenL, AV.frozen]) (by simp [AV.frozen]) ?_
    repeat' first | refine st_nil ?_ | (show wops _ _ _ _ _; first | (show wops _ (⟨_, .mv _, none⟩ :: _) _ _ _; refine st_mv (v := AV.rd _ _ _) rfl ?_)) | (show xcode _ _ _ _ _ _; first | refine sx_ret ?_) | refine sk_norm ?_ | refine fin_ret (v := AV.rd _ _ _) rfl ?_
    simp [tags1, hs]

-- uses none
theorem closeN_length (n : Nfa) (P : Nat → Prop) : (closeN n P).length ≤ n.k := by
  unfold closeN
  rw [List.length_map]
  refine Nat.le_trans (List.length_filter_le _ _) ?_
  rw [List.length_range]; exact Nat.le_refl _

theorem longest_ok {Φ : Lib} (L : C1Lib Φ) (S : SortLib Φ) (n : Nfa) (hf : n.Fits) (s : List Int) (fl : Bool) (hsl : s.length ≤ 1048576) : Pure Φ 19 [.agg n.av, .rd s.length (s.map (.int .i64)) fl] (.tup [.int .i64 (longest1 n s).1, .int .i64 (longest1 n s).2]) := by
  refine runs_of (fun _ => false) rfl L.f19 ?_
  have hst := start_ok L S n hf
  repeat' first | refine st_nil ?_ | (show wops _ _ _ _ _; first | (show wops _ (⟨_, .mv _, none⟩ :: _) _ _ _; first | refine st_mv (v := AV.int _ _) rfl ?_ | refine st_mv (v := AV.rd _ _ _) rfl ?_) | (show wops _ (⟨_, .load _ _ _ _, none⟩ :: _) _ _ _; refine st_load_p rfl hg_ (by simp) (by first | (simp; done) | (simp; omega)) pv_ ?_) | (show wops _ (⟨_, .len _ _, none⟩ :: _) _ _ _; refine st_len_rd rfl ?_) | (show wops _ (⟨_, .call _ _ _, none⟩ :: _) _ _ _; refine st_call rfl nt_ ?_) | (show wops _ (⟨_, .box _, none⟩ :: _) _ _ _; (refine st_box (v := AV.agg _) rfl rfl ?_; intro id hid; try simp only [Heap.set_none] at hid))) | (show xcode _ _ _ _ _ _; first | refine sx_seq ?_ | refine sx_ops rfl ?_ | refine sx_block ?_) | refine sk_norm ?_ | refine call_pure (by assumption) fz_ fz_ ?_
  rename Nat => ib
  rename Heap.get _ _ = none => hib
  refine sx_for s.length (fun i env h' => ∃ at_ a b, h'.get ib = some (.cells 0 n.av) ∧ at_.length ≤ n.k ∧ (at_ ≠ [] → soundN n = true) ∧ (soundN n = true → longFrom n i at_ (s.drop i) (a, b) = longest1 n s) ∧ (soundN n = false → (a, b) = longest1 n s) ∧ env.has [(2, .ptr ib 0 0), (6, .int .i64 a), (7, .int .i64 b), (8, rowI at_), (14, .rd s.length (s.map (.int .i64)) fl), (15, .int .i64 s.length), (16, .int .i64 i)]) ⟨start1 n, 0, -1, Heap.get_set_self _ _ _, ?_, ?_, ?_, ?_, hh_⟩ ?_
  · unfold start1; split
    · exact closeN_length _ _
    · simp
  · intro h; unfold start1 at h; split at h
    · assumption
    · exact absurd rfl h
  · intro h; simp [longest1, h, longestN, start1]
  · intro h; simp [longest1, h]
  rintro i env h' hi ⟨at_, a, b, hbox, hal, hat, hlong, hbad, he⟩
  obtain ⟨env, rfl⟩ := he.ex
  clear he
  have hft := hf.tags
  have hk : n.k = n.tags.l.length := rfl
  have hend : at_ = [] ∨ i = s.length → (a, b) = longest1 n s := fun h => by
    cases hs : soundN n
    · exact hbad hs
    · rw [← hlong hs]
      rcases h with rfl | rfl
      · rw [longFrom_nil (sound_ok_iff.1 hs)]
      · rw [List.drop_length, longFrom]
  have hq : at_ = [] ∨ i = s.length → a = (longest1 n s).1 ∧ b = (longest1 n s).2 := fun h => by
    rw [← hend h]; exact ⟨rfl, rfl⟩
  by_cases hi2 : i < s.length
  · obtain ⟨r, hr⟩ := ex_get hi2
    have hd : s.drop i = r :: s.drop (i + 1) := by
      obtain ⟨h1, rfl⟩ := List.getElem?_eq_some_iff.1 hr
      exact List.drop_eq_getElem_cons h1
    repeat' first | refine st_nil ?_ | (show wops _ _ _ _ _; first | (show wops _ (⟨_, .mv _, none⟩ :: _) _ _ _; first | refine st_mv (v := AV.int _ _) rfl ?_ | refine st_mv (v := AV.rd _ _ _) rfl ?_) | (show wops _ (⟨_, .load _ _ _ _, none⟩ :: _) _ _ _; first | refine st_load_r rfl (by first | (simp; done) | (simp; omega)) pv_ ?_ | refine st_load_p rfl hg_ (by simp) (by first | (simp; done) | (simp; omega)) pv_ ?_) | (show wops _ (⟨_, .bin _ _ _, none⟩ :: _) _ _ _; first | (refine st_lss rfl rfl rfl ?_ ?_ <;> (intro hc; try (exfalso; omega))) | (refine st_eql rfl rfl rfl ?_ ?_ <;> (intro hc; try (exfalso; omega)))) | (show wops _ (⟨_, .indexAddr _ _ _, none⟩ :: _) _ _ _; refine st_index_map rfl rfl rfl (by assumption) rfl ?_) | (show wops _ (⟨_, .len _ _, none⟩ :: _) _ _ _; refine st_len_rd rfl ?_) | (show wops _ (⟨_, .call _ _ _, none⟩ :: _) _ _ _; refine st_call rfl nt_ ?_)) | (show xcode _ _ _ _ _ _; first | refine sx_seq ?_ | refine sx_ops rfl ?_ | refine sx_skip ?_ | refine sx_block ?_ | refine sx_ret ?_ | refine sx_exit ?_ | refine sx_cond_t rfl ?_ | refine sx_cond_f rfl ?_) | refine sk_norm ?_ | refine sk_exit ?_ | refine bk_exit ?_ | refine bk_other rfl ?_ | refine lk_exit ?_ | refine fin_ret (v := AV.tup _) rfl ?_
    · obtain ⟨rfl, rfl⟩ := hq (.inl (List.eq_nil_of_length_eq_zero (by omega)))
      rfl
    have hs : soundN n = true := hat (by rintro rfl; simp at *)
    have hn := sound_ok_iff.1 hs
    refine call_pure (step_ok L S n hn hf at_ false (by omega) r) (by simp [AV.frozenL, AV.frozen]) (by simp [AV.frozen]) ?_
    repeat' first | refine st_nil ?_ | (show wops _ _ _ _ _; first | (show wops _ (⟨_, .mv _, none⟩ :: _) _ _ _; refine st_mv (v := AV.rd _ _ _) rfl ?_) | (show wops _ (⟨_, .load _ _ _ _, none⟩ :: _) _ _ _; refine st_load_p rfl hg_ (by simp) (by first | (simp; done) | (simp; omega)) pv_ ?_) | (show wops _ (⟨_, .call _ _ _, none⟩ :: _) _ _ _; refine st_call rfl nt_ ?_)) | (show xcode _ _ _ _ _ _; first | refine sx_seq ?_ | refine sx_ops rfl ?_) | refine sk_norm ?_
    have hsl2 : (stepN n at_ r).length ≤ n.k := closeN_length _ _
    refine call_pure (tags_ok L S n hf (stepN n at_ r) false (by omega)) (by simp [AV.frozenL, AV.frozen]) (by simp [AV.frozen]) ?_
    rw [hd, longFrom] at hlong
    rcases htg : tagsN n (stepN n at_ r) with _ | ⟨t, tl⟩
    all_goals rw [htg] at hlong
    · have hl0 : ([] : List Int).length = 0 := rfl
      repeat' first | refine st_nil ?_ | (show wops _ _ _ _ _; first | (show wops _ (⟨_, .mv _, none⟩ :: _) _ _ _; first | refine st_mv (v := AV.int _ _) rfl ?_ | refine st_mv (v := AV.rd _ _ _) rfl ?_) | (show wops _ (⟨_, .bin _ _ _, none⟩ :: _) _ _ _; first | refine st_add rfl rfl rfl (by omega) (by omega) ?_ | (refine st_gtr rfl rfl rfl ?_ ?_ <;> (intro hc; try (exfalso; omega)))) | (show wops _ (⟨_, .len _ _, none⟩ :: _) _ _ _; refine st_len_rd rfl ?_)) | (show xcode _ _ _ _ _ _; first | refine sx_seq ?_ | refine sx_ops rfl ?_ | refine sx_skip ?_ | refine sx_cond_f rfl ?_) | refine sk_norm ?_ | refine bk_norm ?_
      exact lk_next hi2 ⟨stepN n at_ r, a, b, hbox, hsl2, fun _ => hs, hlong, fun h => absurd hs (by simp [h]), hh_⟩
    · have ht0 : (t :: tl)[0]? = some t := rfl
      have hl0 : (t :: tl).length = tl.length + 1 := rfl
      repeat' first | refine st_nil ?_ | (show wops _ _ _ _ _; first | (show wops _ (⟨_, .mv _, none⟩ :: _) _ _ _; first | refine st_mv (v := AV.int _ _) rfl ?_ | refine st_mv (v := AV.rd _ _ _) rfl ?_) | (show wops _ (⟨_, .load _ _ _ _, none⟩ :: _) _ _ _; refine st_load_r rfl (by first | (simp; done) | (simp; omega)) pv_ ?_) | (show wops _ (⟨_, .bin _ _ _, none⟩ :: _) _ _ _; first | refine st_add rfl rfl rfl (by omega) (by omega) ?_ | (refine st_gtr rfl rfl rfl ?_ ?_ <;> (intro hc; try (exfalso; omega)))) | (show wops _ (⟨_, .indexAddr _ _ _, none⟩ :: _) _ _ _; refine st_index_map rfl rfl rfl (by assumption) rfl ?_) | (show wops _ (⟨_, .len _ _, none⟩ :: _) _ _ _; refine st_len_rd rfl ?_)) | (show xcode _ _ _ _ _ _; first | refine sx_seq ?_ | refine sx_ops rfl ?_ | refine sx_cond_t rfl ?_) | refine sk_norm ?_ | refine bk_norm ?_
      exact lk_next hi2 ⟨stepN n at_ r, _, _, hbox, hsl2, fun _ => hs, hlong, fun h => absurd hs (by simp [h]), hh_⟩
  · repeat' first | refine st_nil ?_ | (show wops _ _ _ _ _; first | (show wops _ (⟨_, .mv _, none⟩ :: _) _ _ _; refine st_mv (v := AV.int _ _) rfl ?_) | (show wops _ (⟨_, .bin _ _ _, none⟩ :: _) _ _ _; (refine st_lss rfl rfl rfl ?_ ?_ <;> (intro hc; try (exfalso; omega))))) | (show xcode _ _ _ _ _ _; first | refine sx_seq ?_ | refine sx_ops rfl ?_ | refine sx_ret ?_ | refine sx_exit ?_ | refine sx_cond_f rfl ?_) | refine sk_norm ?_ | refine sk_exit ?_ | refine bk_exit ?_ | refine lk_exit ?_ | refine fin_ret (v := AV.tup _) rfl ?_
    obtain ⟨rfl, rfl⟩ := hq (.inr (by omega))
    rfl

end Go.Proofs.Ytpcbpgepjfenhaa
