/- The statements: DfaCounts. -/
import Derived.Test.YtdldfflfbfpngaaGreatDoorO7
set_option linter.unusedVariables false
set_option linter.unusedSimpArgs false
namespace Go.Proofs.YtdldfflfbfpngaaGreatDoor
open Go
set_option maxHeartbeats 4000000
theorem visitL_nodup {L : List (List Int)} {to : List Int} (h : L.Nodup) : (visitL L to).Nodup := by
 unfold visitL
 split
 ·exact h
 ·rename_i h1
  rw [List.nodup_append]
  refine ⟨h, by simp, fun a ha b hb e => ?_⟩
  simp only [List.mem_singleton] at hb
  subst hb e
  exact h1 (.inr ha)
theorem visitsL_nodup : ∀ {tos : List (List Int)} {L : List (List Int)}, L.Nodup → (visitsL L tos).Nodup
 | [], _, h => h
 | to :: tos, _, h => visitsL_nodup (tos := tos) (visitL_nodup h)
theorem accL_nodup (n : Nfa) (P : List (Rw Span)) : ∀ i, (accL n P i).Nodup
 | 0 => by simp [accL]
 | i + 1 => by
  rw [accL]
  split
  ·exact accL_nodup n P i
  ·exact visitsL_nodup (accL_nodup n P i)
theorem visitL_new {L : List (List Int)} {to : List Int} {q : Nat} (h1 : L.length ≤ q) (h2 : q < (visitL L to).length) : (visitL L to)[q]? = some to ∧ to ≠ [] := by
 unfold visitL at h2 ⊢
 split
 ·rename_i h; rw [if_pos h] at h2; omega
 ·rename_i h
  rw [if_neg h] at h2
  simp at h2
  have : q = L.length := by omega
  subst this
  exact ⟨by simp, fun e => h (.inl e)⟩
theorem visitsL_new : ∀ {tos : List (List Int)} {L : List (List Int)} {q : Nat}, L.length ≤ q → q < (visitsL L tos).length → ∃ to ∈ tos, to ≠ [] ∧ (visitsL L tos)[q]? = some to
 | [], L, q, h1, h2 => by
  have h3 : q < L.length := h2
  omega
 | to :: tos, L, q, h1, h2 => by
  have e : visitsL L (to :: tos) = visitsL (visitL L to) tos := rfl
  rw [e] at h2 ⊢
  by_cases h3 : (visitL L to).length ≤ q
  ·obtain ⟨t, ht, h4, h5⟩ := visitsL_new (L := visitL L to) h3 h2
   exact ⟨t, by simp [ht], h4, h5⟩
  ·obtain ⟨h4, h5⟩ := visitL_new (to := to) h1 (by omega)
   obtain ⟨r, er⟩ := visitsL_pre tos (visitL L to)
   exact ⟨to, by simp, h5, by rw [← er, List.getElem?_append_left (by omega)]; exact h4⟩
theorem accL_from (n : Nfa) (P : List (Rw Span)) : ∀ (i : Nat) {q : Nat}, 1 ≤ q → q < (accL n P i).length → ∃ a ∈ accL n P i, ∃ to ∈ rowL n P a, to ≠ [] ∧ (accL n P i)[q]? = some to
 | 0, q, h1, h2 => by simp [accL] at h2; omega
 | i + 1, q, h1, h2 => by
  have hpre := accL_pre n P i
  by_cases h3 : q < (accL n P i).length
  ·obtain ⟨a, ha, to, hto, h4, h5⟩ := accL_from n P i h1 h3
   refine ⟨a, hpre.subset ha, to, hto, h4, ?_⟩
   obtain ⟨r, er⟩ := hpre
   rw [← er, List.getElem?_append_left h3]; exact h5
  ·cases ha : (accL n P i)[i]? with
   | none => rw [accL, ha] at h2; exact absurd h2 h3
   | some a =>
    have e : accL n P (i + 1) = visitsL (accL n P i) (rowL n P a) := by rw [accL, ha]
    rw [e] at h2
    obtain ⟨to, hto, h4, h5⟩ := visitsL_new (by omega) h2
    rw [e]
    exact ⟨a, (visitsL_pre _ _).subset (List.mem_of_getElem? ha), to, hto, h4, h5⟩
theorem mk_come {n : Nfa} {P : List (Rw Span)} {m : Nat} {q : Nat} (h1 : 1 ≤ q) (h2 : q < (accL n P m).length) : ∃ r ∈ (mkPD n P m).next, (q : Int) ∈ r := by
 obtain ⟨a, ha, to, hto, h4, h5⟩ := accL_from n P m h1 h2
 refine ⟨(rowL n P a).map (placeL (accL n P m)), ?_, List.mem_map.2 ⟨to, hto, ?_⟩⟩
 ·show _ ∈ rowsL n P (accL n P m) (accL n P m).length
  unfold rowsL
  rw [List.take_of_length_le (Nat.le_refl _)]
  exact List.mem_map.2 ⟨a, ha, rfl⟩
 ·unfold placeL
  rw [if_neg h4]
  congr 1
  refine idxOf_at h5 fun k hk e => ?_
  have hn := accL_nodup n P m
  obtain ⟨h6, e6⟩ := List.getElem?_eq_some_iff.1 e
  obtain ⟨h7, e7⟩ := List.getElem?_eq_some_iff.1 h5
  exact List.pairwise_iff_getElem.1 hn k q h6 h7 hk (e6.trans e7.symm)
theorem accL_self {n : Nfa} {P : List (Rw Span)} {m : Nat} (h : (accL n P m).length ≤ m) : accL n P (accL n P m).length = accL n P m := by
 have h1 := accL_mono n P h
 exact (accL_stop n P (i := (accL n P m).length) h1.length_le h).symm
theorem accL_less {n : Nfa} {P : List (Rw Span)} {m k : Nat} (h : (accL n P m).length ≤ m) (hk : k < (accL n P m).length) : k < (accL n P k).length := by
 apply Classical.byContradiction
 intro h1
 have h2 := accL_stop n P (i := k) (by omega) (show k ≤ m by omega)
 rw [h2] at hk
 omega
theorem mk_tags {n : Nfa} {P : List (Rw Span)} {m : Nat} : (mkPD n P m).tags.length = (accL n P m).length := by
 show (tagsL n (accL n P m) (accL n P m).length).length = _
 simp [tagsL]
theorem dof_callI {Φ : Lib} (L : LibC3 Φ) (L1 : C1Lib Φ) (SL : SortLib Φ) (L5 : LibC5 Φ) (KL : KeyLib Φ) (n : Nfa) (hn : n.Ok) (hf : n.Fits) (hsm : n.Small) (mi : Int) (m : Nat) (hmi : mi = m) (hm1 : 1 ≤ m) (hm2 : m ≤ 2000) {mode : Nat} {h : Heap} {Q : AV → Heap → Prop} (P : List (Rw Span)) (hP : P = (ofR (setsT n.edges.l)).l)
  (k1 : m < (accL n P m).length → Q (bad16 63) h) (k2 : (accL n P m).length ≤ m → ∀ d : Dfa, d.plain = mkPD n P m → d.plain.Ok → d.Wide → (∀ t ∈ d.tags.l, -1 ≤ t ∧ t ≤ 5) → Q (.tup [.agg d.av, .int .u16 0]) h) :
  wcall (Runs Φ) mode 169 [.agg n.av, .int .i64 mi] h Q := by
 subst hmi
 exact dof_call L L1 SL L5 KL n hn hf hsm m hm1 hm2 P hP k1 k2
attribute [local irreducible] wops xcode wcode seqK blockK loopK finK wcall wop wstp Runs
set_option maxRecDepth 100000 in
theorem dfaCounts_ok {Φ : Lib} (L : LibC3 Φ) (L1 : C1Lib Φ) (L2 : C2Lib Φ) (SL : SortLib Φ) (G : GrowLib Φ) (L5 : LibC5 Φ) (KL : KeyLib Φ) (kk : Int) (l : List Arc) (tg : List Int) (hg : Given kk l tg) (f1 f2 : Bool) :
  Runs Φ 166 [.int .u8 kk, .rd l.length (l.flatMap Arc.av) f1, .rd tg.length (tg.map (.int .i8)) f2] Heap.empty (fun v _ => v = .bool true) := by
 have hkn := knownD_ok L L1 SL G L5 KL
 refine runs_of (fun _ => false) rfl L5.f166 ?_
 repeat' first | refine st_nil ?_ | (refine gw ?_; first | refine st_mv rx_ ?_ | refine st_call rfl nt_ ?_) | (refine gx ?_; first | refine sx_seq ?_ | refine sx_ops rfl ?_) | refine sk_norm ?_
 refine machine_s L2 hg f1 f2 fun n hn hf hs => ?_
 repeat' first | refine st_nil ?_ | (refine gw ?_; first | refine st_mv rx_ ?_ | (refine gq2 ?_; first | refine st_load_t rx_ ?_ | refine st_load_p rfl hg_ (by simp) b_ pv_ ?_) | (refine gq3 ?_; first | refine st_bin_t1 rx_ ?_ | (refine st_gtr rfl rfl rfl ?_ ?_ <;> (intro hc; try (exfalso; omega)))) | (refine gq13 ?_; first | refine st_store_t1 rx_ ?_ | refine st_store_t2 rx_ ?_ | refine st_store_s (cs' := [AV.rd _ _ _, AV.rd _ _ _, AV.rd _ _ _]) rfl rfl rfl rfl b_ rfl ?_) | (refine gq6 ?_; first | refine st_len_t rx_ ?_ | refine st_len_rd rfl ?_) | (refine gq1 ?_; first | refine st_skipg rfl ?_ | refine st_gog rfl ?_) | (refine gq7 ?_; first | refine st_pick_t (v := AV.bool _) rfl rfl ?_ | refine st_pick_f (v := AV.bool _) rfl rfl ?_) | refine st_call rfl nt_ ?_ | (refine st_alloc ?_; intro id hid; try simp only [Heap.set_none] at hid) | refine st_not (b := true) rfl ?_) | (refine gx ?_; first | refine sx_seq ?_ | refine sx_ops rfl ?_ | refine sx_skip ?_ | refine sx_ret ?_ | refine sx_cond_t rfl ?_ | refine sx_cond_f rfl ?_) | refine sk_norm ?_ | refine sk_ret ?_ | refine call_pure (by assumption) fz_ fz_ ?_
 ·exact fin_ret (v := .bool true) rfl rfl
 refine dof_call L L1 SL L5 KL n hn hf hs 400 (by decide) (by decide) _ rfl (fun _ => ?_) (fun hle d hd hok hw ht => ?_)
 ·repeat' first | refine st_nil ?_ | (refine gw ?_; first | refine st_mv rx_ ?_ | (refine gq3 ?_; first | refine st_bin_t1 rx_ ?_ | (refine st_eql rfl rfl rfl ?_ ?_ <;> (intro hc; try (exfalso; omega))) | (refine st_neq rfl rfl rfl ?_ ?_ <;> (intro hc; try (exfalso; omega)))) | (refine gq13 ?_; first | refine st_store_t1 rx_ ?_ | refine st_store_t2 rx_ ?_ | refine st_store_s (cs' := [AV.rd _ _ _, AV.rd _ _ _, AV.rd _ _ _]) rfl rfl rfl rfl b_ rfl ?_) | (refine st_alloc ?_; intro id hid; try simp only [Heap.set_none] at hid) | refine st_extract rfl rfl ?_) | (refine gx ?_; first | refine sx_seq ?_ | refine sx_ops rfl ?_ | refine sx_ret ?_ | refine sx_cond_t rfl ?_) | refine sk_norm ?_ | refine sk_ret ?_
  all_goals exact fin_ret (v := .bool true) rfl rfl
 obtain ⟨P, hP⟩ : ∃ P, P = (ofR (setsT n.edges.l)).l := ⟨_, rfl⟩
 rw [← hP] at hle hd
 have htl : d.tags.l.length = (accL n P 400).length := by
  have := mk_tags (n := n) (P := P) (m := 400)
  rw [← hd] at this
  exact this
 have hpos := accL_pos n P 400
 obtain ⟨many, hmany⟩ : ∃ many, many = d.tags.l.length := ⟨_, rfl⟩
 have hnl : d.next.l.length = many := by
  have h1 := hok.nl
  simp only [Dfa.plain, plainI, PD.n, List.length_map] at h1
  omega
 have hm400 : 1 ≤ many ∧ many ≤ 400 := by omega
 have hrows : ∀ r ∈ d.next.l, r.l.length = d.parts.l.length ∧ ∀ x ∈ r.l, x = -1 ∨ In many x := fun r hr => by
  have h1 := hok.rows r.l (List.mem_map.2 ⟨r, hr, rfl⟩)
  have h2 : d.plain.p = d.parts.l.length := by simp [Dfa.plain, plainS, PD.p]
  have h3 : d.plain.n = many := by rw [hmany]; rfl
  rw [h2, h3] at h1
  exact h1
 have hpl := hw.fits.parts
 have hcome : ∀ q : Nat, 1 ≤ q → q < many → ∃ r ∈ d.next.l, (q : Int) ∈ r.l := fun q h1 h2 => by
  obtain ⟨r, hr, hq⟩ := mk_come (n := n) (P := P) (m := 400) h1 (by omega)
  rw [← hd] at hr
  obtain ⟨w, hw, rfl⟩ := List.mem_map.1 hr
  exact ⟨w, hw, hq⟩
 have hself := accL_self hle
 have hless : ∀ k, k < many → k < (accL n P k).length := fun k hk => accL_less hle (by omega)
 rw [← htl, ← hmany] at hself
 have hslen : (accL n P many).length = many := by rw [hself]; omega
 clear hd htl hle hself
 repeat' first | refine st_nil ?_ | (refine gw ?_; first | refine st_mv rx_ ?_ | (refine gq2 ?_; first | refine st_load_t rx_ ?_ | refine st_load_p rfl hg_ (by simp) b_ pv_ ?_) | (refine gq3 ?_; first | refine st_bin_t1 rx_ ?_ | (refine st_neq rfl rfl rfl ?_ ?_ <;> (intro hc; try (exfalso; omega)))) | (refine gq13 ?_; first | refine st_store_t1 rx_ ?_ | refine st_store_t2 rx_ ?_ | refine st_store_s (cs' := [AV.rd _ _ _, AV.rd _ _ _, AV.rd _ _ _]) rfl rfl rfl rfl b_ rfl ?_) | (refine gq6 ?_; first | refine st_len_t rx_ ?_ | refine st_len_rd rfl ?_) | (refine gq4 ?_; first | refine st_field_t rx_ ?_ | refine st_field_p rfl (Nat.zero_add _) ?_) | (refine st_alloc ?_; intro id hid; try simp only [Heap.set_none] at hid) | (refine st_mkslice rfl rfl (by omega) (by omega) ?_; intro id hid; try simp only [Heap.set_none] at hid) | refine st_extract rfl rfl ?_) | (refine gx ?_; first | refine sx_seq ?_ | refine sx_ops rfl ?_ | refine sx_skip ?_ | refine sx_block ?_ | refine sx_cond_f rfl ?_) | refine sk_norm ?_
 rw [← hmany]
 rename_i ib hib hc1 iD hiD
 obtain ⟨iS, rfl⟩ : ∃ x, x = id := ⟨_, rfl⟩
 refine sx_for many (fun i env h' => ∃ S : List Int, S.length = many ∧ (∀ x : Nat, (x : Int) ∈ (d.next.l.take i).flatMap (·.l) → x < many → S[x]? = some 1) ∧ h'.get ib = some (.cells 0 n.av) ∧ h'.get iD = some (.cells 0 d.av) ∧ h'.get iS = some (.cells 1 (S.map (.int .i64))) ∧ env.has [(7, .ptr ib 0 0), (8, .ptr iD 0 0), (10, .int .i64 many), (11, .own iS 1 1 0 many none), (12, .int .i64 i)]) ⟨List.replicate many 0, by simp, by simp, ?_, ?_, ?_, hh_⟩ ?_
 ·rw [Heap.get_set_ne _ _ (Ne.symm hid.2.1), Heap.get_set_ne _ _ (Ne.symm hiD.1)]
  exact Heap.get_set_self _ _ _
 ·rw [Heap.get_set_ne _ _ (Ne.symm hid.1), hmany]
  exact Heap.get_set_self _ _ _
 ·rw [Heap.get_set_self]
  simp
 clear hid hiD hib
 rintro i env h' hi ⟨S, hSl, hSx, gb, gD, gS, he⟩
 obtain ⟨env, rfl⟩ := he.ex
 clear he
 by_cases hi2 : i < many
 ·obtain ⟨r, hr⟩ := ex_get (l := d.next.l) (i := i) (by omega)
  obtain ⟨hrl, hrx⟩ := hrows r (List.mem_of_getElem? hr)
  repeat' first | refine st_nil ?_ | (refine gw ?_; first | refine st_mv rx_ ?_ | (refine gq2 ?_; first | refine st_load_t rx_ ?_ | refine st_load_p rfl hg_ (by simp) b_ pv_ ?_) | (refine gq3 ?_; first | refine st_bin_t1 rx_ ?_ | refine st_bin_t2 rx_ ?_ | (refine st_lss rfl rfl rfl ?_ ?_ <;> (intro hc; try (exfalso; omega)))) | (refine gq6 ?_; first | refine st_len_t rx_ ?_ | refine st_len_rd rfl ?_) | (refine gq4 ?_; first | refine st_field_t rx_ ?_ | refine st_field_p rfl (Nat.zero_add _) ?_)) | (refine gx ?_; first | refine sx_seq ?_ | refine sx_ops rfl ?_ | refine sx_skip ?_ | refine sx_block ?_ | refine sx_cond_t rfl ?_) | refine sk_norm ?_
  refine sx_for d.parts.l.length (fun j env h' => ∃ S : List Int, S.length = many ∧ (∀ x : Nat, (x : Int) ∈ (d.next.l.take i).flatMap (·.l) ++ r.l.take j → x < many → S[x]? = some 1) ∧ h'.get ib = some (.cells 0 n.av) ∧ h'.get iD = some (.cells 0 d.av) ∧ h'.get iS = some (.cells 1 (S.map (.int .i64))) ∧ env.has [(7, .ptr ib 0 0), (8, .ptr iD 0 0), (10, .int .i64 many), (11, .own iS 1 1 0 many none), (12, .int .i64 i), (13, .int .i64 j)]) ⟨S, hSl, by simpa using hSx, gb, gD, gS, hh_⟩ ?_
  clear hSx gb gD gS hSl
  rintro j env h' hj ⟨S, hSl, hSx, gb, gD, gS, he⟩
  have n1 : ib ≠ iS := fun e => by rw [e, gS] at gb; simp at gb
  have n2 : iD ≠ iS := fun e => by rw [e, gS] at gD; simp at gD
  obtain ⟨env, rfl⟩ := he.ex
  clear he
  by_cases hj2 : j < d.parts.l.length
  ·obtain ⟨x, hx⟩ := ex_get (l := r.l) (i := j) (by omega)
   have hxo := hrx x (List.mem_of_getElem? hx)
   rcases hxo with rfl | ⟨hx0, hx1⟩
   ·repeat' first | refine st_nil ?_ | (refine gw ?_; first | refine st_mv rx_ ?_ | (refine gq2 ?_; first | refine st_load_t rx_ ?_ | refine st_load_r rfl b_ pv_ ?_ | refine st_load_p rfl hg_ (by simp) b_ pv_ ?_) | (refine gq3 ?_; first | refine st_bin_t1 rx_ ?_ | refine st_bin_t2 rx_ ?_ | refine st_add rfl rfl rfl (by omega) (by omega) ?_ | (refine st_lss rfl rfl rfl ?_ ?_ <;> (intro hc; try (exfalso; omega))) | (refine st_geq rfl rfl rfl ?_ ?_ <;> (intro hc; try (exfalso; omega)))) | (refine gq5 ?_; first | refine st_index_t1 rx_ ?_ | refine st_index_t2 rx_ ?_ | refine st_index_map' rfl rfl hr (by omega) rfl ?_ | refine st_index_map' rfl rfl hx (by omega) rfl ?_) | (refine gq6 ?_; first | refine st_len_t rx_ ?_ | refine st_len_rd rfl ?_) | (refine gq4 ?_; first | refine st_field_t rx_ ?_ | refine st_field_p rfl (Nat.zero_add _) ?_) | refine st_skipg rfl ?_ | refine st_pick_f (v := AV.bool _) rfl rfl ?_) | (refine gx ?_; first | refine sx_seq ?_ | refine sx_ops rfl ?_ | refine sx_skip ?_ | refine sx_block ?_ | refine sx_cond_t rfl ?_ | refine sx_cond_f rfl ?_) | refine sk_norm ?_ | refine bk_norm ?_
    refine lk_next hj2 ⟨S, hSl, fun q hq hq2 => hSx q ?_ hq2, gb, gD, gS, hh_⟩
    rw [take_snoc hx] at hq
    simp only [List.mem_append, List.mem_singleton] at hq ⊢
    rcases hq with hq | hq | hq
    ·exact .inl hq
    ·exact .inr hq
    ·omega
   ·repeat' first | refine st_nil ?_ | (refine gw ?_; first | refine st_mv rx_ ?_ | (refine gq2 ?_; first | refine st_load_t rx_ ?_ | refine st_load_r rfl b_ pv_ ?_ | refine st_load_p rfl hg_ (by simp) b_ pv_ ?_) | (refine gq3 ?_; first | refine st_bin_t1 rx_ ?_ | refine st_bin_t2 rx_ ?_ | refine st_add rfl rfl rfl (by omega) (by omega) ?_ | (refine st_lss rfl rfl rfl ?_ ?_ <;> (intro hc; try (exfalso; omega))) | (refine st_geq rfl rfl rfl ?_ ?_ <;> (intro hc; try (exfalso; omega)))) | (refine gq5 ?_; first | refine st_index_t1 rx_ ?_ | refine st_index_t2 rx_ ?_ | refine st_index_map' rfl rfl hr (by omega) rfl ?_ | refine st_index_map' rfl rfl hx (by omega) rfl ?_ | refine st_index_own rfl rfl (by omega) (by omega) ?_) | (refine gq13 ?_; first | refine st_store_t1 rx_ ?_ | refine st_store1 (g := _) rfl rfl hg_ (by simp only [Nat.zero_add, Nat.mul_one]; exact rfl) (by omega) rfl rfl (by exact rfl) ?_) | (refine gq6 ?_; first | refine st_len_t rx_ ?_ | refine st_len_rd rfl ?_) | (refine gq4 ?_; first | refine st_field_t rx_ ?_ | refine st_field_p rfl (Nat.zero_add _) ?_) | refine st_gog rfl ?_ | refine st_pick_t (v := AV.bool _) rfl rfl ?_) | (refine gx ?_; first | refine sx_seq ?_ | refine sx_ops rfl ?_ | refine sx_skip ?_ | refine sx_block ?_ | refine sx_cond_t rfl ?_) | refine sk_norm ?_ | refine bk_norm ?_
    refine lk_next hj2 ⟨S.set x.toNat 1, by simp [hSl], fun q hq hq2 => ?_, ?_, ?_, ?_, hh_⟩
    ·rw [take_snoc hx] at hq
     simp only [List.mem_append, List.mem_singleton] at hq
     rw [List.getElem?_set]
     by_cases e : x.toNat = q
     ·rw [if_pos e, if_pos (by omega)]
     ·rw [if_neg e]
      refine hSx q ?_ hq2
      rw [List.mem_append]
      rcases hq with hq | hq | hq
      ·exact .inl hq
      ·exact .inr hq
      ·omega
    ·rw [Heap.get_set_ne _ _ n1]
     exact gb
    ·rw [Heap.get_set_ne _ _ n2]
     exact gD
    ·exact Heap.get_set_self _ _ _
  ·repeat' first | refine st_nil ?_ | (refine gw ?_; first | refine st_mv rx_ ?_ | (refine gq2 ?_; first | refine st_load_t rx_ ?_ | refine st_load_r rfl b_ pv_ ?_ | refine st_load_p rfl hg_ (by simp) b_ pv_ ?_) | (refine gq3 ?_; first | refine st_bin_t1 rx_ ?_ | refine st_bin_t2 rx_ ?_ | refine st_add rfl rfl rfl (by omega) (by omega) ?_ | (refine st_lss rfl rfl rfl ?_ ?_ <;> (intro hc; try (exfalso; omega)))) | (refine gq5 ?_; first | refine st_index_t1 rx_ ?_ | refine st_index_t2 rx_ ?_ | refine st_index_map' rfl rfl hr (by omega) rfl ?_) | (refine gq6 ?_; first | refine st_len_t rx_ ?_ | refine st_len_rd rfl ?_) | (refine gq4 ?_; first | refine st_field_t rx_ ?_ | refine st_field_p rfl (Nat.zero_add _) ?_)) | (refine gx ?_; first | refine sx_seq ?_ | refine sx_ops rfl ?_ | refine sx_exit ?_ | refine sx_cond_f rfl ?_) | refine sk_norm ?_ | refine sk_exit ?_ | refine bk_norm ?_ | refine bk_exit ?_ | refine lk_exit ?_
   refine lk_next hi2 ⟨S, hSl, fun q hq hq2 => hSx q ?_ hq2, gb, gD, gS, hh_⟩
   rw [take_snoc hr] at hq
   rw [List.take_of_length_le (show r.l.length ≤ j by omega)]
   simpa using hq
 ·have hSx2 : ∀ x : Nat, 1 ≤ x → x < many → S[x]? = some 1 := fun q h1 h2 => by
   obtain ⟨w, hw, hq⟩ := hcome q h1 h2
   refine hSx q ?_ h2
   rw [List.take_of_length_le (by omega)]
   exact List.mem_flatMap.2 ⟨w, hw, hq⟩
  clear hSx hcome
  repeat' first | refine st_nil ?_ | (refine gw ?_; first | refine st_mv rx_ ?_ | (refine gq2 ?_; first | refine st_load_t rx_ ?_ | refine st_load_p rfl hg_ (by simp) b_ pv_ ?_) | (refine gq3 ?_; first | refine st_bin_t1 rx_ ?_ | refine st_bin_t2 rx_ ?_ | (refine st_lss rfl rfl rfl ?_ ?_ <;> (intro hc; try (exfalso; omega)))) | (refine gq6 ?_; first | refine st_len_t rx_ ?_ | refine st_len_rd rfl ?_) | (refine gq4 ?_; first | refine st_field_t rx_ ?_ | refine st_field_p rfl (Nat.zero_add _) ?_)) | (refine gx ?_; first | refine sx_seq ?_ | refine sx_ops rfl ?_ | refine sx_block ?_ | refine sx_exit ?_ | refine sx_cond_f rfl ?_) | refine sk_norm ?_ | refine sk_exit ?_ | refine bk_exit ?_ | refine lk_exit ?_
  refine sx_for (many - 1) (fun i env h' => h'.get ib = some (.cells 0 n.av) ∧ h'.get iD = some (.cells 0 d.av) ∧ h'.get iS = some (.cells 1 (S.map (.int .i64))) ∧ env.has [(7, .ptr ib 0 0), (8, .ptr iD 0 0), (10, .int .i64 many), (11, .own iS 1 1 0 many none), (14, .int .i64 (i + 1 : Nat))]) ⟨gb, gD, gS, hh_⟩ ?_
  clear gb gD gS hi hi2 hc
  rintro i env h' hi ⟨gb, gD, gS, he⟩
  obtain ⟨env, rfl⟩ := he.ex
  clear he
  by_cases hi2 : i < many - 1
  ·have hx := hSx2 (i + 1) (by omega) (by omega)
   repeat' first | refine st_nil ?_ | (refine gw ?_; first | refine st_mv rx_ ?_ | (refine gq2 ?_; first | refine st_load_t rx_ ?_ | refine st_load_map (g := _) rfl hg_ hx eq_ ?_) | (refine gq3 ?_; first | refine st_bin_t1 rx_ ?_ | refine st_bin_t2 rx_ ?_ | refine st_add rfl rfl rfl (by omega) (by omega) ?_ | (refine st_lss rfl rfl rfl ?_ ?_ <;> (intro hc; try (exfalso; omega))) | (refine st_eql rfl rfl rfl ?_ ?_ <;> (intro hc; try (exfalso; omega)))) | (refine gq5 ?_; first | refine st_index_t1 rx_ ?_ | refine st_index_t2 rx_ ?_ | refine st_index_own rfl rfl (by omega) (by omega) ?_)) | (refine gx ?_; first | refine sx_seq ?_ | refine sx_ops rfl ?_ | refine sx_skip ?_ | refine sx_block ?_ | refine sx_cond_t rfl ?_ | refine sx_cond_f rfl ?_) | refine sk_norm ?_ | refine bk_norm ?_
   exact lk_next hi2 ⟨gb, gD, gS, hh_⟩
  ·repeat' first | refine st_nil ?_ | (refine gw ?_; first | refine st_mv rx_ ?_ | (refine gq2 ?_; first | refine st_load_t rx_ ?_ | refine st_load_p rfl hg_ (by simp) b_ pv_ ?_) | (refine gq3 ?_; first | refine st_bin_t1 rx_ ?_ | refine st_bin_t2 rx_ ?_ | (refine st_lss rfl rfl rfl ?_ ?_ <;> (intro hc; try (exfalso; omega)))) | refine st_call rfl nt_ ?_) | (refine gx ?_; first | refine sx_seq ?_ | refine sx_ops rfl ?_ | refine sx_exit ?_ | refine sx_cond_f rfl ?_) | refine sk_norm ?_ | refine sk_exit ?_ | refine bk_exit ?_ | refine lk_exit ?_
   refine dof_call L L1 SL L5 KL n hn hf hs many (by omega) (by omega) P hP (fun h1 => (by omega)) (fun _ d2 _ _ hw2 _ => ?_)
   clear gD gS
   repeat' first | refine st_nil ?_ | (refine gw ?_; first | refine st_mv rx_ ?_ | (refine gq2 ?_; first | refine st_load_t rx_ ?_ | refine st_load_p rfl hg_ (by simp) b_ pv_ ?_) | (refine gq3 ?_; first | refine st_bin_t1 rx_ ?_ | refine st_sub rfl rfl rfl (by omega) (by omega) ?_) | (refine gq13 ?_; first | refine st_store_t1 rx_ ?_ | refine st_store_t2 rx_ ?_ | refine st_store_s (cs' := [AV.rd _ _ _, AV.rd _ _ _, AV.rd _ _ _]) rfl rfl rfl rfl b_ rfl ?_) | refine st_call rfl nt_ ?_ | (refine st_alloc ?_; intro id hid; try simp only [Heap.set_none] at hid) | refine st_extract rfl rfl ?_) | (refine gx ?_; first | refine sx_seq ?_ | refine sx_ops rfl ?_) | refine sk_norm ?_
   rcases Nat.lt_or_ge 1 many with hm1 | hm1
   ·refine dof_callI L L1 SL L5 KL n hn hf hs _ (many - 1) (show (many : Int) - 1 = (many - 1 : Nat) by omega) (by omega) (by omega) P hP (fun h1 => ?_) (fun h1 => ?_)
    ·repeat' first | refine st_nil ?_ | (refine gw ?_; first | refine st_mv rx_ ?_ | (refine gq3 ?_; first | refine st_bin_t1 rx_ ?_ | (refine st_leq rfl rfl rfl ?_ ?_ <;> (intro hc; try (exfalso; omega))) | (refine st_gtr rfl rfl rfl ?_ ?_ <;> (intro hc; try (exfalso; omega))) | (refine st_eql rfl rfl rfl ?_ ?_ <;> (intro hc; try (exfalso; omega)))) | (refine gq13 ?_; first | refine st_store_t1 rx_ ?_ | refine st_store_t2 rx_ ?_ | refine st_store_s (cs' := [AV.rd _ _ _, AV.rd _ _ _, AV.rd _ _ _]) rfl rfl rfl rfl b_ rfl ?_) | (refine gq1 ?_; first | refine st_skipg rfl ?_ | refine st_gog rfl ?_) | (refine gq7 ?_; first | refine st_pick_t (v := AV.bool _) rfl rfl ?_ | refine st_pick_f (v := AV.bool _) rfl rfl ?_) | (refine st_alloc ?_; intro id hid; try simp only [Heap.set_none] at hid) | refine st_extract rfl rfl ?_) | (refine gx ?_; first | refine sx_seq ?_ | refine sx_ops rfl ?_ | refine sx_ret ?_) | refine sk_norm ?_
     all_goals first
      | exact fin_ret (v := .bool true) rfl rfl
      | (exfalso; omega)
    ·have := hless (many - 1) (by omega)
     omega
   ·have hd0 := dof_out L1 SL L5 n hf hn (many - 1) (.inl (by omega))
    repeat' first | refine st_nil ?_ | (refine gw ?_; first | refine st_mv rx_ ?_ | (refine gq3 ?_; first | refine st_bin_t1 rx_ ?_ | (refine st_leq rfl rfl rfl ?_ ?_ <;> (intro hc; try (exfalso; omega))) | (refine st_eql rfl rfl rfl ?_ ?_ <;> (intro hc; try (exfalso; omega)))) | (refine gq13 ?_; first | refine st_store_t1 rx_ ?_ | refine st_store_t2 rx_ ?_ | refine st_store_s (cs' := [AV.rd _ _ _, AV.rd _ _ _, AV.rd _ _ _]) rfl rfl rfl rfl b_ rfl ?_) | (refine gq1 ?_; first | refine st_skipg rfl ?_ | refine st_gog rfl ?_ | refine st_skipt rfl ?_) | refine st_pick_t (v := AV.bool _) rfl rfl ?_ | (refine st_alloc ?_; intro id hid; try simp only [Heap.set_none] at hid) | refine st_extract rfl rfl ?_) | (refine gx ?_; first | refine sx_seq ?_ | refine sx_ops rfl ?_ | refine sx_ret ?_) | refine sk_norm ?_ | refine call_pure (by assumption) fz_ fz_ ?_
    all_goals first
     | exact fin_ret (v := .bool true) rfl rfl
     | (exfalso; omega)
end Go.Proofs.YtdldfflfbfpngaaGreatDoor
