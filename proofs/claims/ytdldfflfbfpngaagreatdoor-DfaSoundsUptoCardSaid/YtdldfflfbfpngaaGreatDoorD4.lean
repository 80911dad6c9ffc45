/- sim: begin, reach, all. sim: Start, step, Step. slices.Compact; sim: tags, Tags, Longest. -/
import Derived.Test.YtdldfflfbfpngaaGreatDoorD3
set_option linter.unusedVariables false
set_option linter.unusedSimpArgs false
namespace Go.Proofs.YtdldfflfbfpngaaGreatDoor
open Go
set_option maxHeartbeats 4000000
attribute [local irreducible] wops xcode wcode seqK blockK loopK finK wcall wop wstp Runs
@[reducible] def nI (i : Nat) : AV := .int .i64 (i : Int)
@[reducible] def bI (b : Bool) : AV := .bool b
structure Marks (h : Heap) (a b : Nat) (lv : AV) (n : Nfa) (bs : List Bool) (left : List Nat) : Prop where
 at_ : h.get a = some (.cells 0 [n.edges.mv Rw.ev, n.free.mv Rw.iv, n.tags.iv, .own b 1 1 0 bs.length none, lv])
 row : h.get b = some (.cells 1 (bs.map bI))
 ne : a ≠ b
 left : IsPre h lv 1 left.length (left.map nI)
 na : lv.rowId ≠ some a
 nb : lv.rowId ≠ some b
theorem Marks.keep {h h' : Heap} {a b : Nat} {lv : AV} {n : Nfa} {bs : List Bool} {left : List Nat} (hm : Marks h a b lv n bs left) (hk : ∀ k, (k = a ∨ k = b ∨ lv.rowId = some k) → h'.get k = h.get k) : Marks h' a b lv n bs left :=
 ⟨(hk a (.inl rfl)).trans hm.at_, (hk b (.inr (.inl rfl))).trans hm.row, hm.ne, hm.left.keep fun k hk' => hk k (.inr (.inr hk')), hm.na, hm.nb⟩
theorem Marks.there {h : Heap} {a b : Nat} {lv : AV} {n : Nfa} {bs : List Bool} {left : List Nat} (hm : Marks h a b lv n bs left) {k : Nat} (hk : k = a ∨ k = b ∨ lv.rowId = some k) : h.get k ≠ none := by
 rcases hk with rfl | rfl | hk
 ·rw [hm.at_]; simp
 ·rw [hm.row]; simp
 ·exact hm.left.there hk
theorem begin_ok {Φ : Lib} (L : C1Lib Φ) (n : Nfa) (hk : n.k ≤ 1048576) (h : Heap) : Runs Φ 26 [.agg n.av] h (fun v h' => ∃ a b, v = .ptr a 0 0 ∧ h.get a = none ∧ h.get b = none ∧ Marks h' a b (.rd 0 [] true) n (List.replicate n.k false) [] ∧ ∀ k, h.get k ≠ none → h'.get k = h.get k) := by
 unfold Nfa.k at *
 refine runs_of (fun _ => false) rfl L.f26 ?_
 repeat' first | refine st_nil ?_ | (refine gw ?_; first | (refine gq0 ?_; first | refine st_mv (v := AV.ptr _ _ _) rfl ?_ | refine st_mv (v := AV.nilp) rfl ?_) | refine st_load_p rfl hg_ (by simp) b_ pv_ ?_ | refine st_field_p rfl (Nat.zero_add _) ?_ | refine st_len_rd rfl ?_ | (refine st_box (v := AV.agg _) rfl rfl ?_; intro id hid; try simp only [Heap.set_none] at hid) | refine st_build (cs := [AV.rd _ _ _, AV.rd _ _ _, AV.rd _ _ _, AV.own _ _ _ _ _ _, AV.rd _ _ _]) rfl ?_ | (refine st_mkslice rfl rfl (by omega) (by omega) ?_; intro id hid; try simp only [Heap.set_none] at hid)) | (refine gx ?_; first | refine sx_seq ?_ | refine sx_ops rfl ?_ | refine sx_ret ?_) | refine sk_norm ?_ | refine fin_ret (v := AV.ptr _ _ _) rfl ?_
 rename_i i1 hi1 i2 hi2
 have e1 : (n.tags.l.length : Int).toNat = n.tags.l.length := by omega
 refine ⟨id, i2, rfl, hid.2.2, hi2.2, ⟨?_, ?_, hid.1, .inl ⟨rfl, rfl, rfl⟩, by simp [AV.rowId], by simp [AV.rowId]⟩, fun k hk => ?_⟩
 ·rw [Heap.get_set_self, e1, List.length_replicate]
  rfl
 ·rw [Heap.get_set_ne _ _ (Ne.symm hid.1), Heap.get_set_self, e1]
  have : ∀ m : Nat, (List.replicate m [AV.bool false]).flatten = (List.replicate m false).map bI := by
   intro m
   induction m with
   | zero => rfl
   | succ m ih => rw [List.replicate_succ, List.flatten_cons, ih, List.replicate_succ]; rfl
  rw [this]
 ·rw [Heap.get_set_ne _ _ (by rintro rfl; exact hk hid.2.2), Heap.get_set_ne _ _ (by rintro rfl; exact hk hi2.2), Heap.get_set_ne _ _ (by rintro rfl; exact hk hi1)]
theorem reach_ok {Φ : Lib} (L : C1Lib Φ) {h : Heap} {a b : Nat} {lv : AV} {n : Nfa} {bs : List Bool} {left : List Nat} (hm : Marks h a b lv n bs left) (hl : left.length ≤ 1048576) (hb : bs.length ≤ 1048576) (s : Int) (hs : 0 ≤ s ∧ s < bs.length) :
  Runs Φ 27 [.ptr a 0 0, .int .i64 s] h (fun _ h' => ∃ lv', Marks h' a b lv' n (bs.set s.toNat true) (reachLeft bs left s.toNat) ∧ (∀ k, h.get k ≠ none → ¬ (k = a ∨ k = b ∨ lv.rowId = some k) → h'.get k = h.get k) ∧ ∀ k, lv'.rowId = some k → lv.rowId = some k ∨ h.get k = none) := by
 obtain ⟨m1, m2, m3, m4, m5, m6⟩ := hm
 obtain ⟨x, hx⟩ := ex_get (show s.toNat < bs.length by omega)
 have m3' := Ne.symm m3
 have hne := Heap.ne_of m1
 have hne2 := Heap.ne_of m2
 refine runs_of (fun _ => false) rfl L.f27 ?_
 cases x
 ·repeat' first | refine st_nil ?_ | (refine gw ?_; first | (refine gq0 ?_; first | refine st_mv (v := AV.int _ _) rfl ?_ | refine st_mv (v := AV.ptr _ _ _) rfl ?_) | (refine gq2 ?_; first | refine st_load_map (g := _) rfl hg_ (by assumption) eq_ ?_ | refine st_load_p rfl hg_ (by simp) b_ pv_ ?_) | refine st_field_p rfl (Nat.zero_add _) ?_ | refine st_index_own rfl rfl (by omega) (by omega) ?_ | refine st_nilck_p rfl ?_ | (refine gq13 ?_; first | refine st_store1 (g := _) rfl rfl hg_ (by simp only [Nat.zero_add, Nat.mul_one]; exact rfl) (by omega) rfl rfl (by exact rfl) ?_ | refine st_store_row rfl rv_ (by assumption) hg_ b_ (by first | (simp only [List.set_cons_zero, List.set_cons_succ] <;> exact rfl) | exact rfl) ?_) | (refine st_append_pre (m := 1) rv_ ip_ rfl rfl (by omega) ?_; intro va hpa hra hka hria) | refine st_lit (cs := [AV.int _ _]) rfl rfl ?_ | refine st_not (b := false) rfl ?_) | (refine gx ?_; first | refine sx_seq ?_ | refine sx_ops rfl ?_ | refine sx_cond_t rfl ?_) | refine sk_norm ?_ | refine fin_norm (v := AV.tup _) rfl ?_
  have m2' : hpa.get b = some (.cells 1 ((bs.set s.toNat true).map bI)) := by
   rw [hka b (by simp) m6]; simp
  have m1' : hpa.get a = some (.cells 0 [n.edges.mv Rw.ev, n.free.mv Rw.iv, n.tags.iv, .own b 1 1 0 bs.length none, lv]) := by
   rw [hka a (by simp [Heap.get_set2, *]) m5]; simp [Heap.get_set2, *]
  skip
  have e2 : reachLeft bs left s.toNat = left ++ [s.toNat] := by rw [reachLeft, if_neg (by rw [hx]; simp)]
  have hva : va.rowId ≠ some a := fun e => by
   rcases hria a e with h | h
   ·exact m5 h
   ·rw [Heap.get_set_ne _ _ m3, m1] at h; cases h
  have hvb : va.rowId ≠ some b := fun e => by
   rcases hria b e with h | h
   ·exact m6 h
   ·rw [Heap.get_set_self] at h; cases h
  have hs2 : (s.toNat : Int) = s := by omega
  refine ⟨va, ⟨?_, ?_, m3, ?_, hva, hvb⟩, fun k hk1 hk2 => ?_, fun k hk => ?_⟩
  ·rw [Heap.get_set_self, List.length_set]
  ·rw [Heap.get_set_ne _ _ m3']; exact m2'
  ·rw [e2, List.length_append, List.map_append]
   refine (IsRow.pre ?_).set_ne hva
   simpa [nI, hs2] using hra
  ·have ka : k ≠ a := fun e => hk2 (.inl e)
   have kb : k ≠ b := fun e => hk2 (.inr (.inl e))
   rw [Heap.get_set_ne _ _ ka, hka k (by rw [Heap.get_set_ne _ _ kb]; exact hk1) (fun e => hk2 (.inr (.inr e))), Heap.get_set_ne _ _ kb]
  ·rcases hria k hk with h | h
   ·exact .inl h
   ·rw [Heap.set_none] at h
    exact .inr h.2
 ·repeat' first | refine st_nil ?_ | (refine gw ?_; first | (refine gq0 ?_; first | refine st_mv (v := AV.int _ _) rfl ?_ | refine st_mv (v := AV.ptr _ _ _) rfl ?_) | (refine gq2 ?_; first | refine st_load_map (g := _) rfl hg_ (by assumption) eq_ ?_ | refine st_load_p rfl hg_ (by simp) b_ pv_ ?_) | refine st_field_p rfl (Nat.zero_add _) ?_ | refine st_index_own rfl rfl (by omega) (by omega) ?_ | refine st_nilck_p rfl ?_ | refine st_not (b := true) rfl ?_) | (refine gx ?_; first | refine sx_seq ?_ | refine sx_ops rfl ?_ | refine sx_skip ?_ | refine sx_cond_f rfl ?_) | refine sk_norm ?_ | refine fin_norm (v := AV.tup _) rfl ?_
  have e1 : bs.set s.toNat true = bs := by
   rw [List.getElem?_eq_some_iff] at hx
   obtain ⟨_, hx⟩ := hx
   rw [← hx, List.set_getElem_self]
  have e2 : reachLeft bs left s.toNat = left := by rw [reachLeft, if_pos hx]
  rw [e1, e2]
  exact ⟨lv, ⟨m1, m2, m3, m4, m5, m6⟩, fun _ _ _ => rfl, fun _ h => .inl h⟩
theorem sort_row {Φ : Lib} (S : SortLib Φ) {h : Heap} {v : AV} {zs : List Int} (hr : IsRow h v 1 zs.length (zs.map (.int .i64))) (hl : zs.length < 4611686018427387904) : Runs Φ 42 [v] h (fun _ h' => IsRow h' v 1 zs.length ((zs.mergeSort fun x y => decide (x ≤ y)).map (.int .i64)) ∧ ∀ k, v.rowId ≠ some k → h'.get k = h.get k) := by
 refine Runs.ext rfl S.ints ?_
 rcases hr with ⟨rfl, h1, h2⟩ | ⟨id, g, rfl, h2, h3, h4⟩
 ·have : zs = [] := List.eq_nil_of_length_eq_zero h1
  subst this
  exact ⟨rfl, rfl, by simpa using IsRow.nil _ _, fun _ _ => rfl⟩
 ·refine ⟨_, zs, h2, rfl, by simp, by omega, by rw [List.drop_zero, List.take_of_length_le (by simp)]; rfl, ?_, fun k hk => Heap.get_set_ne _ _ (fun e => hk (by rw [e]; rfl))⟩
  refine IsRow.own ?_ h3 (by simp)
  rw [Heap.get_set_self, List.take_zero, List.nil_append, List.drop_of_length_le (by simp), List.append_nil]
  rfl
theorem all_ok {Φ : Lib} (L : C1Lib Φ) (S : SortLib Φ) {h : Heap} {a b : Nat} {lv : AV} {n : Nfa} {bs : List Bool} {left : List Nat} (hn : n.Ok) (hf : n.Fits) {P : Nat → Prop} (hP : ∀ i, P i → i < n.k) (hm : Marks h a b lv n bs left) (hg : GoInv n P bs left [] []) :
  Runs Φ 28 [.ptr a 0 0] h (fun v _ => v = .rd (closeN n P).length ((closeN n P).map (.int .i64)) false) := by
 have hmost := hn.most
 refine runs_of (fun _ => false) rfl L.f28 ?_
 repeat' first | refine st_nil ?_ | refine st_mv (v := AV.rd _ _ _) rfl ?_ | (refine gx ?_; first | refine sx_seq ?_ | refine sx_ops rfl ?_ | refine sx_skip ?_ | refine sx_block ?_) | refine sk_norm ?_
 refine sx_loop (fun m env h' => ∃ lv bs left out ov, m = n.k - out.length ∧ Marks h' a b lv n bs left ∧ GoInv n P bs left out [] ∧ IsRow h' ov 1 out.length (out.map nI) ∧ (∀ k, ov.rowId = some k → ¬ (k = a ∨ k = b ∨ lv.rowId = some k)) ∧ env.has [(0, .ptr a 0 0), (3, ov)]) n.k ⟨lv, bs, left, [], _, by simp, hm, hg, IsRow.nil _ _, (fun _ h => by cases h), hh_⟩ ?_
 rintro m env h' ⟨lv, bs, left, out, ov, rfl, hm, hg, hro, hdis, he⟩
 obtain ⟨env, rfl⟩ := he.ex
 clear he
 have hmo := hg.most
 obtain ⟨m1, m2, m3, m4, m5, m6⟩ := id hm
 rcases snoc_cases left with rfl | ⟨left', s, rfl⟩
 ·have hl0 : ([] : List Nat).length = 0 := rfl
  repeat' first | refine st_nil ?_ | (refine gw ?_; first | (refine gq0 ?_; first | refine st_mv (v := AV.int _ _) rfl ?_ | refine st_mv (v := AV.ptr _ _ _) rfl ?_ | refine st_mv rv_ ?_) | refine st_load_p rfl hg_ (by simp) b_ pv_ ?_ | (refine st_eql rfl rfl rfl ?_ ?_ <;> (intro hc; try (exfalso; omega))) | refine st_field_p rfl (Nat.zero_add _) ?_ | refine st_len_pre rv_ (by assumption) ?_ | refine st_nilck_p rfl ?_ | refine st_call rfl nt_ ?_) | (refine gx ?_; first | refine sx_seq ?_ | refine sx_ops rfl ?_ | refine sx_block ?_ | refine sx_exit ?_ | refine sx_cond_t rfl ?_) | refine sk_norm ?_ | refine sk_exit ?_ | refine bk_exit ?_ | refine bk_other rfl ?_ | refine lk_exit ?_
  have hro2 : IsRow h' ov 1 (out.map fun i : Nat => (i : Int)).length ((out.map fun i : Nat => (i : Int)).map (.int .i64)) := by rw [List.length_map, List.map_map]; exact hro
  refine call_any (sort_row S hro2 (by simp; simp at hmo; omega)) ?_
  rintro _ h2 ⟨hr2, _⟩
  rw [hg.done hn hP] at hr2
  repeat' first | refine st_nil ?_ | refine st_mv rv_ ?_ | (refine gx ?_; first | refine sx_seq ?_ | refine sx_ops rfl ?_ | refine sx_ret ?_) | refine sk_norm ?_
  refine fin_ret_fz (fun k => ov.rowId = some k) rfl (hr2.fz _ (fun _ h => h) (FzL.same _)) ?_
  rw [← hg.done hn hP, List.length_mergeSort]
 ·have hl0 : (left' ++ [s]).length = left'.length + 1 := by simp
  have hls : (left' ++ [s])[left'.length]? = some s := by simp
  have hsk : s < n.k := by
   have := lt_of_getElem? ((hg.mem s).1 (by simp))
   rwa [hg.len] at this
  obtain ⟨ts, hts⟩ := ex_get (l := n.free.l) (show s < n.free.l.length by rw [hn.free]; exact hsk)
  have htsl := hf.frees ts (List.mem_of_getElem? hts)
  have hfr : n.frees s = ts.l := by simp [Nfa.frees, List.getD_eq_getElem?_getD, hts]
  have hoa : ov.rowId ≠ some a := fun e => hdis a e (.inl rfl)
  repeat' first | refine st_nil ?_ | (refine gw ?_; first | (refine gq0 ?_; first | refine st_mv (v := AV.int _ _) rfl ?_ | refine st_mv (v := AV.ptr _ _ _) rfl ?_ | refine st_mv rv_ ?_) | (refine gq2 ?_; first | refine st_load_r rfl b_ pv_ ?_ | refine st_load_map_pre (g := _) rfl hg_ (by assumption) (by assumption) eq_ ?_ | refine st_load_p rfl hg_ (by simp) b_ pv_ ?_) | (refine gq3 ?_; first | refine st_sub rfl rfl rfl (by omega) (by omega) ?_ | (refine st_eql rfl rfl rfl ?_ ?_ <;> (intro hc; try (exfalso; omega)))) | refine st_field_p rfl (Nat.zero_add _) ?_ | (refine gq5 ?_; first | refine st_index_map rfl rfl rfl (by assumption) rfl ?_ | (refine st_index_pre rv_ (by assumption) rfl (by omega) (by omega) ?_; intro ir gr allr hvr hgr hgp hlr htr; have hner := Heap.ne_of hgr; have hner2 := Heap.ne_of2 hgr)) | (refine gq6 ?_; first | refine st_len_rd rfl ?_ | refine st_len_pre rv_ (by assumption) ?_) | refine st_nilck_p rfl ?_ | refine st_store_p (v := AV.own _ _ _ _ _ _) rfl rfl hg_ rfl rfl b_ sv_ ?_ | (refine st_append (m := 1) rv_ ir_ rfl rfl (by omega) ?_; intro va hpa hra hka hria) | refine st_lit (cs := [AV.int _ _]) rfl rfl ?_ | refine st_slice_hi_own (by assumption) rfl (by omega) (by omega) ?_) | (refine gx ?_; first | refine sx_seq ?_ | refine sx_ops rfl ?_ | refine sx_skip ?_ | refine sx_block ?_ | refine sx_cond_f rfl ?_) | refine sk_norm ?_
  have hir : lv.rowId = some ir := by rw [hvr]; rfl
  have hira : ir ≠ a := fun e => m5 (e ▸ hir)
  have hirb : ir ≠ b := fun e => m6 (e ▸ hir)
  have hl1 : ((left' ++ [s]).length - 1 : Int).toNat = left'.length := by omega
  rw [hl1] at hka hria
  have hoir : ov.rowId ≠ some ir := fun e => hdis ir e (.inr (.inr hir))
  have hob : ov.rowId ≠ some b := fun e => hdis b e (.inr (.inl rfl))
  have m1' : hpa.get a = some (.cells 0 [n.edges.mv Rw.ev, n.free.mv Rw.iv, n.tags.iv, .own b 1 1 0 bs.length none, .own ir gr 1 0 left'.length none]) := by
   rw [hka a (by simp) hoa, Heap.get_set_self]
  have m2' : hpa.get b = some (.cells 1 (bs.map bI)) := by
   rw [hka b (by simp [Heap.get_set2, m2, m3]) hob, Heap.get_set_ne _ _ (Ne.symm m3), m2]
  have m4' : IsPre hpa (.own ir gr 1 0 left'.length none) 1 left'.length (left'.map nI) := by
   refine .inr ⟨ir, gr, allr, rfl, ?_, hgp, by omega, ?_⟩
   ·rw [hka ir (by rw [Heap.get_set_ne _ _ hira, hgr]; simp) hoir, Heap.get_set_ne _ _ hira, hgr]
   ·have : (allr.take ((left' ++ [s]).length * 1)).take (left'.length * 1) = left'.map nI := by
     rw [htr, List.map_append, Nat.mul_one]
     simp
    rwa [List.take_take, Nat.min_eq_left (by omega)] at this
  have hdis2 : ∀ k, va.rowId = some k → ¬ (k = a ∨ k = b ∨ (AV.own ir gr 1 0 left'.length none).rowId = some k) := fun k hk hk2 => by
   rcases hria k hk with h | h
   ·refine hdis k h ?_
    rcases hk2 with h2 | h2 | h2
    ·exact .inl h2
    ·exact .inr (.inl h2)
    ·exact .inr (.inr (hir.trans h2))
   ·rcases hk2 with rfl | rfl | h2
    ·rw [Heap.get_set_self] at h; cases h
    ·rw [Heap.get_set_ne _ _ (Ne.symm m3), m2] at h; cases h
    ·cases h2
     rw [Heap.get_set_ne _ _ hira, hgr] at h; cases h
  have hra2 : IsRow hpa va 1 (out ++ [s]).length ((out ++ [s]).map nI) := by simpa [nI] using hra
  have hlo : (out ++ [s]).length = out.length + 1 := by simp
  refine sx_for ts.l.length (fun j env h' => ∃ lv bs left, Marks h' a b lv n bs left ∧ GoInv n P bs left (out ++ [s]) (ts.l.drop j) ∧ IsRow h' va 1 (out ++ [s]).length ((out ++ [s]).map nI) ∧ (∀ k, va.rowId = some k → ¬ (k = a ∨ k = b ∨ lv.rowId = some k)) ∧ env.has [(0, .ptr a 0 0), (3, va), (44, ts.iv), (45, .int .i64 ts.l.length), (46, .int .i64 j)]) ⟨_, _, _, ⟨m1', m2', m3, m4', by rw [show (AV.own ir gr 1 0 left'.length none).rowId = some ir from rfl]; simpa using hira, by rw [show (AV.own ir gr 1 0 left'.length none).rowId = some ir from rfl]; simpa using hirb⟩, (by rw [List.drop_zero, ← hfr]; exact hg.pop), hra2, hdis2, hh_⟩ ?_
  clear m1 m2 m4 m5 m6 hm hg hro hdis hdis2 m1' m2' m4' hra hra2 hka hria hgr htr hlr hner hner2 hvr hir hoir hob hoa hl1
  rintro j env h' hj ⟨lv, bs, left, hm, hg, hra, hdis, he⟩
  obtain ⟨env, rfl⟩ := he.ex
  clear he
  have hmo := hg.most
  by_cases hj2 : j < ts.l.length
  ·obtain ⟨t, ht⟩ := ex_get hj2
   have htr := hn.frees s hsk t (by rw [hfr]; exact List.mem_of_getElem? ht)
   have hd : ts.l.drop j = t :: ts.l.drop (j + 1) := by
    obtain ⟨h1, rfl⟩ := List.getElem?_eq_some_iff.1 ht
    exact List.drop_eq_getElem_cons h1
   repeat' first | refine st_nil ?_ | (refine gw ?_; first | (refine gq0 ?_; first | refine st_mv (v := AV.int _ _) rfl ?_ | refine st_mv (v := AV.ptr _ _ _) rfl ?_) | refine st_load_r rfl b_ pv_ ?_ | (refine st_lss rfl rfl rfl ?_ ?_ <;> (intro hc; try (exfalso; omega))) | refine st_index_map rfl rfl rfl (by assumption) rfl ?_ | refine st_call rfl nt_ ?_) | (refine gx ?_; first | refine sx_seq ?_ | refine sx_ops rfl ?_ | refine sx_skip ?_ | refine sx_block ?_ | refine sx_cond_t rfl ?_) | refine sk_norm ?_
   refine call_any (reach_ok L hm (by omega) (by rw [hg.len]; omega) t (by rw [hg.len]; exact htr)) ?_
   rintro _ h2 ⟨lv', hm2, hk2, hl2⟩
   repeat' first | refine st_nil ?_ | (refine gw ?_; first | refine st_mv (v := AV.int _ _) rfl ?_ | refine st_add rfl rfl rfl (by omega) (by omega) ?_) | refine sx_ops rfl ?_ | refine sk_norm ?_ | refine bk_norm ?_
   refine lk_next hj2 ⟨lv', _, _, hm2, (hd ▸ hg).reach htr, hra.keep (fun k hk => hk2 k (hra.there hk) (hdis k hk)), (fun k hk hk3 => ?_), hh_⟩
   rcases hk3 with h | h | h
   ·exact hdis k hk (.inl h)
   ·exact hdis k hk (.inr (.inl h))
   ·rcases hl2 k h with h | h
    ·exact hdis k hk (.inr (.inr h))
    ·exact hra.there hk h
  ·repeat' first | refine st_nil ?_ | (refine st_lss rfl rfl rfl ?_ ?_ <;> (intro hc; try (exfalso; omega))) | (refine gx ?_; first | refine sx_seq ?_ | refine sx_ops rfl ?_ | refine sx_exit ?_ | refine sx_cond_f rfl ?_) | refine sk_norm ?_ | refine sk_exit ?_ | refine bk_norm ?_ | refine bk_exit ?_ | refine lk_exit ?_
   rw [List.drop_of_length_le (by omega)] at hg
   refine lk_norm (n.k - (out ++ [s]).length) (by omega) ?_
   exact ⟨lv, bs, left, out ++ [s], va, rfl, hm, hg, hra, hdis, hh_⟩
end Go.Proofs.YtdldfflfbfpngaaGreatDoor
set_option linter.unusedVariables false
set_option linter.unusedSimpArgs false
namespace Go.Proofs.YtdldfflfbfpngaaGreatDoor
open Go
set_option maxHeartbeats 4000000
attribute [local irreducible] wops xcode wcode seqK blockK loopK finK wcall wop wstp Runs
theorem fin_row {rs : List DRes} {Q : AV → Heap → Prop} {env : Env} {h : Heap} {v : AV} {e n : Nat} {cs : List AV} (hv : resVals env h rs = some v) (hr : IsRow h v e n cs) (k : ∀ h', Q (.rd n cs false) h') : finK rs Q .ret env h :=
 fin_ret_fz (fun id => v.rowId = some id) hv (hr.fz _ (fun _ h => h) (FzL.same _)) (k _)
@[reducible] def rowI (l : List Int) : AV := .rd l.length (l.map (.int .i64)) false
noncomputable def start1 (n : Nfa) : List Int := if soundN n = true then startN n else []
noncomputable def step1 (n : Nfa) (at_ : List Int) (r : Int) : List Int := if soundN n = true then stepN n at_ r else []
theorem start_ok {Φ : Lib} (L : C1Lib Φ) (S : SortLib Φ) (n : Nfa) (hf : n.Fits) : Pure Φ 12 [.agg n.av] (rowI (start1 n)) := by
 refine runs_of (fun _ => false) rfl L.f12 ?_
 have hsk := sound_ok L S n hf
 cases hs : soundN n
 all_goals rw [hs] at hsk
 ·repeat' first | refine st_nil ?_ | (refine gw ?_; first | refine st_mv (v := AV.rd _ _ _) rfl ?_ | refine st_load_p rfl hg_ (by simp) b_ pv_ ?_ | refine st_call rfl nt_ ?_ | (refine st_box (v := AV.agg _) rfl rfl ?_; intro id hid; try simp only [Heap.set_none] at hid) | refine st_not (b := false) rfl ?_) | (refine gx ?_; first | refine sx_seq ?_ | refine sx_ops rfl ?_ | refine sx_ret ?_ | refine sx_cond_t rfl ?_) | refine sk_norm ?_ | refine sk_ret ?_ | refine call_pure (by assumption) fz_ fz_ ?_
  exact fin_row rfl (IsRow.nil _ 1) (fun _ => by simp [start1, hs])
 ·have hn := sound_ok_iff.1 hs
  repeat' first | refine st_nil ?_ | (refine gw ?_; first | refine st_mv (v := AV.rd _ _ _) rfl ?_ | refine st_load_p rfl hg_ (by simp) b_ pv_ ?_ | refine st_call rfl nt_ ?_ | (refine st_box (v := AV.agg _) rfl rfl ?_; intro id hid; try simp only [Heap.set_none] at hid) | refine st_not (b := true) rfl ?_) | (refine gx ?_; first | refine sx_seq ?_ | refine sx_ops rfl ?_ | refine sx_skip ?_ | refine sx_cond_f rfl ?_) | refine sk_norm ?_ | refine call_pure (by assumption) fz_ fz_ ?_
  refine call_any (begin_ok L n (by have := hn.most; omega) _) ?_
  rintro _ h1 ⟨a, b, rfl, ha, hb, hm, hk⟩
  repeat' first | refine st_nil ?_ | (refine gw ?_; first | refine st_mv (v := AV.ptr _ _ _) rfl ?_ | refine st_call rfl nt_ ?_) | (refine gx ?_; first | refine sx_seq ?_ | refine sx_ops rfl ?_) | refine sk_norm ?_
  refine call_any (reach_ok L hm (by simp) (by have := hn.most; simp; omega) 0 (by have := hn.pos; simp; omega)) ?_
  rintro _ h2 ⟨lv', hm2, _, _⟩
  repeat' first | refine st_nil ?_ | (refine gw ?_; first | refine st_mv (v := AV.ptr _ _ _) rfl ?_ | refine st_call rfl nt_ ?_) | (refine gx ?_; first | refine sx_seq ?_ | refine sx_ops rfl ?_) | refine sk_norm ?_
  have hg := ((MarkInv.begin n).reach hn.pos).iff (P' := (· = 0)) (fun i => by simp)
  refine call_any (all_ok L S hn hf (P := (· = 0)) (fun i hi => by have := hn.pos; omega) hm2 hg.go) ?_
  rintro _ h3 rfl
  repeat' first | refine st_nil ?_ | refine st_mv (v := AV.rd _ _ _) rfl ?_ | refine sx_ret ?_ | refine sk_norm ?_ | refine fin_ret (v := AV.rd _ _ _) rfl ?_
  simp [start1, hs, startN]
theorem step_ok {Φ : Lib} (L : C1Lib Φ) (S : SortLib Φ) (n : Nfa) (hn : n.Ok) (hf : n.Fits) (at_ : List Int) (fl : Bool) (hat : at_.length ≤ 1048576) (r : Int) : Pure Φ 25 [.agg n.av, .rd at_.length (at_.map (.int .i64)) fl, .int .i64 r] (rowI (stepN n at_ r)) := by
 have hmost := hn.most
 refine runs_of (fun _ => false) rfl L.f25 ?_
 repeat' first | refine st_nil ?_ | (refine gw ?_; first | refine st_mv (v := AV.rd _ _ _) rfl ?_ | refine st_load_p rfl hg_ (by simp) b_ pv_ ?_ | refine st_call rfl nt_ ?_ | (refine st_box (v := AV.agg _) rfl rfl ?_; intro id hid; try simp only [Heap.set_none] at hid)) | (refine gx ?_; first | refine sx_seq ?_ | refine sx_ops rfl ?_) | refine sk_norm ?_
 rename Nat => ib
 rename Heap.get _ _ = none => hib
 refine call_any (begin_ok L n (by omega) _) ?_
 rintro _ h1 ⟨a, b, rfl, ha, hb, hm, hk⟩
 have hbox := hk _ (show _ ≠ none from by rw [Heap.get_set_self]; simp)
 rw [Heap.get_set_self] at hbox
 have hid1 : ib ≠ a := by rintro rfl; rw [Heap.get_set_self] at ha; cases ha
 have hid2 : ib ≠ b := by rintro rfl; rw [Heap.get_set_self] at hb; cases hb
 repeat' first | refine st_nil ?_ | (refine gw ?_; first | (refine gq0 ?_; first | refine st_mv (v := AV.int _ _) rfl ?_ | refine st_mv (v := AV.rd _ _ _) rfl ?_ | refine st_mv (v := AV.ptr _ _ _) rfl ?_) | refine st_len_rd rfl ?_) | (refine gx ?_; first | refine sx_seq ?_ | refine sx_ops rfl ?_ | refine sx_block ?_) | refine sk_norm ?_
 refine sx_for at_.length (fun i env h' => ∃ lv bs left, Marks h' a b lv n bs left ∧ MarkInv n (goesTo n (at_.take i) r) bs left ∧ h'.get ib = some (.cells 0 n.av) ∧ lv.rowId ≠ some ib ∧ env.has [(2, .int .i64 r), (3, .ptr ib 0 0), (7, .ptr a 0 0), (14, .rd at_.length (at_.map (.int .i64)) fl), (15, .int .i64 at_.length), (16, .int .i64 i)]) ⟨_, _, _, hm, (MarkInv.begin n).iff (fun j => (goesTo_nil n r j).symm), hbox, (by simp [AV.rowId]), hh_⟩ ?_
 rintro i env h' hi ⟨lv, bs, left, hm, hg, hbox, hlv, he⟩
 obtain ⟨env, rfl⟩ := he.ex
 clear he
 by_cases hi2 : i < at_.length
 ·obtain ⟨s, hs⟩ := ex_get hi2
  by_cases hin : 0 ≤ s ∧ s < n.k
  ·obtain ⟨es, hes⟩ := ex_get (l := n.edges.l) (show s.toNat < n.edges.l.length by rw [hn.edges]; omega)
   have hout : n.outs s.toNat = es.l := by simp [Nfa.outs, List.getD_eq_getElem?_getD, hes]
   have hesf := hf.edge es (List.mem_of_getElem? hes)
   have hk' : (n.tags.l.length : Int) = n.k := rfl
   repeat' first | refine st_nil ?_ | (refine gw ?_; first | (refine gq0 ?_; first | refine st_mv (v := AV.int _ _) rfl ?_ | refine st_mv (v := AV.bool _) rfl ?_) | refine st_gog rfl ?_ | (refine gq2 ?_; first | refine st_load_r rfl b_ pv_ ?_ | refine st_load_p rfl hg_ (by simp) b_ pv_ ?_) | (refine gq3 ?_; first | (refine st_lss rfl rfl rfl ?_ ?_ <;> (intro hc; try (exfalso; omega))) | (refine st_geq rfl rfl rfl ?_ ?_ <;> (intro hc; try (exfalso; omega)))) | refine st_field_p rfl (Nat.zero_add _) ?_ | (refine gq5 ?_; first | refine st_index_map rfl rfl rfl (by assumption) rfl ?_ | refine st_index_map' rfl rfl (by assumption) (by omega) rfl ?_) | refine st_len_rd rfl ?_ | refine st_pick_f (v := AV.bool _) rfl rfl ?_) | (refine gx ?_; first | refine sx_seq ?_ | refine sx_ops rfl ?_ | refine sx_skip ?_ | refine sx_block ?_ | refine sx_cond_t rfl ?_ | refine sx_cond_f rfl ?_) | refine sk_norm ?_
   refine sx_for es.l.length (fun j env h' => ∃ lv bs left, Marks h' a b lv n bs left ∧ MarkInv n (goesFront n (at_.take i) r (es.l.take j)) bs left ∧ h'.get ib = some (.cells 0 n.av) ∧ lv.rowId ≠ some ib ∧ env.has [(2, .int .i64 r), (3, .ptr ib 0 0), (7, .ptr a 0 0), (14, .rd at_.length (at_.map (.int .i64)) fl), (15, .int .i64 at_.length), (16, .int .i64 i), (33, es.av Edge.av), (34, .int .i64 es.l.length), (35, .int .i64 j)]) ⟨_, _, _, hm, hg.iff (fun j => (goesFront_nil n _ r j).symm), hbox, hlv, hh_⟩ ?_
   clear hm hg hlv hbox
   rintro j env h' hj ⟨lv, bs, left, hm, hg, hbox, hlv, he⟩
   obtain ⟨env, rfl⟩ := he.ex
   clear he
   by_cases hj2 : j < es.l.length
   ·obtain ⟨e, he⟩ := ex_get hj2
    have hmem := List.mem_of_getElem? he
    have hto := (hn.outs s.toNat (by omega) e (hout ▸ hmem)).1
    repeat' first | refine st_nil ?_ | (refine gw ?_; first | refine st_mv (v := AV.int _ _) rfl ?_ | (refine gq2 ?_; first | refine st_load_ra rfl (by first | rfl | (simp [*]; done) | fail) ?_ | refine st_load_p rfl hg_ (by simp) b_ pv_ ?_) | (refine st_lss rfl rfl rfl ?_ ?_ <;> (intro hc; try (exfalso; omega))) | refine st_field_p rfl (Nat.zero_add _) ?_ | refine st_index_flat rfl fl_ rfl rfl (by assumption) rfl ?_ | refine st_call rfl nt_ ?_ | (refine st_alloc ?_; intro id hid; try simp only [Heap.set_none] at hid) | refine st_store_s (cs' := [AV.int _ _, AV.rd _ _ _]) rfl rfl rfl rfl b_ rfl ?_) | (refine gx ?_; first | refine sx_seq ?_ | refine sx_ops rfl ?_ | refine sx_skip ?_ | refine sx_block ?_ | refine sx_cond_t rfl ?_) | refine sk_norm ?_
    refine call_pure (has_ok L e.set.l e.set.fl r (by have := hesf.2 e hmem; omega)) (by simp [AV.frozenL, AV.frozen]) rfl ?_
    cases hh : hasS e.set.l r
    ·repeat' first | refine st_nil ?_ | (refine gw ?_; first | refine st_mv (v := AV.int _ _) rfl ?_ | refine st_add rfl rfl rfl (by omega) (by omega) ?_) | (refine gx ?_; first | refine sx_ops rfl ?_ | refine sx_skip ?_ | refine sx_cond_f rfl ?_) | refine sk_norm ?_ | refine bk_norm ?_
     refine lk_next hj2 ⟨_, _, _, hm.keep (fun k hk => Heap.get_set_ne _ _ (fun e => hm.there hk (e ▸ hid))), hg.iff (fun j => ?_), ?_, hlv, hh_⟩
     ·rw [take_snoc he]
      exact goesFront_not hh j
     ·rw [Heap.get_set_ne _ _ (by rintro rfl; rw [hbox] at hid; cases hid)]
      exact hbox
    ·repeat' first | refine st_nil ?_ | (refine gw ?_; first | refine st_mv (v := AV.ptr _ _ _) rfl ?_ | refine st_load_p rfl hg_ (by simp) b_ pv_ ?_ | refine st_field_p rfl (Nat.zero_add _) ?_ | refine st_call rfl nt_ ?_) | (refine gx ?_; first | refine sx_ops rfl ?_ | refine sx_cond_t rfl ?_) | refine sk_norm ?_
     have hm' : Marks (h'.set id (.cells 0 [.int .i64 e.to, e.set.av Span.av])) a b lv n bs left := hm.keep (fun k hk => Heap.get_set_ne _ _ (fun e => hm.there hk (e ▸ hid)))
     have hne : ib ≠ id := by rintro rfl; rw [hbox] at hid; cases hid
     refine call_any (reach_ok L hm' (by have := hg.most; omega) (by rw [hg.len]; omega) e.to (by rw [hg.len]; omega)) ?_
     rintro _ h2 ⟨lv', hm2, hk2, hl2⟩
     repeat' first | refine st_nil ?_ | (refine gw ?_; first | refine st_mv (v := AV.int _ _) rfl ?_ | refine st_add rfl rfl rfl (by omega) (by omega) ?_) | refine sx_ops rfl ?_ | refine sk_norm ?_ | refine bk_norm ?_
     refine lk_next hj2 ⟨_, _, _, hm2, (hg.reach (by omega)).iff (fun j => ?_), ?_, ?_, hh_⟩
     ·rw [take_snoc he]
      exact goesFront_has hh j
     ·rw [hk2 ib (by rw [Heap.get_set_ne _ _ hne, hbox]; simp) (by rintro (h | h | h); exact hid1 h; exact hid2 h; exact hlv h), Heap.get_set_ne _ _ hne]
      exact hbox
     ·intro e1
      rcases hl2 ib e1 with h | h
      ·exact hlv h
      ·rw [Heap.get_set_ne _ _ hne, hbox] at h; cases h
   ·repeat' first | refine st_nil ?_ | (refine gw ?_; first | refine st_mv (v := AV.int _ _) rfl ?_ | (refine gq3 ?_; first | refine st_add rfl rfl rfl (by omega) (by omega) ?_ | (refine st_lss rfl rfl rfl ?_ ?_ <;> (intro hc; try (exfalso; omega))))) | (refine gx ?_; first | refine sx_seq ?_ | refine sx_ops rfl ?_ | refine sx_exit ?_ | refine sx_cond_f rfl ?_) | refine sk_norm ?_ | refine sk_exit ?_ | refine bk_norm ?_ | refine bk_exit ?_ | refine lk_exit ?_
    refine lk_next hi2 ⟨_, _, _, hm, hg.iff (fun j => ?_), hbox, hlv, hh_⟩
    rw [take_snoc hs, List.take_of_length_le (l := es.l) (by omega), ← hout]
    exact goesTo_in hin j
  ·have hk' : (n.tags.l.length : Int) = n.k := rfl
   repeat' first | refine st_nil ?_ | (refine gw ?_; first | (refine gq0 ?_; first | refine st_mv (v := AV.int _ _) rfl ?_ | refine st_mv (v := AV.bool _) rfl ?_) | (refine gq1 ?_; first | refine st_skipg rfl ?_ | refine st_gog rfl ?_) | (refine gq2 ?_; first | refine st_load_r rfl b_ pv_ ?_ | refine st_load_p rfl hg_ (by simp) b_ pv_ ?_) | (refine gq3 ?_; first | refine st_add rfl rfl rfl (by omega) (by omega) ?_ | (refine st_lss rfl rfl rfl ?_ ?_ <;> (intro hc; try (exfalso; omega))) | (refine st_geq rfl rfl rfl ?_ ?_ <;> (intro hc; try (exfalso; omega)))) | refine st_field_p rfl (Nat.zero_add _) ?_ | refine st_index_map rfl rfl rfl (by assumption) rfl ?_ | refine st_len_rd rfl ?_ | (refine gq7 ?_; first | refine st_pick_t (v := AV.bool _) rfl rfl ?_ | refine st_pick_f (v := AV.bool _) rfl rfl ?_)) | (refine gx ?_; first | refine sx_seq ?_ | refine sx_ops rfl ?_ | refine sx_skip ?_ | refine sx_block ?_ | refine sx_exit ?_ | refine sx_cond_t rfl ?_) | refine sk_norm ?_ | refine sk_exit ?_ | refine bk_exit ?_
   all_goals
    refine lk_next hi2 ⟨_, _, _, hm, hg.iff (fun j => ?_), hbox, hlv, hh_⟩
    rw [take_snoc hs]
    exact (goesTo_out hin j).symm
 ·repeat' first | refine st_nil ?_ | (refine gw ?_; first | refine st_mv (v := AV.ptr _ _ _) rfl ?_ | (refine st_lss rfl rfl rfl ?_ ?_ <;> (intro hc; try (exfalso; omega))) | refine st_call rfl nt_ ?_) | (refine gx ?_; first | refine sx_seq ?_ | refine sx_ops rfl ?_ | refine sx_exit ?_ | refine sx_cond_f rfl ?_) | refine sk_norm ?_ | refine sk_exit ?_ | refine bk_exit ?_ | refine lk_exit ?_
  rw [List.take_of_length_le (by omega)] at hg
  refine call_any (all_ok L S hn hf (goesTo_lt hn) hm hg.go) ?_
  rintro _ h3 rfl
  repeat' first | refine st_nil ?_ | refine st_mv (v := AV.rd _ _ _) rfl ?_ | refine sx_ret ?_ | refine sk_norm ?_ | refine fin_ret (v := AV.rd _ _ _) rfl ?_
  rfl
theorem stepp_ok {Φ : Lib} (L : C1Lib Φ) (S : SortLib Φ) (n : Nfa) (hf : n.Fits) (at_ : List Int) (fl : Bool) (hat : at_.length ≤ 1048576) (r : Int) : Pure Φ 9 [.agg n.av, .rd at_.length (at_.map (.int .i64)) fl, .int .i64 r] (rowI (step1 n at_ r)) := by
 refine runs_of (fun _ => false) rfl L.f9 ?_
 have hsk := sound_ok L S n hf
 cases hs : soundN n
 all_goals rw [hs] at hsk
 ·repeat' first | refine st_nil ?_ | (refine gw ?_; first | refine st_mv (v := AV.rd _ _ _) rfl ?_ | refine st_load_p rfl hg_ (by simp) b_ pv_ ?_ | refine st_call rfl nt_ ?_ | (refine st_box (v := AV.agg _) rfl rfl ?_; intro id hid; try simp only [Heap.set_none] at hid) | refine st_not (b := false) rfl ?_) | (refine gx ?_; first | refine sx_seq ?_ | refine sx_ops rfl ?_ | refine sx_ret ?_ | refine sx_cond_t rfl ?_) | refine sk_norm ?_ | refine sk_ret ?_ | refine call_pure (by assumption) fz_ fz_ ?_
  exact fin_row rfl (IsRow.nil _ 1) (fun _ => by simp [step1, hs])
 ·have hn := sound_ok_iff.1 hs
  repeat' first | refine st_nil ?_ | (refine gw ?_; first | (refine gq0 ?_; first | refine st_mv (v := AV.int _ _) rfl ?_ | refine st_mv (v := AV.rd _ _ _) rfl ?_) | refine st_load_p rfl hg_ (by simp) b_ pv_ ?_ | refine st_call rfl nt_ ?_ | (refine st_box (v := AV.agg _) rfl rfl ?_; intro id hid; try simp only [Heap.set_none] at hid) | refine st_not (b := true) rfl ?_) | (refine gx ?_; first | refine sx_seq ?_ | refine sx_ops rfl ?_ | refine sx_skip ?_ | refine sx_cond_f rfl ?_) | refine sk_norm ?_ | refine call_pure (by assumption) fz_ fz_ ?_
  refine call_pure (step_ok L S n hn hf at_ fl hat r) (by simp [AV.frozenL, AV.frozen]) (by simp [AV.frozen]) ?_
  repeat' first | refine st_nil ?_ | refine st_mv (v := AV.rd _ _ _) rfl ?_ | refine sx_ret ?_ | refine sk_norm ?_ | refine fin_ret (v := AV.rd _ _ _) rfl ?_
  simp [step1, hs]
end Go.Proofs.YtdldfflfbfpngaaGreatDoor
set_option linter.unusedVariables false
set_option linter.unusedSimpArgs false
namespace Go.Proofs.YtdldfflfbfpngaaGreatDoor
open Go
set_option maxHeartbeats 4000000
attribute [local irreducible] wops xcode wcode seqK blockK loopK finK wcall wop wstp Runs
theorem flat_reps (z : AV) : ∀ m : Nat, (List.replicate m [z]).flatten = List.replicate m z
 | 0 => rfl
 | m + 1 => by rw [List.replicate_succ, List.flatten_cons, flat_reps z m]; rfl
theorem st_clear_own {F : FnSem} {r : List DOper} {Q : Env → Heap → Prop} {env : Env} {h : Heap} {x : DOpd} {z : AV} {cs : List AV} {id g off len : Nat} {lim : Option Nat} (hx : ev env x = .own id g 1 off len lim) (hg : h.get id = some (.cells g cs)) (hl : off + len ≤ cs.length) (k : wops F r Q env (h.set id (.cells g (cs.take off ++ List.replicate len z ++ cs.drop (off + len))))) : wops F (⟨none, .clear [z] x, none⟩ :: r) Q env h := by
 have e := flat_reps z len
 simp only [wops_go, wop_clear, effRes, hx, hg, putDst_none]
 rw [if_pos ⟨trivial, rfl, by rw [Nat.mul_one]; exact hl⟩]
 simp only [wres_val, Nat.mul_one, e]
 exact k
theorem IsPre.fz {h : Heap} {v : AV} {e n : Nat} {cs cs' : List AV} (hr : IsPre h v e n cs) (S : Nat → Prop) (hS : ∀ id, v.rowId = some id → S id) (hc : FzL h S cs cs') : FzV h S v (.rd n cs' false) := by
 rcases hr with ⟨rfl, rfl, rfl⟩ | ⟨id, g, all, rfl, h2, h3, h4, h5⟩
 ·cases hc
  exact .rd .nil (fun h => by cases h)
 ·refine .own (hS id rfl) h2 (by rw [Nat.zero_add]; exact h4) ?_
  rw [Nat.zero_mul, List.drop_zero, h5]
  exact hc
theorem fin_pre {rs : List DRes} {Q : AV → Heap → Prop} {env : Env} {h : Heap} {v : AV} {e n : Nat} {cs : List AV} (hv : resVals env h rs = some v) (hr : IsPre h v e n cs) (k : ∀ h', Q (.rd n cs false) h') : finK rs Q .ret env h :=
 fin_ret_fz (fun id => v.rowId = some id) hv (hr.fz _ (fun _ h => h) (FzL.same _)) (k _)
theorem compactL_take {zs : List Int} {m : Nat} {x y : Int} (hx : zs[m]? = some x) (hy : zs[m - 1]? = some y) (hm : 1 ≤ m) : compactL (zs.take (m + 1)) = if x = y then compactL (zs.take m) else compactL (zs.take m) ++ [x] := by
 rw [take_snoc hx, compactL_snoc, cptStep, compactL_last]
 have : (zs.take m).getLast? = some y := by
  rw [List.getLast?_eq_getElem?, List.length_take, Nat.min_eq_left (by have := lt_of_getElem? hx; omega), List.getElem?_take, if_pos (by omega), hy]
 rw [this]
 by_cases e : x = y
 ·subst e; simp
 ·simp [e, Ne.symm e]
theorem compact_ok {Φ : Lib} (L : C1Lib Φ) {h : Heap} {v : AV} {zs : List Int} (hr : IsRow h v 1 zs.length (zs.map (.int .i64))) (hl : zs.length ≤ 1073741824) : Runs Φ 43 [v] h (fun v' h' => IsPre h' v' 1 (compactL zs).length ((compactL zs).map (.int .i64))) := by
 refine runs_of (fun _ => false) rfl L.f43 ?_
 rcases hr with ⟨rfl, h1, h2⟩ | ⟨id, g, rfl, h2, h3, h4⟩
 ·have : zs = [] := List.eq_nil_of_length_eq_zero h1
  subst this
  repeat' first | refine st_nil ?_ | (refine gw ?_; first | refine st_mv (v := AV.rd _ _ _) rfl ?_ | (refine st_lss rfl rfl rfl ?_ ?_ <;> (intro hc; try (exfalso; omega))) | refine st_len_rd rfl ?_) | (refine gx ?_; first | refine sx_seq ?_ | refine sx_ops rfl ?_ | refine sx_ret ?_ | refine sx_cond_t rfl ?_) | refine sk_norm ?_ | refine sk_ret ?_
  exact fin_ret (v := .rd 0 [] true) rfl (.inl ⟨rfl, rfl, rfl⟩)
 ·have hpre : ∀ {c : List AV} {i : Nat} {h' : Heap} {l : List AV}, h'.get id = some (.cells g c) → i ≤ c.length → c.take i = l → IsPre h' (.own id g 1 0 i none) 1 i l := fun hg hi hc => .inr ⟨id, g, _, rfl, hg, h3, by omega, by rw [Nat.mul_one]; exact hc⟩
  repeat' first | refine st_nil ?_ | (refine gw ?_; first | (refine gq0 ?_; first | refine st_mv (v := AV.int _ _) rfl ?_ | refine st_mv (v := AV.rd _ _ _) rfl ?_ | refine st_mv (v := AV.own _ _ _ _ _ _) rfl ?_) | (refine st_lss rfl rfl rfl ?_ ?_ <;> (intro hc; try (exfalso; omega))) | refine st_len_own rfl ?_) | (refine gx ?_; first | refine sx_seq ?_ | refine sx_ops rfl ?_ | refine sx_skip ?_ | refine sx_block ?_ | refine sx_ret ?_ | refine sx_cond_t rfl ?_ | refine sx_cond_f rfl ?_) | refine sk_norm ?_ | refine sk_ret ?_
  ·have : compactL zs = zs := by
    match zs, hc with
    | [], _ => rfl
    | [a], _ => rfl
    | a :: b :: l, hc => simp at hc; omega
   rw [this]
   exact fin_ret (v := .own id g 1 0 zs.length none) rfl (hpre h2 (by simp) (List.take_of_length_le (by simp)))
  ·refine sx_sub zs.length (fun i env h' => h' = h ∧ 1 ≤ i ∧ compactL (zs.take i) = zs.take i ∧ env.has [(0, .own id g 1 0 zs.length none), (3, .int .i64 i)]) 1 (by omega) ⟨rfl, by omega, ?_, hh_⟩ ?_
   ·match zs, hc with
    | [], _ => rfl
    | a :: l, _ => rfl
   rintro i env h' hi ⟨rfl, hi1, hcp, he⟩
   obtain ⟨env, rfl⟩ := he.ex
   clear he
   by_cases hi2 : i < zs.length
   ·obtain ⟨x, hx⟩ := ex_get hi2
    obtain ⟨y, hy⟩ := ex_get (show i - 1 < zs.length by omega)
    have hct := compactL_take hx hy hi1
    repeat' first | refine st_nil ?_ | (refine gw ?_; first | (refine gq0 ?_; first | refine st_mv (v := AV.int _ _) rfl ?_ | refine st_mv (v := AV.own _ _ _ _ _ _) rfl ?_) | (refine gq2 ?_; first | refine st_load_map (g := _) rfl hg_ hx eq_ ?_ | refine st_load_map (g := _) rfl hg_ hy eq_ ?_) | (refine gq3 ?_; first | refine st_add rfl rfl rfl (by omega) (by omega) ?_ | refine st_sub rfl rfl rfl (by omega) (by omega) ?_ | (refine st_lss rfl rfl rfl ?_ ?_ <;> (intro hc; try (exfalso; omega))) | (refine st_eql rfl rfl rfl ?_ ?_ <;> (intro hc; try (exfalso; omega)))) | refine st_index_own rfl rfl (by omega) (by omega) ?_ | refine st_len_own rfl ?_ | refine st_slice_lo_own rfl rfl (by omega) (by omega) ?_) | (refine gx ?_; first | refine sx_seq ?_ | refine sx_ops rfl ?_ | refine sx_skip ?_ | refine sx_block ?_ | refine sx_cond_t rfl ?_ | refine sx_cond_f rfl ?_) | refine sk_norm ?_ | refine bk_norm ?_
    ·rw [if_pos hc] at hct
     have e0 : (i : Int).toNat = i := by omega
     refine sx_sub (zs.length - i) (fun k env h' => ∃ (j : Nat) (c : List Int), c.length = zs.length ∧ h'.get id = some (.cells g (c.map (.int .i64))) ∧ 1 ≤ k ∧ j = (compactL (zs.take (i + k))).length ∧ c.take j = compactL (zs.take (i + k)) ∧ c.drop (i + k - 1) = zs.drop (i + k - 1) ∧ j + 1 ≤ i + k ∧ env.has [(0, .own id g 1 0 zs.length none), (3, .int .i64 j), (4, .own id g 1 (i : Int).toNat ((zs.length : Int) - i).toNat none), (5, .int .i64 k)]) 1 (by omega) ⟨i, zs, rfl, h2, Nat.le_refl _, ?_, ?_, rfl, Nat.le_refl _, hh_⟩ ?_
     ·rw [hct, hcp, List.length_take]; omega
     ·rw [hct, hcp]
     clear h2 hx hy hct
     rintro k env h2 hk ⟨j, c, hcl, hgc, hk1, hj, hcj, hcd, hjm, he⟩
     obtain ⟨env, rfl⟩ := he.ex
     clear he
     have hget : ∀ q, i + k - 1 ≤ q → c[q]? = zs[q]? := fun q hq => by
      have := congrArg (fun l => l[q - (i + k - 1)]?) hcd
      simp only [List.getElem?_drop] at this
      rwa [show i + k - 1 + (q - (i + k - 1)) = q by omega] at this
     by_cases hk2 : k < zs.length - i
     ·obtain ⟨x2, hx⟩ := ex_get (show i + k < zs.length by omega)
      obtain ⟨y2, hy⟩ := ex_get (show i + k - 1 < zs.length by omega)
      have hcx := (hget (i + k) (by omega)).trans hx
      have hcy := (hget (i + k - 1) (by omega)).trans hy
      have hct := compactL_take hx hy (by omega)
      repeat' first | refine st_nil ?_ | (refine gw ?_; first | (refine gq0 ?_; first | refine st_mv (v := AV.int _ _) rfl ?_ | refine st_mv (v := AV.own _ _ _ _ _ _) rfl ?_) | (refine gq2 ?_; first | refine st_load_map (g := _) rfl hg_ hcx eq_ ?_ | refine st_load_map (g := _) rfl hg_ hcy eq_ ?_) | (refine gq3 ?_; first | refine st_add rfl rfl rfl (by omega) (by omega) ?_ | refine st_sub rfl rfl rfl (by omega) (by omega) ?_ | (refine st_lss rfl rfl rfl ?_ ?_ <;> (intro hc; try (exfalso; omega))) | (refine st_neq rfl rfl rfl ?_ ?_ <;> (intro hc; try (exfalso; omega)))) | refine st_index_own rfl rfl (by omega) (by omega) ?_ | refine st_len_own rfl ?_ | refine st_store1 (g := _) rfl rfl hg_ (by simp only [Nat.zero_add, Nat.mul_one]; exact rfl) (by omega) rfl rfl (by exact rfl) ?_) | (refine gx ?_; first | refine sx_seq ?_ | refine sx_ops rfl ?_ | refine sx_skip ?_ | refine sx_block ?_ | refine sx_cond_t rfl ?_ | refine sx_cond_f rfl ?_) | refine sk_norm ?_ | refine bk_norm ?_
      ·rw [if_neg ‹_›] at hct
       refine lk_next hk2 ⟨j + 1, c.set j x2, by simpa using hcl, Heap.get_set_self _ _ _, by omega, ?_, ?_, ?_, by omega, hh_⟩
       ·rw [show i + (k + 1) = i + k + 1 by omega, hct, List.length_append, ← hj]; rfl
       ·rw [show i + (k + 1) = i + k + 1 by omega, hct, ← hcj, List.take_add_one, List.take_set_of_le (by omega), List.getElem?_set_self (by omega)]; rfl
       ·rw [List.drop_set_of_lt (by omega), show i + (k + 1) - 1 = (i + k - 1) + 1 by omega, ← List.drop_drop, ← List.drop_drop, hcd]
      ·rw [if_pos ‹_›] at hct
       refine lk_next hk2 ⟨j, c, hcl, hgc, by omega, ?_, ?_, ?_, by omega, hh_⟩
       ·rw [show i + (k + 1) = i + k + 1 by omega, hct]; exact hj
       ·rw [show i + (k + 1) = i + k + 1 by omega, hct]; exact hcj
       ·rw [show i + (k + 1) - 1 = (i + k - 1) + 1 by omega, ← List.drop_drop, ← List.drop_drop, hcd]
     ·rw [List.take_of_length_le (l := zs) (by omega)] at hj hcj
      repeat' first | refine st_nil ?_ | (refine gw ?_; first | (refine gq0 ?_; first | refine st_mv (v := AV.int _ _) rfl ?_ | refine st_mv (v := AV.own _ _ _ _ _ _) rfl ?_) | (refine st_lss rfl rfl rfl ?_ ?_ <;> (intro hc; try (exfalso; omega))) | refine st_len_own rfl ?_ | (refine gq18 ?_; first | refine st_slice_hi_own rfl rfl (by omega) (by omega) ?_ | refine st_slice_lo_own rfl rfl (by omega) (by omega) ?_) | refine st_clear_own rfl hg_ b_ ?_) | (refine gx ?_; first | refine sx_seq ?_ | refine sx_ops rfl ?_ | refine sx_ret ?_ | refine sx_exit ?_ | refine sx_cond_f rfl ?_) | refine sk_norm ?_ | refine sk_ret ?_ | refine sk_exit ?_ | refine bk_ret ?_ | refine bk_exit ?_ | refine lk_ret ?_ | refine lk_exit ?_
      have ej : (j : Int).toNat = j := by omega
      refine fin_ret (v := .own id g 1 0 j none) rfl ?_
      rw [← hj]
      refine hpre (Heap.get_set_self _ _ _) ?_ ?_
      ·rw [ej, List.length_append, List.length_append, List.length_take, List.length_map]; omega
      ·rw [ej, List.append_assoc, List.take_append_of_le_length (by rw [List.length_take, List.length_map]; omega), List.take_take, Nat.min_self, ← List.map_take, hcj]
    ·rw [if_neg hc] at hct
     refine lk_next hi2 ⟨rfl, by omega, ?_, hh_⟩
     rw [hct, hcp, take_snoc hx]
   ·repeat' first | refine st_nil ?_ | (refine gw ?_; first | (refine gq0 ?_; first | refine st_mv (v := AV.int _ _) rfl ?_ | refine st_mv (v := AV.own _ _ _ _ _ _) rfl ?_) | (refine st_lss rfl rfl rfl ?_ ?_ <;> (intro hc; try (exfalso; omega))) | refine st_len_own rfl ?_) | (refine gx ?_; first | refine sx_seq ?_ | refine sx_ops rfl ?_ | refine sx_ret ?_ | refine sx_exit ?_ | refine sx_cond_f rfl ?_) | refine sk_norm ?_ | refine sk_exit ?_ | refine bk_exit ?_ | refine lk_exit ?_
    rw [List.take_of_length_le (by omega)] at hcp
    rw [hcp]
    exact fin_ret (v := .own id g 1 0 zs.length none) rfl (hpre h2 (by simp) (List.take_of_length_le (by simp)))
theorem tags_ok {Φ : Lib} (L : C1Lib Φ) (S : SortLib Φ) (n : Nfa) (hf : n.Fits) (at_ : List Int) (fl : Bool) (hat : at_.length ≤ 1048576) : Pure Φ 30 [.agg n.av, .rd at_.length (at_.map (.int .i64)) fl] (rowI (tagsN n at_)) := by
 have hft := hf.tags
 have hk : n.k = n.tags.l.length := rfl
 refine runs_of (fun _ => false) rfl L.f30 ?_
 repeat' first | refine st_nil ?_ | (refine gw ?_; first | (refine gq0 ?_; first | refine st_mv (v := AV.int _ _) rfl ?_ | refine st_mv (v := AV.rd _ _ _) rfl ?_) | refine st_len_rd rfl ?_ | (refine st_box (v := AV.agg _) rfl rfl ?_; intro id hid; try simp only [Heap.set_none] at hid)) | (refine gx ?_; first | refine sx_seq ?_ | refine sx_ops rfl ?_ | refine sx_block ?_) | refine sk_norm ?_
 rename Nat => ib
 rename Heap.get _ _ = none => hib
 refine sx_for at_.length (fun i env h' => ∃ v, h'.get ib = some (.cells 0 n.av) ∧ IsRow h' v 1 ((at_.take i).filterMap n.tagOf).length (((at_.take i).filterMap n.tagOf).map (.int .i64)) ∧ v.rowId ≠ some ib ∧ env.has [(2, .ptr ib 0 0), (5, v), (8, .rd at_.length (at_.map (.int .i64)) fl), (9, .int .i64 at_.length), (10, .int .i64 i)]) ⟨_, Heap.get_set_self _ _ _, IsRow.nil _ _, (by simp [AV.rowId]), hh_⟩ ?_
 rintro i env h' hi ⟨v, hbox, hrow, hv, he⟩
 obtain ⟨env, rfl⟩ := he.ex
 clear he
 have hlen : ((at_.take i).filterMap n.tagOf).length ≤ i := Nat.le_trans (List.length_filterMap_le _ _) (by rw [List.length_take]; omega)
 by_cases hi2 : i < at_.length
 ·obtain ⟨s, hs⟩ := ex_get hi2
  by_cases hin : 0 ≤ s ∧ s < n.k
  ·obtain ⟨t, ht⟩ := ex_get (l := n.tags.l) (show s.toNat < n.tags.l.length by omega)
   have hgd : n.tags.l.getD s.toNat 0 = t := by rw [List.getD_eq_getElem?_getD, ht]; rfl
   repeat' first | refine st_nil ?_ | (refine gw ?_; first | (refine gq0 ?_; first | refine st_mv (v := AV.int _ _) rfl ?_ | refine st_mv (v := AV.bool _) rfl ?_ | refine st_mv rv_ ?_) | refine st_gog rfl ?_ | (refine gq2 ?_; first | refine st_load_r rfl b_ pv_ ?_ | refine st_load_p rfl hg_ (by simp) b_ pv_ ?_) | (refine gq3 ?_; first | refine st_add rfl rfl rfl (by omega) (by omega) ?_ | (refine st_lss rfl rfl rfl ?_ ?_ <;> (intro hc; try (exfalso; omega))) | (refine st_geq rfl rfl rfl ?_ ?_ <;> (intro hc; try (exfalso; omega)))) | refine st_field_p rfl (Nat.zero_add _) ?_ | (refine gq5 ?_; first | refine st_index_map rfl rfl rfl (by assumption) rfl ?_ | refine st_index_map' rfl rfl (by assumption) (by omega) rfl ?_) | refine st_len_rd rfl ?_ | refine st_pick_t (v := AV.bool _) rfl rfl ?_ | (refine st_append (m := 1) rv_ ir_ rfl rfl (by omega) ?_; intro va hpa hra hka hria) | refine st_lit (cs := [AV.int _ _]) rfl rfl ?_) | (refine gx ?_; first | refine sx_seq ?_ | refine sx_ops rfl ?_ | refine sx_skip ?_ | refine sx_block ?_ | refine sx_cond_t rfl ?_ | refine sx_cond_f rfl ?_) | refine sk_norm ?_ | refine bk_norm ?_
   ·have hyes : n.tagOf s = some t := by rw [Nfa.tagOf, if_pos ⟨hin.1, hin.2, by rw [hgd]; assumption⟩, hgd]
    refine lk_next hi2 ⟨va, (hka ib (by rw [hbox]; simp) hv).trans hbox, ?_, (fun e => ?_), hh_⟩
    ·rw [take_snoc hs, List.filterMap_append]
     simpa [hyes] using hra
    ·rcases hria ib e with h | h
     ·exact hv h
     ·rw [hbox] at h; cases h
   ·have hno : n.tagOf s = none := by rw [Nfa.tagOf, if_neg (fun h => ‹¬ 0 ≤ t› (hgd ▸ h.2.2))]
    refine lk_next hi2 ⟨v, hbox, ?_, hv, hh_⟩
    rw [take_snoc hs, List.filterMap_append]
    simpa [hno] using hrow
  ·have hno : n.tagOf s = none := by rw [Nfa.tagOf, if_neg (fun h => hin ⟨h.1, h.2.1⟩)]
   repeat' first | refine st_nil ?_ | (refine gw ?_; first | (refine gq0 ?_; first | refine st_mv (v := AV.int _ _) rfl ?_ | refine st_mv (v := AV.bool _) rfl ?_) | (refine gq1 ?_; first | refine st_skipg rfl ?_ | refine st_gog rfl ?_) | (refine gq2 ?_; first | refine st_load_r rfl b_ pv_ ?_ | refine st_load_p rfl hg_ (by simp) b_ pv_ ?_) | (refine gq3 ?_; first | refine st_add rfl rfl rfl (by omega) (by omega) ?_ | (refine st_lss rfl rfl rfl ?_ ?_ <;> (intro hc; try (exfalso; omega))) | (refine st_geq rfl rfl rfl ?_ ?_ <;> (intro hc; try (exfalso; omega)))) | refine st_field_p rfl (Nat.zero_add _) ?_ | refine st_index_map rfl rfl rfl (by assumption) rfl ?_ | refine st_len_rd rfl ?_ | (refine gq7 ?_; first | refine st_pick_t (v := AV.bool _) rfl rfl ?_ | refine st_pick_f (v := AV.bool _) rfl rfl ?_)) | (refine gx ?_; first | refine sx_seq ?_ | refine sx_ops rfl ?_ | refine sx_skip ?_ | refine sx_block ?_ | refine sx_cond_t rfl ?_ | refine sx_cond_f rfl ?_) | refine sk_norm ?_ | refine bk_norm ?_
   all_goals
    refine lk_next hi2 ⟨v, hbox, ?_, hv, hh_⟩
    rw [take_snoc hs, List.filterMap_append]
    simpa [hno] using hrow
 ·repeat' first | refine st_nil ?_ | (refine gw ?_; first | refine st_mv rv_ ?_ | (refine st_lss rfl rfl rfl ?_ ?_ <;> (intro hc; try (exfalso; omega))) | refine st_call rfl nt_ ?_) | (refine gx ?_; first | refine sx_seq ?_ | refine sx_ops rfl ?_ | refine sx_exit ?_ | refine sx_cond_f rfl ?_) | refine sk_norm ?_ | refine sk_exit ?_ | refine bk_exit ?_ | refine lk_exit ?_
  rw [List.take_of_length_le (by omega)] at hrow
  rw [List.take_of_length_le (by omega)] at hlen
  refine call_any (sort_row S hrow (by omega)) ?_
  rintro _ h2 ⟨hr2, _⟩
  repeat' first | refine st_nil ?_ | (refine gw ?_; first | refine st_mv rv_ ?_ | refine st_call rfl nt_ ?_) | (refine gx ?_; first | refine sx_seq ?_ | refine sx_ops rfl ?_) | refine sk_norm ?_
  rw [← List.length_mergeSort (l := at_.filterMap n.tagOf) (le := fun x y => decide (x ≤ y))] at hr2
  refine call_any (compact_ok L hr2 (by rw [List.length_mergeSort]; omega)) ?_
  intro v' h3 hp
  repeat' first | refine st_nil ?_ | refine st_mv rv_ ?_ | refine sx_ret ?_ | refine sk_norm ?_
  exact fin_pre rfl hp (fun _ => rfl)
noncomputable def tags1 (n : Nfa) (at_ : List Int) : List Int := if soundN n = true then tagsN n at_ else []
theorem tagss_ok {Φ : Lib} (L : C1Lib Φ) (S : SortLib Φ) (n : Nfa) (hf : n.Fits) (at_ : List Int) (fl : Bool) (hat : at_.length ≤ 1048576) : Pure Φ 16 [.agg n.av, .rd at_.length (at_.map (.int .i64)) fl] (rowI (tags1 n at_)) := by
 refine runs_of (fun _ => false) rfl L.f16 ?_
 have hsk := sound_ok L S n hf
 cases hs : soundN n
 all_goals rw [hs] at hsk
 ·repeat' first | refine st_nil ?_ | (refine gw ?_; first | refine st_mv (v := AV.rd _ _ _) rfl ?_ | refine st_load_p rfl hg_ (by simp) b_ pv_ ?_ | refine st_call rfl nt_ ?_ | (refine st_box (v := AV.agg _) rfl rfl ?_; intro id hid; try simp only [Heap.set_none] at hid) | refine st_not (b := false) rfl ?_) | (refine gx ?_; first | refine sx_seq ?_ | refine sx_ops rfl ?_ | refine sx_ret ?_ | refine sx_cond_t rfl ?_) | refine sk_norm ?_ | refine sk_ret ?_ | refine call_pure (by assumption) fz_ fz_ ?_
  exact fin_row rfl (IsRow.nil _ 1) (fun _ => by simp [tags1, hs])
 ·repeat' first | refine st_nil ?_ | (refine gw ?_; first | refine st_mv (v := AV.rd _ _ _) rfl ?_ | refine st_load_p rfl hg_ (by simp) b_ pv_ ?_ | refine st_call rfl nt_ ?_ | (refine st_box (v := AV.agg _) rfl rfl ?_; intro id hid; try simp only [Heap.set_none] at hid) | refine st_not (b := true) rfl ?_) | (refine gx ?_; first | refine sx_seq ?_ | refine sx_ops rfl ?_ | refine sx_skip ?_ | refine sx_cond_f rfl ?_) | refine sk_norm ?_ | refine call_pure (by assumption) fz_ fz_ ?_
  refine call_pure (tags_ok L S n hf at_ fl hat) (by simp [AV.frozenL, AV.frozen]) (by simp [AV.frozen]) ?_
  repeat' first | refine st_nil ?_ | refine st_mv (v := AV.rd _ _ _) rfl ?_ | refine sx_ret ?_ | refine sk_norm ?_ | refine fin_ret (v := AV.rd _ _ _) rfl ?_
  simp [tags1, hs]
theorem closeN_length (n : Nfa) (P : Nat → Prop) : (closeN n P).length ≤ n.k := by
 unfold closeN
 rw [List.length_map]
 refine Nat.le_trans (List.length_filter_le _ _) ?_
 rw [List.length_range]; exact Nat.le_refl _
end Go.Proofs.YtdldfflfbfpngaaGreatDoor
