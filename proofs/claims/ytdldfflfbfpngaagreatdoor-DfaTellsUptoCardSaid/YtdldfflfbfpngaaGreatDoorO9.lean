/- A machine at one place tells what the machine tells that it is of: plainly. The statements: DfaTells. -/
import Derived.Test.YtdldfflfbfpngaaGreatDoorO7
set_option linter.unusedVariables false
set_option linter.unusedSimpArgs false
namespace Go.Proofs.YtdldfflfbfpngaaGreatDoor
open Go
theorem outs_sets {n : Nfa} {i : Nat} {e : Edge} (h : e ∈ n.outs i) : e.set ∈ setsT n.edges.l := by
 unfold Nfa.outs at h
 rw [List.getD_eq_getElem?_getD] at h
 cases hr : n.edges.l[i]? with
 | none => rw [hr] at h; cases h
 | some r =>
  rw [hr] at h
  exact List.mem_flatMap.2 ⟨r, List.mem_of_getElem? hr, List.mem_map.2 ⟨e, h, rfl⟩⟩
theorem step_alike {n : Nfa} {x y : Int} (h : SameU (setsT n.edges.l) x y) (a : List Int) : stepN n a x = stepN n a y := by
 unfold stepN
 refine closeN_congr fun j => ?_
 unfold goesTo
 refine exists_congr fun s => and_congr_right fun _ => and_congr_right fun _ => and_congr_right fun _ => exists_congr fun e => and_congr_right fun he => ?_
 have := h e.set (outs_sets he)
 rw [hasR_hasS, hasR_hasS] at this
 rw [this]
theorem step_none {n : Nfa} (hn : n.Ok) {x : Int} (h : ∀ s ∈ setsT n.edges.l, hasR s.l x = false) (a : List Int) : stepN n a x = [] := by
 refine List.eq_nil_iff_forall_not_mem.2 fun z hz => ?_
 have h1 := ((mem_closeN hn (goesTo_lt hn)).1 hz).2
 have key : ∀ i, Reach n (goesTo n a x) i → False := by
  intro i hi
  induction hi with
  | base h2 =>
   obtain ⟨s, _, _, _, e, he, h3, _⟩ := h2
   have := h e.set (outs_sets he)
   rw [hasR_hasS, h3] at this
   cases this
  | step _ _ ih => exact ih
 exact key _ h1
theorem loP_loOf (q : Rw Span) : loP q = loOf q.l := by
 unfold loP loOf
 cases q.l <;> rfl
theorem placeL_nil (L : List (List Int)) : placeL L [] = -1 := by simp [placeL]
theorem placeL_at {L : List (List Int)} {to : List Int} (h : to ≠ []) (hm : to ∈ L) : ∃ q : Nat, placeL L to = q ∧ L[q]? = some to := by
 refine ⟨L.idxOf to, by rw [placeL, if_neg h], ?_⟩
 have := List.idxOf_lt_length_iff.2 hm
 rw [List.getElem?_eq_getElem this, List.getElem_idxOf]
theorem accL_closed {n : Nfa} {P : List (Rw Span)} {m : Nat} (hle : (accL n P m).length ≤ m) {a : List Int} {s : Nat} (ha : (accL n P m)[s]? = some a) {to : List Int} (h : to ∈ rowL n P a) : to = [] ∨ to ∈ accL n P m := by
 have hlt := lt_of_getElem? ha
 have h4 := accL_mono n P (show s ≤ m by omega)
 have h5 : (accL n P s)[s]? = some a := by
  by_cases h5 : s < (accL n P s).length
  ·obtain ⟨t, e⟩ := h4
   rw [← e, List.getElem?_append_left h5] at ha
   exact ha
  ·have h6 := accL_stop n P (i := s) (by omega) (show s ≤ m by omega)
   rw [h6] at ha
   exact ha
 exact accL_row h5 (by omega) h
theorem mk_row {n : Nfa} {P : List (Rw Span)} {m s : Nat} {a : List Int} (ha : (accL n P m)[s]? = some a) : (mkPD n P m).row s = (rowL n P a).map (placeL (accL n P m)) := by
 show (rowsL n P (accL n P m) (accL n P m).length).getD (s : Int).toNat [] = _
 unfold rowsL
 rw [List.take_of_length_le (Nat.le_refl _), Int.toNat_natCast, List.getD_eq_getElem?_getD, List.getElem?_map, ha]
 rfl
theorem mk_tag {n : Nfa} {P : List (Rw Span)} {m s : Nat} {a : List Int} (ha : (accL n P m)[s]? = some a) : (mkPD n P m).tag s = tagOf1 (tags1 n a) := by
 show (tagsL n (accL n P m) (accL n P m).length).getD (s : Int).toNat (-1) = _
 unfold tagsL
 rw [List.take_of_length_le (Nat.le_refl _), Int.toNat_natCast, List.getD_eq_getElem?_getD, List.getElem?_map, ha]
 rfl
theorem mk_run {n : Nfa} (hn : n.Ok) {P : List (Rw Span)} (hP : Cls (setsT n.edges.l) P) {m : Nat} (hle : (accL n P m).length ≤ m) (hok : (mkPD n P m).Ok) :
  ∀ (l : List Int) (s i : Nat) (a : List Int) (acc : Int × Int), (accL n P m)[s]? = some a → longFromP (mkPD n P m) s l i acc = longFrom n i a l acc
 | [], _, _, _, _, _ => rfl
 | r :: l, s, i, a, acc, ha => by
  have hs1 : soundN n = true := sound_ok_iff.2 hn
  unfold longFromP longFrom
  cases hw : whichP (mkPD n P m).parts r with
  | none =>
   have h1 := (which_none hok).1 hw
   have h2 : stepN n a r = [] := step_none hn (fun q hq => ?_) a
   ·show acc = _
    rw [h2, tagsN_nil, longFrom_nil hn]
   ·cases e : hasR q.l r with
    | false => rfl
    | true =>
     obtain ⟨e1, e2⟩ := hasR_iff.1 e
     obtain ⟨p, hp, hpr⟩ := (hP.un r).2 ⟨e1, q, hq, e2⟩
     obtain ⟨k, hk, rfl⟩ := List.getElem_of_mem hp
     refine absurd hpr ?_
     have h3 := h1 k (by show k < (plainS P).length; simpa [plainS] using hk)
     have h4 : (mkPD n P m).part k = P[k].l := by
      show (plainS P).getD k [] = _
      simp [plainS, List.getD_eq_getElem?_getD, hk]
     rw [h4] at h3
     exact h3
  | some k =>
   obtain ⟨hk, hkr⟩ := (which_some hok).1 hw
   have hk' : k < P.length := by
    have : k < (plainS P).length := hk
    simpa [plainS] using this
   have h4 : (mkPD n P m).part k = P[k].l := by
    show (plainS P).getD k [] = _
    simp [plainS, List.getD_eq_getElem?_getD, hk']
   rw [h4] at hkr
   have hmem : P[k] ∈ P := List.getElem_mem hk'
   obtain ⟨g1, g2⟩ := hP.good _ hmem
   have hal : SameU (setsT n.edges.l) (loP P[k]) r := hP.one _ hmem _ _ (by rw [loP_loOf]; exact inS_head g1 (canon_norm g2)) hkr
   have hst : step1 n a (loP P[k]) = stepN n a r := by rw [step1, if_pos hs1]; exact step_alike hal a
   have hin : stepN n a r ∈ rowL n P a := by
    rw [← hst]
    exact List.mem_map.2 ⟨P[k], hmem, rfl⟩
   have hcol : col (mkPD n P m).row s k = placeL (accL n P m) (stepN n a r) := by
    unfold col
    rw [mk_row ha, List.getD_eq_getElem?_getD, List.getElem?_map]
    have : (rowL n P a)[k]? = some (stepN n a r) := by
     unfold rowL
     rw [List.getElem?_map, List.getElem?_eq_getElem hk', Option.map_some, hst]
    rw [this]
    rfl
   show (if col (mkPD n P m).row s k < 0 then acc else _) = _
   rw [hcol]
   by_cases h0 : stepN n a r = []
   ·rw [h0, placeL_nil, if_pos (by omega), tagsN_nil, longFrom_nil hn]
   ·obtain ⟨q, hq, hqa⟩ := placeL_at h0 ((accL_closed hle ha hin).resolve_left h0)
    rw [hq, if_neg (by omega), mk_tag hqa, mk_run hn hP hle hok l q (i + 1) _ _ hqa]
    congr 1
    rw [tags1, if_pos hs1]
    cases ht : tagsN n (stepN n a r) with
    | nil => rfl
    | cons t tl =>
     have : t ∈ tagsN n (stepN n a r) := by rw [ht]; simp
     obtain ⟨_, _, _, _, h5, _⟩ := tagsN_mem.1 this
     show (if 0 ≤ t then _ else _) = _
     rw [if_pos h5]
     rfl
theorem mk_long {n : Nfa} (hn : n.Ok) {P : List (Rw Span)} (hP : Cls (setsT n.edges.l) P) {m : Nat} (hle : (accL n P m).length ≤ m) (hok : (mkPD n P m).Ok) (l : List Int) : longP (mkPD n P m) l = longest1 n l := by
 have hs1 : soundN n = true := sound_ok_iff.2 hn
 have h0 : (accL n P m)[0]? = some (startN n) := by
  obtain ⟨t, e⟩ := accL_mono n P (Nat.zero_le m)
  rw [← e]
  show ([start1 n] ++ t)[0]? = _
  rw [start1, if_pos hs1]
  rfl
 rw [longest1, if_pos hs1]
 exact mk_run hn hP hle hok l 0 0 _ _ h0
end Go.Proofs.YtdldfflfbfpngaaGreatDoor
set_option linter.unusedVariables false
set_option linter.unusedSimpArgs false
namespace Go.Proofs.YtdldfflfbfpngaaGreatDoor
open Go
set_option maxHeartbeats 4000000
attribute [local irreducible] wops xcode wcode seqK blockK loopK finK wcall wop wstp Runs
set_option maxRecDepth 100000 in
theorem dfaTells_ok {Φ : Lib} (L : LibC3 Φ) (L1 : C1Lib Φ) (L2 : C2Lib Φ) (SL : SortLib Φ) (G : GrowLib Φ) (L5 : LibC5 Φ) (KL : KeyLib Φ) (kk : Int) (l : List Arc) (tg : List Int) (hg : Given kk l tg) (f1 f2 : Bool) (r : Rw Int) (hrl : r.l.length ≤ 1048576) (hrx : ∀ x ∈ r.l, 0 ≤ x ∧ x ≤ 65535) :
  Runs Φ 165 [.int .u8 kk, .rd l.length (l.flatMap Arc.av) f1, .rd tg.length (tg.map (.int .i8)) f2, u16row r] Heap.empty (fun v _ => v = .bool true) := by
 have hkn := knownD_ok L L1 SL G L5 KL
 refine runs_of (fun o => o == some 60) rfl L5.f165 ?_
 repeat' first | refine st_nil ?_ | (refine gw ?_; first | refine st_mv rx_ ?_ | refine st_call rfl nt_ ?_) | (refine gx ?_; first | refine sx_seq ?_ | refine sx_ops rfl ?_) | refine sk_norm ?_
 refine machine_s L2 hg f1 f2 fun n hn hf hs => ?_
 by_cases h25 : 25 < l.length
 ·repeat' first | refine st_nil ?_ | (refine gw ?_; first | refine st_mv rx_ ?_ | (refine gq3 ?_; first | refine st_bin_t1 rx_ ?_ | (refine st_gtr rfl rfl rfl ?_ ?_ <;> (intro hc; try (exfalso; omega)))) | (refine gq13 ?_; first | refine st_store_t1 rx_ ?_ | refine st_store_t2 rx_ ?_ | refine st_store_s (cs' := [AV.rd _ _ _, AV.rd _ _ _, AV.rd _ _ _]) rfl rfl rfl rfl b_ rfl ?_) | (refine gq6 ?_; first | refine st_len_t rx_ ?_ | refine st_len_rd rfl ?_) | refine st_skipg rfl ?_ | refine st_pick_t (v := AV.bool _) rfl rfl ?_ | refine st_call rfl nt_ ?_ | (refine st_alloc ?_; intro id hid; try simp only [Heap.set_none] at hid)) | (refine gx ?_; first | refine sx_seq ?_ | refine sx_ops rfl ?_ | refine sx_ret ?_ | refine sx_cond_t rfl ?_) | refine sk_norm ?_ | refine sk_ret ?_ | refine call_pure (by assumption) fz_ fz_ ?_
  all_goals exact fin_ret (v := .bool true) rfl rfl
 by_cases h30 : 30 < r.l.length
 ·repeat' first | refine st_nil ?_ | (refine gw ?_; first | refine st_mv rx_ ?_ | (refine gq3 ?_; first | refine st_bin_t1 rx_ ?_ | (refine st_gtr rfl rfl rfl ?_ ?_ <;> (intro hc; try (exfalso; omega)))) | (refine gq13 ?_; first | refine st_store_t1 rx_ ?_ | refine st_store_t2 rx_ ?_ | refine st_store_s (cs' := [AV.rd _ _ _, AV.rd _ _ _, AV.rd _ _ _]) rfl rfl rfl rfl b_ rfl ?_) | (refine gq6 ?_; first | refine st_len_t rx_ ?_ | refine st_len_rd rfl ?_) | (refine gq1 ?_; first | refine st_skipg rfl ?_ | refine st_gog rfl ?_) | (refine gq7 ?_; first | refine st_pick_t (v := AV.bool _) rfl rfl ?_ | refine st_pick_f (v := AV.bool _) rfl rfl ?_) | refine st_call rfl nt_ ?_ | (refine st_alloc ?_; intro id hid; try simp only [Heap.set_none] at hid)) | (refine gx ?_; first | refine sx_seq ?_ | refine sx_ops rfl ?_ | refine sx_ret ?_ | refine sx_cond_t rfl ?_) | refine sk_norm ?_ | refine sk_ret ?_ | refine call_pure (by assumption) fz_ fz_ ?_
  all_goals exact fin_ret (v := .bool true) rfl rfl
 repeat' first | refine st_nil ?_ | (refine gw ?_; first | refine st_mv rx_ ?_ | (refine gq2 ?_; first | refine st_load_t rx_ ?_ | refine st_load_p rfl hg_ (by simp) b_ pv_ ?_) | (refine gq3 ?_; first | refine st_bin_t1 rx_ ?_ | (refine st_gtr rfl rfl rfl ?_ ?_ <;> (intro hc; try (exfalso; omega)))) | (refine gq13 ?_; first | refine st_store_t1 rx_ ?_ | refine st_store_t2 rx_ ?_ | refine st_store_s (cs' := [AV.rd _ _ _, AV.rd _ _ _, AV.rd _ _ _]) rfl rfl rfl rfl b_ rfl ?_) | (refine gq6 ?_; first | refine st_len_t rx_ ?_ | refine st_len_rd rfl ?_) | refine st_gog rfl ?_ | refine st_pick_f (v := AV.bool _) rfl rfl ?_ | refine st_call rfl nt_ ?_ | (refine st_alloc ?_; intro id hid; try simp only [Heap.set_none] at hid) | refine st_not (b := true) rfl ?_) | (refine gx ?_; first | refine sx_seq ?_ | refine sx_ops rfl ?_ | refine sx_skip ?_ | refine sx_cond_f rfl ?_) | refine sk_norm ?_ | refine call_pure (by assumption) fz_ fz_ ?_
 refine dof_call L L1 SL L5 KL n hn hf hs 2000 (by decide) (by decide) _ rfl (fun _ => ?_) (fun hle d hd hok hw ht => ?_)
 ·repeat' first | refine st_nil ?_ | (refine gw ?_; first | refine st_mv rx_ ?_ | (refine gq3 ?_; first | refine st_bin_t1 rx_ ?_ | (refine st_eql rfl rfl rfl ?_ ?_ <;> (intro hc; try (exfalso; omega))) | (refine st_neq rfl rfl rfl ?_ ?_ <;> (intro hc; try (exfalso; omega)))) | (refine gq13 ?_; first | refine st_store_t1 rx_ ?_ | refine st_store_t2 rx_ ?_ | refine st_store_s (cs' := [AV.rd _ _ _, AV.rd _ _ _, AV.rd _ _ _]) rfl rfl rfl rfl b_ rfl ?_) | (refine st_alloc ?_; intro id hid; try simp only [Heap.set_none] at hid) | refine st_extract rfl rfl ?_) | (refine gx ?_; first | refine sx_seq ?_ | refine sx_ops rfl ?_ | refine sx_ret ?_ | refine sx_cond_t rfl ?_) | refine sk_norm ?_ | refine sk_ret ?_
  all_goals exact fin_ret (v := .bool true) rfl rfl
 obtain ⟨ib, rfl⟩ : ∃ x, x = id := ⟨_, rfl⟩
 have hib := hid
 repeat' first | refine st_nil ?_ | (refine gw ?_; first | refine st_mv rx_ ?_ | (refine gq3 ?_; first | refine st_bin_t1 rx_ ?_ | (refine st_neq rfl rfl rfl ?_ ?_ <;> (intro hc; try (exfalso; omega)))) | (refine gq13 ?_; first | refine st_store_t1 rx_ ?_ | refine st_store_t2 rx_ ?_ | refine st_store_s (cs' := [AV.rd _ _ _, AV.rd _ _ _, AV.rd _ _ _]) rfl rfl rfl rfl b_ rfl ?_) | (refine st_alloc ?_; intro id hid; try simp only [Heap.set_none] at hid) | refine st_extract rfl rfl ?_) | (refine gx ?_; first | refine sx_seq ?_ | refine sx_ops rfl ?_ | refine sx_skip ?_ | refine sx_block ?_ | refine sx_cond_f rfl ?_) | refine sk_norm ?_
 obtain ⟨iD, rfl⟩ : ∃ x, x = id := ⟨_, rfl⟩
 have hS0 := (((Sep.old Heap.empty).new (o := .cells 0 n.av) hib).new (id := iD) (o := .cells 0 d.av) (by rw [Heap.get_set_ne _ _ hid.1]; exact hid.2)).nil 1
 refine sx_for r.l.length (fun i env h' => ∃ v, Sep h' [cOld Heap.empty, cCell ib (.cells 0 n.av), cCell iD (.cells 0 d.av), cRow v 1 i ((scalarsL (r.l.take i)).map (.int .i64))] ∧ env.has [(3, u16row r), (9, .ptr ib 0 0), (10, .ptr iD 0 0), (12, v), (13, .int .i64 i)]) ⟨_, hS0, hh_⟩ ?_
 clear hS0 hid hib
 rintro i env h' hi ⟨v, hS, he⟩
 have ha : h'.get ib = some (.cells 0 n.av) := hS.get (i := 1) rfl
 have hb : h'.get iD = some (.cells 0 d.av) := hS.get (i := 2) rfl
 have hrow : IsRow h' v 1 i _ := hS.get (i := 3) rfl
 obtain ⟨env, rfl⟩ := he.ex
 clear he
 by_cases hi2 : i < r.l.length
 ·obtain ⟨y, hy⟩ := ex_get hi2
  have hyx := hrx y (List.mem_of_getElem? hy)
  repeat' first | refine st_nil ?_ | (refine gw ?_; first | refine st_mv rx_ ?_ | (refine gq2 ?_; first | refine st_load_t rx_ ?_ | refine st_load_r rfl b_ pv_ ?_) | (refine gq3 ?_; first | refine st_bin_t1 rx_ ?_ | refine st_bin_t2 rx_ ?_ | refine st_add rfl rfl rfl (by omega) (by omega) ?_ | (refine st_lss rfl rfl rfl ?_ ?_ <;> (intro hc; try (exfalso; omega))) | refine st_rem rfl rfl rfl (by omega) (by omega) ?_) | (refine gq5 ?_; first | refine st_index_t1 rx_ ?_ | refine st_index_t2 rx_ ?_ | refine st_index_map' rfl rfl hy (by omega) rfl ?_) | (refine gq6 ?_; first | refine st_len_t rx_ ?_ | refine st_len_rd rfl ?_) | (refine gq14 ?_; first | refine st_append_t1 rx_ ?_ | refine st_append_t2 rx_ ?_ | (refine st_append (m := 1) rx_ ir_ rfl rfl (by omega) ?_; intro va hpa hra hka hria)) | refine st_lit (cs := [AV.int _ _]) rfl rfl ?_ | refine st_conv rfl (by omega) (by omega) ?_) | (refine gx ?_; first | refine sx_seq ?_ | refine sx_ops rfl ?_ | refine sx_skip ?_ | refine sx_block ?_ | refine sx_cond_t rfl ?_) | refine sk_norm ?_ | refine bk_norm ?_
  have hS2 := hS.upd 3 (cRow va 1 (i + 1) ((scalarsL (r.l.take i)).map (.int .i64) ++ [.int .i64 (y % 230)])) rfl hra hka hria
  refine lk_next hi2 ⟨va, ?_, hh_⟩
  have e : (scalarsL (r.l.take (i + 1))).map (AV.int .i64) = (scalarsL (r.l.take i)).map (.int .i64) ++ [.int .i64 (y % 230)] := by
   rw [take_snoc hy]; simp [scalarsL]
  rw [e]
  exact hS2
 ·have hi3 : i = r.l.length := by omega
  subst hi3
  rw [List.take_length] at hrow
  have hsl : (scalarsL r.l).length = r.l.length := by simp [scalarsL]
  rw [← hsl] at hrow
  have k1 := dlong_ok L1 L SL G L5 d hw ⟨scalarsL r.l, false⟩ (by show (scalarsL r.l).length ≤ _; omega)
  have k2 := rlongest_ok L2 n hf (scalarsL r.l) false (by omega)
  have k3 := dsound_ok L L1 SL G d hw.fits
  have hok2 := hok
  rw [hd] at hok2
  have e1 : longD d (scalarsL r.l) = longest1 n (scalarsL r.l) := by rw [longD, if_pos (soundD_t hok), hd, mk_long hn (ofR_cls _) hle hok2]
  simp only [e1] at k1
  rw [soundD_t hok] at k3
  generalize longest1 n (scalarsL r.l) = z at k1 k2
  repeat' first | refine st_nil ?_ | (refine gw ?_; first | refine st_mv rx_ ?_ | (refine gq3 ?_; first | refine st_bin_t1 rx_ ?_ | refine st_bin_t2 rx_ ?_ | (refine st_lss rfl rfl rfl ?_ ?_ <;> (intro hc; try (exfalso; omega)))) | (refine gq6 ?_; first | refine st_len_t rx_ ?_ | refine st_len_rd rfl ?_)) | (refine gx ?_; first | refine sx_seq ?_ | refine sx_ops rfl ?_ | refine sx_exit ?_ | refine sx_cond_f rfl ?_) | refine sk_norm ?_ | refine sk_exit ?_ | refine bk_exit ?_ | refine lk_exit ?_
  refine sx_freeze 12 (v := v) rfl rfl hrow ?_
  intro h3 hk3
  have hS2 := hS.drop 3 (h' := h3) rfl hk3
  clear ha hb hrow hS
  have ha : h3.get ib = some (.cells 0 n.av) := hS2.get (i := 1) rfl
  have hb : h3.get iD = some (.cells 0 d.av) := hS2.get (i := 2) rfl
  repeat' first | refine st_nil ?_ | (refine gw ?_; first | refine st_mv rx_ ?_ | (refine gq2 ?_; first | refine st_load_t rx_ ?_ | refine st_load_p rfl hg_ (by simp) b_ pv_ ?_) | (refine gq3 ?_; first | refine st_bin_t1 rx_ ?_ | refine st_bin_t2 rx_ ?_ | (refine st_eql rfl rfl rfl ?_ ?_ <;> (intro hc; try (exfalso; omega)))) | refine st_gog rfl ?_ | refine st_pick_t (v := AV.bool _) rfl rfl ?_ | refine st_call rfl nt_ ?_ | refine st_extract rfl rfl ?_) | (refine gx ?_; first | refine sx_seq ?_ | refine sx_ops rfl ?_ | refine sx_ret ?_) | refine sk_norm ?_ | refine call_pure (by assumption) fz_ fz_ ?_
  all_goals first
   | exact fin_ret (v := .bool true) rfl rfl
   | (exfalso; omega)
   | (exfalso; simp_all; done)
end Go.Proofs.YtdldfflfbfpngaaGreatDoor
