/- A machine at one place, plainly: sets of states in the order in which they are come to. The document's machine at one place: what it is. -/
import Derived.Test.YtdldfflfbfpngaaGreatDoorF8
set_option linter.unusedVariables false
set_option linter.unusedSimpArgs false
namespace Go.Proofs.YtdldfflfbfpngaaGreatDoor
open Go
def visitL (L : List (List Int)) (to : List Int) : List (List Int) := if to = [] ∨ to ∈ L then L else L ++ [to]
def visitsL (L : List (List Int)) (tos : List (List Int)) : List (List Int) := tos.foldl visitL L
def placeL (L : List (List Int)) (to : List Int) : Int := if to = [] then -1 else (L.idxOf to : Nat)
def loP (p : Rw Span) : Int := match p.l with
  | [] => 0
  | s :: _ => s.lo
noncomputable def rowL (n : Nfa) (P : List (Rw Span)) (a : List Int) : List (List Int) := P.map fun p => step1 n a (loP p)
noncomputable def accL (n : Nfa) (P : List (Rw Span)) : Nat → List (List Int)
  | 0 => [start1 n]
  | i + 1 => match (accL n P i)[i]? with
    | none => accL n P i
    | some a => visitsL (accL n P i) (rowL n P a)
theorem visitL_pre (L : List (List Int)) (to : List Int) : L <+: visitL L to := by
  unfold visitL
  split
  · exact List.prefix_refl _
  · exact List.prefix_append _ _
theorem visitsL_pre (tos : List (List Int)) : ∀ L : List (List Int), L <+: visitsL L tos := by
  induction tos with
  | nil => exact fun L => List.prefix_refl _
  | cons a tos ih => exact fun L => (visitL_pre L a).trans (ih _)
theorem visitL_mem {L : List (List Int)} {to : List Int} (h : to ≠ []) : to ∈ visitL L to := by
  unfold visitL
  split
  · rename_i h1
    exact h1.resolve_left h
  · simp
theorem visitsL_mem {tos : List (List Int)} : ∀ {L : List (List Int)} {to : List Int}, to ∈ tos → to = [] ∨ to ∈ visitsL L tos := by
  induction tos with
  | nil => intro L to h; cases h
  | cons a tos ih =>
    intro L to h
    rcases List.mem_cons.1 h with rfl | h
    · by_cases e : to = []
      · exact .inl e
      · exact .inr ((visitsL_pre tos _).subset (visitL_mem e))
    · exact ih h
theorem visitsL_snoc (L : List (List Int)) (tos : List (List Int)) (to : List Int) : visitsL L (tos ++ [to]) = visitL (visitsL L tos) to := by simp [visitsL]
theorem accL_pre (n : Nfa) (P : List (Rw Span)) (i : Nat) : accL n P i <+: accL n P (i + 1) := by
  rw [accL]
  split
  · exact List.prefix_refl _
  · exact visitsL_pre _ _
theorem accL_mono (n : Nfa) (P : List (Rw Span)) {i : Nat} : ∀ {j : Nat}, i ≤ j → accL n P i <+: accL n P j := by
  intro j
  induction j with
  | zero => intro h; have : i = 0 := by omega
            subst this; exact List.prefix_refl _
  | succ j ih =>
    intro h
    by_cases e : i = j + 1
    · subst e; exact List.prefix_refl _
    · exact (ih (by omega)).trans (accL_pre n P j)
theorem accL_stop (n : Nfa) (P : List (Rw Span)) {i : Nat} (h : (accL n P i).length ≤ i) : ∀ {j : Nat}, i ≤ j → accL n P j = accL n P i := by
  intro j
  induction j with
  | zero => intro hj; have : i = 0 := by omega
            subst this; rfl
  | succ j ih =>
    intro hj
    by_cases e : i = j + 1
    · subst e; rfl
    · have h1 := ih (by omega)
      rw [accL, h1, List.getElem?_eq_none (by omega)]
theorem accL_row {n : Nfa} {P : List (Rw Span)} {i j : Nat} {a : List Int} (ha : (accL n P i)[i]? = some a) (hij : i + 1 ≤ j) {to : List Int} (h : to ∈ rowL n P a) : to = [] ∨ to ∈ accL n P j := by
  have e : accL n P (i + 1) = visitsL (accL n P i) (rowL n P a) := by rw [accL, ha]
  rcases visitsL_mem (L := accL n P i) h with h1 | h1
  · exact .inl h1
  · rw [← e] at h1
    exact .inr ((accL_mono n P hij).subset h1)
theorem placeL_pre {L M : List (List Int)} (h : L <+: M) {to : List Int} (ht : to = [] ∨ to ∈ L) : placeL M to = placeL L to := by
  unfold placeL
  split
  · rfl
  · rename_i h1
    obtain ⟨t, rfl⟩ := h
    rw [List.idxOf_append, if_pos (ht.resolve_left h1)]
theorem placeL_visit {L : List (List Int)} {to : List Int} : placeL (visitL L to) to = placeL L to := by
  unfold visitL
  split
  · rfl
  · rename_i h
    have h1 : to ≠ [] := fun e => h (.inl e)
    have h2 : to ∉ L := fun e => h (.inr e)
    unfold placeL
    rw [if_neg h1, if_neg h1, List.idxOf_append, if_neg h2, List.idxOf_eq_length h2]
    simp
noncomputable def rowsL (n : Nfa) (P : List (Rw Span)) (A : List (List Int)) (i : Nat) : List (List Int) := (A.take i).map fun a => (rowL n P a).map (placeL A)
noncomputable def tagsL (n : Nfa) (A : List (List Int)) (i : Nat) : List Int := (A.take i).map fun a => tagOf1 (tags1 n a)
theorem rowsL_next {n : Nfa} {P : List (Rw Span)} {i : Nat} {a : List Int} (ha : (accL n P i)[i]? = some a) :
    rowsL n P (accL n P (i + 1)) (i + 1) = rowsL n P (accL n P i) i ++ [(rowL n P a).map (placeL (accL n P (i + 1)))] := by
  have hpre := accL_pre n P i
  have hlt := lt_of_getElem? ha
  have ha' : (accL n P (i + 1))[i]? = some a := by
    obtain ⟨t, e⟩ := hpre
    rw [← e, List.getElem?_append_left hlt]; exact ha
  unfold rowsL
  rw [take_snoc ha', List.map_append, List.map_singleton]
  congr 1
  have e1 : (accL n P (i + 1)).take i = (accL n P i).take i := by
    obtain ⟨t, e⟩ := hpre
    rw [← e, List.take_append_of_le_length (by omega)]
  rw [e1]
  refine List.map_congr_left fun b hb => List.map_congr_left fun to hto => ?_
  refine placeL_pre hpre ?_
  obtain ⟨k, hk, hkb⟩ := List.getElem_of_mem hb
  rw [List.length_take] at hk
  have hki : k < i := by omega
  have hbk : (accL n P k)[k]? = some b := by
    have h3 : (accL n P i)[k]? = some b := by
      rw [List.getElem_take] at hkb
      rw [← hkb, List.getElem?_eq_getElem]
    have h4 := accL_mono n P (show k ≤ i by omega)
    by_cases h5 : k < (accL n P k).length
    · obtain ⟨t, e⟩ := h4
      rw [← e, List.getElem?_append_left h5] at h3
      exact h3
    · have h6 := accL_stop n P (i := k) (by omega) (show k ≤ i by omega)
      rw [h6] at h3
      exact h3
  exact accL_row hbk (by omega) hto
theorem tagsL_next {n : Nfa} {A B : List (List Int)} {i : Nat} {a : List Int} (h : A <+: B) (ha : A[i]? = some a) : tagsL n B (i + 1) = tagsL n A i ++ [tagOf1 (tags1 n a)] := by
  have hlt := lt_of_getElem? ha
  obtain ⟨t, rfl⟩ := h
  unfold tagsL
  rw [take_snoc (show (A ++ t)[i]? = some a by rw [List.getElem?_append_left hlt]; exact ha), List.map_append, List.map_singleton, List.take_append_of_le_length (by omega)]
noncomputable def mkPD (n : Nfa) (P : List (Rw Span)) (m : Nat) : PD := ⟨plainS P, rowsL n P (accL n P m) (accL n P m).length, tagsL n (accL n P m) (accL n P m).length⟩
end Go.Proofs.YtdldfflfbfpngaaGreatDoor
set_option linter.unusedVariables false
set_option linter.unusedSimpArgs false
namespace Go.Proofs.YtdldfflfbfpngaaGreatDoor
open Go
set_option maxHeartbeats 4000000
theorem idxOf_at {A : List (List Int)} {i : Nat} {b : List Int} (h : A[i]? = some b) (hn : ∀ k, k < i → A[k]? ≠ some b) : A.idxOf b = i := by
  have hlt := lt_of_getElem? h
  have hnot : b ∉ A.take i := fun hm => by
    obtain ⟨k, hk, e⟩ := List.getElem_of_mem hm
    rw [List.length_take] at hk
    rw [List.getElem_take] at e
    exact hn k (by omega) (by rw [List.getElem?_eq_getElem (by omega), e])
  have e1 : A = A.take i ++ b :: A.drop (i + 1) := by
    conv => lhs; rw [← List.take_append_drop i A]
    rw [List.drop_eq_getElem_cons hlt]
    obtain ⟨_, e⟩ := List.getElem?_eq_some_iff.1 h
    rw [e]
  rw [e1, List.idxOf_append, if_neg hnot, List.idxOf_cons_self, List.length_take]
  omega
theorem idxOf_not {A : List (List Int)} {b : List Int} (hn : ∀ k, k < A.length → A[k]? ≠ some b) : A.idxOf b = A.length := by
  refine List.idxOf_eq_length fun hm => ?_
  obtain ⟨k, hk, e⟩ := List.getElem_of_mem hm
  exact hn k hk (by rw [List.getElem?_eq_getElem hk, e])
theorem row_next {A : List (List Int)} {tos : List (List Int)} {j : Nat} {to : List Int} (h : tos[j]? = some to) {B : List (List Int)} (hB : B = visitsL A (tos.take j)) :
    visitsL A (tos.take (j + 1)) = visitL B to ∧ (tos.take (j + 1)).map (placeL (visitL B to)) = (tos.take j).map (placeL B) ++ [placeL B to] := by
  rw [take_snoc h, visitsL_snoc, ← hB]
  refine ⟨rfl, ?_⟩
  rw [List.map_append, List.map_singleton, placeL_visit]
  congr 1
  refine List.map_congr_left fun x hx => placeL_pre (visitL_pre B to) ?_
  rw [hB]
  exact visitsL_mem hx
attribute [local irreducible] wops xcode wcode seqK blockK loopK finK wcall wop wstp Runs
theorem place_ex {Φ : Lib} (L : LibC3 Φ) (L4 : LibC4 Φ) {h : Heap} {v : AV} (A : List (List Int)) (hv : IsApp h v 1 A.length (A.map rowI)) (hA : A.length ≤ 1048576) (hAl : ∀ a ∈ A, a.length ≤ 1048576) (b : List Int) :
    Runs Φ 98 [v, rowI b] h (fun r h' => r = .int .i64 (A.idxOf b : Nat) ∧ h.Ext h') := by
  have hnt := hv.notTup
  refine runs_of (fun _ => false) rfl L4.f98 ?_
  repeat' first | refine st_nil ?_ | refine st_mv (v := AV.int _ _) rfl ?_ | (refine gx ?_; first | refine sx_seq ?_ | refine sx_ops rfl ?_ | refine sx_block ?_) | refine sk_norm ?_
  refine sx_for A.length (fun i env h' => h' = h ∧ (∀ k, k < i → A[k]? ≠ some b) ∧ env.has [(0, v), (1, rowI b), (5, .int .i64 i)]) ⟨rfl, fun k hk => by omega, hh_⟩ ?_
  rintro i env _ hi ⟨rfl, hno, he⟩
  obtain ⟨env, rfl⟩ := he.ex
  clear he
  by_cases hi2 : i < A.length
  · obtain ⟨a, ha⟩ := ex_get hi2
    have hal := hAl a (List.mem_of_getElem? ha)
    have ha2 : (A.map rowI)[i]? = some (rowI a) := by rw [List.getElem?_map, ha]; rfl
    have ks := same11_ok L ⟨a, false⟩ ⟨b, false⟩ (by show a.length ≤ _; omega)
    repeat' first | refine st_nil ?_ | (refine gw ?_; first | (refine gq0 ?_; first | refine st_mv (v := AV.int _ _) rfl ?_ | refine st_mv rv_ ?_) | (refine st_lss rfl rfl rfl ?_ ?_ <;> (intro hc; try (exfalso; omega))) | refine st_len_app rv_ (by assumption) ?_) | (refine gx ?_; first | refine sx_seq ?_ | refine sx_ops rfl ?_ | refine sx_skip ?_ | refine sx_block ?_ | refine sx_cond_t rfl ?_) | refine sk_norm ?_
    refine st_index_app rfl hv rfl rfl ha2 ?_
    intro p hp
    refine st_load_to rfl hp ?_
    by_cases hab : a = b
    · rw [decide_eq_true hab] at ks
      repeat' first | refine st_nil ?_ | (refine gw ?_; first | (refine gq0 ?_; first | refine st_mv (v := AV.int _ _) rfl ?_ | refine st_mv (v := AV.rd _ _ _) rfl ?_) | refine st_call rfl nt_ ?_) | (refine gx ?_; first | refine sx_seq ?_ | refine sx_ops rfl ?_ | refine sx_ret ?_ | refine sx_cond_t rfl ?_) | refine sk_norm ?_ | refine sk_ret ?_ | refine bk_ret ?_ | refine lk_ret ?_ | refine call_pure (by assumption) fz_ fz_ ?_
      refine fin_ret (v := .int .i64 i) rfl ⟨by rw [idxOf_at (by rw [ha, hab]) hno], Heap.Ext.refl _⟩
    · rw [decide_eq_false hab] at ks
      repeat' first | refine st_nil ?_ | (refine gw ?_; first | (refine gq0 ?_; first | refine st_mv (v := AV.int _ _) rfl ?_ | refine st_mv (v := AV.rd _ _ _) rfl ?_) | refine st_add rfl rfl rfl (by omega) (by omega) ?_ | refine st_call rfl nt_ ?_) | (refine gx ?_; first | refine sx_ops rfl ?_ | refine sx_skip ?_ | refine sx_cond_f rfl ?_) | refine sk_norm ?_ | refine bk_norm ?_ | refine call_pure (by assumption) fz_ fz_ ?_
      refine lk_next hi2 ⟨rfl, fun k hk => ?_, hh_⟩
      by_cases e : k = i
      · subst e
        rw [ha]
        exact fun e => hab (Option.some.inj e)
      · exact hno k (by omega)
  · have hi3 : i = A.length := by omega
    subst hi3
    repeat' first | refine st_nil ?_ | (refine gw ?_; first | (refine gq0 ?_; first | refine st_mv (v := AV.int _ _) rfl ?_ | refine st_mv rv_ ?_) | (refine st_lss rfl rfl rfl ?_ ?_ <;> (intro hc; try (exfalso; omega))) | refine st_len_app rv_ (by assumption) ?_) | (refine gx ?_; first | refine sx_seq ?_ | refine sx_ops rfl ?_ | refine sx_ret ?_ | refine sx_exit ?_ | refine sx_cond_f rfl ?_) | refine sk_norm ?_ | refine sk_exit ?_ | refine bk_exit ?_ | refine lk_exit ?_
    refine fin_ret (v := .int .i64 A.length) rfl ⟨by rw [idxOf_not hno], Heap.Ext.refl _⟩
set_option maxRecDepth 100000 in
theorem rof11x_ok {Φ : Lib} (L : LibC3 Φ) (L2 : C2Lib Φ) (L4 : LibC4 Φ) (n : Nfa) (hn : n.Ok) (hf : n.Fits) (hsm : n.Small) (m : Nat) (hm1 : 1 ≤ m) (hm2 : m ≤ 2000) :
    Runs Φ 93 [.agg n.av, .int .i64 m] Heap.empty (fun v _ => (m < (accL n (ofR (setsT n.edges.l)).l m).length ∧ v = .tup [.agg [.rd 0 [] true, .rd 0 [] true, .rd 0 [] true], .int .i64 63]) ∨ ((accL n (ofR (setsT n.edges.l)).l m).length ≤ m ∧ ∃ d : Dfa, v = .tup [.agg d.av, .int .i64 0] ∧ d.plain = mkPD n (ofR (setsT n.edges.l)).l m ∧ d.plain.Ok ∧ d.Wide ∧ ∀ t ∈ d.tags.l, -1 ≤ t ∧ t ≤ 5)) := by
  have hsd := rsound_ok L2 n hf
  rw [sound_ok_iff.2 hn] at hsd
  have hst := rstart_ok L2 n hf
  have hsl := start1_len n
  have hkn : n.k ≤ 2000 := hn.most
  have hacc0 : ∀ P : List (Rw Span), accL n P 0 = [start1 n] := fun P => rfl
  have hcnt := hsm.cnt
  rw [← setsT_length] at hcnt
  have hEl := hf.edges
  refine runs_of (fun o => o == some 57 || o == some 113) rfl L4.f93 ?_
  repeat' first | refine st_nil ?_ | (refine gw ?_; first | refine st_mv rx_ ?_ | (refine gq2 ?_; first | refine st_load_t rx_ ?_ | refine st_load_p rfl hg_ (by simp) b_ pv_ ?_) | (refine gq3 ?_; first | refine st_bin_t1 rx_ ?_ | (refine st_lss rfl rfl rfl ?_ ?_ <;> (intro hc; try (exfalso; omega))) | (refine st_gtr rfl rfl rfl ?_ ?_ <;> (intro hc; try (exfalso; omega)))) | refine st_gog rfl ?_ | refine st_pick_f (v := AV.bool _) rfl rfl ?_ | refine st_call rfl nt_ ?_ | (refine st_alloc ?_; intro id hid; try simp only [Heap.set_none] at hid) | (refine st_box (v := AV.agg _) rfl rfl ?_; intro id hid; try simp only [Heap.set_none] at hid) | refine st_not (b := true) rfl ?_) | (refine gx ?_; first | refine sx_seq ?_ | refine sx_ops rfl ?_ | refine sx_skip ?_ | refine sx_block ?_ | refine sx_cond_f rfl ?_) | refine sk_norm ?_ | refine call_pure (by assumption) fz_ fz_ ?_
  rename_i ib hib hc1
  obtain ⟨i4, rfl⟩ : ∃ x, x = id := ⟨_, rfl⟩
  have hi4 := hid
  have hS0 := (((Sep.old Heap.empty).new (o := .cells 0 n.av) hib).new (id := i4) (o := nil3) (by rw [Heap.get_set_ne _ _ hi4.1]; exact hi4.2)).nil 1
  refine sx_for n.edges.l.length (fun i env h' => ∃ v, Sep h' [cOld Heap.empty, cCell ib (.cells 0 n.av), cCell i4 nil3, cRow v 1 (setsT (n.edges.l.take i)).length ((setsT (n.edges.l.take i)).map Rw.sv)] ∧ env.has [(1, .int .i64 m), (2, .ptr ib 0 0), (4, .ptr i4 0 0), (6, v), (7, .int .i64 i)]) ⟨_, hS0, hh_⟩ ?_
  clear hS0
  rintro i env h' hi ⟨v, hS, he⟩
  have hb : h'.get ib = some (.cells 0 n.av) := hS.get (i := 1) rfl
  have hr6 : IsRow h' v 1 _ _ := hS.get (i := 3) rfl
  have hnt := hr6.notTup
  obtain ⟨env, rfl⟩ := he.ex
  clear he
  by_cases hi2 : i < n.edges.l.length
  · obtain ⟨r, hr⟩ := ex_get hi2
    have hsn := setsT_snoc hr
    have hle := setsT_take_le n.edges.l (i + 1)
    have hl2 : (setsT (n.edges.l.take (i + 1))).length = (setsT (n.edges.l.take i)).length + r.l.length := by rw [hsn, List.length_append, List.length_map]
    repeat' first | refine st_nil ?_ | (refine gw ?_; first | refine st_mv rx_ ?_ | (refine gq2 ?_; first | refine st_load_t rx_ ?_ | refine st_load_p rfl hg_ (by simp) b_ pv_ ?_) | (refine gq3 ?_; first | refine st_bin_t1 rx_ ?_ | refine st_bin_t2 rx_ ?_ | (refine st_lss rfl rfl rfl ?_ ?_ <;> (intro hc; try (exfalso; omega)))) | (refine gq6 ?_; first | refine st_len_t rx_ ?_ | refine st_len_rd rfl ?_) | (refine gq4 ?_; first | refine st_field_t rx_ ?_ | refine st_field_p rfl (Nat.zero_add _) ?_)) | (refine gx ?_; first | refine sx_seq ?_ | refine sx_ops rfl ?_ | refine sx_skip ?_ | refine sx_block ?_ | refine sx_cond_t rfl ?_) | refine sk_norm ?_
    refine sx_for r.l.length (fun j env h' => ∃ v, Sep h' [cOld Heap.empty, cCell ib (.cells 0 n.av), cCell i4 nil3, cRow v 1 ((setsT (n.edges.l.take i)).length + j) ((setsT (n.edges.l.take i) ++ (r.l.take j).map fun e => e.set).map Rw.sv)] ∧ env.has [(1, .int .i64 m), (2, .ptr ib 0 0), (4, .ptr i4 0 0), (6, v), (7, .int .i64 i), (8, .int .i64 j)]) ⟨v, by simpa using hS, hh_⟩ ?_
    clear hS hb hr6 hnt
    rintro j env h' hj ⟨v, hS, he⟩
    have hb : h'.get ib = some (.cells 0 n.av) := hS.get (i := 1) rfl
    have hr6 : IsRow h' v 1 _ _ := hS.get (i := 3) rfl
    have hnt := hr6.notTup
    obtain ⟨env, rfl⟩ := he.ex
    clear he
    by_cases hj2 : j < r.l.length
    · obtain ⟨e, he⟩ := ex_get hj2
      repeat' first | refine st_nil ?_ | (refine gw ?_; first | refine st_mv rx_ ?_ | (refine gq2 ?_; first | refine st_load_t rx_ ?_ | refine st_load_r rfl b_ pv_ ?_ | refine st_load_p rfl hg_ (by simp) b_ pv_ ?_) | (refine gq3 ?_; first | refine st_bin_t1 rx_ ?_ | refine st_bin_t2 rx_ ?_ | refine st_add rfl rfl rfl (by omega) (by omega) ?_ | (refine st_lss rfl rfl rfl ?_ ?_ <;> (intro hc; try (exfalso; omega)))) | (refine gq5 ?_; first | refine st_index_t1 rx_ ?_ | refine st_index_t2 rx_ ?_ | refine st_index_map' rfl rfl hr (by omega) rfl ?_ | refine st_index_flat' rfl fl_ rfl he (by omega) rfl ?_) | (refine gq6 ?_; first | refine st_len_t rx_ ?_ | refine st_len_rd rfl ?_) | (refine gq14 ?_; first | refine st_append_t1 rx_ ?_ | refine st_append_t2 rx_ ?_ | (refine st_append (m := 1) rx_ ir_ rfl rfl (by omega) ?_; intro va hpa hra hka hria)) | (refine gq4 ?_; first | refine st_field_t rx_ ?_ | refine st_field_p rfl (Nat.zero_add _) ?_ | refine st_field_r rfl (by simp) rfl ?_) | refine st_lit (cs := [AV.rd _ _ _]) rfl rfl ?_) | (refine gx ?_; first | refine sx_seq ?_ | refine sx_ops rfl ?_ | refine sx_skip ?_ | refine sx_block ?_ | refine sx_cond_t rfl ?_) | refine sk_norm ?_ | refine bk_norm ?_
      have hS2 := hS.upd 3 (cRow va 1 ((setsT (n.edges.l.take i)).length + (j + 1)) ((setsT (n.edges.l.take i) ++ (r.l.take j).map fun e => e.set).map Rw.sv ++ [e.set.sv])) rfl hra hka hria
      have e1 : (setsT (n.edges.l.take i) ++ (r.l.take (j + 1)).map fun e => e.set).map Rw.sv = (setsT (n.edges.l.take i) ++ (r.l.take j).map fun e => e.set).map Rw.sv ++ [e.set.sv] := by
        rw [take_snoc he]
        simp
      refine lk_next hj2 ⟨va, ?_, hh_⟩
      rw [e1]
      exact hS2
    · have hj3 : j = r.l.length := by omega
      subst hj3
      repeat' first | refine st_nil ?_ | (refine gw ?_; first | refine st_mv rx_ ?_ | (refine gq2 ?_; first | refine st_load_t rx_ ?_ | refine st_load_r rfl b_ pv_ ?_ | refine st_load_p rfl hg_ (by simp) b_ pv_ ?_) | (refine gq3 ?_; first | refine st_bin_t1 rx_ ?_ | refine st_bin_t2 rx_ ?_ | refine st_add rfl rfl rfl (by omega) (by omega) ?_ | (refine st_lss rfl rfl rfl ?_ ?_ <;> (intro hc; try (exfalso; omega)))) | (refine gq5 ?_; first | refine st_index_t1 rx_ ?_ | refine st_index_t2 rx_ ?_ | refine st_index_map' rfl rfl hr (by omega) rfl ?_) | (refine gq6 ?_; first | refine st_len_t rx_ ?_ | refine st_len_rd rfl ?_) | (refine gq4 ?_; first | refine st_field_t rx_ ?_ | refine st_field_p rfl (Nat.zero_add _) ?_)) | (refine gx ?_; first | refine sx_seq ?_ | refine sx_ops rfl ?_ | refine sx_exit ?_ | refine sx_cond_f rfl ?_) | refine sk_norm ?_ | refine sk_exit ?_ | refine bk_norm ?_ | refine bk_exit ?_ | refine lk_exit ?_
      refine lk_next hi2 ⟨v, ?_, hh_⟩
      rw [hl2, hsn]
      rw [List.take_of_length_le (Nat.le_refl _)] at hS
      exact hS
  · have hi3 : i = n.edges.l.length := by omega
    subst hi3
    rw [List.take_of_length_le (Nat.le_refl _)] at hr6 hS
    repeat' first | refine st_nil ?_ | (refine gw ?_; first | refine st_mv rx_ ?_ | (refine gq2 ?_; first | refine st_load_t rx_ ?_ | refine st_load_p rfl hg_ (by simp) b_ pv_ ?_) | (refine gq3 ?_; first | refine st_bin_t1 rx_ ?_ | refine st_bin_t2 rx_ ?_ | (refine st_lss rfl rfl rfl ?_ ?_ <;> (intro hc; try (exfalso; omega)))) | (refine gq6 ?_; first | refine st_len_t rx_ ?_ | refine st_len_rd rfl ?_) | (refine gq4 ?_; first | refine st_field_t rx_ ?_ | refine st_field_p rfl (Nat.zero_add _) ?_)) | (refine gx ?_; first | refine sx_seq ?_ | refine sx_ops rfl ?_ | refine sx_exit ?_ | refine sx_cond_f rfl ?_) | refine sk_norm ?_ | refine sk_exit ?_ | refine bk_exit ?_ | refine lk_exit ?_
    refine sx_freeze 6 (v := v) rfl rfl hr6 ?_
    intro h1 hk1
    have hS1 := hS.drop 3 (h' := h1) rfl hk1
    clear hr6 hS hk1 hb
    have hb : h1.get ib = some (.cells 0 n.av) := hS1.get (i := 1) rfl
    have hset8 : ∀ s ∈ setsT n.edges.l, s.l.length ≤ 8 := fun s hs => by
      obtain ⟨r, hr, e, he, rfl⟩ := setsT_mem hs
      exact hsm.few r hr e he
    have hcat := catS_8 _ hset8
    have q1 := of10_ok L L2 ⟨setsT n.edges.l, false⟩ (by show (setsT n.edges.l).length ≤ _; omega) (fun s hs => ⟨by have := hset8 s hs; omega, fun x hx => by
      obtain ⟨r, hr, e, he, rfl⟩ := setsT_mem hs
      exact hf.spans r hr e he x hx⟩) (by show (catS (setsT n.edges.l)).length ≤ _; omega)
    have hat : Ats (setsT n.edges.l) (ofR (setsT n.edges.l)).l := (atoms_ok (setsT n.edges.l)).ats.sub (sortR_perm _)
    have hPc := hat.cat
    have hPl := hat.count
    rw [edgesU_length] at hPc
    have hPc : (catS (ofR (setsT n.edges.l)).l).length ≤ 642 := by omega
    have hPl : (ofR (setsT n.edges.l)).l.length ≤ 642 := by omega
    simp only at q1
    generalize ofR (setsT n.edges.l) = P at *
    repeat' first | refine st_nil ?_ | (refine gw ?_; first | refine st_mv rx_ ?_ | (refine gq2 ?_; first | refine st_load_t rx_ ?_ | refine st_load_p rfl hg_ (by simp) b_ pv_ ?_) | (refine gq13 ?_; first | refine st_store_t1 rx_ ?_ | refine st_store_t2 rx_ ?_ | refine st_store_s (cs' := [AV.rd _ _ _, AV.rd _ _ _, AV.rd _ _ _]) rfl rfl rfl rfl b_ rfl ?_) | refine st_call rfl nt_ ?_ | (refine st_alloc ?_; intro id hid; try simp only [Heap.set_none] at hid) | refine st_build (cs := [AV.rd _ _ _, AV.rd _ _ _, AV.rd _ _ _]) rfl ?_ | refine st_lit (cs := [AV.rd _ _ _]) rfl rfl ?_) | (refine gx ?_; first | refine sx_seq ?_ | refine sx_ops rfl ?_ | refine sx_block ?_) | refine sk_norm ?_ | refine call_pure (by assumption) fz_ fz_ ?_
    obtain ⟨i9, rfl⟩ : ∃ x, x = id := ⟨_, rfl⟩
    have hS2 := (((hS1.new (o := .cells 0 [P.mv Rw.sv, .rd 0 [] true, .rd 0 [] true]) hid).nil 1).nil 1).add (cApp (.rd 1 [rowI (start1 n)] true) 1 1 [rowI (start1 n)]) (IsApp.lit rfl) (fun _ _ => rfl) (fun k hk => by cases hk)
    refine sx_for m (fun i env h' => ∃ (vn vt v10 : AV) (A rows : List (List Int)) (ts : List Int), i ≤ A.length ∧ A.length ≤ m ∧ 1 ≤ A.length ∧ rows.length = i ∧ ts.length = i ∧ (∀ a ∈ A, a.length ≤ n.k) ∧ (∀ r ∈ rows, r.length = P.l.length ∧ ∀ x ∈ r, x = -1 ∨ In A.length x) ∧ (∀ t ∈ ts, -1 ≤ t ∧ t ≤ 5) ∧ A = accL n P.l i ∧ rows = rowsL n P.l A i ∧ ts = tagsL n A i ∧ Sep h' [cOld Heap.empty, cCell ib (.cells 0 n.av), cCell i4 nil3, cCell i9 (.cells 0 [P.mv Rw.sv, vn, vt]), cRow vn 1 i (rows.map rowI), cRow vt 1 i (ts.map (.int .i64)), cApp v10 1 A.length (A.map rowI)] ∧ env.has [(1, .int .i64 m), (2, .ptr ib 0 0), (4, .ptr i4 0 0), (9, .ptr i9 0 0), (10, v10), (11, .int .i64 i)]) ⟨_, _, _, [start1 n], [], [], by simp, by simpa using hm1, by simp, rfl, rfl, by simpa using hsl, by simp, by simp, rfl, by simp [rowsL], by simp [tagsL], hS2, hh_⟩ ?_
    clear hS2 hS1 hb hid
    rintro i env h' hi ⟨vn, vt, v10, A, rows, ts, hiA, hA100, hA1, hrl, htl, hAk, hrows, hts, hAx, hrx, htx, hS, he⟩
    have hb : h'.get ib = some (.cells 0 n.av) := hS.get (i := 1) rfl
    have h4 : h'.get i4 = some nil3 := hS.get (i := 2) rfl
    have h9 : h'.get i9 = some (.cells 0 [P.mv Rw.sv, vn, vt]) := hS.get (i := 3) rfl
    have hrn : IsRow h' vn 1 i _ := hS.get (i := 4) rfl
    have hrt : IsRow h' vt 1 i _ := hS.get (i := 5) rfl
    have happ : IsApp h' v10 1 A.length _ := hS.get (i := 6) rfl
    have hnn := hrn.notTup
    have hnt := hrt.notTup
    have hna := happ.notTup
    obtain ⟨env, rfl⟩ := he.ex
    clear he
    by_cases hi2 : i < A.length
    · obtain ⟨a, ha⟩ := ex_get hi2
      have hal := hAk a (List.mem_of_getElem? ha)
      repeat' first | refine st_nil ?_ | (refine gw ?_; first | refine st_mv rx_ ?_ | (refine gq3 ?_; first | refine st_bin_t1 rx_ ?_ | refine st_bin_t2 rx_ ?_ | (refine st_lss rfl rfl rfl ?_ ?_ <;> (intro hc; try (exfalso; omega)))) | (refine gq6 ?_; first | refine st_len_t rx_ ?_ | refine st_len_app rv_ (by assumption) ?_)) | (refine gx ?_; first | refine sx_seq ?_ | refine sx_ops rfl ?_ | refine sx_skip ?_ | refine sx_block ?_ | refine sx_cond_t rfl ?_) | refine sk_norm ?_
      refine sx_for P.l.length (fun j env h' => ∃ (v10 vr : AV) (B : List (List Int)) (xs : List Int), A.length ≤ B.length ∧ B.length ≤ m + j ∧ B[i]? = some a ∧ (∀ b ∈ B, b.length ≤ n.k) ∧ xs.length = j ∧ (∀ x ∈ xs, x = -1 ∨ In B.length x) ∧ B = visitsL A ((rowL n P.l a).take j) ∧ xs = ((rowL n P.l a).take j).map (placeL B) ∧ Sep h' [cOld Heap.empty, cCell ib (.cells 0 n.av), cCell i4 nil3, cCell i9 (.cells 0 [P.mv Rw.sv, vn, vt]), cRow vn 1 i (rows.map rowI), cRow vt 1 i (ts.map (.int .i64)), cApp v10 1 B.length (B.map rowI), cRow vr 1 j (xs.map (.int .i64))] ∧ env.has [(1, .int .i64 m), (2, .ptr ib 0 0), (4, .ptr i4 0 0), (9, .ptr i9 0 0), (10, v10), (11, .int .i64 i), (12, vr), (13, .int .i64 j)]) ⟨v10, _, A, [], Nat.le_refl _, by omega, ha, hAk, rfl, by simp, rfl, rfl, hS.nil 1, hh_⟩ ?_
      clear hS hb h4 h9 hrn hrt happ hna
      rintro j env h' hj ⟨v10, vr, B, xs, hAB, hB, hBi, hBk, hxl, hxs, hBv, hxv, hS, he⟩
      have hb : h'.get ib = some (.cells 0 n.av) := hS.get (i := 1) rfl
      have h4 : h'.get i4 = some nil3 := hS.get (i := 2) rfl
      have h9 : h'.get i9 = some (.cells 0 [P.mv Rw.sv, vn, vt]) := hS.get (i := 3) rfl
      have happ : IsApp h' v10 1 B.length _ := hS.get (i := 6) rfl
      have hrr : IsRow h' vr 1 j _ := hS.get (i := 7) rfl
      have hna := happ.notTup
      have hnr := hrr.notTup
      have ha2 : (B.map rowI)[i]? = some (rowI a) := by rw [List.getElem?_map, hBi]; rfl
      obtain ⟨env, rfl⟩ := he.ex
      clear he
      by_cases hj2 : j < P.l.length
      · obtain ⟨p, hp⟩ := ex_get hj2
        have hpne := (hat.good p (List.mem_of_getElem? hp)).1
        obtain ⟨s, hs⟩ := ex_get (l := p.l) (i := 0) (List.length_pos_iff.2 hpne)
        have hstep := rstep_ok L2 n hf a false (by omega) s.lo
        have hstl := step1_len n a s.lo
        have hlo : loP p = s.lo := by
          unfold loP
          cases e : p.l with
          | nil => exact absurd e hpne
          | cons c l =>
            rw [e] at hs
            simp only [List.getElem?_cons_zero, Option.some.injEq] at hs
            rw [hs]
        have hrow : (rowL n P.l a)[j]? = some (step1 n a s.lo) := by
          rw [rowL, List.getElem?_map, hp, ← hlo]
          rfl
        generalize step1 n a s.lo = to at hstep hstl hrow
        obtain ⟨r1, r2⟩ := row_next hrow hBv
        rw [← hxv] at r2
        repeat' first | refine st_nil ?_ | (refine gw ?_; first | refine st_mv rx_ ?_ | (refine gq2 ?_; first | refine st_load_t rx_ ?_ | refine st_load_p rfl hg_ (by simp) b_ pv_ ?_) | (refine gq3 ?_; first | refine st_bin_t1 rx_ ?_ | refine st_bin_t2 rx_ ?_ | (refine st_lss rfl rfl rfl ?_ ?_ <;> (intro hc; try (exfalso; omega)))) | (refine gq5 ?_; first | refine st_index_t1 rx_ ?_ | refine st_index_t2 rx_ ?_) | (refine gq6 ?_; first | refine st_len_t rx_ ?_ | refine st_len_rd rfl ?_) | (refine gq4 ?_; first | refine st_field_t rx_ ?_ | refine st_field_p rfl (Nat.zero_add _) ?_)) | (refine gx ?_; first | refine sx_seq ?_ | refine sx_ops rfl ?_ | refine sx_skip ?_ | refine sx_block ?_ | refine sx_cond_t rfl ?_) | refine sk_norm ?_
        refine st_index_app rfl happ rfl rfl ha2 ?_
        intro pp hpp
        refine st_load_to rfl hpp ?_
        by_cases hto : 0 < to.length
        · have hto2 : to ≠ [] := List.length_pos_iff.1 hto
          have hpl := place_ex L L4 B happ (by omega) (fun b hb => by have := hBk b hb; omega) to
          have hqle : B.idxOf to ≤ B.length := List.idxOf_le_length
          have hpv : placeL B to = (B.idxOf to : Nat) := by rw [placeL, if_neg hto2]
          have hqin : B.idxOf to < B.length ↔ to ∈ B := List.idxOf_lt_length_iff
          generalize B.idxOf to = q at hpl hqle hpv hqin
          rw [hpv] at r2
          repeat' first | refine st_nil ?_ | (refine gw ?_; first | refine st_mv rx_ ?_ | (refine gq2 ?_; first | refine st_load_t rx_ ?_ | refine st_load_r rfl b_ pv_ ?_ | refine st_load_p rfl hg_ (by simp) b_ pv_ ?_) | (refine gq3 ?_; first | refine st_bin_t1 rx_ ?_ | (refine st_gtr rfl rfl rfl ?_ ?_ <;> (intro hc; try (exfalso; omega)))) | (refine gq5 ?_; first | refine st_index_t1 rx_ ?_ | refine st_index_t2 rx_ ?_ | refine st_index_map' rfl rfl hp (by omega) rfl ?_ | refine st_index_flat' rfl fl_ rfl hs (by omega) rfl ?_) | (refine gq6 ?_; first | refine st_len_t rx_ ?_ | refine st_len_rd rfl ?_) | (refine gq4 ?_; first | refine st_field_t rx_ ?_ | refine st_field_p rfl (Nat.zero_add _) ?_ | refine st_field_r rfl (by simp) rfl ?_) | refine st_call rfl nt_ ?_) | (refine gx ?_; first | refine sx_seq ?_ | refine sx_ops rfl ?_ | refine sx_cond_t rfl ?_) | refine sk_norm ?_ | refine call_pure (by assumption) fz_ fz_ ?_
          refine call_quiet (by omega) hpl ?_
          by_cases hqB : q = B.length
          · have hnin : to ∉ B := fun h => by have := hqin.2 h; omega
            have hv : visitL B to = B ++ [to] := by rw [visitL, if_neg (fun h => h.elim hto2 hnin)]
            rw [hv] at r1 r2
            repeat' first | refine st_nil ?_ | (refine gw ?_; first | refine st_mv rx_ ?_ | (refine gq3 ?_; first | refine st_bin_t1 rx_ ?_ | refine st_bin_t2 rx_ ?_ | (refine st_eql rfl rfl rfl ?_ ?_ <;> (intro hc; try (exfalso; omega)))) | (refine gq6 ?_; first | refine st_len_t rx_ ?_ | refine st_len_app rv_ (by assumption) ?_) | (refine gq14 ?_; first | refine st_append_t1 rx_ ?_ | refine st_append_t2 rx_ ?_ | (refine st_append_app (m := 1) rv_ (by first | assumption | exact IsApp.new (by assumption) (by assumption) | fail) rfl (by exact rfl) rfl (by omega) ?_; intro va hpa hra hka hria)) | (refine gq16 ?_; first | refine st_lit (cs := [AV.int _ _]) rfl rfl ?_ | refine st_lit (cs := [AV.rd _ _ _]) rfl rfl ?_)) | (refine gx ?_; first | refine sx_seq ?_ | refine sx_ops rfl ?_ | refine sx_cond_t rfl ?_) | refine sk_norm ?_
            have hS3 := hS.upd 6 (cApp va 1 (B.length + 1) (B.map rowI ++ [rowI to])) rfl hra hka hria
            clear hrr
            have hrr : IsRow hpa vr 1 j _ := hS3.get (i := 7) rfl
            have hna2 := hra.notTup
            clear hS happ hra hka hria
            obtain ⟨vb, rfl⟩ : ∃ x, x = va := ⟨_, rfl⟩
            repeat' first | refine st_nil ?_ | (refine gw ?_; first | refine st_mv rx_ ?_ | (refine gq3 ?_; first | refine st_bin_t1 rx_ ?_ | refine st_add rfl rfl rfl (by omega) (by omega) ?_) | (refine st_append (m := 1) rx_ ir_ rfl rfl (by omega) ?_; intro va hpa hra hka hria)) | refine sx_ops rfl ?_ | refine sk_norm ?_ | refine bk_norm ?_
            have hS4 := hS3.upd 7 (cRow va 1 (j + 1) (xs.map (.int .i64) ++ [.int .i64 q])) rfl hra hka hria
            refine lk_next hj2 ⟨vb, va, B ++ [to], xs ++ [(q : Int)], by simp; omega, by simp; omega, ?_, fun b hb => ?_, by simp [hxl], fun x hx => ?_, r1.symm, r2.symm, ?_, hh_⟩
            · rw [List.getElem?_append_left (lt_of_getElem? hBi)]; exact hBi
            · rcases List.mem_append.1 hb with hb | hb
              · exact hBk b hb
              · simp only [List.mem_singleton] at hb; subst hb; exact hstl
            · rcases List.mem_append.1 hx with hx | hx
              · exact In.more (hxs x hx) (by simp)
              · simp only [List.mem_singleton] at hx; subst hx
                right; unfold In; simp; omega
            · rw [List.map_append, List.map_append, List.length_append]
              exact hS4
          · have hin : to ∈ B := hqin.1 (by omega)
            have hv : visitL B to = B := by rw [visitL, if_pos (.inr hin)]
            rw [hv] at r1 r2
            repeat' first | refine st_nil ?_ | (refine gw ?_; first | refine st_mv rx_ ?_ | (refine gq3 ?_; first | refine st_bin_t1 rx_ ?_ | refine st_bin_t2 rx_ ?_ | refine st_add rfl rfl rfl (by omega) (by omega) ?_ | (refine st_eql rfl rfl rfl ?_ ?_ <;> (intro hc; try (exfalso; omega)))) | (refine gq6 ?_; first | refine st_len_t rx_ ?_ | refine st_len_app rv_ (by assumption) ?_) | (refine gq14 ?_; first | refine st_append_t1 rx_ ?_ | refine st_append_t2 rx_ ?_ | (refine st_append (m := 1) rx_ ir_ rfl rfl (by omega) ?_; intro va hpa hra hka hria)) | refine st_lit (cs := [AV.int _ _]) rfl rfl ?_) | (refine gx ?_; first | refine sx_seq ?_ | refine sx_ops rfl ?_ | refine sx_skip ?_ | refine sx_cond_f rfl ?_) | refine sk_norm ?_ | refine bk_norm ?_
            have hS3 := hS.upd 7 (cRow va 1 (j + 1) (xs.map (.int .i64) ++ [.int .i64 q])) rfl hra hka hria
            refine lk_next hj2 ⟨v10, va, B, xs ++ [(q : Int)], hAB, by omega, hBi, hBk, by simp [hxl], fun x hx => ?_, r1.symm, r2.symm, ?_, hh_⟩
            · rcases List.mem_append.1 hx with hx | hx
              · exact hxs x hx
              · simp only [List.mem_singleton] at hx; subst hx
                right; unfold In; omega
            · rw [List.map_append]
              exact hS3
        · have hto2 : to = [] := List.eq_nil_of_length_eq_zero (by omega)
          have hpv : placeL B to = -1 := by rw [placeL, if_pos hto2]
          have hv : visitL B to = B := by rw [visitL, if_pos (.inl hto2)]
          rw [hpv, hv] at r2
          rw [hv] at r1
          repeat' first | refine st_nil ?_ | (refine gw ?_; first | refine st_mv rx_ ?_ | (refine gq2 ?_; first | refine st_load_t rx_ ?_ | refine st_load_r rfl b_ pv_ ?_ | refine st_load_p rfl hg_ (by simp) b_ pv_ ?_) | (refine gq3 ?_; first | refine st_bin_t1 rx_ ?_ | refine st_bin_t2 rx_ ?_ | refine st_add rfl rfl rfl (by omega) (by omega) ?_ | (refine st_gtr rfl rfl rfl ?_ ?_ <;> (intro hc; try (exfalso; omega))) | (refine st_eql rfl rfl rfl ?_ ?_ <;> (intro hc; try (exfalso; omega)))) | (refine gq5 ?_; first | refine st_index_t1 rx_ ?_ | refine st_index_t2 rx_ ?_ | refine st_index_map' rfl rfl hp (by omega) rfl ?_ | refine st_index_flat' rfl fl_ rfl hs (by omega) rfl ?_) | (refine gq6 ?_; first | refine st_len_t rx_ ?_ | refine st_len_rd rfl ?_ | refine st_len_app rv_ (by assumption) ?_) | (refine gq14 ?_; first | refine st_append_t1 rx_ ?_ | refine st_append_t2 rx_ ?_ | (refine st_append (m := 1) rx_ ir_ rfl rfl (by omega) ?_; intro va hpa hra hka hria)) | (refine gq4 ?_; first | refine st_field_t rx_ ?_ | refine st_field_p rfl (Nat.zero_add _) ?_ | refine st_field_r rfl (by simp) rfl ?_) | refine st_call rfl nt_ ?_ | refine st_lit (cs := [AV.int _ _]) rfl rfl ?_) | (refine gx ?_; first | refine sx_seq ?_ | refine sx_ops rfl ?_ | refine sx_skip ?_ | refine sx_cond_f rfl ?_) | refine sk_norm ?_ | refine bk_norm ?_ | refine call_pure (by assumption) fz_ fz_ ?_
          have hS3 := hS.upd 7 (cRow va 1 (j + 1) (xs.map (.int .i64) ++ [.int .i64 (-1)])) rfl hra hka hria
          refine lk_next hj2 ⟨v10, va, B, xs ++ [-1], hAB, by omega, hBi, hBk, by simp [hxl], fun x hx => ?_, r1.symm, r2.symm, ?_, hh_⟩
          · rcases List.mem_append.1 hx with hx | hx
            · exact hxs x hx
            · simp only [List.mem_singleton] at hx; subst hx
              exact .inl rfl
          · rw [List.map_append]
            exact hS3
      · have hj3 : j = P.l.length := by omega
        subst hj3
        have hrll : (rowL n P.l a).length = P.l.length := by simp [rowL]
        rw [List.take_of_length_le (by omega)] at hBv hxv
        have ha' : (accL n P.l i)[i]? = some a := by rw [← hAx]; exact ha
        have hBx : B = accL n P.l (i + 1) := by rw [accL, ha', hBv, hAx]
        by_cases hB2 : B.length ≤ m
        · have ktag := rtag1_ok L4 L2 n hf a (by omega)
          have htr := tagOf1_range hsm.tags a
          obtain ⟨tg, htgv⟩ : ∃ tg, tagOf1 (tags1 n a) = tg := ⟨_, rfl⟩
          rw [htgv] at ktag htr
          repeat' first | refine st_nil ?_ | (refine gw ?_; first | refine st_mv rx_ ?_ | (refine gq2 ?_; first | refine st_load_t rx_ ?_ | refine st_load_p rfl hg_ (by simp) b_ pv_ ?_) | (refine gq3 ?_; first | refine st_bin_t1 rx_ ?_ | refine st_bin_t2 rx_ ?_ | (refine st_lss rfl rfl rfl ?_ ?_ <;> (intro hc; try (exfalso; omega))) | (refine st_gtr rfl rfl rfl ?_ ?_ <;> (intro hc; try (exfalso; omega)))) | (refine gq6 ?_; first | refine st_len_t rx_ ?_ | refine st_len_rd rfl ?_ | refine st_len_app rv_ (by assumption) ?_) | (refine gq4 ?_; first | refine st_field_t rx_ ?_ | refine st_field_p rfl (Nat.zero_add _) ?_)) | (refine gx ?_; first | refine sx_seq ?_ | refine sx_ops rfl ?_ | refine sx_skip ?_ | refine sx_exit ?_ | refine sx_cond_f rfl ?_) | refine sk_norm ?_ | refine sk_exit ?_ | refine bk_exit ?_ | refine lk_exit ?_
          refine sx_freeze 12 (v := vr) rfl rfl hrr ?_
          intro h3 hk3
          have hS2 := hS.drop 7 (h' := h3) rfl hk3
          clear hS hb h4 h9 happ hrr hk3
          have h9 : h3.get i9 = some (.cells 0 [P.mv Rw.sv, vn, vt]) := hS2.get (i := 3) rfl
          have hrn2 : IsRow h3 vn 1 i _ := hS2.get (i := 4) rfl
          repeat' first | (refine gw ?_; first | refine st_mv rx_ ?_ | (refine gq2 ?_; first | refine st_load_t rx_ ?_ | refine st_load_p rfl hg_ (by simp) b_ pv_ ?_) | (refine gq13 ?_; first | refine st_store_t1 rx_ ?_ | refine st_store_t2 rx_ ?_) | (refine gq14 ?_; first | refine st_append_t1 rx_ ?_ | refine st_append_t2 rx_ ?_ | (refine st_append (m := 1) rx_ ir_ rfl rfl (by omega) ?_; intro va hpa hra hka hria)) | (refine gq4 ?_; first | refine st_field_t rx_ ?_ | refine st_field_p rfl (Nat.zero_add _) ?_) | refine st_lit (cs := [AV.rd _ _ _]) rfl rfl ?_)
          have hS3 := hS2.upd 4 (cRow va 1 (i + 1) (rows.map rowI ++ [.rd P.l.length (xs.map (.int .i64)) false])) rfl hra hka hria
          have h9b : hpa.get i9 = some (.cells 0 [P.mv Rw.sv, vn, vt]) := hS3.get (i := 3) rfl
          refine st_store_row (v := va) (cs' := [P.mv Rw.sv, va, vt]) rfl rfl hra h9b (by simp) rfl ?_
          have hS4 := hS3.put 3 (.cells 0 [P.mv Rw.sv, va, vt]) rfl
          have h9c : (hpa.set i9 (.cells 0 [P.mv Rw.sv, va, vt])).get i9 = some (.cells 0 [P.mv Rw.sv, va, vt]) := hS4.get (i := 3) rfl
          have hbc : (hpa.set i9 (.cells 0 [P.mv Rw.sv, va, vt])).get ib = some (.cells 0 n.av) := hS4.get (i := 1) rfl
          have hrt4 : IsRow (hpa.set i9 (.cells 0 [P.mv Rw.sv, va, vt])) vt 1 i _ := hS4.get (i := 5) rfl
          have happ4 : IsApp (hpa.set i9 (.cells 0 [P.mv Rw.sv, va, vt])) v10 1 B.length _ := hS4.get (i := 6) rfl
          have hnn2 := hra.notTup
          clear hS2 hS3 h9 h9b hrn2 hra hka hria
          obtain ⟨vn2, rfl⟩ : ∃ x, x = va := ⟨_, rfl⟩
          repeat' first | refine st_nil ?_ | (refine gw ?_; first | refine st_mv rx_ ?_ | (refine gq2 ?_; first | refine st_load_t rx_ ?_ | refine st_load_p rfl hg_ (by simp) b_ pv_ ?_) | (refine gq5 ?_; first | refine st_index_t1 rx_ ?_ | refine st_index_t2 rx_ ?_) | (refine gq4 ?_; first | refine st_field_t rx_ ?_ | refine st_field_p rfl (Nat.zero_add _) ?_)) | refine sx_ops rfl ?_ | refine sk_norm ?_
          refine st_index_app rfl happ4 rfl rfl ha2 ?_
          intro pp hpp
          refine st_load_to rfl hpp ?_
          repeat' first | (refine gw ?_; first | (refine gq13 ?_; first | refine st_store_t1 rx_ ?_ | refine st_store_t2 rx_ ?_) | (refine gq14 ?_; first | refine st_append_t1 rx_ ?_ | refine st_append_t2 rx_ ?_ | (refine st_append (m := 1) rx_ ir_ rfl rfl (by omega) ?_; intro va hpa hra hka hria)) | (refine gq4 ?_; first | refine st_field_t rx_ ?_ | refine st_field_p rfl (Nat.zero_add _) ?_) | refine st_call rfl nt_ ?_ | refine st_lit (cs := [AV.int _ _]) rfl rfl ?_) | refine call_pure (by assumption) fz_ fz_ ?_
          have hS5 := hS4.upd 5 (cRow va 1 (i + 1) (ts.map (.int .i64) ++ [.int .i64 tg])) rfl hra hka hria
          have h9d : hpa.get i9 = some (.cells 0 [P.mv Rw.sv, vn2, vt]) := hS5.get (i := 3) rfl
          refine st_store_row (v := va) (cs' := [P.mv Rw.sv, vn2, va]) rfl rfl hra h9d (by simp) rfl ?_
          have hS6 := hS5.put 3 (.cells 0 [P.mv Rw.sv, vn2, va]) rfl
          repeat' first | refine st_nil ?_ | (refine gw ?_; first | refine st_mv rx_ ?_ | (refine gq3 ?_; first | refine st_bin_t1 rx_ ?_ | refine st_add rfl rfl rfl (by omega) (by omega) ?_)) | refine sx_ops rfl ?_ | refine sk_norm ?_ | refine bk_norm ?_
          refine lk_next (by omega) ⟨vn2, va, v10, B, rows ++ [xs], ts ++ [tg], by omega, hB2, by omega, by simp [hrl], by simp [htl], hBk, fun r hr => ?_, fun t ht => ?_, hBx, ?_, ?_, ?_, hh_⟩
          · rcases List.mem_append.1 hr with hr | hr
            · exact ⟨(hrows r hr).1, fun x hx => In.more ((hrows r hr).2 x hx) hAB⟩
            · simp only [List.mem_singleton] at hr; subst hr; exact ⟨hxl, hxs⟩
          · rcases List.mem_append.1 ht with ht | ht
            · exact hts t ht
            · simp only [List.mem_singleton] at ht; subst ht; exact htr
          · rw [hBx, rowsL_next ha', ← hBx, ← hAx, ← hrx, ← hxv]
          · rw [hBx, tagsL_next (accL_pre n P.l i) ha', ← hAx, ← htx, htgv]
          · rw [List.map_append, List.map_append, List.map_singleton, List.map_singleton, show rowI xs = .rd P.l.length (xs.map (.int .i64)) false by rw [← hxl]]
            exact hS6
        · repeat' first | refine st_nil ?_ | (refine gw ?_; first | refine st_mv rx_ ?_ | (refine gq2 ?_; first | refine st_load_t rx_ ?_ | refine st_load_p rfl hg_ (by simp) b_ pv_ ?_) | (refine gq3 ?_; first | refine st_bin_t1 rx_ ?_ | refine st_bin_t2 rx_ ?_ | (refine st_lss rfl rfl rfl ?_ ?_ <;> (intro hc; try (exfalso; omega))) | (refine st_gtr rfl rfl rfl ?_ ?_ <;> (intro hc; try (exfalso; omega)))) | (refine gq13 ?_; first | refine st_store_t1 rx_ ?_ | refine st_store_t2 rx_ ?_ | refine st_store_p (v := AV.agg _) rfl rfl hg_ rfl rfl b_ sv_ ?_) | (refine gq6 ?_; first | refine st_len_t rx_ ?_ | refine st_len_rd rfl ?_ | refine st_len_app rv_ (by assumption) ?_) | (refine gq4 ?_; first | refine st_field_t rx_ ?_ | refine st_field_p rfl (Nat.zero_add _) ?_) | refine st_build (cs := [AV.rd _ _ _, AV.rd _ _ _, AV.rd _ _ _]) rfl ?_) | (refine gx ?_; first | refine sx_seq ?_ | refine sx_ops rfl ?_ | refine sx_ret ?_ | refine sx_exit ?_ | refine sx_cond_t rfl ?_ | refine sx_cond_f rfl ?_) | refine sk_norm ?_ | refine sk_ret ?_ | refine sk_exit ?_ | refine bk_ret ?_ | refine bk_exit ?_ | refine lk_ret ?_ | refine lk_exit ?_
          refine fin_ret (v := .tup [.agg [.rd 0 [] true, .rd 0 [] true, .rd 0 [] true], .int .i64 63]) ?_ ?_
          · exact res_two (t := 4) (t2 := 5) rfl (Heap.get_set_self _ _ _) rfl rfl rfl
          · refine Or.inl ⟨?_, rfl⟩
            have h1 := (accL_mono n P.l (show i + 1 ≤ m by omega)).length_le
            rw [← hBx] at h1
            omega
    · have hi3 : i = A.length := by omega
      repeat' first | refine st_nil ?_ | (refine gw ?_; first | refine st_mv rx_ ?_ | (refine gq2 ?_; first | refine st_load_t rx_ ?_ | refine st_load_p rfl hg_ (by simp) b_ pv_ ?_) | (refine gq3 ?_; first | refine st_bin_t1 rx_ ?_ | refine st_bin_t2 rx_ ?_ | (refine st_lss rfl rfl rfl ?_ ?_ <;> (intro hc; try (exfalso; omega)))) | (refine gq13 ?_; first | refine st_store_t1 rx_ ?_ | refine st_store_t2 rx_ ?_ | refine st_store_p (v := AV.agg _) rfl rfl hg_ rfl rfl b_ sv_ ?_) | (refine gq6 ?_; first | refine st_len_t rx_ ?_ | refine st_len_app rv_ (by assumption) ?_)) | (refine gx ?_; first | refine sx_seq ?_ | refine sx_ops rfl ?_ | refine sx_ret ?_ | refine sx_exit ?_ | refine sx_cond_f rfl ?_) | refine sk_norm ?_ | refine sk_exit ?_ | refine bk_exit ?_ | refine lk_exit ?_
      have f1 := (hrn.set_ne (id := i4) (o := .cells 0 [P.mv Rw.sv, vn, vt]) fun e => hS.disj (i := 2) (j := 4) rfl rfl (by decide) i4 rfl e).fz (fun k => vn.rowId = some k ∨ vt.rowId = some k) (fun _ h => .inl h) (FzL.same _)
      have f2 := (hrt.set_ne (id := i4) (o := .cells 0 [P.mv Rw.sv, vn, vt]) fun e => hS.disj (i := 2) (j := 5) rfl rfl (by decide) i4 rfl e).fz (fun k => vn.rowId = some k ∨ vt.rowId = some k) (fun _ h => .inr h) (FzL.same _)
      refine fin_ret_fz (fun k => vn.rowId = some k ∨ vt.rowId = some k) (res_two (t := 4) (t2 := 5) rfl (Heap.get_set_self _ _ _) rfl rfl rfl) (.tup (.cons (.agg (.cons (.same _) (.cons f1 (.cons f2 .nil)))) (.cons (.same _) .nil))) ?_
      have hok : (Dfa.mk P ⟨rows.map fun r => ⟨r, false⟩, false⟩ ⟨ts, false⟩).plain.Ok := made_ok hat (by omega) (by omega) (by omega) (by omega) (fun r hr => by have := hrows r hr; rw [htl, hi3]; exact this) (fun t ht => (hts t ht).1)
      have hAm : accL n P.l m = A := by rw [hAx]; exact accL_stop n P.l (by rw [← hAx]; omega) (by omega)
      refine Or.inr ⟨by rw [hAm]; exact hA100, _, ?_, ?_, hok, wide_of hok ?_, hts⟩
      · simp only [Dfa.av, Rw.mv, Rw.iv, Rw.av, List.map_map, List.length_map, hrl, htl]
        rfl
      · show (⟨plainS P.l, plainI (rows.map fun r => Rw.mk r false), ts⟩ : PD) = mkPD n P.l m
        rw [mkPD, hAm, ← hi3, ← hrx, ← htx]
        congr 1
        simp only [plainI, List.map_map]
        exact List.map_id rows
      · have : catL (Dfa.mk P ⟨rows.map fun r => ⟨r, false⟩, false⟩ ⟨ts, false⟩).plain.parts = catS P.l := (catS_plain P.l).symm
        rw [this]; omega
end Go.Proofs.YtdldfflfbfpngaaGreatDoor
