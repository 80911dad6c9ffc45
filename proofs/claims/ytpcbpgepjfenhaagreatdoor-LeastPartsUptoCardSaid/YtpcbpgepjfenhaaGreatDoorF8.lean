/- The document's machine at one place: size, place, tag. The document's machine at one place: it may be, or there is none. -/
import Derived.Test.YtpcbpgepjfenhaaGreatDoorF4
import Derived.Test.YtpcbpgepjfenhaaGreatDoorCC
import Derived.Test.YtpcbpgepjfenhaaGreatDoorD3
import Derived.Test.YtpcbpgepjfenhaaGreatDoorD7
set_option linter.unusedVariables false
set_option linter.unusedSimpArgs false
namespace Go.Proofs.YtpcbpgepjfenhaaGreatDoor
open Go
set_option maxHeartbeats 4000000
theorem step1_len (n : Nfa) (a : List Int) (r : Int) : (step1 n a r).length ≤ n.k := by
 unfold step1; split
 ·exact closeN_length _ _
 ·simp
theorem start1_len (n : Nfa) : (start1 n).length ≤ n.k := by
 unfold start1; split
 ·exact closeN_length _ _
 ·simp
def tagOf1 (l : List Int) : Int := match l with
 | [] => -1
 | t :: _ => t
theorem tags1_mem {n : Nfa} {a : List Int} {t : Int} (h : t ∈ tags1 n a) : t ∈ n.tags.l := by
 unfold tags1 at h
 split at h
 ·obtain ⟨s, _, h0, h1, _, h2⟩ := tagsN_mem.1 h
  have hl : s.toNat < n.tags.l.length := by
   have : n.k = n.tags.l.length := rfl
   omega
  rw [← h2, List.getD_eq_getElem?_getD, List.getElem?_eq_getElem hl, Option.getD_some]
  exact List.getElem_mem hl
 ·cases h
theorem tagOf1_range {n : Nfa} (hn : ∀ t ∈ n.tags.l, -1 ≤ t ∧ t ≤ 5) (a : List Int) : -1 ≤ tagOf1 (tags1 n a) ∧ tagOf1 (tags1 n a) ≤ 5 := by
 have h := fun t (ht : t ∈ tags1 n a) => hn t (tags1_mem ht)
 cases e : tags1 n a with
 | nil => exact ⟨Int.le_refl _, by decide⟩
 | cons t l => exact h t (by rw [e]; simp)
attribute [local irreducible] wops xcode wcode seqK blockK loopK finK wcall wop wstp Runs
theorem rsize_ok {Φ : Lib} (L4 : LibC4 Φ) (L2 : C2Lib Φ) (l : List Span) (hl : l.length ≤ 1048576) (hw : ∀ s ∈ l, -9223372036854775808 ≤ s.hi) (fl : Bool) : Pure Φ 96 [.rd l.length (l.flatMap Span.av) fl] (.int .i64 (sizeF (normS l))) := by
 have h1 := rnorm_ok L2 l fl (by omega) hw
 have hlen := normS_length l
 have hr := fun s hs => normS_range (l := l) (s := s) hs
 refine runs_of (fun _ => false) rfl L4.f96 ?_
 repeat' first | refine st_nil ?_ | (refine gw ?_; first | (refine g0 ?_; first | refine st_mv (v := AV.int _ _) rfl ?_ | refine st_mv (v := AV.rd _ _ _) rfl ?_) | refine st_call rfl nt_ ?_) | (refine gx ?_; first | refine sx_seq ?_ | refine sx_ops rfl ?_ | refine sx_block ?_) | refine sk_norm ?_ | refine call_pure (by assumption) fz_ fz_ ?_
 generalize normS l = m at hlen hr
 refine sx_for m.length (fun i env h' => env.has [(3, .int .i64 (sizeF (m.take i))), (4, .rd m.length (m.flatMap Span.av) false), (5, .int .i64 i)]) hh_ ?_
 rintro i env h' hi he
 obtain ⟨env, rfl⟩ := he.ex
 clear he
 have hsz := sizeF_range (l := m.take i) fun s hs => hr s (List.mem_of_mem_take hs)
 rw [List.length_take] at hsz
 by_cases hi2 : i < m.length
 ·obtain ⟨s, hs⟩ := ex_get hi2
  have hsr := hr s (List.mem_of_getElem? hs)
  repeat' first | refine st_nil ?_ | (refine gw ?_; first | (refine g0 ?_; first | refine st_mv (v := AV.int _ _) rfl ?_ | refine st_mv (v := AV.rd _ _ _) rfl ?_) | refine st_load_r rfl b_ pv_ ?_ | (refine g3 ?_; first | refine st_add rfl rfl rfl (by omega) (by omega) ?_ | refine st_sub rfl rfl rfl (by omega) (by omega) ?_ | (refine st_lss rfl rfl rfl ?_ ?_ <;> (intro hc; try (exfalso; omega)))) | refine st_field_r rfl (by simp) rfl ?_ | refine st_index_flat' rfl fl_ rfl hs (by omega) rfl ?_ | refine st_len_rd rfl ?_) | (refine gx ?_; first | refine sx_seq ?_ | refine sx_ops rfl ?_ | refine sx_skip ?_ | refine sx_block ?_ | refine sx_cond_t rfl ?_) | refine sk_norm ?_ | refine bk_norm ?_
  refine lk_next hi2 ?_
  rw [take_snoc hs, sizeF_snoc]
  exact hh_
 ·rw [List.take_of_length_le (by omega)]
  repeat' first | refine st_nil ?_ | (refine gw ?_; first | (refine g0 ?_; first | refine st_mv (v := AV.int _ _) rfl ?_ | refine st_mv (v := AV.rd _ _ _) rfl ?_) | (refine st_lss rfl rfl rfl ?_ ?_ <;> (intro hc; try (exfalso; omega))) | refine st_len_rd rfl ?_) | (refine gx ?_; first | refine sx_seq ?_ | refine sx_ops rfl ?_ | refine sx_ret ?_ | refine sx_exit ?_ | refine sx_cond_f rfl ?_) | refine sk_norm ?_ | refine sk_exit ?_ | refine bk_exit ?_ | refine lk_exit ?_ | refine fin_ret (v := AV.int _ _) rfl ?_
  rfl
theorem place_app {Φ : Lib} (L : LibC3 Φ) (L4 : LibC4 Φ) {h : Heap} {v : AV} (A : List (List Int)) (hv : IsApp h v 1 A.length (A.map rowI)) (hA : A.length ≤ 1048576) (hAl : ∀ a ∈ A, a.length ≤ 1048576) (b : List Int) :
  Runs Φ 98 [v, rowI b] h (fun r h' => (∃ q : Nat, r = .int .i64 q ∧ q ≤ A.length) ∧ h.Ext h') := by
 have hnt := hv.notTup
 refine runs_of (fun _ => false) rfl L4.f98 ?_
 repeat' first | refine st_nil ?_ | refine st_mv (v := AV.int _ _) rfl ?_ | (refine gx ?_; first | refine sx_seq ?_ | refine sx_ops rfl ?_ | refine sx_block ?_) | refine sk_norm ?_
 refine sx_for A.length (fun i env h' => h' = h ∧ env.has [(0, v), (1, rowI b), (5, .int .i64 i)]) ⟨rfl, hh_⟩ ?_
 rintro i env _ hi ⟨rfl, he⟩
 obtain ⟨env, rfl⟩ := he.ex
 clear he
 by_cases hi2 : i < A.length
 ·obtain ⟨a, ha⟩ := ex_get hi2
  have hal := hAl a (List.mem_of_getElem? ha)
  have ha2 : (A.map rowI)[i]? = some (rowI a) := by rw [List.getElem?_map, ha]; rfl
  have ks := same11_ok L ⟨a, false⟩ ⟨b, false⟩ (by show a.length ≤ _; omega)
  repeat' first | refine st_nil ?_ | (refine gw ?_; first | (refine g0 ?_; first | refine st_mv (v := AV.int _ _) rfl ?_ | refine st_mv rv_ ?_) | (refine st_lss rfl rfl rfl ?_ ?_ <;> (intro hc; try (exfalso; omega))) | refine st_len_app rv_ (by assumption) ?_) | (refine gx ?_; first | refine sx_seq ?_ | refine sx_ops rfl ?_ | refine sx_skip ?_ | refine sx_block ?_ | refine sx_cond_t rfl ?_) | refine sk_norm ?_
  refine st_index_app rfl hv rfl rfl ha2 ?_
  intro p hp
  refine st_load_to rfl hp ?_
  by_cases hab : a = b
  ·rw [decide_eq_true hab] at ks
   repeat' first | refine st_nil ?_ | (refine gw ?_; first | (refine g0 ?_; first | refine st_mv (v := AV.int _ _) rfl ?_ | refine st_mv (v := AV.rd _ _ _) rfl ?_) | refine st_call rfl nt_ ?_) | (refine gx ?_; first | refine sx_seq ?_ | refine sx_ops rfl ?_ | refine sx_ret ?_ | refine sx_cond_t rfl ?_) | refine sk_norm ?_ | refine sk_ret ?_ | refine bk_ret ?_ | refine lk_ret ?_ | refine call_pure (by assumption) fz_ fz_ ?_
   refine fin_ret (v := .int .i64 i) rfl ⟨⟨i, rfl, by omega⟩, Heap.Ext.refl _⟩
  ·rw [decide_eq_false hab] at ks
   repeat' first | refine st_nil ?_ | (refine gw ?_; first | (refine g0 ?_; first | refine st_mv (v := AV.int _ _) rfl ?_ | refine st_mv (v := AV.rd _ _ _) rfl ?_) | refine st_add rfl rfl rfl (by omega) (by omega) ?_ | refine st_call rfl nt_ ?_) | (refine gx ?_; first | refine sx_ops rfl ?_ | refine sx_skip ?_ | refine sx_cond_f rfl ?_) | refine sk_norm ?_ | refine bk_norm ?_ | refine call_pure (by assumption) fz_ fz_ ?_
   exact lk_next hi2 ⟨rfl, hh_⟩
 ·repeat' first | refine st_nil ?_ | (refine gw ?_; first | (refine g0 ?_; first | refine st_mv (v := AV.int _ _) rfl ?_ | refine st_mv rv_ ?_) | (refine st_lss rfl rfl rfl ?_ ?_ <;> (intro hc; try (exfalso; omega))) | refine st_len_app rv_ (by assumption) ?_) | (refine gx ?_; first | refine sx_seq ?_ | refine sx_ops rfl ?_ | refine sx_ret ?_ | refine sx_exit ?_ | refine sx_cond_f rfl ?_) | refine sk_norm ?_ | refine sk_exit ?_ | refine bk_exit ?_ | refine lk_exit ?_
  refine fin_ret (v := .int .i64 A.length) rfl ⟨⟨_, rfl, Nat.le_refl _⟩, Heap.Ext.refl _⟩
theorem rtag1_ok {Φ : Lib} (L4 : LibC4 Φ) (L2 : C2Lib Φ) (n : Nfa) (hf : n.Fits) (a : List Int) (ha : a.length ≤ 1048576) : Pure Φ 99 [.agg n.av, rowI a] (.int .i64 (tagOf1 (tags1 n a))) := by
 have h1 := rtags_ok L2 n hf a false ha
 refine runs_of (fun _ => false) rfl L4.f99 ?_
 cases e : tags1 n a with
 | nil =>
  rw [e] at h1
  have hl0 : ([] : List Int).length = 0 := rfl
  repeat' first | refine st_nil ?_ | (refine gw ?_; first | (refine g0 ?_; first | refine st_mv (v := AV.int _ _) rfl ?_ | refine st_mv (v := AV.rd _ _ _) rfl ?_) | refine st_load_p rfl hg_ (by simp) b_ pv_ ?_ | (refine st_eql rfl rfl rfl ?_ ?_ <;> (intro hc; try (exfalso; omega))) | refine st_len_rd rfl ?_ | refine st_call rfl nt_ ?_ | (refine st_box (v := AV.agg _) rfl rfl ?_; intro id hid; try simp only [Heap.set_none] at hid)) | (refine gx ?_; first | refine sx_seq ?_ | refine sx_ops rfl ?_ | refine sx_ret ?_ | refine sx_cond_t rfl ?_) | refine sk_norm ?_ | refine sk_ret ?_ | refine call_pure (by assumption) fz_ fz_ ?_
  all_goals exact fin_ret (v := .int .i64 (-1)) rfl rfl
 | cons t l =>
  rw [e] at h1
  have ht : (t :: l)[0]? = some t := rfl
  have hl0 : (t :: l).length = l.length + 1 := rfl
  repeat' first | refine st_nil ?_ | (refine gw ?_; first | (refine g0 ?_; first | refine st_mv (v := AV.int _ _) rfl ?_ | refine st_mv (v := AV.rd _ _ _) rfl ?_) | (refine g2 ?_; first | refine st_load_r rfl b_ pv_ ?_ | refine st_load_p rfl hg_ (by simp) b_ pv_ ?_) | (refine st_eql rfl rfl rfl ?_ ?_ <;> (intro hc; try (exfalso; omega))) | refine st_index_map' rfl rfl ht (by omega) rfl ?_ | refine st_len_rd rfl ?_ | refine st_call rfl nt_ ?_ | (refine st_box (v := AV.agg _) rfl rfl ?_; intro id hid; try simp only [Heap.set_none] at hid)) | (refine gx ?_; first | refine sx_seq ?_ | refine sx_ops rfl ?_ | refine sx_skip ?_ | refine sx_ret ?_ | refine sx_cond_f rfl ?_) | refine sk_norm ?_ | refine call_pure (by assumption) fz_ fz_ ?_
  all_goals exact fin_ret (v := .int .i64 t) rfl rfl
end Go.Proofs.YtpcbpgepjfenhaaGreatDoor
set_option linter.unusedVariables false
set_option linter.unusedSimpArgs false
namespace Go.Proofs.YtpcbpgepjfenhaaGreatDoor
open Go
set_option maxHeartbeats 4000000
def setsT (E : List (Rw Edge)) : List (Rw Span) := E.flatMap fun r => r.l.map fun e => e.set
theorem setsT_length (E : List (Rw Edge)) : (setsT E).length = (E.map fun r => r.l.length).sum := by
 induction E with
 | nil => rfl
 | cons r E ih =>
  have e1 : setsT (r :: E) = (r.l.map fun e => e.set) ++ setsT E := rfl
  rw [e1, List.length_append, ih, List.length_map, List.map_cons, List.sum_cons]
theorem setsT_take_le (E : List (Rw Edge)) (i : Nat) : (setsT (E.take i)).length ≤ (setsT E).length := by
 have : setsT E = setsT (E.take i) ++ setsT (E.drop i) := by
  unfold setsT
  rw [← List.flatMap_append, List.take_append_drop]
 rw [this, List.length_append]
 omega
theorem setsT_snoc {E : List (Rw Edge)} {i : Nat} {r : Rw Edge} (h : E[i]? = some r) : setsT (E.take (i + 1)) = setsT (E.take i) ++ r.l.map fun e => e.set := by
 unfold setsT
 rw [take_snoc h, List.flatMap_append]
 simp
theorem setsT_mem {E : List (Rw Edge)} {s : Rw Span} (h : s ∈ setsT E) : ∃ r ∈ E, ∃ e ∈ r.l, e.set = s := by
 obtain ⟨r, hr, h2⟩ := List.mem_flatMap.1 h
 obtain ⟨e, he, rfl⟩ := List.mem_map.1 h2
 exact ⟨r, hr, e, he, rfl⟩
theorem catS_8 (l : List (Rw Span)) (h : ∀ s ∈ l, s.l.length ≤ 8) : (catS l).length ≤ 8 * l.length := by
 induction l with
 | nil => simp [catS]
 | cons s l ih =>
  have h1 := ih fun q hq => h q (by simp [hq])
  have h2 := h s (by simp)
  have e1 : catS (s :: l) = s.l ++ catS l := rfl
  rw [e1, List.length_append, List.length_cons]
  omega
theorem In.more {k m : Nat} {x : Int} (h : x = -1 ∨ In k x) (hm : k ≤ m) : x = -1 ∨ In m x := by
 rcases h with h | h
 ·exact .inl h
 ·right; unfold In at *; omega
attribute [local irreducible] wops xcode wcode seqK blockK loopK finK wcall wop wstp Runs
set_option maxRecDepth 100000 in
theorem rof11_ok {Φ : Lib} (L : LibC3 Φ) (L2 : C2Lib Φ) (L4 : LibC4 Φ) (n : Nfa) (hn : n.Ok) (hf : n.Fits) (hsm : n.Small) :
  Runs Φ 93 [.agg n.av, .int .i64 100] Heap.empty (fun v _ => (∃ e : Int, e ≠ 0 ∧ v = .tup [.agg [.rd 0 [] true, .rd 0 [] true, .rd 0 [] true], .int .i64 e]) ∨ ∃ d : Dfa, v = .tup [.agg d.av, .int .i64 0] ∧ d.plain.Ok ∧ d.Wide ∧ ∀ t ∈ d.tags.l, -1 ≤ t ∧ t ≤ 5) := by
 have hsd := rsound_ok L2 n hf
 rw [sound_ok_iff.2 hn] at hsd
 have hst := rstart_ok L2 n hf
 have hsl := start1_len n
 have hkn : n.k ≤ 2000 := hn.most
 generalize start1 n = st at *
 have hcnt := hsm.cnt
 rw [← setsT_length] at hcnt
 have hEl := hf.edges
 refine runs_of (fun o => o == some 57 || o == some 113) rfl L4.f93 ?_
 repeat' first | refine st_nil ?_ | (refine gw ?_; first | refine st_mv rx_ ?_ | (refine g2 ?_; first | refine st_load_t rx_ ?_ | refine st_load_p rfl hg_ (by simp) b_ pv_ ?_) | (refine g3 ?_; first | refine st_bin_t1 rx_ ?_ | (refine st_lss rfl rfl rfl ?_ ?_ <;> (intro hc; try (exfalso; omega))) | (refine st_gtr rfl rfl rfl ?_ ?_ <;> (intro hc; try (exfalso; omega)))) | refine st_gog rfl ?_ | refine st_pick_f (v := AV.bool _) rfl rfl ?_ | refine st_call rfl nt_ ?_ | (refine st_alloc ?_; intro id hid; try simp only [Heap.set_none] at hid) | (refine st_box (v := AV.agg _) rfl rfl ?_; intro id hid; try simp only [Heap.set_none] at hid) | refine st_not (b := true) rfl ?_) | (refine gx ?_; first | refine sx_seq ?_ | refine sx_ops rfl ?_ | refine sx_skip ?_ | refine sx_block ?_ | refine sx_cond_f rfl ?_) | refine sk_norm ?_ | refine call_pure (by assumption) fz_ fz_ ?_
 rename_i ib hib hc1
 obtain ⟨i4, rfl⟩ : ∃ x, x = id := ⟨_, rfl⟩
 have hi4 := hid
 have hS0 := (((Sep.old Heap.empty).new (o := .cells 0 n.av) hib).new (id := i4) (o := nil3) (by rw [Heap.get_set_ne _ _ hi4.1]; exact hi4.2)).nil 1
 refine sx_for n.edges.l.length (fun i env h' => ∃ v, Sep h' [cOld Heap.empty, cCell ib (.cells 0 n.av), cCell i4 nil3, cRow v 1 (setsT (n.edges.l.take i)).length ((setsT (n.edges.l.take i)).map Rw.sv)] ∧ env.has [(1, .int .i64 100), (2, .ptr ib 0 0), (4, .ptr i4 0 0), (6, v), (7, .int .i64 i)]) ⟨_, hS0, hh_⟩ ?_
 clear hS0
 rintro i env h' hi ⟨v, hS, he⟩
 have hb : h'.get ib = some (.cells 0 n.av) := hS.get (i := 1) rfl
 have hr6 : IsRow h' v 1 _ _ := hS.get (i := 3) rfl
 have hnt := hr6.notTup
 obtain ⟨env, rfl⟩ := he.ex
 clear he
 by_cases hi2 : i < n.edges.l.length
 ·obtain ⟨r, hr⟩ := ex_get hi2
  have hsn := setsT_snoc hr
  have hle := setsT_take_le n.edges.l (i + 1)
  have hl2 : (setsT (n.edges.l.take (i + 1))).length = (setsT (n.edges.l.take i)).length + r.l.length := by rw [hsn, List.length_append, List.length_map]
  repeat' first | refine st_nil ?_ | (refine gw ?_; first | refine st_mv rx_ ?_ | (refine g2 ?_; first | refine st_load_t rx_ ?_ | refine st_load_p rfl hg_ (by simp) b_ pv_ ?_) | (refine g3 ?_; first | refine st_bin_t1 rx_ ?_ | refine st_bin_t2 rx_ ?_ | (refine st_lss rfl rfl rfl ?_ ?_ <;> (intro hc; try (exfalso; omega)))) | (refine g6 ?_; first | refine st_len_t rx_ ?_ | refine st_len_rd rfl ?_) | (refine g4 ?_; first | refine st_field_t rx_ ?_ | refine st_field_p rfl (Nat.zero_add _) ?_)) | (refine gx ?_; first | refine sx_seq ?_ | refine sx_ops rfl ?_ | refine sx_skip ?_ | refine sx_block ?_ | refine sx_cond_t rfl ?_) | refine sk_norm ?_
  refine sx_for r.l.length (fun j env h' => ∃ v, Sep h' [cOld Heap.empty, cCell ib (.cells 0 n.av), cCell i4 nil3, cRow v 1 ((setsT (n.edges.l.take i)).length + j) ((setsT (n.edges.l.take i) ++ (r.l.take j).map fun e => e.set).map Rw.sv)] ∧ env.has [(1, .int .i64 100), (2, .ptr ib 0 0), (4, .ptr i4 0 0), (6, v), (7, .int .i64 i), (8, .int .i64 j)]) ⟨v, by simpa using hS, hh_⟩ ?_
  clear hS hb hr6 hnt
  rintro j env h' hj ⟨v, hS, he⟩
  have hb : h'.get ib = some (.cells 0 n.av) := hS.get (i := 1) rfl
  have hr6 : IsRow h' v 1 _ _ := hS.get (i := 3) rfl
  have hnt := hr6.notTup
  obtain ⟨env, rfl⟩ := he.ex
  clear he
  by_cases hj2 : j < r.l.length
  ·obtain ⟨e, he⟩ := ex_get hj2
   repeat' first | refine st_nil ?_ | (refine gw ?_; first | refine st_mv rx_ ?_ | (refine g2 ?_; first | refine st_load_t rx_ ?_ | refine st_load_r rfl b_ pv_ ?_ | refine st_load_p rfl hg_ (by simp) b_ pv_ ?_) | (refine g3 ?_; first | refine st_bin_t1 rx_ ?_ | refine st_bin_t2 rx_ ?_ | refine st_add rfl rfl rfl (by omega) (by omega) ?_ | (refine st_lss rfl rfl rfl ?_ ?_ <;> (intro hc; try (exfalso; omega)))) | (refine g5 ?_; first | refine st_index_t1 rx_ ?_ | refine st_index_t2 rx_ ?_ | refine st_index_map' rfl rfl hr (by omega) rfl ?_ | refine st_index_flat' rfl fl_ rfl he (by omega) rfl ?_) | (refine g6 ?_; first | refine st_len_t rx_ ?_ | refine st_len_rd rfl ?_) | (refine g14 ?_; first | refine st_append_t1 rx_ ?_ | refine st_append_t2 rx_ ?_ | (refine st_append (m := 1) rx_ ir_ rfl rfl (by omega) ?_; intro va hpa hra hka hria)) | (refine g4 ?_; first | refine st_field_t rx_ ?_ | refine st_field_p rfl (Nat.zero_add _) ?_ | refine st_field_r rfl (by simp) rfl ?_) | refine st_lit (cs := [AV.rd _ _ _]) rfl rfl ?_) | (refine gx ?_; first | refine sx_seq ?_ | refine sx_ops rfl ?_ | refine sx_skip ?_ | refine sx_block ?_ | refine sx_cond_t rfl ?_) | refine sk_norm ?_ | refine bk_norm ?_
   have hS2 := hS.upd 3 (cRow va 1 ((setsT (n.edges.l.take i)).length + (j + 1)) ((setsT (n.edges.l.take i) ++ (r.l.take j).map fun e => e.set).map Rw.sv ++ [e.set.sv])) rfl hra hka hria
   have e1 : (setsT (n.edges.l.take i) ++ (r.l.take (j + 1)).map fun e => e.set).map Rw.sv = (setsT (n.edges.l.take i) ++ (r.l.take j).map fun e => e.set).map Rw.sv ++ [e.set.sv] := by
    rw [take_snoc he]
    simp
   refine lk_next hj2 ⟨va, ?_, hh_⟩
   rw [e1]
   exact hS2
  ·have hj3 : j = r.l.length := by omega
   subst hj3
   repeat' first | refine st_nil ?_ | (refine gw ?_; first | refine st_mv rx_ ?_ | (refine g2 ?_; first | refine st_load_t rx_ ?_ | refine st_load_r rfl b_ pv_ ?_ | refine st_load_p rfl hg_ (by simp) b_ pv_ ?_) | (refine g3 ?_; first | refine st_bin_t1 rx_ ?_ | refine st_bin_t2 rx_ ?_ | refine st_add rfl rfl rfl (by omega) (by omega) ?_ | (refine st_lss rfl rfl rfl ?_ ?_ <;> (intro hc; try (exfalso; omega)))) | (refine g5 ?_; first | refine st_index_t1 rx_ ?_ | refine st_index_t2 rx_ ?_ | refine st_index_map' rfl rfl hr (by omega) rfl ?_) | (refine g6 ?_; first | refine st_len_t rx_ ?_ | refine st_len_rd rfl ?_) | (refine g4 ?_; first | refine st_field_t rx_ ?_ | refine st_field_p rfl (Nat.zero_add _) ?_)) | (refine gx ?_; first | refine sx_seq ?_ | refine sx_ops rfl ?_ | refine sx_exit ?_ | refine sx_cond_f rfl ?_) | refine sk_norm ?_ | refine sk_exit ?_ | refine bk_norm ?_ | refine bk_exit ?_ | refine lk_exit ?_
   refine lk_next hi2 ⟨v, ?_, hh_⟩
   rw [hl2, hsn]
   rw [List.take_of_length_le (Nat.le_refl _)] at hS
   exact hS
 ·have hi3 : i = n.edges.l.length := by omega
  subst hi3
  rw [List.take_of_length_le (Nat.le_refl _)] at hr6 hS
  repeat' first | refine st_nil ?_ | (refine gw ?_; first | refine st_mv rx_ ?_ | (refine g2 ?_; first | refine st_load_t rx_ ?_ | refine st_load_p rfl hg_ (by simp) b_ pv_ ?_) | (refine g3 ?_; first | refine st_bin_t1 rx_ ?_ | refine st_bin_t2 rx_ ?_ | (refine st_lss rfl rfl rfl ?_ ?_ <;> (intro hc; try (exfalso; omega)))) | (refine g6 ?_; first | refine st_len_t rx_ ?_ | refine st_len_rd rfl ?_) | (refine g4 ?_; first | refine st_field_t rx_ ?_ | refine st_field_p rfl (Nat.zero_add _) ?_)) | (refine gx ?_; first | refine sx_seq ?_ | refine sx_ops rfl ?_ | refine sx_exit ?_ | refine sx_cond_f rfl ?_) | refine sk_norm ?_ | refine sk_exit ?_ | refine bk_exit ?_ | refine lk_exit ?_
  refine sx_freeze 6 (v := v) rfl rfl hr6 ?_
  intro h1 hk1
  have hS1 := hS.drop 3 (h' := h1) rfl hk1
  clear hr6 hS hk1 hb
  have hb : h1.get ib = some (.cells 0 n.av) := hS1.get (i := 1) rfl
  have hset8 : ∀ s ∈ setsT n.edges.l, s.l.length ≤ 8 := fun s hs => by
   obtain ⟨r, hr, e, he, rfl⟩ := setsT_mem hs
   exact hsm.few r hr e he
  have hcat := catS_8 _ hset8
  have q1 := of10_ok L L2 ⟨setsT n.edges.l, false⟩ (by show (setsT n.edges.l).length ≤ _; omega) (fun s hs => ⟨by have := hset8 s hs; omega, fun x hx => by
   obtain ⟨r, hr, e, he, rfl⟩ := setsT_mem hs
   exact hf.spans r hr e he x hx⟩) (by show (catS (setsT n.edges.l)).length ≤ _; omega)
  have hat : Ats (setsT n.edges.l) (ofR (setsT n.edges.l)).l := (atoms_ok (setsT n.edges.l)).ats.sub (sortR_perm _)
  have hPc := hat.cat
  have hPl := hat.count
  rw [edgesU_length] at hPc
  have hPc : (catS (ofR (setsT n.edges.l)).l).length ≤ 642 := by omega
  have hPl : (ofR (setsT n.edges.l)).l.length ≤ 642 := by omega
  simp only at q1
  generalize ofR (setsT n.edges.l) = P at *
  repeat' first | refine st_nil ?_ | (refine gw ?_; first | refine st_mv rx_ ?_ | (refine g2 ?_; first | refine st_load_t rx_ ?_ | refine st_load_p rfl hg_ (by simp) b_ pv_ ?_) | (refine g13 ?_; first | refine st_store_t1 rx_ ?_ | refine st_store_t2 rx_ ?_ | refine st_store_s (cs' := [AV.rd _ _ _, AV.rd _ _ _, AV.rd _ _ _]) rfl rfl rfl rfl b_ rfl ?_) | refine st_call rfl nt_ ?_ | (refine st_alloc ?_; intro id hid; try simp only [Heap.set_none] at hid) | refine st_build (cs := [AV.rd _ _ _, AV.rd _ _ _, AV.rd _ _ _]) rfl ?_ | refine st_lit (cs := [AV.rd _ _ _]) rfl rfl ?_) | (refine gx ?_; first | refine sx_seq ?_ | refine sx_ops rfl ?_ | refine sx_block ?_) | refine sk_norm ?_ | refine call_pure (by assumption) fz_ fz_ ?_
  obtain ⟨i9, rfl⟩ : ∃ x, x = id := ⟨_, rfl⟩
  have hS2 := (((hS1.new (o := .cells 0 [P.mv Rw.sv, .rd 0 [] true, .rd 0 [] true]) hid).nil 1).nil 1).add (cApp (.rd 1 [rowI st] true) 1 1 [rowI st]) (IsApp.lit rfl) (fun _ _ => rfl) (fun k hk => by cases hk)
  refine sx_for 100 (fun i env h' => ∃ (vn vt v10 : AV) (A rows : List (List Int)) (ts : List Int), i ≤ A.length ∧ A.length ≤ 100 ∧ 1 ≤ A.length ∧ rows.length = i ∧ ts.length = i ∧ (∀ a ∈ A, a.length ≤ n.k) ∧ (∀ r ∈ rows, r.length = P.l.length ∧ ∀ x ∈ r, x = -1 ∨ In A.length x) ∧ (∀ t ∈ ts, -1 ≤ t ∧ t ≤ 5) ∧ Sep h' [cOld Heap.empty, cCell ib (.cells 0 n.av), cCell i4 nil3, cCell i9 (.cells 0 [P.mv Rw.sv, vn, vt]), cRow vn 1 i (rows.map rowI), cRow vt 1 i (ts.map (.int .i64)), cApp v10 1 A.length (A.map rowI)] ∧ env.has [(1, .int .i64 100), (2, .ptr ib 0 0), (4, .ptr i4 0 0), (9, .ptr i9 0 0), (10, v10), (11, .int .i64 i)]) ⟨_, _, _, [st], [], [], by simp, by simp, by simp, rfl, rfl, by simpa using hsl, by simp, by simp, hS2, hh_⟩ ?_
  clear hS2 hS1 hb hid
  rintro i env h' hi ⟨vn, vt, v10, A, rows, ts, hiA, hA100, hA1, hrl, htl, hAk, hrows, hts, hS, he⟩
  have hb : h'.get ib = some (.cells 0 n.av) := hS.get (i := 1) rfl
  have h4 : h'.get i4 = some nil3 := hS.get (i := 2) rfl
  have h9 : h'.get i9 = some (.cells 0 [P.mv Rw.sv, vn, vt]) := hS.get (i := 3) rfl
  have hrn : IsRow h' vn 1 i _ := hS.get (i := 4) rfl
  have hrt : IsRow h' vt 1 i _ := hS.get (i := 5) rfl
  have happ : IsApp h' v10 1 A.length _ := hS.get (i := 6) rfl
  have hnn := hrn.notTup
  have hnt := hrt.notTup
  have hna := happ.notTup
  obtain ⟨env, rfl⟩ := he.ex
  clear he
  by_cases hi2 : i < A.length
  ·obtain ⟨a, ha⟩ := ex_get hi2
   have hal := hAk a (List.mem_of_getElem? ha)
   repeat' first | refine st_nil ?_ | (refine gw ?_; first | refine st_mv rx_ ?_ | (refine g3 ?_; first | refine st_bin_t1 rx_ ?_ | refine st_bin_t2 rx_ ?_ | (refine st_lss rfl rfl rfl ?_ ?_ <;> (intro hc; try (exfalso; omega)))) | (refine g6 ?_; first | refine st_len_t rx_ ?_ | refine st_len_app rv_ (by assumption) ?_)) | (refine gx ?_; first | refine sx_seq ?_ | refine sx_ops rfl ?_ | refine sx_skip ?_ | refine sx_block ?_ | refine sx_cond_t rfl ?_) | refine sk_norm ?_
   refine sx_for P.l.length (fun j env h' => ∃ (v10 vr : AV) (B : List (List Int)) (xs : List Int), A.length ≤ B.length ∧ B.length ≤ 100 + j ∧ B[i]? = some a ∧ (∀ b ∈ B, b.length ≤ n.k) ∧ xs.length = j ∧ (∀ x ∈ xs, x = -1 ∨ In B.length x) ∧ Sep h' [cOld Heap.empty, cCell ib (.cells 0 n.av), cCell i4 nil3, cCell i9 (.cells 0 [P.mv Rw.sv, vn, vt]), cRow vn 1 i (rows.map rowI), cRow vt 1 i (ts.map (.int .i64)), cApp v10 1 B.length (B.map rowI), cRow vr 1 j (xs.map (.int .i64))] ∧ env.has [(1, .int .i64 100), (2, .ptr ib 0 0), (4, .ptr i4 0 0), (9, .ptr i9 0 0), (10, v10), (11, .int .i64 i), (12, vr), (13, .int .i64 j)]) ⟨v10, _, A, [], Nat.le_refl _, by omega, ha, hAk, rfl, by simp, hS.nil 1, hh_⟩ ?_
   clear hS hb h4 h9 hrn hrt happ hna
   rintro j env h' hj ⟨v10, vr, B, xs, hAB, hB, hBi, hBk, hxl, hxs, hS, he⟩
   have hb : h'.get ib = some (.cells 0 n.av) := hS.get (i := 1) rfl
   have h4 : h'.get i4 = some nil3 := hS.get (i := 2) rfl
   have h9 : h'.get i9 = some (.cells 0 [P.mv Rw.sv, vn, vt]) := hS.get (i := 3) rfl
   have happ : IsApp h' v10 1 B.length _ := hS.get (i := 6) rfl
   have hrr : IsRow h' vr 1 j _ := hS.get (i := 7) rfl
   have hna := happ.notTup
   have hnr := hrr.notTup
   have ha2 : (B.map rowI)[i]? = some (rowI a) := by rw [List.getElem?_map, hBi]; rfl
   obtain ⟨env, rfl⟩ := he.ex
   clear he
   by_cases hj2 : j < P.l.length
   ·obtain ⟨p, hp⟩ := ex_get hj2
    have hpne := (hat.good p (List.mem_of_getElem? hp)).1
    obtain ⟨s, hs⟩ := ex_get (l := p.l) (i := 0) (List.length_pos_iff.2 hpne)
    have hstep := rstep_ok L2 n hf a false (by omega) s.lo
    have hstl := step1_len n a s.lo
    generalize step1 n a s.lo = to at hstep hstl
    repeat' first | refine st_nil ?_ | (refine gw ?_; first | refine st_mv rx_ ?_ | (refine g2 ?_; first | refine st_load_t rx_ ?_ | refine st_load_p rfl hg_ (by simp) b_ pv_ ?_) | (refine g3 ?_; first | refine st_bin_t1 rx_ ?_ | refine st_bin_t2 rx_ ?_ | (refine st_lss rfl rfl rfl ?_ ?_ <;> (intro hc; try (exfalso; omega)))) | (refine g5 ?_; first | refine st_index_t1 rx_ ?_ | refine st_index_t2 rx_ ?_) | (refine g6 ?_; first | refine st_len_t rx_ ?_ | refine st_len_rd rfl ?_) | (refine g4 ?_; first | refine st_field_t rx_ ?_ | refine st_field_p rfl (Nat.zero_add _) ?_)) | (refine gx ?_; first | refine sx_seq ?_ | refine sx_ops rfl ?_ | refine sx_skip ?_ | refine sx_block ?_ | refine sx_cond_t rfl ?_) | refine sk_norm ?_
    refine st_index_app rfl happ rfl rfl ha2 ?_
    intro pp hpp
    refine st_load_to rfl hpp ?_
    by_cases hto : 0 < to.length
    ·have hpl := place_app L L4 B happ (by omega) (fun b hb => by have := hBk b hb; omega) to
     repeat' first | refine st_nil ?_ | (refine gw ?_; first | refine st_mv rx_ ?_ | (refine g2 ?_; first | refine st_load_t rx_ ?_ | refine st_load_r rfl b_ pv_ ?_ | refine st_load_p rfl hg_ (by simp) b_ pv_ ?_) | (refine g3 ?_; first | refine st_bin_t1 rx_ ?_ | (refine st_gtr rfl rfl rfl ?_ ?_ <;> (intro hc; try (exfalso; omega)))) | (refine g5 ?_; first | refine st_index_t1 rx_ ?_ | refine st_index_t2 rx_ ?_ | refine st_index_map' rfl rfl hp (by omega) rfl ?_ | refine st_index_flat' rfl fl_ rfl hs (by omega) rfl ?_) | (refine g6 ?_; first | refine st_len_t rx_ ?_ | refine st_len_rd rfl ?_) | (refine g4 ?_; first | refine st_field_t rx_ ?_ | refine st_field_p rfl (Nat.zero_add _) ?_ | refine st_field_r rfl (by simp) rfl ?_) | refine st_call rfl nt_ ?_) | (refine gx ?_; first | refine sx_seq ?_ | refine sx_ops rfl ?_ | refine sx_cond_t rfl ?_) | refine sk_norm ?_ | refine call_pure (by assumption) fz_ fz_ ?_
     refine call_any hpl ?_
     rintro _ h2 ⟨⟨q, rfl, hq⟩, hext⟩
     have hS2 := hS.ext (h' := h2) fun k hk => by
      cases e : h'.get k with
      | none => exact absurd e hk
      | some o => exact hext k o e
     clear hS hb h4 h9 happ hrr hext hpl hpp
     have happ : IsApp h2 v10 1 B.length _ := hS2.get (i := 6) rfl
     by_cases hqB : q = B.length
     ·subst hqB
      repeat' first | refine st_nil ?_ | (refine gw ?_; first | refine st_mv rx_ ?_ | (refine g3 ?_; first | refine st_bin_t1 rx_ ?_ | refine st_bin_t2 rx_ ?_ | (refine st_eql rfl rfl rfl ?_ ?_ <;> (intro hc; try (exfalso; omega)))) | (refine g6 ?_; first | refine st_len_t rx_ ?_ | refine st_len_app rv_ (by assumption) ?_) | (refine g14 ?_; first | refine st_append_t1 rx_ ?_ | refine st_append_t2 rx_ ?_ | (refine st_append_app (m := 1) rv_ (by first | assumption | exact IsApp.new (by assumption) (by assumption) | fail) rfl (by exact rfl) rfl (by omega) ?_; intro va hpa hra hka hria)) | (refine g16 ?_; first | refine st_lit (cs := [AV.int _ _]) rfl rfl ?_ | refine st_lit (cs := [AV.rd _ _ _]) rfl rfl ?_)) | (refine gx ?_; first | refine sx_seq ?_ | refine sx_ops rfl ?_ | refine sx_cond_t rfl ?_) | refine sk_norm ?_
      have hS3 := hS2.upd 6 (cApp va 1 (B.length + 1) (B.map rowI ++ [rowI to])) rfl hra hka hria
      have hrr : IsRow hpa vr 1 j _ := hS3.get (i := 7) rfl
      have hna2 := hra.notTup
      clear hS2 happ hra hka hria
      obtain ⟨vb, rfl⟩ : ∃ x, x = va := ⟨_, rfl⟩
      repeat' first | refine st_nil ?_ | (refine gw ?_; first | refine st_mv rx_ ?_ | (refine g3 ?_; first | refine st_bin_t1 rx_ ?_ | refine st_add rfl rfl rfl (by omega) (by omega) ?_) | (refine st_append (m := 1) rx_ ir_ rfl rfl (by omega) ?_; intro va hpa hra hka hria)) | refine sx_ops rfl ?_ | refine sk_norm ?_ | refine bk_norm ?_
      have hS4 := hS3.upd 7 (cRow va 1 (j + 1) (xs.map (.int .i64) ++ [.int .i64 B.length])) rfl hra hka hria
      refine lk_next hj2 ⟨vb, va, B ++ [to], xs ++ [(B.length : Int)], by simp; omega, by simp; omega, ?_, fun b hb => ?_, by simp [hxl], fun x hx => ?_, ?_, hh_⟩
      ·rw [List.getElem?_append_left (lt_of_getElem? hBi)]; exact hBi
      ·rcases List.mem_append.1 hb with hb | hb
       ·exact hBk b hb
       ·simp only [List.mem_singleton] at hb; subst hb; exact hstl
      ·rcases List.mem_append.1 hx with hx | hx
       ·exact In.more (hxs x hx) (by simp)
       ·simp only [List.mem_singleton] at hx; subst hx
        right; unfold In; simp; omega
      ·rw [List.map_append, List.map_append, List.length_append]
       exact hS4
     ·have hrr : IsRow h2 vr 1 j _ := hS2.get (i := 7) rfl
      repeat' first | refine st_nil ?_ | (refine gw ?_; first | refine st_mv rx_ ?_ | (refine g3 ?_; first | refine st_bin_t1 rx_ ?_ | refine st_bin_t2 rx_ ?_ | refine st_add rfl rfl rfl (by omega) (by omega) ?_ | (refine st_eql rfl rfl rfl ?_ ?_ <;> (intro hc; try (exfalso; omega)))) | (refine g6 ?_; first | refine st_len_t rx_ ?_ | refine st_len_app rv_ (by assumption) ?_) | (refine g14 ?_; first | refine st_append_t1 rx_ ?_ | refine st_append_t2 rx_ ?_ | (refine st_append (m := 1) rx_ ir_ rfl rfl (by omega) ?_; intro va hpa hra hka hria)) | refine st_lit (cs := [AV.int _ _]) rfl rfl ?_) | (refine gx ?_; first | refine sx_seq ?_ | refine sx_ops rfl ?_ | refine sx_skip ?_ | refine sx_cond_f rfl ?_) | refine sk_norm ?_ | refine bk_norm ?_
      have hS3 := hS2.upd 7 (cRow va 1 (j + 1) (xs.map (.int .i64) ++ [.int .i64 q])) rfl hra hka hria
      refine lk_next hj2 ⟨v10, va, B, xs ++ [(q : Int)], hAB, by omega, hBi, hBk, by simp [hxl], fun x hx => ?_, ?_, hh_⟩
      ·rcases List.mem_append.1 hx with hx | hx
       ·exact hxs x hx
       ·simp only [List.mem_singleton] at hx; subst hx
        right; unfold In; omega
      ·rw [List.map_append]
       exact hS3
    ·repeat' first | refine st_nil ?_ | (refine gw ?_; first | refine st_mv rx_ ?_ | (refine g2 ?_; first | refine st_load_t rx_ ?_ | refine st_load_r rfl b_ pv_ ?_ | refine st_load_p rfl hg_ (by simp) b_ pv_ ?_) | (refine g3 ?_; first | refine st_bin_t1 rx_ ?_ | refine st_bin_t2 rx_ ?_ | refine st_add rfl rfl rfl (by omega) (by omega) ?_ | (refine st_gtr rfl rfl rfl ?_ ?_ <;> (intro hc; try (exfalso; omega))) | (refine st_eql rfl rfl rfl ?_ ?_ <;> (intro hc; try (exfalso; omega)))) | (refine g5 ?_; first | refine st_index_t1 rx_ ?_ | refine st_index_t2 rx_ ?_ | refine st_index_map' rfl rfl hp (by omega) rfl ?_ | refine st_index_flat' rfl fl_ rfl hs (by omega) rfl ?_) | (refine g6 ?_; first | refine st_len_t rx_ ?_ | refine st_len_rd rfl ?_ | refine st_len_app rv_ (by assumption) ?_) | (refine g14 ?_; first | refine st_append_t1 rx_ ?_ | refine st_append_t2 rx_ ?_ | (refine st_append (m := 1) rx_ ir_ rfl rfl (by omega) ?_; intro va hpa hra hka hria)) | (refine g4 ?_; first | refine st_field_t rx_ ?_ | refine st_field_p rfl (Nat.zero_add _) ?_ | refine st_field_r rfl (by simp) rfl ?_) | refine st_call rfl nt_ ?_ | refine st_lit (cs := [AV.int _ _]) rfl rfl ?_) | (refine gx ?_; first | refine sx_seq ?_ | refine sx_ops rfl ?_ | refine sx_skip ?_ | refine sx_cond_f rfl ?_) | refine sk_norm ?_ | refine bk_norm ?_ | refine call_pure (by assumption) fz_ fz_ ?_
     have hS3 := hS.upd 7 (cRow va 1 (j + 1) (xs.map (.int .i64) ++ [.int .i64 (-1)])) rfl hra hka hria
     refine lk_next hj2 ⟨v10, va, B, xs ++ [-1], hAB, by omega, hBi, hBk, by simp [hxl], fun x hx => ?_, ?_, hh_⟩
     ·rcases List.mem_append.1 hx with hx | hx
      ·exact hxs x hx
      ·simp only [List.mem_singleton] at hx; subst hx
       exact .inl rfl
     ·rw [List.map_append]
      exact hS3
   ·have hj3 : j = P.l.length := by omega
    subst hj3
    by_cases hB2 : B.length ≤ 100
    ·have ktag := rtag1_ok L4 L2 n hf a (by omega)
     have htr := tagOf1_range hsm.tags a
     generalize tagOf1 (tags1 n a) = tg at ktag htr
     repeat' first | refine st_nil ?_ | (refine gw ?_; first | refine st_mv rx_ ?_ | (refine g2 ?_; first | refine st_load_t rx_ ?_ | refine st_load_p rfl hg_ (by simp) b_ pv_ ?_) | (refine g3 ?_; first | refine st_bin_t1 rx_ ?_ | refine st_bin_t2 rx_ ?_ | (refine st_lss rfl rfl rfl ?_ ?_ <;> (intro hc; try (exfalso; omega))) | (refine st_gtr rfl rfl rfl ?_ ?_ <;> (intro hc; try (exfalso; omega)))) | (refine g6 ?_; first | refine st_len_t rx_ ?_ | refine st_len_rd rfl ?_ | refine st_len_app rv_ (by assumption) ?_) | (refine g4 ?_; first | refine st_field_t rx_ ?_ | refine st_field_p rfl (Nat.zero_add _) ?_)) | (refine gx ?_; first | refine sx_seq ?_ | refine sx_ops rfl ?_ | refine sx_skip ?_ | refine sx_exit ?_ | refine sx_cond_f rfl ?_) | refine sk_norm ?_ | refine sk_exit ?_ | refine bk_exit ?_ | refine lk_exit ?_
     refine sx_freeze 12 (v := vr) rfl rfl hrr ?_
     intro h3 hk3
     have hS2 := hS.drop 7 (h' := h3) rfl hk3
     clear hS hb h4 h9 happ hrr hk3
     have h9 : h3.get i9 = some (.cells 0 [P.mv Rw.sv, vn, vt]) := hS2.get (i := 3) rfl
     have hrn2 : IsRow h3 vn 1 i _ := hS2.get (i := 4) rfl
     repeat' first | (refine gw ?_; first | refine st_mv rx_ ?_ | (refine g2 ?_; first | refine st_load_t rx_ ?_ | refine st_load_p rfl hg_ (by simp) b_ pv_ ?_) | (refine g13 ?_; first | refine st_store_t1 rx_ ?_ | refine st_store_t2 rx_ ?_) | (refine g14 ?_; first | refine st_append_t1 rx_ ?_ | refine st_append_t2 rx_ ?_ | (refine st_append (m := 1) rx_ ir_ rfl rfl (by omega) ?_; intro va hpa hra hka hria)) | (refine g4 ?_; first | refine st_field_t rx_ ?_ | refine st_field_p rfl (Nat.zero_add _) ?_) | refine st_lit (cs := [AV.rd _ _ _]) rfl rfl ?_)
     have hS3 := hS2.upd 4 (cRow va 1 (i + 1) (rows.map rowI ++ [.rd P.l.length (xs.map (.int .i64)) false])) rfl hra hka hria
     have h9b : hpa.get i9 = some (.cells 0 [P.mv Rw.sv, vn, vt]) := hS3.get (i := 3) rfl
     refine st_store_row (v := va) (cs' := [P.mv Rw.sv, va, vt]) rfl rfl hra h9b (by simp) rfl ?_
     have hS4 := hS3.put 3 (.cells 0 [P.mv Rw.sv, va, vt]) rfl
     have h9c : (hpa.set i9 (.cells 0 [P.mv Rw.sv, va, vt])).get i9 = some (.cells 0 [P.mv Rw.sv, va, vt]) := hS4.get (i := 3) rfl
     have hbc : (hpa.set i9 (.cells 0 [P.mv Rw.sv, va, vt])).get ib = some (.cells 0 n.av) := hS4.get (i := 1) rfl
     have hrt4 : IsRow (hpa.set i9 (.cells 0 [P.mv Rw.sv, va, vt])) vt 1 i _ := hS4.get (i := 5) rfl
     have happ4 : IsApp (hpa.set i9 (.cells 0 [P.mv Rw.sv, va, vt])) v10 1 B.length _ := hS4.get (i := 6) rfl
     have hnn2 := hra.notTup
     clear hS2 hS3 h9 h9b hrn2 hra hka hria
     obtain ⟨vn2, rfl⟩ : ∃ x, x = va := ⟨_, rfl⟩
     repeat' first | refine st_nil ?_ | (refine gw ?_; first | refine st_mv rx_ ?_ | (refine g2 ?_; first | refine st_load_t rx_ ?_ | refine st_load_p rfl hg_ (by simp) b_ pv_ ?_) | (refine g5 ?_; first | refine st_index_t1 rx_ ?_ | refine st_index_t2 rx_ ?_) | (refine g4 ?_; first | refine st_field_t rx_ ?_ | refine st_field_p rfl (Nat.zero_add _) ?_)) | refine sx_ops rfl ?_ | refine sk_norm ?_
     refine st_index_app rfl happ4 rfl rfl ha2 ?_
     intro pp hpp
     refine st_load_to rfl hpp ?_
     repeat' first | (refine gw ?_; first | (refine g13 ?_; first | refine st_store_t1 rx_ ?_ | refine st_store_t2 rx_ ?_) | (refine g14 ?_; first | refine st_append_t1 rx_ ?_ | refine st_append_t2 rx_ ?_ | (refine st_append (m := 1) rx_ ir_ rfl rfl (by omega) ?_; intro va hpa hra hka hria)) | (refine g4 ?_; first | refine st_field_t rx_ ?_ | refine st_field_p rfl (Nat.zero_add _) ?_) | refine st_call rfl nt_ ?_ | refine st_lit (cs := [AV.int _ _]) rfl rfl ?_) | refine call_pure (by assumption) fz_ fz_ ?_
     have hS5 := hS4.upd 5 (cRow va 1 (i + 1) (ts.map (.int .i64) ++ [.int .i64 tg])) rfl hra hka hria
     have h9d : hpa.get i9 = some (.cells 0 [P.mv Rw.sv, vn2, vt]) := hS5.get (i := 3) rfl
     refine st_store_row (v := va) (cs' := [P.mv Rw.sv, vn2, va]) rfl rfl hra h9d (by simp) rfl ?_
     have hS6 := hS5.put 3 (.cells 0 [P.mv Rw.sv, vn2, va]) rfl
     repeat' first | refine st_nil ?_ | (refine gw ?_; first | refine st_mv rx_ ?_ | (refine g3 ?_; first | refine st_bin_t1 rx_ ?_ | refine st_add rfl rfl rfl (by omega) (by omega) ?_)) | refine sx_ops rfl ?_ | refine sk_norm ?_ | refine bk_norm ?_
     refine lk_next (by omega) ⟨vn2, va, v10, B, rows ++ [xs], ts ++ [tg], by omega, hB2, by omega, by simp [hrl], by simp [htl], hBk, fun r hr => ?_, fun t ht => ?_, ?_, hh_⟩
     ·rcases List.mem_append.1 hr with hr | hr
      ·exact ⟨(hrows r hr).1, fun x hx => In.more ((hrows r hr).2 x hx) hAB⟩
      ·simp only [List.mem_singleton] at hr; subst hr; exact ⟨hxl, hxs⟩
     ·rcases List.mem_append.1 ht with ht | ht
      ·exact hts t ht
      ·simp only [List.mem_singleton] at ht; subst ht; exact htr
     ·rw [List.map_append, List.map_append, List.map_singleton, List.map_singleton, show rowI xs = .rd P.l.length (xs.map (.int .i64)) false by rw [← hxl]]
      exact hS6
    ·repeat' first | refine st_nil ?_ | (refine gw ?_; first | refine st_mv rx_ ?_ | (refine g2 ?_; first | refine st_load_t rx_ ?_ | refine st_load_p rfl hg_ (by simp) b_ pv_ ?_) | (refine g3 ?_; first | refine st_bin_t1 rx_ ?_ | refine st_bin_t2 rx_ ?_ | (refine st_lss rfl rfl rfl ?_ ?_ <;> (intro hc; try (exfalso; omega))) | (refine st_gtr rfl rfl rfl ?_ ?_ <;> (intro hc; try (exfalso; omega)))) | (refine g13 ?_; first | refine st_store_t1 rx_ ?_ | refine st_store_t2 rx_ ?_ | refine st_store_p (v := AV.agg _) rfl rfl hg_ rfl rfl b_ sv_ ?_) | (refine g6 ?_; first | refine st_len_t rx_ ?_ | refine st_len_rd rfl ?_ | refine st_len_app rv_ (by assumption) ?_) | (refine g4 ?_; first | refine st_field_t rx_ ?_ | refine st_field_p rfl (Nat.zero_add _) ?_) | refine st_build (cs := [AV.rd _ _ _, AV.rd _ _ _, AV.rd _ _ _]) rfl ?_) | (refine gx ?_; first | refine sx_seq ?_ | refine sx_ops rfl ?_ | refine sx_ret ?_ | refine sx_exit ?_ | refine sx_cond_t rfl ?_ | refine sx_cond_f rfl ?_) | refine sk_norm ?_ | refine sk_ret ?_ | refine sk_exit ?_ | refine bk_ret ?_ | refine bk_exit ?_ | refine lk_ret ?_ | refine lk_exit ?_
     refine fin_ret (v := .tup [.agg [.rd 0 [] true, .rd 0 [] true, .rd 0 [] true], .int .i64 63]) ?_ ?_
     ·exact res_two (t := 4) (t2 := 5) rfl (Heap.get_set_self _ _ _) rfl rfl rfl
     ·exact Or.inl ⟨63, by decide, rfl⟩
  ·have hi3 : i = A.length := by omega
   repeat' first | refine st_nil ?_ | (refine gw ?_; first | refine st_mv rx_ ?_ | (refine g2 ?_; first | refine st_load_t rx_ ?_ | refine st_load_p rfl hg_ (by simp) b_ pv_ ?_) | (refine g3 ?_; first | refine st_bin_t1 rx_ ?_ | refine st_bin_t2 rx_ ?_ | (refine st_lss rfl rfl rfl ?_ ?_ <;> (intro hc; try (exfalso; omega)))) | (refine g13 ?_; first | refine st_store_t1 rx_ ?_ | refine st_store_t2 rx_ ?_ | refine st_store_p (v := AV.agg _) rfl rfl hg_ rfl rfl b_ sv_ ?_) | (refine g6 ?_; first | refine st_len_t rx_ ?_ | refine st_len_app rv_ (by assumption) ?_)) | (refine gx ?_; first | refine sx_seq ?_ | refine sx_ops rfl ?_ | refine sx_ret ?_ | refine sx_exit ?_ | refine sx_cond_f rfl ?_) | refine sk_norm ?_ | refine sk_exit ?_ | refine bk_exit ?_ | refine lk_exit ?_
   have f1 := (hrn.set_ne (id := i4) (o := .cells 0 [P.mv Rw.sv, vn, vt]) fun e => hS.disj (i := 2) (j := 4) rfl rfl (by decide) i4 rfl e).fz (fun k => vn.rowId = some k ∨ vt.rowId = some k) (fun _ h => .inl h) (FzL.same _)
   have f2 := (hrt.set_ne (id := i4) (o := .cells 0 [P.mv Rw.sv, vn, vt]) fun e => hS.disj (i := 2) (j := 5) rfl rfl (by decide) i4 rfl e).fz (fun k => vn.rowId = some k ∨ vt.rowId = some k) (fun _ h => .inr h) (FzL.same _)
   refine fin_ret_fz (fun k => vn.rowId = some k ∨ vt.rowId = some k) (res_two (t := 4) (t2 := 5) rfl (Heap.get_set_self _ _ _) rfl rfl rfl) (.tup (.cons (.agg (.cons (.same _) (.cons f1 (.cons f2 .nil)))) (.cons (.same _) .nil))) ?_
   have hok : (Dfa.mk P ⟨rows.map fun r => ⟨r, false⟩, false⟩ ⟨ts, false⟩).plain.Ok := made_ok hat (by omega) (by omega) (by omega) (by omega) (fun r hr => by have := hrows r hr; rw [htl, hi3]; exact this) (fun t ht => (hts t ht).1)
   refine Or.inr ⟨_, ?_, hok, wide_of hok ?_, hts⟩
   ·simp only [Dfa.av, Rw.mv, Rw.iv, Rw.av, List.map_map, List.length_map, hrl, htl]
    rfl
   ·have : catL (Dfa.mk P ⟨rows.map fun r => ⟨r, false⟩, false⟩ ⟨ts, false⟩).plain.parts = catS P.l := (catS_plain P.l).symm
    rw [this]; omega
end Go.Proofs.YtpcbpgepjfenhaaGreatDoor
