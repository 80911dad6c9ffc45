/- set.Norm. The document's sets: the plain law. -/
import Derived.Test.YtdldfflfbfpngaaGreatDoorD1
import Derived.Test.YtdldfflfbfpngaaGreatDoorB2
import Derived.Test.YtdldfflfbfpngaaGreatDoorA7
set_option linter.unusedVariables false
set_option linter.unusedSimpArgs false
namespace Go.Proofs.YtdldfflfbfpngaaGreatDoor
open Go
set_option maxHeartbeats 4000000
attribute [local irreducible] wops xcode wcode seqK blockK loopK finK wcall wop wstp Runs
structure SortLib (Φ : Lib) : Prop where
 spans : Φ 48 = some (.ext (extSortPairs 49))
 ints : Φ 42 = some (.ext extSortInts)
def normS (l : List Span) : List Span := mergeS ((l.flatMap piecesOf).mergeSort (fun a b => decide (a.lo ≤ b.lo)))
theorem pieces_le {l : List Span} : ∀ s ∈ l.flatMap piecesOf, s.lo ≤ s.hi := by
 intro s hs
 obtain ⟨a, _, ha⟩ := List.mem_flatMap.1 hs
 simp only [piecesOf, List.mem_append] at ha
 rcases ha with ha | ha <;> · split at ha <;> simp at ha <;> subst ha <;> assumption
theorem pieces_hi {l : List Span} : ∀ s ∈ l.flatMap piecesOf, 0 ≤ s.hi ∧ s.hi ≤ 1114111 := by
 intro s hs
 have := pieces_le s hs
 obtain ⟨a, _, ha⟩ := List.mem_flatMap.1 hs
 simp only [piecesOf, List.mem_append] at ha
 rcases ha with ha | ha <;> · split at ha <;> simp at ha <;> subst ha <;> simp only [lowOf, highOf] at * <;> omega
theorem inS_perm {l m : List Span} (h : l.Perm m) (x : Int) : inS l x ↔ inS m x := by
 simp only [inS, h.mem_iff]
theorem normS_of {l p : List Span} (hp : p.Perm (l.flatMap piecesOf)) (hs : p.Pairwise (fun a b => a.lo ≤ b.lo)) : mergeS p = normS l := by
 have hq : ((l.flatMap piecesOf).mergeSort (fun a b => decide (a.lo ≤ b.lo))).Pairwise (fun a b => a.lo ≤ b.lo) := by
  have := List.pairwise_mergeSort (le := fun a b : Span => decide (a.lo ≤ b.lo)) (fun a b c h1 h2 => by simp at *; omega) (fun a b => by simp; omega) (l.flatMap piecesOf)
  exact this.imp (by intro a b h; simpa using h)
 obtain ⟨a1, a2⟩ := mergeS_canon hs (fun s h => pieces_le s (hp.mem_iff.1 h))
 obtain ⟨b1, b2⟩ := mergeS_canon hq (fun s h => pieces_le s ((List.mergeSort_perm _ _).mem_iff.1 h))
 refine canon_unique a1 b1 fun x => ?_
 rw [a2 x, show inS (normS l) x ↔ _ from b2 x]
 exact inS_perm (hp.trans (List.mergeSort_perm _ _).symm) x
theorem pieces_two (s : Span) : (piecesOf s).length ≤ 2 := by
 simp only [piecesOf, List.length_append]
 split <;> split <;> simp
theorem pairCells_av (l : List Span) : pairCells (l.map fun s => (s.lo, s.hi)) = l.flatMap Span.av := by
 simp only [pairCells, List.flatMap_map]; rfl
def mergeO (out : List Span) (s : Span) : List Span := match out.getLast? with
 | some a => if s.lo ≤ a.hi + 1 then out.set (out.length - 1) ⟨a.lo, max a.hi s.hi⟩ else out ++ [s]
 | none => [s]
theorem mergeO_ok (r : List Span) (s : Span) : mergeO r.reverse s = (mergeR r s).reverse := by
 cases r with
 | nil => rfl
 | cons a r =>
  simp only [mergeO, mergeR, List.reverse_cons, List.getLast?_append, List.getLast?_singleton, Option.some_or]
  split
  ·simp
  ·simp
theorem sort_spans_row {Φ : Lib} (S : SortLib Φ) {h : Heap} {v : AV} {all : List Span} (hrow : IsRow h v 2 all.length (all.flatMap Span.av)) (hp2 : all.length ≤ 2097152) : Runs Φ 48 [v, .fn 49 []] h (fun _ h2 => ∃ p : List Span, p.Perm all ∧ p.Pairwise (fun a b => a.lo ≤ b.lo) ∧ IsRow h2 v 2 p.length (p.flatMap Span.av)) := by
 refine Runs.ext rfl S.spans ?_
 rcases hrow with ⟨rfl, h1, h2⟩ | ⟨id, g, rfl, h2, h3, h4⟩
 ·have : all = [] := List.eq_nil_of_length_eq_zero h1
  subst this
  exact ⟨rfl, rfl, rfl, rfl, [], List.Perm.refl _, List.Pairwise.nil, IsRow.nil _ _⟩
 ·refine ⟨rfl, rfl, all.flatMap Span.av, all.map fun s => (s.lo, s.hi), h2, rfl, by omega, by omega, by rw [pairCells_av, Nat.zero_mul, List.drop_zero, ← h4, List.take_length], fun l' hq hr => ?_⟩
  refine ⟨l'.map fun x => ⟨x.1, x.2⟩, ?_, ?_, .inr ⟨id, g, ?_, ?_, h3, ?_⟩⟩
  ·have h5 := hq.map (fun x : Int × Int => Span.mk x.1 x.2)
   have e : (all.map fun s => (s.lo, s.hi)).map (fun x : Int × Int => Span.mk x.1 x.2) = all := by
    rw [List.map_map]; exact List.map_id _
   rwa [e] at h5
  ·rw [List.pairwise_map]
   exact hr
  ·have := hq.length_eq
   simp at this
   simp [this]
  ·rw [Heap.get_set_self]
   have e1 : pairCells l' = (l'.map fun x => Span.mk x.1 x.2).flatMap Span.av := by
    rw [← pairCells_av, List.map_map]
    congr 1
    exact (List.map_id _).symm
   rw [← e1, Nat.zero_mul, List.take_zero, List.nil_append, Nat.zero_add, ← h4, List.drop_length, List.append_nil]
  ·exact flat_length Span.av 2 Span.av_length (l'.map fun x => ⟨x.1, x.2⟩)
theorem norm_ok {Φ : Lib} (L : C1Lib Φ) (S : SortLib Φ) (l : List Span) (hl : l.length ≤ 1048576) (fl : Bool) : Pure Φ 38 [.rd l.length (l.flatMap Span.av) fl] (.rd (normS l).length ((normS l).flatMap Span.av) false) := by
 refine runs_of (fun _ => false) rfl L.f38 ?_
 repeat' first | refine st_nil ?_ | (refine gw ?_; first | (refine gq0 ?_; first | refine st_mv (v := AV.int _ _) rfl ?_ | refine st_mv (v := AV.rd _ _ _) rfl ?_) | refine st_len_rd rfl ?_) | (refine gx ?_; first | refine sx_seq ?_ | refine sx_ops rfl ?_ | refine sx_block ?_) | refine sk_norm ?_
 have hp : ∀ (k : List Span), k.length ≤ l.length → (k.flatMap piecesOf).length ≤ 2097152 := fun k hk => by
  have : ∀ k : List Span, (k.flatMap piecesOf).length ≤ 2 * k.length := fun k => by
   induction k with
   | nil => simp
   | cons a k ih => have := pieces_two a; simp only [List.flatMap_cons, List.length_append, List.length_cons]; omega
  have := this k
  omega
 refine sx_loop (fun n env h' => ∃ (i : Nat) (v : AV), n = l.length - i ∧ i ≤ l.length ∧ IsRow h' v 2 ((l.take i).flatMap piecesOf).length (((l.take i).flatMap piecesOf).flatMap Span.av) ∧ env.has [(3, v), (4, .rd 0 [] true), (10, .rd l.length (l.flatMap Span.av) fl), (11, .int .i64 l.length), (12, .int .i64 i)]) l.length ⟨0, _, rfl, by omega, IsRow.nil _ _, rfl, rfl, rfl, rfl, rfl, trivial⟩ ?_
 rintro n env h' ⟨i, v, rfl, hi, hrow, he⟩
 obtain ⟨env, rfl⟩ := he.ex
 clear he
 have hnt := hrow.notTup
 by_cases hi2 : i < l.length
 ·obtain ⟨a, ha⟩ : ∃ a, l[i]? = some a := ⟨_, List.getElem?_eq_getElem hi2⟩
  repeat' first | refine st_nil ?_ | (refine gw ?_; first | refine st_mv rv_ ?_ | (refine gq2 ?_; first | refine st_load_ra rfl (by first | rfl | (simp [*]; done) | fail) ?_ | refine st_load_p rfl hg_ (by simp) b_ pv_ ?_) | (refine st_lss rfl rfl rfl ?_ ?_ <;> (intro hc; try (exfalso; omega))) | refine st_index_flat rfl fl_ rfl rfl (by assumption) rfl ?_ | refine st_call rfl nt_ ?_ | (refine st_alloc ?_; intro id hid; try simp only [Heap.set_none] at hid) | refine st_store_s (cs' := [AV.int _ _, AV.int _ _]) rfl rfl rfl rfl b_ rfl ?_) | (refine gx ?_; first | refine sx_seq ?_ | refine sx_ops rfl ?_ | refine sx_skip ?_ | refine sx_block ?_ | refine sx_cond_t rfl ?_) | refine sk_norm ?_
  refine call_pure (pieces_ok L a) rfl rfl ?_
  repeat' first | refine st_call rfl nt_ ?_
  have hrow2 : IsRow (h'.set id (.cells 0 [.int .i64 a.lo, .int .i64 a.hi])) v 2 ((l.take i).flatMap piecesOf).length (((l.take i).flatMap piecesOf).flatMap Span.av) := hrow.keep fun k hk => Heap.get_set_ne _ _ (fun e => hrow.disj hid (e ▸ hk))
  refine call_any (appendSeq_ok L (pieces_iter L a) hrow2 (by have := hp (l.take i) (by simp; omega); have := pieces_two a; omega)) ?_
  intro v' h2 hrow3
  repeat' first | refine st_nil ?_ | (refine gw ?_; first | (refine gq0 ?_; first | refine st_mv (v := AV.int _ _) rfl ?_ | refine st_mv rv_ ?_) | refine st_add rfl rfl rfl (by omega) (by omega) ?_) | refine sx_ops rfl ?_ | refine sk_norm ?_ | refine bk_norm ?_
  refine lk_norm (l.length - (i + 1)) (by omega) ⟨i + 1, v', rfl, by omega, ?_, rfl, rfl, rfl, rfl, rfl, trivial⟩
  have e : (l.take (i + 1)).flatMap piecesOf = (l.take i).flatMap piecesOf ++ piecesOf a := by
   rw [List.take_add_one, ha]
   simp
  rw [e, List.length_append, List.flatMap_append]
  exact hrow3
 ·repeat' first | refine st_nil ?_ | (refine gw ?_; first | refine st_mv rv_ ?_ | (refine st_lss rfl rfl rfl ?_ ?_ <;> (intro hc; try (exfalso; omega))) | refine st_call rfl nt_ ?_) | (refine gx ?_; first | refine sx_seq ?_ | refine sx_ops rfl ?_ | refine sx_exit ?_ | refine sx_cond_f rfl ?_) | refine sk_norm ?_ | refine sk_exit ?_ | refine bk_exit ?_ | refine lk_exit ?_
  rw [List.take_of_length_le (by omega)] at hrow
  have hp2 := hp l (Nat.le_refl _)
  generalize he : l.flatMap piecesOf = all at hrow hp2
  refine call_any (sort_spans_row S hrow hp2) ?_
  rintro _ h2 ⟨p, hperm, hsort, hrow2⟩
  have hlen : p.length = all.length := hperm.length_eq
  have hbd : ∀ s ∈ p, 0 ≤ s.hi ∧ s.hi ≤ 1114111 := fun s hs => by
   have h1 : s ∈ l.flatMap piecesOf := he ▸ hperm.mem_iff.1 hs
   have := pieces_hi s h1
   exact this
  clear hrow
  repeat' first | refine st_nil ?_ | (refine gw ?_; first | (refine gq0 ?_; first | refine st_mv (v := AV.int _ _) rfl ?_ | refine st_mv rv_ ?_) | refine st_len_row rv_ (by assumption) ?_) | (refine gx ?_; first | refine sx_seq ?_ | refine sx_ops rfl ?_ | refine sx_skip ?_ | refine sx_block ?_) | refine sk_norm ?_
  refine sx_for p.length (fun i env h' => ∃ vo out, out = ((p.take i).foldl mergeR []).reverse ∧ out.length ≤ i ∧ (∀ s ∈ out, 0 ≤ s.hi ∧ s.hi ≤ 1114111) ∧ IsRow h' v 2 p.length (p.flatMap Span.av) ∧ IsRow h' vo 2 out.length (out.flatMap Span.av) ∧ (∀ k, v.rowId = some k → vo.rowId ≠ some k) ∧ env.has [(4, vo), (23, v), (24, .int .i64 p.length), (25, .int .i64 i)]) ⟨_, [], rfl, by simp, by simp, hrow2, IsRow.nil _ _, (fun _ _ => by simp [AV.rowId]), hh_⟩ ?_
  rintro i env h' hi ⟨vo, out, hout, hol, hob, hrv, hro, hdis, he'⟩
  obtain ⟨env, rfl⟩ := he'.ex
  clear he' hrow2
  have hp' : ∀ {id : Nat} {o : DObj} {h2 : Heap}, h'.get id = none → (∀ k, (h'.set id o).get k ≠ none → vo.rowId ≠ some k → h2.get k = (h'.set id o).get k) → IsRow h2 v 2 p.length (p.flatMap Span.av) := fun hid hk =>
   (hrv.new hid).keep fun k hk' => hk k ((hrv.new hid).there hk') (hdis k hk')
  have hq : ∀ {id : Nat} {o : DObj} {va : AV}, h'.get id = none → (∀ k, va.rowId = some k → vo.rowId = some k ∨ (h'.set id o).get k = none) → ∀ k, v.rowId = some k → va.rowId ≠ some k := fun hid hk k hk1 hk2 => by
   rcases hk k hk2 with h | h
   ·exact hdis k hk1 h
   ·exact (hrv.new hid).there hk1 h
  by_cases hi2 : i < p.length
  ·obtain ⟨a, ha⟩ := ex_get hi2
   have hab := hbd a (List.mem_of_getElem? ha)
   have hnext : ((p.take (i + 1)).foldl mergeR []).reverse = mergeO out a := by
    rw [take_snoc ha, List.foldl_append, hout, mergeO_ok]
    rfl
   rcases hb : out[out.length - 1]? with _ | b
   ·have h0 : out = [] := by
     rw [List.getElem?_eq_none_iff] at hb
     exact List.eq_nil_of_length_eq_zero (by omega)
    have h00 : out.length = 0 := by rw [h0]; rfl
    repeat' first | refine st_nil ?_ | (refine gw ?_; first | (refine gq0 ?_; first | refine st_mv (v := AV.int _ _) rfl ?_ | refine st_mv (v := AV.bool _) rfl ?_ | refine st_mv rv_ ?_) | refine st_skipg rfl ?_ | (refine gq2 ?_; first | refine st_load_flat (g := _) rfl hg_ (by assumption) fl_ eq_ ?_ | refine st_load_p rfl hg_ (by simp) b_ pv_ ?_) | (refine gq3 ?_; first | refine st_add rfl rfl rfl (by omega) (by omega) ?_ | (refine st_lss rfl rfl rfl ?_ ?_ <;> (intro hc; try (exfalso; omega))) | (refine st_gtr rfl rfl rfl ?_ ?_ <;> (intro hc; try (exfalso; omega)))) | (refine st_index_row rv_ (by assumption) rfl (by omega) (by omega) ?_; intro ir gr hvr hgr hgp; have hner := Heap.ne_of hgr; have hner2 := Heap.ne_of2 hgr) | refine st_len_row rv_ (by assumption) ?_ | refine st_pick_f (v := AV.bool _) rfl rfl ?_ | (refine st_alloc ?_; intro id hid; try simp only [Heap.set_none] at hid) | refine st_store_s (cs' := [AV.int _ _, AV.int _ _]) rfl rfl rfl rfl b_ rfl ?_ | (refine st_append (m := 1) rv_ ir_ rfl rfl (by omega) ?_; intro va hpa hra hka hria) | refine st_lit (cs := [AV.int _ _, AV.int _ _]) rfl rfl ?_) | (refine gx ?_; first | refine sx_seq ?_ | refine sx_ops rfl ?_ | refine sx_skip ?_ | refine sx_block ?_ | refine sx_cond_t rfl ?_ | refine sx_cond_f rfl ?_) | refine sk_norm ?_ | refine bk_norm ?_
    have hnew := hp' hid hka
    refine lk_next hi2 ⟨va, out ++ [a], ?_, by simp; omega, ?_, ?_, by simpa [Span.av] using hra, ?_, hh_⟩
    ·rw [hnext, h0]; rfl
    ·intro s hs
     rcases List.mem_append.1 hs with hs | hs
     ·exact hob s hs
     ·simp only [List.mem_singleton] at hs
      subst hs; exact hab
    ·exact hnew
    ·exact hq hid hria
   ·have hbb := hob b (List.mem_of_getElem? hb)
    have hol2 := lt_of_getElem? hb
    have hlast : out.getLast? = some b := by rw [List.getLast?_eq_getElem?, hb]
    repeat' first | refine st_nil ?_ | (refine gw ?_; first | (refine gq0 ?_; first | refine st_mv (v := AV.int _ _) rfl ?_ | refine st_mv (v := AV.bool _) rfl ?_ | refine st_mv rv_ ?_) | refine st_gog rfl ?_ | (refine gq2 ?_; first | refine st_load_flat (g := _) rfl hg_ (by assumption) fl_ eq_ ?_ | refine st_load_flat1 (e := 2) (j := 1) (g := _) rfl hg_ (by assumption) fl_ eq_ (by decide) rfl ?_ | refine st_load_p rfl hg_ (by simp) b_ pv_ ?_) | (refine gq3 ?_; first | refine st_add rfl rfl rfl (by omega) (by omega) ?_ | refine st_sub rfl rfl rfl (by omega) (by omega) ?_ | (refine st_lss rfl rfl rfl ?_ ?_ <;> (intro hc; try (exfalso; omega))) | (refine st_leq rfl rfl rfl ?_ ?_ <;> (intro hc; try (exfalso; omega))) | (refine st_gtr rfl rfl rfl ?_ ?_ <;> (intro hc; try (exfalso; omega)))) | (refine gq4 ?_; first | refine st_field_p rfl (Nat.zero_add _) ?_ | refine st_field_p rfl rfl ?_) | (refine st_index_row rv_ (by assumption) rfl (by omega) (by omega) ?_; intro ir gr hvr hgr hgp; have hner := Heap.ne_of hgr; have hner2 := Heap.ne_of2 hgr) | refine st_len_row rv_ (by assumption) ?_ | refine st_pick_t (v := AV.bool _) rfl rfl ?_ | (refine st_alloc ?_; intro id hid; try simp only [Heap.set_none] at hid) | refine st_store_s (cs' := [AV.int _ _, AV.int _ _]) rfl rfl rfl rfl b_ rfl ?_ | (refine st_append (m := 1) rv_ ir_ rfl rfl (by omega) ?_; intro va hpa hra hka hria) | refine st_lit (cs := [AV.int _ _, AV.int _ _]) rfl rfl ?_ | refine st_mx rfl rfl rfl ?_) | (refine gx ?_; first | refine sx_seq ?_ | refine sx_ops rfl ?_ | refine sx_skip ?_ | refine sx_block ?_ | refine sx_cond_t rfl ?_ | refine sx_cond_f rfl ?_) | refine sk_norm ?_ | refine bk_norm ?_
    ·refine st_store_flat1 (e := 2) (j := 1) (a' := ⟨b.lo, max b.hi a.hi⟩) rfl rfl hg_ hb Span.av_length (by omega) (by decide) rfl rfl rfl ?_
     repeat' first | refine st_nil ?_ | (refine gw ?_; first | refine st_mv (v := AV.int _ _) rfl ?_ | refine st_add rfl rfl rfl (by omega) (by omega) ?_) | (refine gx ?_; first | refine sx_ops rfl ?_ | refine sx_exit ?_) | refine sk_norm ?_ | refine sk_exit ?_ | refine bk_exit ?_
     have hvir : v.rowId ≠ some ir := fun e => hdis _ e (by rw [hvr]; rfl)
     have hvid : v.rowId ≠ some id := hrv.disj hid
     refine lk_next hi2 ⟨vo, mergeO out a, hnext.symm, ?_, ?_, ?_, ?_, hdis, hh_⟩
     ·simp only [mergeO, hlast]
      rw [if_pos (by omega)]
      simp; omega
     ·intro s hs
      simp only [mergeO, hlast] at hs
      rw [if_pos (by omega)] at hs
      rcases List.mem_or_eq_of_mem_set hs with hs | rfl
      ·exact hob s hs
      ·show 0 ≤ max b.hi a.hi ∧ max b.hi a.hi ≤ 1114111
       omega
     ·exact (hrv.set_ne hvid).set_ne hvir
     ·simp only [mergeO, hlast]
      rw [if_pos (by omega), List.length_set]
      exact IsRow.set_row hvr hgp (by rw [flat_length Span.av 2 Span.av_length, List.length_set])
    ·have hnew := hp' hid hka
     refine lk_next hi2 ⟨va, out ++ [a], ?_, by simp; omega, ?_, ?_, by simpa [Span.av] using hra, ?_, hh_⟩
     ·rw [hnext]
      simp only [mergeO, hlast]
      rw [if_neg (by omega)]
     ·intro s hs
      rcases List.mem_append.1 hs with hs | hs
      ·exact hob s hs
      ·simp only [List.mem_singleton] at hs
       subst hs; exact hab
     ·exact hnew
     ·exact hq hid hria
  ·repeat' first | refine st_nil ?_ | (refine gw ?_; first | refine st_mv rv_ ?_ | (refine st_lss rfl rfl rfl ?_ ?_ <;> (intro hc; try (exfalso; omega)))) | (refine gx ?_; first | refine sx_seq ?_ | refine sx_ops rfl ?_ | refine sx_ret ?_ | refine sx_exit ?_ | refine sx_cond_f rfl ?_) | refine sk_norm ?_ | refine sk_exit ?_ | refine bk_exit ?_ | refine lk_exit ?_
   rw [List.take_of_length_le (by omega)] at hout
   refine fin_ret_fz (fun k => vo.rowId = some k) rfl (hro.fz _ (fun _ h => h) (FzL.same _)) ?_
   rw [← normS_of (he ▸ hperm) hsort, mergeS, ← hout]
end Go.Proofs.YtdldfflfbfpngaaGreatDoor
set_option linter.unusedVariables false
set_option linter.unusedSectionVars false
namespace Go.Proofs.YtdldfflfbfpngaaGreatDoor
open Go
def scal (x : Int) : Bool := decide (0 ≤ x) && decide (x ≤ 1114111) && (decide (x < 55296) || decide (57343 < x))
theorem scal_iff {x : Int} : scal x = true ↔ 0 ≤ x ∧ x ≤ 1114111 ∧ (x < 55296 ∨ 57343 < x) := by
 simp [scal, and_assoc]
def hasR (l : List Span) (x : Int) : Bool := scal x && l.any fun s => decide (s.lo ≤ x) && decide (x ≤ s.hi)
def layS (l : List Int) (x : Int) : List Int := match l with
 | [] => [x]
 | a :: l => if a < x then a :: layS l x else if a = x then a :: l else x :: a :: l
theorem layS_mem {l : List Int} {x y : Int} : y ∈ layS l x ↔ y = x ∨ y ∈ l := by
 induction l with
 | nil => simp [layS]
 | cons a l ih =>
  simp only [layS]
  split
  ·simp only [List.mem_cons, ih]
   constructor <;> (rintro (h | h | h) <;> simp [h])
  ·split
   ·rename_i h
    subst h
    simp
   ·simp
theorem layS_rises {l : List Int} {x : Int} (hl : l.Pairwise (· < ·)) : (layS l x).Pairwise (· < ·) := by
 induction l with
 | nil => simp [layS]
 | cons a l ih =>
  have h := List.pairwise_cons.1 hl
  simp only [layS]
  split
  ·refine List.pairwise_cons.2 ⟨fun b hb => ?_, ih h.2⟩
   rcases layS_mem.1 hb with rfl | hb
   ·assumption
   ·exact h.1 b hb
  ·split
   ·exact hl
   ·refine List.pairwise_cons.2 ⟨fun b hb => ?_, hl⟩
    rcases List.mem_cons.1 hb with rfl | hb
    ·omega
    ·have := h.1 b hb
     omega
theorem layS_split {x : Int} : ∀ {a b : List Int}, (∀ y ∈ a, y < x) → layS (a ++ b) x = a ++ layS b x
 | [], _, _ => rfl
 | c :: a, b, h => by
  rw [List.cons_append, layS, if_pos (h c (by simp)), layS_split (fun y hy => h y (List.mem_cons_of_mem _ hy))]
  rfl
theorem layS_at {l : List Int} {x : Int} {i : Nat} (h : ∀ y ∈ l.take i, y < x) : layS l x = l.take i ++ layS (l.drop i) x := by
 rw [← layS_split h, List.take_append_drop]
theorem layS_length (l : List Int) (x : Int) : (layS l x).length ≤ l.length + 1 := by
 induction l with
 | nil => simp [layS]
 | cons a l ih =>
  simp only [layS]
  split
  ·simp; omega
  ·split <;> simp
def edgeOf (out : List Int) (s : Span) : List Int :=
 let o := if scal s.lo = true then layS out s.lo else out
 if s.hi < 1114111 ∧ scal (s.hi + 1) = true then layS o (s.hi + 1) else o
def edgesS (l : List Span) : List Int := l.foldl edgeOf [0, 57344]
theorem edgeOf_mem {out : List Int} {s : Span} {y : Int} : y ∈ edgeOf out s ↔ y ∈ out ∨ (scal s.lo = true ∧ y = s.lo) ∨ (s.hi < 1114111 ∧ scal (s.hi + 1) = true ∧ y = s.hi + 1) := by
 unfold edgeOf
 by_cases h1 : scal s.lo = true <;> by_cases h2 : s.hi < 1114111 ∧ scal (s.hi + 1) = true
 ·simp only [h1, h2, if_true, and_self, layS_mem, true_and]
  constructor <;> (rintro (h | h | h) <;> simp [h])
 ·have h3 : ¬ (s.hi < 1114111 ∧ scal (s.hi + 1) = true ∧ y = s.hi + 1) := fun h => h2 ⟨h.1, h.2.1⟩
  simp only [h1, h2, h3, if_true, if_false, layS_mem, true_and, or_false]
  exact Or.comm
 ·simp only [h1, h2, if_true, and_self, layS_mem, true_and]
  constructor <;> (rintro (h | h) <;> simp_all)
 ·have h3 : ¬ (s.hi < 1114111 ∧ scal (s.hi + 1) = true ∧ y = s.hi + 1) := fun h => h2 ⟨h.1, h.2.1⟩
  simp [h1, h2, h3]
theorem edgeOf_rises {out : List Int} {s : Span} (h : out.Pairwise (· < ·)) : (edgeOf out s).Pairwise (· < ·) := by
 simp only [edgeOf]
 split <;> split <;> first | exact layS_rises (layS_rises h) | exact layS_rises h | exact h
theorem edgesS_ok (l : List Span) : ∀ out : List Int, out.Pairwise (· < ·) → (l.foldl edgeOf out).Pairwise (· < ·) ∧ ∀ y, y ∈ l.foldl edgeOf out ↔ y ∈ out ∨ ∃ s ∈ l, (scal s.lo = true ∧ y = s.lo) ∨ (s.hi < 1114111 ∧ scal (s.hi + 1) = true ∧ y = s.hi + 1) := by
 induction l with
 | nil => intro out h; exact ⟨h, fun y => by simp⟩
 | cons s l ih =>
  intro out h
  obtain ⟨h1, h2⟩ := ih _ (edgeOf_rises h (s := s))
  refine ⟨h1, fun y => ?_⟩
  rw [List.foldl_cons, h2 y, edgeOf_mem]
  simp only [List.mem_cons, exists_eq_or_imp, or_assoc]
theorem edgesS_rises (l : List Span) : (edgesS l).Pairwise (· < ·) := (edgesS_ok l _ (by simp)).1
theorem edgesS_mem {l : List Span} {y : Int} : y ∈ edgesS l ↔ (y = 0 ∨ y = 57344) ∨ ∃ s ∈ l, (scal s.lo = true ∧ y = s.lo) ∨ (s.hi < 1114111 ∧ scal (s.hi + 1) = true ∧ y = s.hi + 1) := by
 rw [edgesS, (edgesS_ok l _ (by simp)).2 y]
 simp
def sameAt (a : List Span) (x y : Int) : Prop := ∀ s ∈ a, (s.lo ≤ x ∧ x ≤ s.hi) ↔ (s.lo ≤ y ∧ y ≤ s.hi)
theorem hasR_same {a : List Span} {x y : Int} (h : sameAt a x y) (hx : scal x = true) (hy : scal y = true) : hasR a x = hasR a y := by
 simp only [hasR, hx, hy, Bool.true_and]
 rw [Bool.eq_iff_iff]
 simp only [List.any_eq_true, Bool.and_eq_true, decide_eq_true_eq]
 exact ⟨fun ⟨s, hs, k⟩ => ⟨s, hs, (h s hs).1 k⟩, fun ⟨s, hs, k⟩ => ⟨s, hs, (h s hs).2 k⟩⟩
theorem same_between {a : List Span} {e x : Int} (he : scal e = true) (hx : scal x = true) (hle : e ≤ x) (hside : x < 55296 ∨ 57343 < e) (hno : ∀ y ∈ edgesS a, ¬ (e < y ∧ y ≤ x)) : sameAt a e x := by
 rw [scal_iff] at he hx
 intro s hs
 have n1 : ¬ (e < s.lo ∧ s.lo ≤ x) := fun h => hno s.lo (edgesS_mem.2 (.inr ⟨s, hs, .inl ⟨scal_iff.2 (by omega), rfl⟩⟩)) h
 have n2 : ¬ (e < s.hi + 1 ∧ s.hi + 1 ≤ x) := fun h => hno (s.hi + 1) (edgesS_mem.2 (.inr ⟨s, hs, .inr ⟨by omega, scal_iff.2 (by omega), rfl⟩⟩)) h
 omega
def cutAt (e : List Int) (i : Nat) : Span :=
 let hi := if i + 1 < e.length then e.getD (i + 1) 0 - 1 else 1114111
 ⟨e.getD i 0, if e.getD i 0 < 55296 then min hi 55295 else hi⟩
def adjR (r : List Span) (s : Span) : List Span := match r with
 | [] => [s]
 | a :: r => if a.hi = s.lo - 1 then ⟨a.lo, s.hi⟩ :: r else s :: a :: r
theorem adjR_ok {r : List Span} {s : Span} (hr : CanonR r) (hs : s.lo ≤ s.hi) (hlo : ∀ a ∈ r, a.hi < s.lo) : CanonR (adjR r s) ∧ (∀ x, inS (adjR r s) x ↔ inS r x ∨ (s.lo ≤ x ∧ x ≤ s.hi)) ∧ ∀ a ∈ adjR r s, a.hi ≤ s.hi := by
 cases r with
 | nil =>
  refine ⟨⟨List.pairwise_singleton _ _, fun t ht => by simp [adjR] at ht; subst ht; exact hs⟩, fun x => by simp [inS, adjR], fun a ha => by simp [adjR] at ha; subst ha; exact Int.le_refl _⟩
 | cons a r =>
  have hp := List.pairwise_cons.1 hr.1
  have ha := hr.2 a (by simp)
  have hal := hlo a (by simp)
  simp only [adjR]
  split
  ·rename_i h
   refine ⟨⟨List.pairwise_cons.2 ⟨fun b hb => hp.1 b hb, hp.2⟩, fun t ht => ?_⟩, fun x => ?_, fun t ht => ?_⟩
   ·rcases List.mem_cons.1 ht with rfl | ht
    ·show a.lo ≤ s.hi
     omega
    ·exact hr.2 t (List.mem_cons_of_mem _ ht)
   ·simp only [inS, List.mem_cons, exists_eq_or_imp]
    constructor
    ·rintro (⟨h1, h2⟩ | h1)
     ·by_cases hx : x ≤ a.hi
      ·exact .inl (.inl ⟨h1, hx⟩)
      ·exact .inr ⟨by omega, h2⟩
     ·exact .inl (.inr h1)
    ·rintro ((⟨h1, h2⟩ | h1) | ⟨h1, h2⟩)
     ·exact .inl ⟨h1, by show x ≤ s.hi; omega⟩
     ·exact .inr h1
     ·exact .inl ⟨by show a.lo ≤ x; omega, h2⟩
   ·rcases List.mem_cons.1 ht with rfl | ht
    ·exact Int.le_refl _
    ·have := hlo t (List.mem_cons_of_mem _ ht)
     omega
  ·rename_i h
   refine ⟨⟨List.pairwise_cons.2 ⟨fun b hb => ?_, hr.1⟩, fun t ht => ?_⟩, fun x => ?_, fun t ht => ?_⟩
   ·rcases List.mem_cons.1 hb with rfl | hb
    ·omega
    ·have := hp.1 b hb
     have := hr.2 b (List.mem_cons_of_mem _ hb)
     omega
   ·rcases List.mem_cons.1 ht with rfl | ht
    ·exact hs
    ·exact hr.2 t ht
   ·simp only [inS, List.mem_cons, exists_eq_or_imp]
    constructor
    ·rintro (h1 | h1)
     ·exact .inr h1
     ·exact .inl h1
    ·rintro (h1 | h1)
     ·exact .inr h1
     ·exact .inl h1
   ·rcases List.mem_cons.1 ht with rfl | ht
    ·exact Int.le_refl _
    ·have := hlo t ht
     omega
def bitOf (inn : Int) (k : Nat) : Bool := decide (inn / 2 ^ k % 2 = 1)
def kOf (a b : List Span) (x : Int) : Nat := (if hasR a x = true then 1 else 0) + (if hasR b x = true then 2 else 0)
def stepR (a b : List Span) (inn : Int) (e : List Int) (r : List Span) (i : Nat) : List Span := if bitOf inn (kOf a b (e.getD i 0)) = true then adjR r (cutAt e i) else r
def makeE (a b : List Span) : List Int := (edgesS b).foldl layS (edgesS a)
def makeS (a b : List Span) (inn : Int) : List Span := ((List.range (makeE a b).length).foldl (stepR a b inn (makeE a b)) []).reverse
theorem foldl_layS (f : List Int) : ∀ e : List Int, e.Pairwise (· < ·) → (f.foldl layS e).Pairwise (· < ·) ∧ ∀ y, y ∈ f.foldl layS e ↔ y ∈ e ∨ y ∈ f := by
 induction f with
 | nil => intro e h; exact ⟨h, fun y => by simp⟩
 | cons x f ih =>
  intro e h
  obtain ⟨h1, h2⟩ := ih _ (layS_rises h (x := x))
  refine ⟨h1, fun y => ?_⟩
  rw [List.foldl_cons, h2 y, layS_mem]
  simp only [List.mem_cons]
  constructor
  ·rintro ((h | h) | h)
   ·exact .inr (.inl h)
   ·exact .inl h
   ·exact .inr (.inr h)
  ·rintro (h | h | h)
   ·exact .inl (.inr h)
   ·exact .inl (.inl h)
   ·exact .inr h
theorem edgesS_scal {l : List Span} {y : Int} (h : y ∈ edgesS l) : scal y = true := by
 rcases edgesS_mem.1 h with (rfl | rfl) | ⟨s, _, ⟨h2, rfl⟩ | ⟨_, h2, rfl⟩⟩
 ·decide
 ·decide
 ·exact h2
 ·exact h2
section
variable {e : List Int} (hr : e.Pairwise (· < ·)) (hs : ∀ y ∈ e, scal y = true) (h0 : (0 : Int) ∈ e) (h1 : (57344 : Int) ∈ e)
include hr
theorem getD_lt {i j : Nat} (hij : i < j) (hj : j < e.length) : e.getD i 0 < e.getD j 0 := by
 rw [List.getD_eq_getElem?_getD, List.getD_eq_getElem?_getD, List.getElem?_eq_getElem (by omega), List.getElem?_eq_getElem hj]
 exact List.pairwise_iff_getElem.1 hr i j (by omega) hj hij
include hs
theorem cutAt_ok {i : Nat} (hi : i < e.length) : (cutAt e i).lo ≤ (cutAt e i).hi ∧ (cutAt e i).lo = e.getD i 0 ∧ (∀ j, i < j → j < e.length → (cutAt e i).hi < e.getD j 0) ∧ (cutAt e i).hi ≤ 1114111 ∧ (e.getD i 0 < 55296 → (cutAt e i).hi < 55296) := by
 have hsi : scal (e.getD i 0) = true := hs _ (by rw [List.getD_eq_getElem?_getD, List.getElem?_eq_getElem hi]; exact List.getElem_mem hi)
 rw [scal_iff] at hsi
 by_cases hn : i + 1 < e.length
 ·have hlt := getD_lt hr (show i < i + 1 by omega) hn
  have hsn : scal (e.getD (i + 1) 0) = true := hs _ (by rw [List.getD_eq_getElem?_getD, List.getElem?_eq_getElem hn]; exact List.getElem_mem hn)
  rw [scal_iff] at hsn
  refine ⟨?_, rfl, fun j hij hj => ?_, ?_, fun h => ?_⟩
  ·simp only [cutAt, hn, if_true]
   split <;> omega
  ·have : e.getD (i + 1) 0 ≤ e.getD j 0 := by
    by_cases he : i + 1 = j
    ·subst he; exact Int.le_refl _
    ·exact Int.le_of_lt (getD_lt hr (by omega) hj)
   simp only [cutAt, hn, if_true]
   split <;> omega
  ·simp only [cutAt, hn, if_true]
   split <;> omega
  ·simp only [cutAt, hn, if_true, h]
   omega
 ·refine ⟨?_, rfl, fun j hij hj => by omega, ?_, fun h => ?_⟩
  ·simp only [cutAt, hn, if_false]
   split <;> omega
  ·simp only [cutAt, hn, if_false]
   split <;> omega
  ·simp only [cutAt, hn, if_false, h, if_true]
   omega
theorem steps_ok (a b : List Span) (inn : Int) : ∀ m, m ≤ e.length → CanonR ((List.range m).foldl (stepR a b inn e) []) ∧ (∀ x, inS ((List.range m).foldl (stepR a b inn e) []) x ↔ ∃ i, i < m ∧ bitOf inn (kOf a b (e.getD i 0)) = true ∧ (cutAt e i).lo ≤ x ∧ x ≤ (cutAt e i).hi) ∧ ∀ t ∈ (List.range m).foldl (stepR a b inn e) [], ∀ j, m ≤ j → j < e.length → t.hi < e.getD j 0 := by
 intro m
 induction m with
 | zero => intro _; exact ⟨⟨.nil, fun s h => by simp at h⟩, fun x => by simp [inS], fun t h => by simp at h⟩
 | succ m ih =>
  intro hm
  obtain ⟨k1, k2, k3⟩ := ih (by omega)
  obtain ⟨c1, c2, c3, c4, c5⟩ := cutAt_ok hr hs (show m < e.length by omega)
  rw [List.range_succ, List.foldl_append, List.foldl_cons, List.foldl_nil]
  generalize (List.range m).foldl (stepR a b inn e) [] = r at *
  unfold stepR
  split
  ·rename_i hb
   obtain ⟨g1, g2, g3⟩ := adjR_ok k1 c1 (fun t ht => by rw [c2]; exact k3 t ht m (Nat.le_refl _) (by omega))
   refine ⟨g1, fun x => ?_, fun t ht j hj1 hj2 => ?_⟩
   ·rw [g2 x, k2 x]
    constructor
    ·rintro (⟨i, hi, h⟩ | h)
     ·exact ⟨i, by omega, h⟩
     ·exact ⟨m, by omega, hb, h⟩
    ·rintro ⟨i, hi, h⟩
     by_cases he : i = m
     ·subst he; exact .inr h.2
     ·exact .inl ⟨i, by omega, h⟩
   ·have := g3 t ht
    have := c3 j (by omega) hj2
    omega
  ·rename_i hb
   refine ⟨k1, fun x => ?_, fun t ht j hj1 hj2 => k3 t ht j (by omega) hj2⟩
   rw [k2 x]
   constructor
   ·rintro ⟨i, hi, h⟩
    exact ⟨i, by omega, h⟩
   ·rintro ⟨i, hi, h⟩
    by_cases he : i = m
    ·subst he; exact absurd h.1 hb
    ·exact ⟨i, by omega, h⟩
include h0 h1
theorem cut_of {x : Int} (hx : scal x = true) : ∃ i, i < e.length ∧ (cutAt e i).lo ≤ x ∧ x ≤ (cutAt e i).hi := by
 have hx' := scal_iff.1 hx
 have : ∀ m, m ≤ e.length → (∃ i, i < m ∧ e.getD i 0 ≤ x ∧ ∀ j, i < j → j < m → x < e.getD j 0) ∨ ∀ j, j < m → x < e.getD j 0 := by
  intro m
  induction m with
  | zero => intro _; exact .inr fun j h => by omega
  | succ m ih =>
   intro hm
   by_cases hle : e.getD m 0 ≤ x
   ·exact .inl ⟨m, by omega, hle, fun j h1 h2 => by omega⟩
   ·rcases ih (by omega) with ⟨i, hi, k1, k2⟩ | k
    ·refine .inl ⟨i, by omega, k1, fun j hj1 hj2 => ?_⟩
     by_cases hjm : j = m
     ·subst hjm; omega
     ·exact k2 j hj1 (by omega)
    ·refine .inr fun j hj => ?_
     by_cases hjm : j = m
     ·subst hjm; omega
     ·exact k j (by omega)
 obtain ⟨p0, q0, e0⟩ := List.getElem_of_mem h0
 obtain ⟨p1, q1, e1⟩ := List.getElem_of_mem h1
 have d0 : e.getD p0 0 = 0 := by rw [List.getD_eq_getElem?_getD, List.getElem?_eq_getElem q0]; exact e0
 have d1 : e.getD p1 0 = 57344 := by rw [List.getD_eq_getElem?_getD, List.getElem?_eq_getElem q1]; exact e1
 rcases this e.length (Nat.le_refl _) with ⟨i, hi, k1, k2⟩ | k
 ·refine ⟨i, hi, k1, ?_⟩
  have h55 : e.getD i 0 < 55296 → x < 55296 := fun h => by
   by_cases hp : p1 ≤ i
   ·by_cases he : p1 = i
    ·subst he; omega
    ·have := getD_lt hr (show p1 < i by omega) hi
     omega
   ·have := k2 p1 (by omega) q1
    omega
  simp only [cutAt]
  by_cases hn : i + 1 < e.length
  ·have := k2 (i + 1) (by omega) hn
   simp only [hn, if_true]
   split <;> omega
  ·simp only [hn, if_false]
   split <;> omega
 ·have := k p0 q0
  omega
end
theorem makeS_ok (a b : List Span) (inn : Int) : Canon (makeS a b inn) ∧ ∀ x, inS (makeS a b inn) x ↔ scal x = true ∧ bitOf inn (kOf a b x) = true := by
 have hE := foldl_layS (edgesS b) (edgesS a) (edgesS_rises a)
 have hr : (makeE a b).Pairwise (· < ·) := hE.1
 have hmem : ∀ y, y ∈ makeE a b ↔ y ∈ edgesS a ∨ y ∈ edgesS b := hE.2
 have hs : ∀ y ∈ makeE a b, scal y = true := fun y hy => by
  rcases (hmem y).1 hy with h | h <;> exact edgesS_scal h
 have h0 : (0 : Int) ∈ makeE a b := (hmem 0).2 (.inl (edgesS_mem.2 (.inl (.inl rfl))))
 have h1 : (57344 : Int) ∈ makeE a b := (hmem _).2 (.inl (edgesS_mem.2 (.inl (.inr rfl))))
 obtain ⟨k1, k2, k3⟩ := steps_ok hr hs a b inn _ (Nat.le_refl _)
 generalize he : makeE a b = e at *
 have key : ∀ i, i < e.length → ∀ x, (cutAt e i).lo ≤ x → x ≤ (cutAt e i).hi → scal x = true ∧ kOf a b (e.getD i 0) = kOf a b x := by
  intro i hi x hx1 hx2
  obtain ⟨c1, c2, c3, c4, c5⟩ := cutAt_ok hr hs hi
  have hmi : e.getD i 0 ∈ e := by rw [List.getD_eq_getElem?_getD, List.getElem?_eq_getElem hi]; exact List.getElem_mem hi
  have hsi := hs _ hmi
  have hsi' := scal_iff.1 hsi
  rw [c2] at hx1
  have hside : x < 55296 ∨ 57343 < e.getD i 0 := by
   rcases hsi'.2.2 with h | h
   ·have := c5 h; exact .inl (by omega)
   ·exact .inr h
  have hsx : scal x = true := scal_iff.2 (by omega)
  have hno : ∀ y ∈ e, ¬ (e.getD i 0 < y ∧ y ≤ x) := by
   rintro y hy ⟨g1, g2⟩
   obtain ⟨j, hj, rfl⟩ := List.getElem_of_mem hy
   have ej : e.getD j 0 = e[j] := by rw [List.getD_eq_getElem?_getD, List.getElem?_eq_getElem hj]; rfl
   rw [← ej] at g1 g2
   rcases Nat.lt_trichotomy i j with h | h | h
   ·have := c3 j h hj; omega
   ·subst h; omega
   ·have := getD_lt hr h hi; omega
  have s1 := same_between hsi hsx hx1 hside (a := a) fun y hy => hno y ((hmem y).2 (.inl hy))
  have s2 := same_between hsi hsx hx1 hside (a := b) fun y hy => hno y ((hmem y).2 (.inr hy))
  refine ⟨hsx, ?_⟩
  simp only [kOf, hasR_same s1 hsi hsx, hasR_same s2 hsi hsx]
 refine ⟨⟨?_, fun s h => ?_⟩, fun x => ?_⟩
 ·unfold makeS
  rw [he]
  exact List.pairwise_reverse.2 k1.1
 ·unfold makeS at h
  rw [he, List.mem_reverse] at h
  exact k1.2 s h
 ·have e1 : inS (makeS a b inn) x ↔ inS ((List.range e.length).foldl (stepR a b inn e) []) x := by
   unfold makeS
   rw [he]
   simp only [inS, List.mem_reverse]
  rw [e1, k2 x]
  constructor
  ·rintro ⟨i, hi, hb, hx1, hx2⟩
   obtain ⟨g1, g2⟩ := key i hi x hx1 hx2
   exact ⟨g1, g2 ▸ hb⟩
  ·rintro ⟨hx, hb⟩
   obtain ⟨i, hi, hx1, hx2⟩ := cut_of hr hs h0 h1 hx
   exact ⟨i, hi, (key i hi x hx1 hx2).2 ▸ hb, hx1, hx2⟩
theorem inS_pieces {l : List Span} {x : Int} : inS (l.flatMap piecesOf) x ↔ hasR l x = true := by
 simp only [inS, hasR, Bool.and_eq_true, List.any_eq_true, decide_eq_true_eq, scal_iff, List.mem_flatMap]
 constructor
 ·rintro ⟨s, ⟨a, ha, hs⟩, h1, h2⟩
  simp only [piecesOf, List.mem_append] at hs
  rcases hs with hs | hs
  ·split at hs
   ·simp only [List.mem_singleton] at hs
    subst hs
    simp only [lowOf] at h1 h2
    exact ⟨by omega, a, ha, by omega, by omega⟩
   ·cases hs
  ·split at hs
   ·simp only [List.mem_singleton] at hs
    subst hs
    simp only [highOf] at h1 h2
    exact ⟨by omega, a, ha, by omega, by omega⟩
   ·cases hs
 ·rintro ⟨h, a, ha, h1, h2⟩
  by_cases hx : x < 55296
  ·refine ⟨lowOf a, ⟨a, ha, ?_⟩, by simp only [lowOf]; omega, by simp only [lowOf]; omega⟩
   simp only [piecesOf, List.mem_append]
   left
   rw [if_pos (by simp only [lowOf]; omega)]
   simp
  ·refine ⟨highOf a, ⟨a, ha, ?_⟩, by simp only [highOf]; omega, by simp only [highOf]; omega⟩
   simp only [piecesOf, List.mem_append]
   right
   rw [if_pos (by simp only [highOf]; omega)]
   simp
theorem normS_ok (l : List Span) : Canon (normS l) ∧ ∀ x, inS (normS l) x ↔ hasR l x = true := by
 have hq : ((l.flatMap piecesOf).mergeSort (fun a b => decide (a.lo ≤ b.lo))).Pairwise (fun a b => a.lo ≤ b.lo) := by
  have := List.pairwise_mergeSort (le := fun a b : Span => decide (a.lo ≤ b.lo)) (fun a b c h1 h2 => by simp at *; omega) (fun a b => by simp; omega) (l.flatMap piecesOf)
  exact this.imp (by intro a b h; simpa using h)
 obtain ⟨b1, b2⟩ := mergeS_canon hq (fun s h => pieces_le s ((List.mergeSort_perm _ _).mem_iff.1 h))
 refine ⟨b1, fun x => ?_⟩
 rw [show inS (normS l) x ↔ _ from b2 x, inS_perm (List.mergeSort_perm _ _), inS_pieces]
theorem kOf_one (l : List Span) (x : Int) : bitOf 2 (kOf l [] x) = hasR l x := by
 have h2 : hasR [] x = false := by simp [hasR]
 simp only [kOf, h2]
 cases hasR l x <;> decide
theorem makeS_norm (l : List Span) : makeS l [] 2 = normS l := by
 obtain ⟨a1, a2⟩ := makeS_ok l [] 2
 obtain ⟨b1, b2⟩ := normS_ok l
 refine canon_unique a1 b1 fun x => ?_
 rw [a2 x, b2 x, kOf_one]
 constructor
 ·exact fun h => h.2
 ·intro h
  exact ⟨(Bool.and_eq_true _ _ ▸ h : scal x = true ∧ _).1, h⟩
end Go.Proofs.YtdldfflfbfpngaaGreatDoor
