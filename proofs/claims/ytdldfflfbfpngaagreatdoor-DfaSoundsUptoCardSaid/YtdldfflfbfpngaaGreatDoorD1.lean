/- set.Has, and slices.IndexFunc, ContainsFunc. set.pieces, slices.AppendSeq, set.Norm. slices.AppendSeq, set.Norm. Sets of spans: the plain law. -/
import Derived.Test.YtdldfflfbfpngaaGreatDoorC
set_option linter.unusedVariables false
set_option linter.unusedSimpArgs false
namespace Go.Proofs.YtdldfflfbfpngaaGreatDoor
open Go
set_option maxHeartbeats 4000000
attribute [local irreducible] wops xcode wcode seqK blockK loopK finK wcall wop wstp Runs
structure Span where
 lo : Int
 hi : Int
 deriving DecidableEq
def Span.av (s : Span) : List AV := [.int .i64 s.lo, .int .i64 s.hi]
@[simp] theorem Span.av_length (s : Span) : s.av.length = 2 := rfl
theorem has1_ok {Φ : Lib} (L : C1Lib Φ) (s : Span) (r : Int) (id : Nat) (h : Heap) (hr : h.get id = some (.cells 0 [.int .i64 r])) :
  Runs Φ 54 [.agg s.av, .ptr id 0 0] h (fun v h' => v = .bool (decide (s.lo ≤ r) && decide (r ≤ s.hi)) ∧ h.Ext h') := by
 have hne := Heap.ne_of2 hr
 refine runs_of (fun _ => false) rfl L.f54 ?_
 repeat' first | refine st_nil ?_ | (refine gw ?_; first | refine st_mv (v := AV.bool _) rfl ?_ | (refine gq1 ?_; first | refine st_skipg rfl ?_ | refine st_gog rfl ?_) | refine st_load_p rfl hg_ (by simp) b_ pv_ ?_ | (refine st_leq rfl rfl rfl ?_ ?_ <;> (intro hc; try (exfalso; omega))) | refine st_field_p rfl (Nat.zero_add _) ?_ | (refine gq7 ?_; first | refine st_pick_t (v := AV.bool _) rfl rfl ?_ | refine st_pick_f (v := AV.bool _) rfl rfl ?_) | (refine st_box (v := AV.agg _) rfl rfl ?_; intro id hid; try simp only [Heap.set_none] at hid)) | (refine gx ?_; first | refine sx_seq ?_ | refine sx_ops rfl ?_ | refine sx_ret ?_) | refine sk_norm ?_ | refine fin_ret (v := AV.bool _) rfl ?_
 all_goals refine ⟨?_, Heap.Ext.new (Heap.Ext.refl h) ‹_›⟩
 all_goals simp [*]
def idxV (o : Option Nat) : Int := match o with
 | some i => i
 | none => -1
theorem indexFunc2_ok {Φ : Lib} {k : Nat} (h0 : (k == yieldFn) = false) (hk : Φ k = some (.code d_slices_IndexFunc___glyphcutter_api_Span_glyphcutter_api_Span_)) {α : Type} (f : α → List AV) (hf : ∀ x, (f x).length = 2) (l : List α) (fl : Bool) (fn : Nat) (cap : List AV) (p : α → Bool) (h : Heap) (hl : l.length < 4611686018427387904)
  (hp : ∀ x ∈ l, Runs Φ fn ([.agg (f x)] ++ cap) h (fun v h' => v = .bool (p x) ∧ h.Ext h')) :
  Runs Φ k [.rd l.length (l.flatMap f) fl, .fn fn cap] h (fun v h' => v = .int .i64 (idxV (l.findIdx? p)) ∧ h' = h) := by
 refine runs_of (fun _ => false) h0 hk ?_
 repeat' first | refine st_nil ?_ | (refine gw ?_; first | (refine gq0 ?_; first | refine st_mv (v := AV.int _ _) rfl ?_ | refine st_mv (v := AV.rd _ _ _) rfl ?_) | refine st_len_rd rfl ?_) | (refine gx ?_; first | refine sx_seq ?_ | refine sx_ops rfl ?_ | refine sx_block ?_) | refine sk_norm ?_
 refine sx_loop (fun n env h' => h' = h ∧ ∃ i : Nat, n = l.length - i ∧ i ≤ l.length ∧ (∀ x ∈ l.take i, p x = false) ∧ env.has [(8, .int .i64 i), (7, .int .i64 l.length), (0, .rd l.length (l.flatMap f) fl), (1, .fn fn cap)]) l.length ⟨rfl, 0, rfl, Nat.zero_le _, by simp, rfl, rfl, rfl, rfl, trivial⟩ ?_
 rintro n env h' ⟨rfl, i, rfl, hi, hpre, he⟩
 obtain ⟨env, rfl⟩ := he.ex
 clear he
 by_cases hi2 : i < l.length
 ·obtain ⟨a, ha⟩ : ∃ a, l[i]? = some a := ⟨_, List.getElem?_eq_getElem hi2⟩
  repeat' first | refine st_nil ?_ | (refine gw ?_; first | (refine gq0 ?_; first | refine st_mv (v := AV.int _ _) rfl ?_ | refine st_mv (v := AV.rd _ _ _) rfl ?_ | refine st_mv (v := AV.fn _ _) rfl ?_) | refine st_load_ra rfl (by first | rfl | (simp [*]; done) | fail) ?_ | (refine st_lss rfl rfl rfl ?_ ?_ <;> (intro hc; try (exfalso; omega))) | refine st_index_flat rfl fl_ rfl rfl (by assumption) rfl ?_ | refine st_callv rfl rfl nt_ ?_) | (refine gx ?_; first | refine sx_seq ?_ | refine sx_ops rfl ?_ | refine sx_skip ?_ | refine sx_block ?_ | refine sx_cond_t rfl ?_) | refine sk_norm ?_
  refine call_quiet (by decide) (hp a (List.mem_of_getElem? ha)) ?_
  cases hpa : p a
  ·repeat' first | refine st_nil ?_ | (refine gw ?_; first | refine st_mv (v := AV.int _ _) rfl ?_ | refine st_add rfl rfl rfl (by omega) (by omega) ?_) | (refine gx ?_; first | refine sx_ops rfl ?_ | refine sx_skip ?_ | refine sx_cond_f rfl ?_) | refine sk_norm ?_ | refine bk_norm ?_
   refine lk_norm (l.length - (i + 1)) (by omega) ⟨rfl, i + 1, rfl, by omega, ?_, rfl, rfl, rfl, rfl, trivial⟩
   intro x hx
   rw [List.take_succ_eq_append_getElem hi2] at hx
   rw [List.getElem?_eq_some_iff] at ha
   obtain ⟨_, rfl⟩ := ha
   simp only [List.mem_append, List.mem_singleton] at hx
   rcases hx with hx | rfl
   ·exact hpre x hx
   ·exact hpa
  ·repeat' first | refine st_nil ?_ | refine st_mv (v := AV.int _ _) rfl ?_ | (refine gx ?_; first | refine sx_seq ?_ | refine sx_ops rfl ?_ | refine sx_ret ?_ | refine sx_cond_t rfl ?_) | refine sk_norm ?_ | refine sk_ret ?_ | refine bk_ret ?_ | refine lk_ret ?_ | refine fin_ret (v := AV.int _ _) rfl ?_
   refine ⟨?_, rfl⟩
   have : l.findIdx? p = some i := by
    rw [List.findIdx?_eq_some_iff_getElem]
    rw [List.getElem?_eq_some_iff] at ha
    obtain ⟨h1, rfl⟩ := ha
    refine ⟨h1, hpa, fun j hj => ?_⟩
    simp [hpre l[j] (List.mem_take_iff_getElem.2 ⟨j, by omega, rfl⟩)]
   rw [this]
   rfl
 ·repeat' first | refine st_nil ?_ | (refine gw ?_; first | refine st_mv (v := AV.int _ _) rfl ?_ | (refine st_lss rfl rfl rfl ?_ ?_ <;> (intro hc; try (exfalso; omega)))) | (refine gx ?_; first | refine sx_seq ?_ | refine sx_ops rfl ?_ | refine sx_ret ?_ | refine sx_exit ?_ | refine sx_cond_f rfl ?_) | refine sk_norm ?_ | refine sk_exit ?_ | refine bk_exit ?_ | refine lk_exit ?_ | refine fin_ret (v := AV.int _ _) rfl ?_
  refine ⟨?_, rfl⟩
  have : l.findIdx? p = none := by
   rw [List.findIdx?_eq_none_iff]
   rwa [List.take_of_length_le (by omega)] at hpre
  rw [this]
  rfl
theorem containsFunc2_ok {Φ : Lib} (L : C1Lib Φ) {α : Type} (f : α → List AV) (hf : ∀ x, (f x).length = 2) (l : List α) (fl : Bool) (fn : Nat) (cap : List AV) (p : α → Bool) (h : Heap) (hl : l.length < 4611686018427387904)
  (hp : ∀ x ∈ l, Runs Φ fn ([.agg (f x)] ++ cap) h (fun v h' => v = .bool (p x) ∧ h.Ext h')) :
  Runs Φ 53 [.rd l.length (l.flatMap f) fl, .fn fn cap] h (fun v h' => v = .bool (l.any p) ∧ h' = h) := by
 refine runs_of (fun _ => false) rfl L.f53 ?_
 repeat' first | refine st_nil ?_ | (refine gw ?_; first | (refine gq0 ?_; first | refine st_mv (v := AV.bool _) rfl ?_ | refine st_mv (v := AV.rd _ _ _) rfl ?_ | refine st_mv (v := AV.fn _ _) rfl ?_) | refine st_call rfl nt_ ?_) | (refine gx ?_; first | refine sx_seq ?_ | refine sx_ops rfl ?_) | refine sk_norm ?_
 refine call_any (indexFunc2_ok rfl L.f62 f hf l fl fn cap p h hl hp) ?_
 rintro _ _ ⟨rfl, rfl⟩
 have e : l.any p = decide (0 ≤ idxV (l.findIdx? p)) := by
  cases hx : l.findIdx? p with
  | none =>
   rw [List.findIdx?_eq_none_iff] at hx
   simp only [idxV]
   simpa using hx
  | some i =>
   rw [List.findIdx?_eq_some_iff_getElem] at hx
   obtain ⟨h1, h2, _⟩ := hx
   simp only [idxV]
   simp
   exact ⟨_, List.getElem_mem h1, h2⟩
 repeat' first | refine st_nil ?_ | (refine gw ?_; first | refine st_mv (v := AV.bool _) rfl ?_ | (refine st_geq rfl rfl rfl ?_ ?_ <;> (intro hc; try (exfalso; omega)))) | refine sx_ret ?_ | refine sk_norm ?_ | refine fin_ret (v := AV.bool _) rfl ?_
 all_goals exact ⟨by rw [e]; simp [*], rfl⟩
def hasS (l : List Span) (r : Int) : Bool :=
 if r < 0 ∨ 1114111 < r ∨ (55296 ≤ r ∧ r ≤ 57343) then false else l.any fun s => decide (s.lo ≤ r) && decide (r ≤ s.hi)
theorem has_ok {Φ : Lib} (L : C1Lib Φ) (l : List Span) (fl : Bool) (r : Int) (hl : l.length < 4611686018427387904) : Pure Φ 41 [.rd l.length (l.flatMap Span.av) fl, .int .i64 r] (.bool (hasS l r)) := by
 refine runs_of (fun _ => false) rfl L.f41 ?_
 repeat' first | refine st_nil ?_ | (refine gw ?_; first | (refine gq0 ?_; first | refine st_mv (v := AV.bool _) rfl ?_ | refine st_mv (v := AV.rd _ _ _) rfl ?_) | (refine gq1 ?_; first | refine st_skipg rfl ?_ | refine st_gog rfl ?_ | refine st_skipt rfl ?_) | refine st_load_p rfl hg_ (by simp) b_ pv_ ?_ | (refine gq3 ?_; first | (refine st_lss rfl rfl rfl ?_ ?_ <;> (intro hc; try (exfalso; omega))) | (refine st_leq rfl rfl rfl ?_ ?_ <;> (intro hc; try (exfalso; omega))) | (refine st_gtr rfl rfl rfl ?_ ?_ <;> (intro hc; try (exfalso; omega))) | (refine st_geq rfl rfl rfl ?_ ?_ <;> (intro hc; try (exfalso; omega)))) | (refine gq7 ?_; first | refine st_pick_t (v := AV.bool _) rfl rfl ?_ | refine st_pick_f (v := AV.bool _) rfl rfl ?_) | refine st_call rfl nt_ ?_ | (refine st_box (v := AV.int _ _) rfl rfl ?_; intro id hid; try simp only [Heap.set_none] at hid) | refine st_mkfn (vs := [AV.ptr _ _ _]) rfl rfl ?_) | (refine gx ?_; first | refine sx_seq ?_ | refine sx_ops rfl ?_ | refine sx_skip ?_ | refine sx_ret ?_ | refine sx_cond_t rfl ?_ | refine sx_cond_f rfl ?_) | refine sk_norm ?_ | refine sk_ret ?_ | refine fin_ret (v := AV.bool _) rfl ?_
 all_goals first
  | (rw [hasS, if_pos (by omega)]; done)
  | skip
 all_goals
  refine call_any (containsFunc2_ok L Span.av Span.av_length l fl 54 [.ptr id 0 0] (fun s => decide (s.lo ≤ r) && decide (r ≤ s.hi)) _ hl (fun s _ => has1_ok L s r id _ (Heap.get_set_self _ _ _))) ?_
  rintro _ _ ⟨rfl, rfl⟩
 ·repeat' first | refine st_nil ?_ | refine st_mv (v := AV.bool _) rfl ?_ | refine sx_ret ?_ | refine sk_norm ?_ | refine fin_ret (v := AV.bool _) rfl ?_
  rw [hasS, if_neg (by omega)]
 ·repeat' first | refine st_nil ?_ | refine st_mv (v := AV.bool _) rfl ?_ | refine sx_ret ?_ | refine sk_norm ?_ | refine fin_ret (v := AV.bool _) rfl ?_
  rw [hasS, if_neg (by omega)]
end Go.Proofs.YtdldfflfbfpngaaGreatDoor
set_option linter.unusedVariables false
set_option linter.unusedSimpArgs false
namespace Go.Proofs.YtdldfflfbfpngaaGreatDoor
open Go
set_option maxHeartbeats 4000000
attribute [local irreducible] wops xcode wcode seqK blockK loopK finK wcall wop wstp Runs
theorem pieces_ok {Φ : Lib} (L : C1Lib Φ) (s : Span) : Pure Φ 47 [.agg s.av] (.fn 59 [.rp s.av]) := by
 refine runs_of (fun _ => false) rfl L.f47 ?_
 repeat' first | refine st_nil ?_ | (refine gw ?_; first | (refine gq0 ?_; first | refine st_mv (v := AV.fn _ _) rfl ?_ | refine st_mv (v := AV.nilf) rfl ?_) | (refine st_box (v := AV.agg _) rfl rfl ?_; intro id hid; try simp only [Heap.set_none] at hid) | refine st_mkfn (vs := [AV.ptr _ _ _]) rfl rfl ?_) | (refine gx ?_; first | refine sx_seq ?_ | refine sx_ops rfl ?_ | refine sx_ret ?_) | refine sk_norm ?_
 exact fin_ret_fz (fun _ => True) rfl (.fn (.cons (.ptr trivial (Heap.get_set_self _ _ _) (by simp) (FzL.same _)) .nil)) rfl
def lowOf (s : Span) : Span := ⟨max s.lo 0, min s.hi 55295⟩
def highOf (s : Span) : Span := ⟨max s.lo 57344, min s.hi 1114111⟩
def piecesOf (s : Span) : List Span := (if (lowOf s).lo ≤ (lowOf s).hi then [lowOf s] else []) ++ (if (highOf s).lo ≤ (highOf s).hi then [highOf s] else [])
def firstPieces (s : Span) (i : Nat) : List Span := match i with
 | 0 => []
 | 1 => if (lowOf s).lo ≤ (lowOf s).hi then [lowOf s] else []
 | _ => piecesOf s
theorem pieces_iter {Φ : Lib} (L : C1Lib Φ) (s : Span) : Iter Φ 59 [.rp s.av] ((piecesOf s).map fun p => [.agg p.av]) := by
 intro y J hst hth hr D h hJ
 refine runs_of (fun _ => false) rfl L.f59 ?_
 repeat' first | refine st_nil ?_ | (refine gw ?_; first | refine st_mv (v := AV.int _ _) rfl ?_ | (refine gq2 ?_; first | refine st_load_r rfl b_ pv_ ?_ | refine st_load_p rfl hg_ (by simp) b_ pv_ ?_) | refine st_field_r rfl (by simp) rfl ?_ | (refine st_alloc ?_; intro id hid; try simp only [Heap.set_none] at hid) | refine st_store_s (cs' := [AV.int _ _, AV.int _ _]) rfl rfl rfl rfl b_ rfl ?_ | (refine gq15 ?_; first | refine st_build (cs := [AV.int _ _, AV.int _ _]) rfl ?_ | refine st_build (cs := [AV.int _ _, AV.int _ _, AV.int _ _, AV.int _ _]) rfl ?_) | refine st_mx rfl rfl rfl ?_ | refine st_mn rfl rfl rfl ?_) | (refine gx ?_; first | refine sx_seq ?_ | refine sx_ops rfl ?_ | refine sx_block ?_) | refine sk_norm ?_
 have hnew : ∀ {i : Nat} {D : Nat → Prop} {h : Heap} {id : Nat} {o : DObj}, J i D h → h.get id = none → J i D (h.set id o) := fun hj hn => hst _ _ _ _ hj fun k hk => Heap.get_set_ne _ _ (fun e => hth _ _ _ hj k hk (e ▸ hn))
 have hJ2 := hnew (o := .cells 0 [.int .i64 (max s.lo 57344), .int .i64 (min s.hi 1114111)]) (hnew (o := .cells 0 [.int .i64 (max s.lo 0), .int .i64 (min s.hi 55295)]) hJ ‹h.get _ = none›) (Heap.set_none.2 hid)
 refine sx_loop (fun n env h' => ∃ i : Nat, n = 2 - i ∧ i ≤ 2 ∧ (∃ D', J (firstPieces s i).length D' h') ∧ env.has [(24, .int .i64 i), (23, .agg ((lowOf s).av ++ (highOf s).av)), (0, .yield y)]) 2 ⟨0, rfl, by omega, ⟨_, hJ2⟩, rfl, rfl, rfl, trivial⟩ ?_
 rintro n env h' ⟨i, rfl, hi, ⟨D', hJ'⟩, he⟩
 obtain ⟨env, rfl⟩ := he.ex
 clear he hJ hJ2
 have h3 : i = 0 ∨ i = 1 ∨ i = 2 := by omega
 rcases h3 with rfl | rfl | rfl
 ·repeat' first | refine st_nil ?_ | (refine gw ?_; first | (refine gq0 ?_; first | refine st_mv (v := AV.int _ _) rfl ?_ | refine st_mv (v := AV.bool _) rfl ?_ | refine st_mv rv_ ?_) | (refine gq1 ?_; first | refine st_skipg rfl ?_ | refine st_gog rfl ?_) | refine st_load_p rfl hg_ (by simp) b_ pv_ ?_ | (refine gq3 ?_; first | refine st_add rfl rfl rfl (by omega) (by omega) ?_ | (refine st_lss rfl rfl rfl ?_ ?_ <;> (intro hc; try (exfalso; omega))) | (refine st_leq rfl rfl rfl ?_ ?_ <;> (intro hc; try (exfalso; omega)))) | refine st_field_p rfl (Nat.zero_add _) ?_ | refine st_pick_f (v := AV.bool _) rfl rfl ?_ | refine st_cally rfl rfl nt_ ?_ | (refine st_alloc ?_; intro id hid; try simp only [Heap.set_none] at hid) | refine st_store_s (cs' := [AV.int _ _, AV.int _ _]) rfl rfl rfl rfl b_ rfl ?_ | refine st_indexA (v := AV.agg _) rfl rfl (by omega) (by omega) (by first | rfl | (simp; done) | (simp; omega)) rfl ?_) | (refine gx ?_; first | refine sx_seq ?_ | refine sx_ops rfl ?_ | refine sx_skip ?_ | refine sx_block ?_ | refine sx_cond_t rfl ?_ | refine sx_cond_f rfl ?_) | refine sk_norm ?_ | refine bk_norm ?_
  ·refine call_any (hr 0 _ (by simp [piecesOf, hc]; rfl) D' _ (hnew hJ' hid)) ?_
   rintro _ h2 ⟨rfl, _, D2, hJ3, _⟩
   repeat' first | refine st_nil ?_ | (refine gw ?_; first | refine st_mv (v := AV.int _ _) rfl ?_ | refine st_gog rfl ?_ | refine st_add rfl rfl rfl (by omega) (by omega) ?_ | refine st_pick_t (v := AV.bool _) rfl rfl ?_ | refine st_not (b := true) rfl ?_) | (refine gx ?_; first | refine sx_ops rfl ?_ | refine sx_skip ?_ | refine sx_cond_f rfl ?_) | refine sk_norm ?_ | refine bk_norm ?_
   exact lk_norm 1 (by omega) ⟨1, rfl, by omega, ⟨D2, by simpa [firstPieces, hc] using hJ3⟩, rfl, rfl, rfl, trivial⟩
  ·exact lk_norm 1 (by omega) ⟨1, rfl, by omega, ⟨D', by simpa [firstPieces, hc] using hnew hJ' hid⟩, rfl, rfl, rfl, trivial⟩
 ·have hp : piecesOf s = firstPieces s 1 ++ (if (highOf s).lo ≤ (highOf s).hi then [highOf s] else []) := rfl
  repeat' first | refine st_nil ?_ | (refine gw ?_; first | (refine gq0 ?_; first | refine st_mv (v := AV.int _ _) rfl ?_ | refine st_mv (v := AV.bool _) rfl ?_ | refine st_mv rv_ ?_) | (refine gq1 ?_; first | refine st_skipg rfl ?_ | refine st_gog rfl ?_) | refine st_load_p rfl hg_ (by simp) b_ pv_ ?_ | (refine gq3 ?_; first | refine st_add rfl rfl rfl (by omega) (by omega) ?_ | (refine st_lss rfl rfl rfl ?_ ?_ <;> (intro hc; try (exfalso; omega))) | (refine st_leq rfl rfl rfl ?_ ?_ <;> (intro hc; try (exfalso; omega)))) | refine st_field_p rfl (Nat.zero_add _) ?_ | refine st_pick_f (v := AV.bool _) rfl rfl ?_ | refine st_cally rfl rfl nt_ ?_ | (refine st_alloc ?_; intro id hid; try simp only [Heap.set_none] at hid) | refine st_store_s (cs' := [AV.int _ _, AV.int _ _]) rfl rfl rfl rfl b_ rfl ?_ | refine st_indexA (v := AV.agg _) rfl rfl (by omega) (by omega) (by first | rfl | (simp; done) | (simp; omega)) rfl ?_) | (refine gx ?_; first | refine sx_seq ?_ | refine sx_ops rfl ?_ | refine sx_skip ?_ | refine sx_block ?_ | refine sx_cond_t rfl ?_ | refine sx_cond_f rfl ?_) | refine sk_norm ?_ | refine bk_norm ?_
  ·refine call_any (hr (firstPieces s 1).length [.agg (highOf s).av] (by rw [hp, List.getElem?_map, List.getElem?_append_right (Nat.le_refl _)]; simp [hc]) D' _ (hnew hJ' hid)) ?_
   rintro _ h2 ⟨rfl, _, D2, hJ3, _⟩
   repeat' first | refine st_nil ?_ | (refine gw ?_; first | refine st_mv (v := AV.int _ _) rfl ?_ | refine st_gog rfl ?_ | refine st_add rfl rfl rfl (by omega) (by omega) ?_ | refine st_pick_t (v := AV.bool _) rfl rfl ?_ | refine st_not (b := true) rfl ?_) | (refine gx ?_; first | refine sx_ops rfl ?_ | refine sx_skip ?_ | refine sx_cond_f rfl ?_) | refine sk_norm ?_ | refine bk_norm ?_
   exact lk_norm 0 (by omega) ⟨2, rfl, by omega, ⟨D2, by rw [show (firstPieces s 2).length = (firstPieces s 1).length + 1 by simp [firstPieces, hp, hc]]; exact hJ3⟩, rfl, rfl, rfl, trivial⟩
  ·exact lk_norm 0 (by omega) ⟨2, rfl, by omega, ⟨D', by rw [show (firstPieces s 2).length = (firstPieces s 1).length by simp [firstPieces, hp, hc]]; exact hnew hJ' hid⟩, rfl, rfl, rfl, trivial⟩
 ·repeat' first | refine st_nil ?_ | (refine st_lss rfl rfl rfl ?_ ?_ <;> (intro hc; try (exfalso; omega))) | (refine gx ?_; first | refine sx_seq ?_ | refine sx_ops rfl ?_ | refine sx_exit ?_ | refine sx_cond_f rfl ?_) | refine sk_norm ?_ | refine sk_exit ?_ | refine bk_exit ?_ | refine lk_exit ?_ | refine fin_norm (v := AV.tup _) rfl ?_
  exact ⟨D', by simpa [firstPieces] using hJ'⟩
end Go.Proofs.YtdldfflfbfpngaaGreatDoor
set_option linter.unusedVariables false
set_option linter.unusedSimpArgs false
namespace Go.Proofs.YtdldfflfbfpngaaGreatDoor
open Go
set_option maxHeartbeats 4000000
theorem sx_rangef {Φ : Lib} {Z : Option Nat → Bool} {f : DOpd} {ps : List Nat} {a b : DCode} {Q : Ex → Env → Heap → Prop} {env : Env} {h : Heap} (hw : wcode (Runs Φ) (.rangef f ps a b) Q env h) : xcode (Runs Φ) Z (.rangef f ps a b) Q env h := hw
attribute [local irreducible] wops xcode wcode seqK blockK loopK finK wcall wop wstp Runs
theorem appendSeq_ok {Φ : Lib} (L : C1Lib Φ) {g : Nat} {cap : List AV} {l : List Span} (hI : Iter Φ g cap (l.map fun p => [.agg p.av])) {h : Heap} {v : AV} {n : Nat} {cs : List AV} (hrow : IsRow h v 2 n cs) (hlen : n + l.length ≤ 4294967296) :
  Runs Φ 46 [v, .fn g cap] h (fun v' h' => IsRow h' v' 2 (n + l.length) (cs ++ l.flatMap Span.av)) := by
 refine runs_of (fun _ => false) rfl L.f46 ?_
 refine sx_seq ?_
 refine sx_ops rfl ?_
 refine st_box rfl hrow.isVal ?_
 intro id0 hid0
 repeat' first | refine st_nil ?_ | (refine gq0 ?_; first | refine st_mv (v := AV.rd _ _ _) rfl ?_ | refine st_mv (v := AV.fn _ _) rfl ?_) | (refine gx ?_; first | refine sx_seq ?_ | refine sx_ops rfl ?_ | refine sx_block ?_) | refine sk_norm ?_
 refine sx_rangef ?_
 have hidr : v.rowId ≠ some id0 := fun e => hrow.there e hid0
 refine w_rangef (xs := l.map fun p => [.agg p.av]) rfl hI (fun i D h' => ∃ vi, h'.get id0 = some (.cells 0 [vi]) ∧ IsRow h' vi 2 (n + i) (cs ++ (l.take i).flatMap Span.av) ∧ (∀ k, D k ↔ (k = id0 ∨ vi.rowId = some k)) ∧ vi.rowId ≠ some id0) ?_ ?_
  (D := fun k => k = id0 ∨ v.rowId = some k) ⟨v, ?_, ?_, fun _ => Iff.rfl, hidr⟩ (by simp) ?_ ?_
 ·rintro i D h1 h2 ⟨vi, k1, k2, k3, k4⟩ hs
  exact ⟨vi, (hs id0 ((k3 id0).2 (.inl rfl))).trans k1, k2.keep fun k hk => hs k ((k3 k).2 (.inr hk)), k3, k4⟩
 ·rintro i D h1 ⟨vi, k1, k2, k3, k4⟩ k hk
  rcases (k3 k).1 hk with rfl | hk
  ·rw [k1]; simp
  ·exact k2.there hk
 ·show (h.set id0 (.cells 0 v.cells)).get id0 = _
  rw [hrow.cells]; exact Heap.get_set_self _ _ _
 ·simpa using hrow.keep fun k hk => Heap.get_set_ne _ _ (fun e => hidr (by rw [hk, e]))
 ·intro i x hx y D h1 ⟨vi, k1, k2, k3, k4⟩ hyD hy0
  simp only [List.getElem?_map, Option.map_eq_some_iff] at hx
  obtain ⟨p, hp, rfl⟩ := hx
  have hip := (List.getElem?_eq_some_iff.1 hp).1
  refine sx_w (fun _ => false) ?_
  repeat' first | refine st_nil ?_ | (refine gw ?_; first | (refine st_alloc ?_; intro id hid; try simp only [Heap.set_none] at hid) | refine st_store_s (cs' := [AV.int _ _, AV.int _ _]) rfl rfl rfl rfl b_ rfl ?_) | refine sx_ops rfl ?_
  have hD0 : D id0 := (k3 id0).2 (.inl rfl)
  have hyid : y ≠ id0 := by rintro rfl; exact hyD hD0
  have hy1 : y ≠ id := by rintro rfl; exact hy0 hid
  have h01 : id0 ≠ id := by rintro rfl; rw [k1] at hid; cases hid
  refine ⟨rfl, Heap.get_set_ne _ _ hy1, fun o => ?_⟩
  have kd : ∀ k, D k → k ≠ y ∧ k ≠ id := fun k hk => ⟨by rintro rfl; exact hyD hk, by rintro rfl; exact (by
   rcases (k3 _).1 hk with rfl | hk
   ·exact h01 rfl
   ·exact k2.there hk hid)⟩
  have hrow2 : IsRow ((h1.set id (.cells 0 [.int .i64 p.lo, .int .i64 p.hi])).set y o) vi 2 (n + i) (cs ++ (l.take i).flatMap Span.av) := k2.keep fun k hk => by
   obtain ⟨e1, e2⟩ := kd k ((k3 k).2 (.inr hk))
   rw [Heap.get_set_ne _ _ e1, Heap.get_set_ne _ _ e2]
  refine sx_w (fun _ => false) ?_
  refine sx_block ?_
  refine sx_ops rfl ?_
  refine st_load_p (v := vi) rfl (by rw [Heap.get_set_ne _ _ hyid.symm, Heap.get_set_ne _ _ h01]; exact k1) (by simp) (by simp) rfl ?_
  refine st_load_p (v := AV.agg p.av) rfl (by rw [Heap.get_set_ne _ _ hy1.symm]; exact Heap.get_set_self _ _ _) (by simp) (by simp) rfl ?_
  refine st_lit (cs := p.av) rfl rfl ?_
  refine st_append (m := 1) rfl hrow2 rfl rfl (by omega) ?_
  intro v' h' hr hk hrid
  have hgid : h'.get id0 = some (.cells 0 [vi]) := by
   rw [hk id0 (by rw [Heap.get_set_ne _ _ hyid.symm, Heap.get_set_ne _ _ h01, k1]; simp) k4, Heap.get_set_ne _ _ hyid.symm, Heap.get_set_ne _ _ h01, k1]
  refine st_store_p (cs' := [v']) rfl rfl hgid hr.isVal (by rw [show ev _ _ = v' from rfl, hr.cells]; rfl) (by simp) (by rw [show ev _ _ = v' from rfl, hr.cells]; rfl) ?_
  repeat' first | refine st_nil ?_ | refine bk_norm ?_
  have hk : ∀ k, ((h1.set id (.cells 0 [.int .i64 p.lo, .int .i64 p.hi])).set y o).get k ≠ none → vi.rowId ≠ some k → h'.get k = ((h1.set id (.cells 0 [.int .i64 p.lo, .int .i64 p.hi])).set y o).get k := hk
  have hrid : ∀ k, v'.rowId = some k → vi.rowId = some k ∨ ((h1.set id (.cells 0 [.int .i64 p.lo, .int .i64 p.hi])).set y o).get k = none := hrid
  have hv0 : v'.rowId ≠ some id0 := fun e => by
   rcases hrid id0 e with h2 | h2
   ·exact k4 h2
   ·rw [Heap.get_set_ne _ _ hyid.symm, Heap.get_set_ne _ _ h01, k1] at h2
    cases h2
  refine ⟨rfl, fun k hkD hkn hky => ?_, ?_, fun k => k = id0 ∨ v'.rowId = some k, ⟨v', Heap.get_set_self _ _ _, ?_, fun _ => Iff.rfl, hv0⟩, fun k hk' => ?_⟩
  ·have e0 : k ≠ id0 := by rintro rfl; exact hkD hD0
   have e1 : k ≠ id := by rintro rfl; exact hkn hid
   have e2 : ((h1.set id (.cells 0 [.int .i64 p.lo, .int .i64 p.hi])).set y o).get k = h1.get k := by rw [Heap.get_set_ne _ _ hky, Heap.get_set_ne _ _ e1]
   rw [Heap.get_set_ne _ _ e0, hk k (by rw [e2]; exact hkn) (fun e => hkD ((k3 k).2 (.inr e))), e2]
  ·rw [Heap.get_set_ne _ _ hyid, hk y (by rw [Heap.get_set_self]; simp) (fun e => hyD ((k3 y).2 (.inr e))), Heap.get_set_self]
  ·have e : cs ++ (l.take (i + 1)).flatMap Span.av = cs ++ (l.take i).flatMap Span.av ++ p.av := by
    rw [List.take_add_one, hp]
    simp [List.append_assoc]
   rw [e]
   exact hr.keep fun k hk => Heap.get_set_ne _ _ (fun e => hv0 (by rw [hk, e]))
  ·rcases hk' with rfl | hk'
   ·exact .inl hD0
   ·rcases hrid k hk' with h2 | h2
    ·exact .inl ((k3 k).2 (.inr h2))
    ·rw [Heap.set_none, Heap.set_none] at h2
     exact .inr h2.2.2
 ·rintro D h1 ⟨vi, k1, k2, k3, k4⟩
  simp only [List.length_map, List.take_length] at k2
  refine bk_norm ?_
  refine sk_norm ?_
  refine sx_seq ?_
  refine sx_ops rfl ?_
  refine st_load_p (v := vi) rfl k1 (by simp) (by simp) rfl ?_
  refine st_mv (v := vi) rfl ?_
  repeat' first | refine st_nil ?_ | refine sx_ret ?_ | refine sk_norm ?_
  exact fin_ret (v := vi) rfl k2
end Go.Proofs.YtdldfflfbfpngaaGreatDoor
set_option linter.unusedVariables false
namespace Go.Proofs.YtdldfflfbfpngaaGreatDoor
open Go
def Canon (l : List Span) : Prop := l.Pairwise (fun a b => a.hi + 1 < b.lo) ∧ ∀ s ∈ l, s.lo ≤ s.hi
def inS (l : List Span) (x : Int) : Prop := ∃ s ∈ l, s.lo ≤ x ∧ x ≤ s.hi
theorem canon_tail {a : Span} {l : List Span} (h : Canon (a :: l)) : Canon l := ⟨(List.pairwise_cons.1 h.1).2, fun s hs => h.2 s (List.mem_cons_of_mem _ hs)⟩
theorem canon_above {a : Span} {l : List Span} (h : Canon (a :: l)) {x : Int} (hx : inS l x) : a.hi + 1 < x := by
 obtain ⟨s, hs, h1, h2⟩ := hx
 have := (List.pairwise_cons.1 h.1).1 s hs
 omega
theorem canon_unique : ∀ {l m : List Span}, Canon l → Canon m → (∀ x, inS l x ↔ inS m x) → l = m
 | [], [], _, _, _ => rfl
 | [], b :: m, _, hm, h => by
  have := (h b.lo).2 ⟨b, by simp, by omega, hm.2 b (by simp)⟩
  obtain ⟨s, hs, _⟩ := this
  cases hs
 | a :: l, [], hl, _, h => by
  have := (h a.lo).1 ⟨a, by simp, by omega, hl.2 a (by simp)⟩
  obtain ⟨s, hs, _⟩ := this
  cases hs
 | a :: l, b :: m, hl, hm, h => by
  have ha := hl.2 a (by simp)
  have hb := hm.2 b (by simp)
  have low : ∀ {c : Span} {k : List Span} {x : Int}, Canon (c :: k) → inS (c :: k) x → c.lo ≤ x := fun hc hx => by
   obtain ⟨s, hs, h1, h2⟩ := hx
   rcases List.mem_cons.1 hs with rfl | hs
   ·exact h1
   ·have := (List.pairwise_cons.1 hc.1).1 s hs
    have := hc.2 _ (List.mem_cons_self ..)
    omega
  have e1 : a.lo = b.lo := by
   have h1 := low hm ((h a.lo).1 ⟨a, by simp, by omega, ha⟩)
   have h2 := low hl ((h b.lo).2 ⟨b, by simp, by omega, hb⟩)
   omega
  have notin : ∀ {c : Span} {k : List Span}, Canon (c :: k) → ¬ inS (c :: k) (c.hi + 1) := fun hc hx => by
   obtain ⟨s, hs, h1, h2⟩ := hx
   rcases List.mem_cons.1 hs with rfl | hs
   ·omega
   ·have := (List.pairwise_cons.1 hc.1).1 s hs
    omega
  have e2 : a.hi = b.hi := by
   rcases Int.lt_trichotomy a.hi b.hi with hlt | he | hgt
   ·exact absurd ((h (a.hi + 1)).2 ⟨b, by simp, by omega, by omega⟩) (notin hl)
   ·exact he
   ·exact absurd ((h (b.hi + 1)).1 ⟨a, by simp, by omega, by omega⟩) (notin hm)
  have eab : a = b := by cases a; cases b; simp_all
  subst eab
  have rest : ∀ x, inS l x ↔ inS m x := fun x => by
   constructor
   ·intro hx
    have hab := canon_above hl hx
    obtain ⟨s, hs, h1, h2⟩ := (h x).1 (by obtain ⟨s, hs, h1⟩ := hx; exact ⟨s, List.mem_cons_of_mem _ hs, h1⟩)
    rcases List.mem_cons.1 hs with rfl | hs
    ·omega
    ·exact ⟨s, hs, h1, h2⟩
   ·intro hx
    have hab := canon_above hm hx
    obtain ⟨s, hs, h1, h2⟩ := (h x).2 (by obtain ⟨s, hs, h1⟩ := hx; exact ⟨s, List.mem_cons_of_mem _ hs, h1⟩)
    rcases List.mem_cons.1 hs with rfl | hs
    ·omega
    ·exact ⟨s, hs, h1, h2⟩
  rw [canon_unique (canon_tail hl) (canon_tail hm) rest]
def mergeR (r : List Span) (s : Span) : List Span := match r with
 | [] => [s]
 | a :: r => if s.lo ≤ a.hi + 1 then ⟨a.lo, max a.hi s.hi⟩ :: r else s :: a :: r
def CanonR (l : List Span) : Prop := l.Pairwise (fun a b => b.hi + 1 < a.lo) ∧ ∀ s ∈ l, s.lo ≤ s.hi
theorem mergeR_ok {r : List Span} {s : Span} (hr : CanonR r) (hs : s.lo ≤ s.hi) (hlo : ∀ a ∈ r, a.lo ≤ s.lo) : CanonR (mergeR r s) ∧ (∀ x, inS (mergeR r s) x ↔ inS r x ∨ (s.lo ≤ x ∧ x ≤ s.hi)) ∧ ∀ a ∈ mergeR r s, a.lo ≤ s.lo := by
 cases r with
 | nil =>
  refine ⟨⟨List.pairwise_singleton _ _, fun t ht => by simp [mergeR] at ht; subst ht; exact hs⟩, fun x => ?_, fun a ha => by simp [mergeR] at ha; subst ha; exact Int.le_refl _⟩
  simp [inS, mergeR]
 | cons a r =>
  have hp := List.pairwise_cons.1 hr.1
  have ha := hr.2 a (by simp)
  have hal := hlo a (by simp)
  simp only [mergeR]
  split
  ·rename_i h
   refine ⟨⟨List.pairwise_cons.2 ⟨fun b hb => hp.1 b hb, hp.2⟩, fun t ht => ?_⟩, fun x => ?_, fun t ht => ?_⟩
   ·rcases List.mem_cons.1 ht with rfl | ht
    ·show a.lo ≤ max a.hi s.hi
     omega
    ·exact hr.2 t (List.mem_cons_of_mem _ ht)
   ·simp only [inS, List.mem_cons, exists_eq_or_imp]
    constructor
    ·rintro (⟨h1, h2⟩ | h1)
     ·by_cases hx : x ≤ a.hi
      ·exact .inl (.inl ⟨h1, hx⟩)
      ·exact .inr ⟨by omega, by omega⟩
     ·exact .inl (.inr h1)
    ·rintro ((⟨h1, h2⟩ | h1) | ⟨h1, h2⟩)
     ·exact .inl ⟨h1, by omega⟩
     ·exact .inr h1
     ·exact .inl ⟨by show a.lo ≤ x; omega, by omega⟩
   ·rcases List.mem_cons.1 ht with rfl | ht
    ·exact hal
    ·exact hlo t (List.mem_cons_of_mem _ ht)
  ·rename_i h
   refine ⟨⟨List.pairwise_cons.2 ⟨fun b hb => ?_, hr.1⟩, fun t ht => ?_⟩, fun x => ?_, fun t ht => ?_⟩
   ·rcases List.mem_cons.1 hb with rfl | hb
    ·omega
    ·have := hp.1 b hb
     have := hr.2 b (List.mem_cons_of_mem _ hb)
     omega
   ·rcases List.mem_cons.1 ht with rfl | ht
    ·exact hs
    ·exact hr.2 t ht
   ·simp only [inS, List.mem_cons, exists_eq_or_imp]
    constructor
    ·rintro (h1 | h1)
     ·exact .inr h1
     ·exact .inl h1
    ·rintro (h1 | h1)
     ·exact .inr h1
     ·exact .inl h1
   ·rcases List.mem_cons.1 ht with rfl | ht
    ·exact Int.le_refl _
    ·exact hlo t ht
def mergeS (p : List Span) : List Span := (p.foldl mergeR []).reverse
theorem merge_ok : ∀ (p : List Span) (r : List Span), CanonR r → p.Pairwise (fun a b => a.lo ≤ b.lo) → (∀ s ∈ p, s.lo ≤ s.hi) → (∀ s ∈ p, ∀ a ∈ r, a.lo ≤ s.lo) → CanonR (p.foldl mergeR r) ∧ ∀ x, inS (p.foldl mergeR r) x ↔ inS r x ∨ inS p x
 | [], r, hr, _, _, _ => ⟨hr, fun x => by simp [inS]⟩
 | s :: p, r, hr, hp, hs, hlo => by
  have hp' := List.pairwise_cons.1 hp
  obtain ⟨k1, k2, k3⟩ := mergeR_ok hr (hs s (by simp)) (hlo s (by simp))
  obtain ⟨g1, g2⟩ := merge_ok p (mergeR r s) k1 hp'.2 (fun t ht => hs t (List.mem_cons_of_mem _ ht)) (fun t ht a ha => Int.le_trans (k3 a ha) (hp'.1 t ht))
  refine ⟨g1, fun x => ?_⟩
  rw [List.foldl_cons, g2 x, k2 x]
  simp only [inS, List.mem_cons, exists_eq_or_imp]
  constructor
  ·rintro ((h | h) | h)
   ·exact .inl h
   ·exact .inr (.inl h)
   ·exact .inr (.inr h)
  ·rintro (h | h | h)
   ·exact .inl (.inl h)
   ·exact .inl (.inr h)
   ·exact .inr h
theorem mergeS_canon {p : List Span} (hp : p.Pairwise (fun a b => a.lo ≤ b.lo)) (hs : ∀ s ∈ p, s.lo ≤ s.hi) : Canon (mergeS p) ∧ ∀ x, inS (mergeS p) x ↔ inS p x := by
 obtain ⟨h1, h2⟩ := merge_ok p [] ⟨.nil, fun s h => by cases h⟩ hp hs (fun s _ a h => by cases h)
 refine ⟨⟨List.pairwise_reverse.2 h1.1, fun s hs => h1.2 s (List.mem_reverse.1 hs)⟩, fun x => ?_⟩
 have := h2 x
 simp only [inS, mergeS, List.mem_reverse] at this ⊢
 rw [this]
 simp
end Go.Proofs.YtdldfflfbfpngaaGreatDoor
