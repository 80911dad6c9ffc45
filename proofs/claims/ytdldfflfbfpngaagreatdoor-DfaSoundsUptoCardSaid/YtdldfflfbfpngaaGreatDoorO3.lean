/- Words; which part; the longest front: walked. The longest front of a machine at one place: walked. States as one text: walked. -/
import Derived.Test.YtdldfflfbfpngaaGreatDoorO2
import Derived.Test.YtdldfflfbfpngaaGreatDoorF4
set_option linter.unusedVariables false
set_option linter.unusedSimpArgs false
namespace Go.Proofs.YtdldfflfbfpngaaGreatDoor
open Go
set_option maxHeartbeats 4000000
def wordB (S : List (Rw Span)) (r : Int) (i : Nat) : List UInt8 := (S.take i).map (fun s => if hasS s.l r = true then 1 else 0) ++ List.replicate (S.length - i) 0
theorem wordB_next {S : List (Rw Span)} {r : Int} {i : Nat} {s : Rw Span} (h : S[i]? = some s) : wordB S r (i + 1) = if hasS s.l r = true then (wordB S r i).set i 1 else wordB S r i := by
 have hlt := lt_of_getElem? h
 have e1 : S.length - i = (S.length - (i + 1)) + 1 := by omega
 have hl : ((S.take i).map (fun s => if hasS s.l r = true then (1 : UInt8) else 0)).length = i := by simp; omega
 unfold wordB
 rw [take_snoc h, List.map_append, List.map_singleton, e1, List.replicate_succ, List.append_assoc, List.singleton_append]
 split
 ·rw [List.set_append_right _ _ (by omega), hl, Nat.sub_self, List.set_cons_zero]
 ·rfl
theorem any_snoc {S : List (Rw Span)} {i : Nat} {s : Rw Span} (h : S[i]? = some s) (p : Rw Span → Bool) : (S.take (i + 1)).any p = ((S.take i).any p || p s) := by
 rw [take_snoc h, List.any_append]
 simp
attribute [local irreducible] wops xcode wcode seqK blockK loopK finK wcall wop wstp Runs
theorem tword_ok {Φ : Lib} (L1 : C1Lib Φ) (L5 : LibC5 Φ) (S : List (Rw Span)) (fl : Bool) (hS : S.length ≤ 1048576) (hl : ∀ s ∈ S, s.l.length ≤ 1048576) (r : Int) : Pure Φ 183 [.rd S.length (S.map Rw.sv) fl, .int .i64 r] (.str (wordT S r)) := by
 refine runs_of (fun _ => false) rfl L5.f183 ?_
 repeat' first | refine st_nil ?_ | (refine gw ?_; first | (refine gq0 ?_; first | refine st_mv (v := AV.int _ _) rfl ?_ | refine st_mv (v := AV.bool _) rfl ?_ | refine st_mv (v := AV.rd _ _ _) rfl ?_ | refine st_mv (v := AV.own _ _ _ _ _ _) rfl ?_ | refine st_mv (v := AV.str _) rfl ?_) | refine st_len_rd rfl ?_ | (refine st_mkslice rfl rfl (by omega) (by omega) ?_; intro id hid; try simp only [Heap.set_none] at hid)) | (refine gx ?_; first | refine sx_seq ?_ | refine sx_ops rfl ?_ | refine sx_block ?_) | refine sk_norm ?_
 obtain ⟨ib, rfl⟩ : ∃ x, x = id := ⟨_, rfl⟩
 refine sx_for S.length (fun i env h' => h'.get ib = some (.cells 1 ((wordB S r i).map fun b => .int .u8 b.toNat)) ∧ env.has [(1, .int .i64 r), (5, .own ib 1 1 0 S.length none), (6, .bool ((S.take i).any fun s => hasS s.l r)), (12, .rd S.length (S.map Rw.sv) fl), (13, .int .i64 S.length), (14, .int .i64 i)]) ⟨?_, hh_⟩ ?_
 ·rw [Heap.get_set_self]
  simp [wordB]
 rintro i env h' hi ⟨hb, he⟩
 obtain ⟨env, rfl⟩ := he.ex
 clear he
 by_cases hi2 : i < S.length
 ·obtain ⟨s, hs⟩ := ex_get hi2
  have ks := has_ok L1 s.l s.fl r (by have := hl s (List.mem_of_getElem? hs); omega)
  have hn := wordB_next (r := r) hs
  have ha := any_snoc hs (fun s => hasS s.l r)
  have hwl : (wordB S r i).length = S.length := by simp [wordB]; omega
  cases hh : hasS s.l r with
  | true =>
   rw [hh] at ks ha
   rw [hh, if_pos rfl] at hn
   rw [Bool.or_true] at ha
   repeat' first | refine st_nil ?_ | (refine gw ?_; first | (refine gq0 ?_; first | refine st_mv (v := AV.int _ _) rfl ?_ | refine st_mv (v := AV.bool _) rfl ?_ | refine st_mv (v := AV.rd _ _ _) rfl ?_ | refine st_mv (v := AV.own _ _ _ _ _ _) rfl ?_) | refine st_load_r rfl b_ pv_ ?_ | (refine gq3 ?_; first | refine st_add rfl rfl rfl (by omega) (by omega) ?_ | (refine st_lss rfl rfl rfl ?_ ?_ <;> (intro hc; try (exfalso; omega)))) | (refine gq5 ?_; first | refine st_index_map' rfl rfl hs (by omega) rfl ?_ | refine st_index_own rfl rfl (by omega) (by omega) ?_) | refine st_call rfl nt_ ?_ | refine st_store_p (v := AV.int _ _) rfl rfl hg_ rfl rfl b_ sv_ ?_) | (refine gx ?_; first | refine sx_seq ?_ | refine sx_ops rfl ?_ | refine sx_skip ?_ | refine sx_block ?_ | refine sx_cond_t rfl ?_) | refine sk_norm ?_ | refine bk_norm ?_ | refine call_pure (by assumption) fz_ fz_ ?_
   refine lk_next hi2 ⟨by rw [Heap.get_set_self, hn, List.map_set, Int.toNat_natCast, Nat.mul_one]; rfl, ?_⟩
   rw [ha]
   exact hh_
  | false =>
   rw [hh] at ks ha
   rw [hh, if_neg (by decide)] at hn
   rw [Bool.or_false] at ha
   repeat' first | refine st_nil ?_ | (refine gw ?_; first | (refine gq0 ?_; first | refine st_mv (v := AV.int _ _) rfl ?_ | refine st_mv (v := AV.rd _ _ _) rfl ?_) | refine st_load_r rfl b_ pv_ ?_ | (refine gq3 ?_; first | refine st_add rfl rfl rfl (by omega) (by omega) ?_ | (refine st_lss rfl rfl rfl ?_ ?_ <;> (intro hc; try (exfalso; omega)))) | refine st_index_map' rfl rfl hs (by omega) rfl ?_ | refine st_call rfl nt_ ?_) | (refine gx ?_; first | refine sx_seq ?_ | refine sx_ops rfl ?_ | refine sx_skip ?_ | refine sx_block ?_ | refine sx_cond_t rfl ?_ | refine sx_cond_f rfl ?_) | refine sk_norm ?_ | refine bk_norm ?_ | refine call_pure (by assumption) fz_ fz_ ?_
   refine lk_next hi2 ⟨by rw [hn]; exact hb, ?_⟩
   rw [ha]
   exact hh_
 ·have hi3 : i = S.length := by omega
  subst hi3
  have hw : wordB S r S.length = S.map fun s => if hasS s.l r = true then 1 else 0 := by simp [wordB]
  rw [hw] at hb
  rw [List.take_length]
  cases hany : S.any fun s => hasS s.l r with
  | false =>
   have hv : wordT S r = [] := by unfold wordT; rw [hany, if_neg (by decide)]
   rw [hv]
   repeat' first | refine st_nil ?_ | (refine gw ?_; first | (refine gq0 ?_; first | refine st_mv (v := AV.bool _) rfl ?_ | refine st_mv (v := AV.str _) rfl ?_) | (refine st_lss rfl rfl rfl ?_ ?_ <;> (intro hc; try (exfalso; omega))) | refine st_not (b := false) rfl ?_) | (refine gx ?_; first | refine sx_seq ?_ | refine sx_ops rfl ?_ | refine sx_ret ?_ | refine sx_exit ?_ | refine sx_cond_t rfl ?_ | refine sx_cond_f rfl ?_) | refine sk_norm ?_ | refine sk_ret ?_ | refine sk_exit ?_ | refine bk_exit ?_ | refine lk_exit ?_
   all_goals exact fin_ret (v := .str []) rfl rfl
  | true =>
   have hv : wordT S r = S.map fun s => if hasS s.l r = true then 1 else 0 := by unfold wordT; rw [hany, if_pos rfl]
   rw [hv]
   repeat' first | refine st_nil ?_ | (refine gw ?_; first | (refine gq0 ?_; first | refine st_mv (v := AV.bool _) rfl ?_ | refine st_mv (v := AV.own _ _ _ _ _ _) rfl ?_) | (refine st_lss rfl rfl rfl ?_ ?_ <;> (intro hc; try (exfalso; omega))) | refine st_not (b := true) rfl ?_) | (refine gx ?_; first | refine sx_seq ?_ | refine sx_ops rfl ?_ | refine sx_skip ?_ | refine sx_exit ?_ | refine sx_cond_f rfl ?_) | refine sk_norm ?_ | refine sk_exit ?_ | refine bk_exit ?_ | refine lk_exit ?_
   have hb2 : h'.get ib = some (.cells 1 (byteCells (S.map fun s => if hasS s.l r = true then 1 else 0))) := hb
   refine st_strOf (s := S.map fun s => if hasS s.l r = true then 1 else 0) rfl rfl (srcCells_app (n := S.length) (.inr ⟨ib, 1, rfl, hb2, Nat.le_refl _, by simp [byteCells_length]⟩)) ?_
   repeat' first | refine st_nil ?_ | refine st_mv (v := AV.str _) rfl ?_ | refine sx_ret ?_ | refine sk_norm ?_
   exact fin_ret (v := .str (S.map fun s => if hasS s.l r = true then 1 else 0)) rfl rfl
theorem whichF_ok {Φ : Lib} (L1 : C1Lib Φ) (L5 : LibC5 Φ) {h : Heap} {ir : Nat} {r : Int} (hr : h.get ir = some (.cells 0 [.int .i64 r])) (s : Rw Span) (hl : s.l.length ≤ 67108864) : Runs Φ 186 [s.sv, .ptr ir 0 0] h (fun v h' => v = .bool (hasS s.l r) ∧ h.Ext h') := by
 have ks := has_ok L1 s.l s.fl r (by omega)
 refine runs_of (fun _ => false) rfl L5.f186 ?_
 repeat' first | refine st_nil ?_ | (refine gw ?_; first | (refine gq0 ?_; first | refine st_mv (v := AV.bool _) rfl ?_ | refine st_mv (v := AV.rd _ _ _) rfl ?_) | refine st_load_p rfl hg_ (by simp) b_ pv_ ?_ | refine st_call rfl nt_ ?_) | (refine gx ?_; first | refine sx_seq ?_ | refine sx_ops rfl ?_ | refine sx_ret ?_) | refine sk_norm ?_ | refine call_pure (by assumption) fz_ fz_ ?_
 exact fin_ret (v := .bool (hasS s.l r)) rfl ⟨rfl, Heap.Ext.refl _⟩
theorem idxV_plain (P : List (Rw Span)) (r : Int) : idxV (P.findIdx? fun s => hasS s.l r) = idxV (whichP (plainS P) r) := by
 unfold whichP plainS
 rw [List.findIdx?_map]
 have : (fun s : Rw Span => hasS s.l r) = (fun q : List Span => hasR q r) ∘ fun s : Rw Span => s.l := by
  funext s
  exact (hasR_hasS s.l r).symm
 rw [this]
theorem twhich_ok {Φ : Lib} (L1 : C1Lib Φ) (L5 : LibC5 Φ) (P : Rw (Rw Span)) (hP : P.l.length ≤ 1048576) (hl : ∀ s ∈ P.l, s.l.length ≤ 67108864) (r : Int) : Pure Φ 178 [P.mv Rw.sv, .int .i64 r] (.int .i64 (idxV (whichP (plainS P.l) r))) := by
 rw [← idxV_plain]
 refine runs_of (fun _ => false) rfl L5.f178 ?_
 repeat' first | refine st_nil ?_ | (refine gw ?_; first | (refine gq0 ?_; first | refine st_mv (v := AV.int _ _) rfl ?_ | refine st_mv (v := AV.rd _ _ _) rfl ?_) | refine st_call rfl nt_ ?_ | (refine st_box (v := AV.int _ _) rfl rfl ?_; intro id hid; try simp only [Heap.set_none] at hid) | refine st_mkfn (vs := [AV.ptr _ _ _]) rfl rfl ?_) | (refine gx ?_; first | refine sx_seq ?_ | refine sx_ops rfl ?_) | refine sk_norm ?_
 have hcell : (Heap.empty.set id (.cells 0 [.int .i64 r])).get id = some (.cells 0 [.int .i64 r]) := Heap.get_set_self _ _ _
 have hf := fun s hs => whichF_ok L1 L5 hcell s (hl s hs)
 refine call_any (Q' := fun v h' => v = .int .i64 (idxV (P.l.findIdx? fun s => hasS s.l r))) ?_ ?_
 ·refine runs_of (fun _ => false) rfl L5.f185 ?_
  repeat' first | refine st_nil ?_ | (refine gw ?_; first | (refine gq0 ?_; first | refine st_mv (v := AV.int _ _) rfl ?_ | refine st_mv (v := AV.rd _ _ _) rfl ?_) | refine st_len_rd rfl ?_) | (refine gx ?_; first | refine sx_seq ?_ | refine sx_ops rfl ?_ | refine sx_block ?_) | refine sk_norm ?_
  refine sx_for P.l.length (fun i env h' => h' = Heap.empty.set id (.cells 0 [.int .i64 r]) ∧ (∀ s ∈ P.l.take i, hasS s.l r = false) ∧ env.has [(0, P.mv Rw.sv), (1, .fn 186 [.ptr id 0 0]), (7, .int .i64 P.l.length), (8, .int .i64 i)]) ⟨rfl, by simp, hh_⟩ ?_
  rintro i env h' hi ⟨rfl, hpre, he⟩
  obtain ⟨env, rfl⟩ := he.ex
  clear he
  by_cases hi2 : i < P.l.length
  ·obtain ⟨s, hs⟩ := ex_get hi2
   have hfs := hf s (List.mem_of_getElem? hs)
   repeat' first | refine st_nil ?_ | (refine gw ?_; first | (refine gq0 ?_; first | refine st_mv (v := AV.int _ _) rfl ?_ | refine st_mv (v := AV.rd _ _ _) rfl ?_ | refine st_mv (v := AV.fn _ _) rfl ?_) | refine st_load_r rfl b_ pv_ ?_ | (refine st_lss rfl rfl rfl ?_ ?_ <;> (intro hc; try (exfalso; omega))) | refine st_index_map' rfl rfl hs (by omega) rfl ?_ | refine st_callv rfl rfl nt_ ?_) | (refine gx ?_; first | refine sx_seq ?_ | refine sx_ops rfl ?_ | refine sx_skip ?_ | refine sx_block ?_ | refine sx_cond_t rfl ?_) | refine sk_norm ?_
   refine call_quiet (by decide) hfs ?_
   cases hh : hasS s.l r with
   | false =>
    repeat' first | refine st_nil ?_ | (refine gw ?_; first | refine st_mv (v := AV.int _ _) rfl ?_ | refine st_add rfl rfl rfl (by omega) (by omega) ?_) | (refine gx ?_; first | refine sx_ops rfl ?_ | refine sx_skip ?_ | refine sx_cond_f rfl ?_) | refine sk_norm ?_ | refine bk_norm ?_
    refine lk_next hi2 ⟨rfl, fun q hq => ?_, hh_⟩
    rw [take_snoc hs] at hq
    rcases List.mem_append.1 hq with hq | hq
    ·exact hpre q hq
    ·simp only [List.mem_singleton] at hq; subst hq; exact hh
   | true =>
    repeat' first | refine st_nil ?_ | refine st_mv (v := AV.int _ _) rfl ?_ | (refine gx ?_; first | refine sx_seq ?_ | refine sx_ops rfl ?_ | refine sx_ret ?_ | refine sx_cond_t rfl ?_) | refine sk_norm ?_ | refine sk_ret ?_ | refine bk_ret ?_ | refine lk_ret ?_
    refine fin_ret (v := .int .i64 i) rfl ?_
    have : P.l.findIdx? (fun s => hasS s.l r) = some i := by
     rw [List.findIdx?_eq_some_iff_getElem]
     refine ⟨hi2, ?_, fun j hj => ?_⟩
     ·rw [(List.getElem?_eq_some_iff.1 hs).2]; exact hh
     ·have := hpre P.l[j] (List.mem_iff_getElem.2 ⟨j, by rw [List.length_take]; omega, by rw [List.getElem_take]⟩)
      simpa using this
    rw [this]
    rfl
  ·rw [List.take_of_length_le (by omega)] at hpre
   have : P.l.findIdx? (fun s => hasS s.l r) = none := by
    rw [List.findIdx?_eq_none_iff]
    simpa using hpre
   rw [this]
   repeat' first | refine st_nil ?_ | (refine gw ?_; first | refine st_mv (v := AV.int _ _) rfl ?_ | (refine st_lss rfl rfl rfl ?_ ?_ <;> (intro hc; try (exfalso; omega)))) | (refine gx ?_; first | refine sx_seq ?_ | refine sx_ops rfl ?_ | refine sx_ret ?_ | refine sx_exit ?_ | refine sx_cond_f rfl ?_) | refine sk_norm ?_ | refine sk_exit ?_ | refine bk_exit ?_ | refine lk_exit ?_
   exact fin_ret (v := .int .i64 (-1)) rfl rfl
 ·rintro _ h2 rfl
  repeat' first | refine st_nil ?_ | refine st_mv (v := AV.int _ _) rfl ?_ | refine sx_ret ?_ | refine sk_norm ?_
  exact fin_ret (v := .int .i64 (idxV (P.l.findIdx? fun s => hasS s.l r))) rfl rfl
end Go.Proofs.YtdldfflfbfpngaaGreatDoor
set_option linter.unusedVariables false
set_option linter.unusedSimpArgs false
namespace Go.Proofs.YtdldfflfbfpngaaGreatDoor
open Go
set_option maxHeartbeats 4000000
attribute [local irreducible] wops xcode wcode seqK blockK loopK finK wcall wop wstp Runs
theorem dlong_ok {Φ : Lib} (L1 : C1Lib Φ) (L : LibC3 Φ) (SL : SortLib Φ) (G : GrowLib Φ) (L5 : LibC5 Φ) (d : Dfa) (hw : d.Wide) (t : Rw Int) (ht : t.l.length ≤ 1048576) : Pure Φ 171 [.agg d.av, t.iv] (.tup [.int .i64 (longD d t.l).1, .int .i64 (longD d t.l).2]) := by
 have hsd := dsound_ok L L1 SL G d hw.fits
 have hfp := hw.fits.parts
 have hfn := hw.fits.next
 have hft := hw.fits.tags
 have hpl : d.plain.p = d.parts.l.length := by simp [Dfa.plain, plainS, PD.p]
 have hnl : d.plain.n = d.tags.l.length := by simp [Dfa.plain, PD.n]
 have hxl : d.plain.next.length = d.next.l.length := by simp [Dfa.plain, plainI]
 refine runs_of (fun _ => false) rfl L5.f171 ?_
 refine sx_seq ?_
 refine sx_ops rfl ?_
 refine st_box (v := .agg d.av) rfl rfl ?_
 intro ib hib
 have hbox : (Heap.empty.set ib (.cells 0 (AV.agg d.av).cells)).get ib = some (.cells 0 d.av) := Heap.get_set_self _ _ _
 generalize Heap.empty.set ib (.cells 0 (AV.agg d.av).cells) = h0 at hbox
 by_cases hok : d.plain.Ok
 ·rw [soundD_t hok] at hsd
  rw [longD, if_pos (soundD_t hok)]
  have hnl2 := hok.nl
  repeat' first | refine st_nil ?_ | (refine gw ?_; first | refine st_mv rx_ ?_ | (refine gq2 ?_; first | refine st_load_t rx_ ?_ | refine st_load_p rfl hq_ (by simp) b_ pv_ ?_) | (refine gq6 ?_; first | refine st_len_t rx_ ?_ | refine st_len_rd rfl ?_) | refine st_call rfl nt_ ?_ | refine st_not (b := true) rfl ?_) | (refine gx ?_; first | refine sx_seq ?_ | refine sx_ops rfl ?_ | refine sx_skip ?_ | refine sx_block ?_ | refine sx_cond_f rfl ?_) | refine sk_norm ?_ | refine call_pure (by assumption) fz_ fz_ ?_
  refine sx_for t.l.length (fun i env h' => ∃ (a : Nat) (lo tg : Int), a < d.tags.l.length ∧ longFromP d.plain a (t.l.drop i) i (lo, tg) = longP d.plain t.l ∧ h'.get ib = some (.cells 0 d.av) ∧ env.has [(2, .ptr ib 0 0), (6, .int .i64 lo), (7, .int .i64 tg), (8, .int .i64 a), (17, t.iv), (18, .int .i64 t.l.length), (19, .int .i64 i)]) ⟨0, 0, -1, by have := hok.n1; omega, rfl, hbox, hh_⟩ ?_
  clear hbox
  rintro i env h' hi ⟨a, lo, tg, han, hlong, hb1, he⟩
  obtain ⟨env, rfl⟩ := he.ex
  clear he
  by_cases hi2 : i < t.l.length
  ·obtain ⟨c, hc⟩ := ex_get hi2
   obtain ⟨r, hr⟩ := ex_get (l := d.next.l) (i := a) (by omega)
   have hrow : d.plain.row a = r.l := by simp [PD.row, Dfa.plain, plainI, List.getD_eq_getElem?_getD, hr]
   have hrm : r.l ∈ d.plain.next := List.mem_map.2 ⟨r, List.mem_of_getElem? hr, rfl⟩
   obtain ⟨hrl, hrt⟩ := hok.rows _ hrm
   have k1 := twhich_ok L1 L5 d.parts (by omega) (fun q hq => by have := (hw.wide q hq).len; omega) c
   rw [List.drop_eq_getElem_cons hi2, (List.getElem?_eq_some_iff.1 hc).2] at hlong
   unfold longFromP at hlong
   rw [show d.plain.parts = plainS d.parts.l from rfl] at hlong
   cases hwh : whichP (plainS d.parts.l) c with
   | none =>
    rw [hwh] at k1 hlong
    have hm1 : idxV none < 0 := by decide
    repeat' first | refine st_nil ?_ | (refine gw ?_; first | refine st_mv rx_ ?_ | (refine gq2 ?_; first | refine st_load_t rx_ ?_ | refine st_load_r rfl b_ pv_ ?_ | refine st_load_p rfl hq_ (by simp) b_ pv_ ?_) | (refine gq3 ?_; first | refine st_bin_t1 rx_ ?_ | refine st_bin_t2 rx_ ?_ | (refine st_lss rfl rfl rfl ?_ ?_ <;> (intro hc; try (exfalso; omega)))) | (refine gq5 ?_; first | refine st_index_t1 rx_ ?_ | refine st_index_t2 rx_ ?_ | refine st_index_map rfl rfl rfl (by assumption) rfl ?_) | (refine gq4 ?_; first | refine st_field_t rx_ ?_ | refine st_field_p rfl (Nat.zero_add _) ?_) | refine st_skipg rfl ?_ | refine st_pick_t (v := AV.bool _) rfl rfl ?_ | refine st_call rfl nt_ ?_) | (refine gx ?_; first | refine sx_seq ?_ | refine sx_ops rfl ?_ | refine sx_skip ?_ | refine sx_block ?_ | refine sx_ret ?_ | refine sx_exit ?_ | refine sx_cond_t rfl ?_) | refine sk_norm ?_ | refine sk_exit ?_ | refine bk_exit ?_ | refine bk_other rfl ?_ | refine lk_exit ?_ | refine call_pure (by assumption) fz_ fz_ ?_
    refine fin_ret (v := .tup [.int .i64 lo, .int .i64 tg]) rfl ?_
    rw [← hlong]
   | some k =>
    rw [hwh] at k1 hlong
    have hk : k < d.parts.l.length := by
     have := (which_some hok (r := c) (k := k)).1 hwh
     omega
    obtain ⟨x, hx⟩ := ex_get (l := r.l) (i := k) (by omega)
    have hcol : col d.plain.row a k = x := by rw [col, hrow, List.getD_eq_getElem?_getD, hx]; rfl
    have hm1 : ¬ idxV (some k) < 0 := by simp [idxV]
    have hm2 : idxV (some k) = (k : Int) := rfl
    rw [hm2] at k1
    simp only [hcol] at hlong
    rcases hrt x (List.mem_of_getElem? hx) with hx1 | hx1
    ·subst hx1
     rw [if_pos (by decide)] at hlong
     repeat' first | refine st_nil ?_ | (refine gw ?_; first | refine st_mv rx_ ?_ | (refine gq2 ?_; first | refine st_load_t rx_ ?_ | refine st_load_r rfl b_ pv_ ?_ | refine st_load_p rfl hq_ (by simp) b_ pv_ ?_) | (refine gq3 ?_; first | refine st_bin_t1 rx_ ?_ | refine st_bin_t2 rx_ ?_ | (refine st_lss rfl rfl rfl ?_ ?_ <;> (intro hc; try (exfalso; omega))) | (refine st_eql rfl rfl rfl ?_ ?_ <;> (intro hc; try (exfalso; omega)))) | (refine gq5 ?_; first | refine st_index_t1 rx_ ?_ | refine st_index_t2 rx_ ?_ | refine st_index_map' rfl rfl hr (by omega) rfl ?_ | refine st_index_map' rfl rfl hx (by omega) rfl ?_ | refine st_index_map rfl rfl rfl (by assumption) rfl ?_) | (refine gq4 ?_; first | refine st_field_t rx_ ?_ | refine st_field_p rfl (Nat.zero_add _) ?_) | refine st_gog rfl ?_ | refine st_pick_f (v := AV.bool _) rfl rfl ?_ | refine st_call rfl nt_ ?_) | (refine gx ?_; first | refine sx_seq ?_ | refine sx_ops rfl ?_ | refine sx_skip ?_ | refine sx_block ?_ | refine sx_ret ?_ | refine sx_exit ?_ | refine sx_cond_t rfl ?_) | refine sk_norm ?_ | refine sk_exit ?_ | refine bk_exit ?_ | refine bk_other rfl ?_ | refine lk_exit ?_ | refine call_pure (by assumption) fz_ fz_ ?_
     refine fin_ret (v := .tup [.int .i64 lo, .int .i64 tg]) rfl ?_
     rw [← hlong]
    ·obtain ⟨b, rfl⟩ : ∃ b : Nat, x = b := ⟨x.toNat, by unfold In at hx1; omega⟩
     have hb : b < d.tags.l.length := by unfold In at hx1; omega
     obtain ⟨g, hg⟩ := ex_get hb
     have htag : d.plain.tag b = g := by simp [PD.tag, Dfa.plain, List.getD_eq_getElem?_getD, hg]
     rw [if_neg (by omega), htag] at hlong
     by_cases hg0 : 0 ≤ g
     ·rw [if_pos hg0] at hlong
      repeat' first | refine st_nil ?_ | (refine gw ?_; first | refine st_mv rx_ ?_ | (refine gq2 ?_; first | refine st_load_t rx_ ?_ | refine st_load_r rfl b_ pv_ ?_ | refine st_load_p rfl hq_ (by simp) b_ pv_ ?_) | (refine gq3 ?_; first | refine st_bin_t1 rx_ ?_ | refine st_bin_t2 rx_ ?_ | refine st_add rfl rfl rfl (by omega) (by omega) ?_ | (refine st_lss rfl rfl rfl ?_ ?_ <;> (intro hc; try (exfalso; omega))) | (refine st_geq rfl rfl rfl ?_ ?_ <;> (intro hc; try (exfalso; omega))) | (refine st_eql rfl rfl rfl ?_ ?_ <;> (intro hc; try (exfalso; omega)))) | (refine gq5 ?_; first | refine st_index_t1 rx_ ?_ | refine st_index_t2 rx_ ?_ | refine st_index_map' rfl rfl hr (by omega) rfl ?_ | refine st_index_map' rfl rfl hx (by omega) rfl ?_ | refine st_index_map' rfl rfl hg (by omega) rfl ?_ | refine st_index_map rfl rfl rfl (by assumption) rfl ?_) | (refine gq4 ?_; first | refine st_field_t rx_ ?_ | refine st_field_p rfl (Nat.zero_add _) ?_) | refine st_gog rfl ?_ | refine st_pick_f (v := AV.bool _) rfl rfl ?_ | refine st_call rfl nt_ ?_) | (refine gx ?_; first | refine sx_seq ?_ | refine sx_ops rfl ?_ | refine sx_skip ?_ | refine sx_block ?_ | refine sx_cond_t rfl ?_ | refine sx_cond_f rfl ?_) | refine sk_norm ?_ | refine bk_norm ?_ | refine call_pure (by assumption) fz_ fz_ ?_
      exact lk_next hi2 ⟨b, _, _, hb, hlong, hb1, hh_⟩
     ·rw [if_neg hg0] at hlong
      repeat' first | refine st_nil ?_ | (refine gw ?_; first | refine st_mv rx_ ?_ | (refine gq2 ?_; first | refine st_load_t rx_ ?_ | refine st_load_r rfl b_ pv_ ?_ | refine st_load_p rfl hq_ (by simp) b_ pv_ ?_) | (refine gq3 ?_; first | refine st_bin_t1 rx_ ?_ | refine st_bin_t2 rx_ ?_ | refine st_add rfl rfl rfl (by omega) (by omega) ?_ | (refine st_lss rfl rfl rfl ?_ ?_ <;> (intro hc; try (exfalso; omega))) | (refine st_geq rfl rfl rfl ?_ ?_ <;> (intro hc; try (exfalso; omega))) | (refine st_eql rfl rfl rfl ?_ ?_ <;> (intro hc; try (exfalso; omega)))) | (refine gq5 ?_; first | refine st_index_t1 rx_ ?_ | refine st_index_t2 rx_ ?_ | refine st_index_map' rfl rfl hr (by omega) rfl ?_ | refine st_index_map' rfl rfl hx (by omega) rfl ?_ | refine st_index_map' rfl rfl hg (by omega) rfl ?_ | refine st_index_map rfl rfl rfl (by assumption) rfl ?_) | (refine gq4 ?_; first | refine st_field_t rx_ ?_ | refine st_field_p rfl (Nat.zero_add _) ?_) | refine st_gog rfl ?_ | refine st_pick_f (v := AV.bool _) rfl rfl ?_ | refine st_call rfl nt_ ?_) | (refine gx ?_; first | refine sx_seq ?_ | refine sx_ops rfl ?_ | refine sx_skip ?_ | refine sx_block ?_ | refine sx_cond_t rfl ?_ | refine sx_cond_f rfl ?_) | refine sk_norm ?_ | refine bk_norm ?_ | refine call_pure (by assumption) fz_ fz_ ?_
      exact lk_next hi2 ⟨b, _, _, hb, hlong, hb1, hh_⟩
  ·rw [List.drop_of_length_le (by omega)] at hlong
   unfold longFromP at hlong
   repeat' first | refine st_nil ?_ | (refine gw ?_; first | refine st_mv rx_ ?_ | (refine gq3 ?_; first | refine st_bin_t1 rx_ ?_ | refine st_bin_t2 rx_ ?_ | (refine st_lss rfl rfl rfl ?_ ?_ <;> (intro hc; try (exfalso; omega))))) | (refine gx ?_; first | refine sx_seq ?_ | refine sx_ops rfl ?_ | refine sx_ret ?_ | refine sx_exit ?_ | refine sx_cond_f rfl ?_) | refine sk_norm ?_ | refine sk_exit ?_ | refine bk_exit ?_ | refine lk_exit ?_
   refine fin_ret (v := .tup [.int .i64 lo, .int .i64 tg]) rfl ?_
   rw [← hlong]
 ·rw [soundD_f hok] at hsd
  have : ¬ soundD d = true := by rw [soundD_f hok]; decide
  rw [longD, if_neg this]
  repeat' first | refine st_nil ?_ | (refine gw ?_; first | refine st_mv rx_ ?_ | (refine gq2 ?_; first | refine st_load_t rx_ ?_ | refine st_load_p rfl hq_ (by simp) b_ pv_ ?_) | refine st_call rfl nt_ ?_ | refine st_not (b := false) rfl ?_) | (refine gx ?_; first | refine sx_seq ?_ | refine sx_ops rfl ?_ | refine sx_ret ?_ | refine sx_cond_t rfl ?_) | refine sk_norm ?_ | refine sk_ret ?_ | refine call_pure (by assumption) fz_ fz_ ?_
  exact fin_ret (v := .tup [.int .i64 0, .int .i64 (-1)]) rfl rfl
end Go.Proofs.YtdldfflfbfpngaaGreatDoor
set_option linter.unusedVariables false
set_option linter.unusedSimpArgs false
namespace Go.Proofs.YtdldfflfbfpngaaGreatDoor
open Go
set_option maxHeartbeats 4000000
def textI (l : List Int) : List UInt8 := l.flatMap fun x => intS x ++ [32]
theorem textI_snoc {l : List Int} {i : Nat} {x : Int} (h : l[i]? = some x) : textI (l.take (i + 1)) = textI (l.take i) ++ intS x ++ [32] := by
 unfold textI
 rw [take_snoc h, List.flatMap_append]
 simp
theorem split_end : ∀ {a b r s : List UInt8}, (∀ c ∈ a, c ≠ 32) → (∀ c ∈ b, c ≠ 32) → a ++ 32 :: r = b ++ 32 :: s → a = b ∧ r = s
 | [], [], _, _, _, _, e => ⟨rfl, by injection e⟩
 | [], c :: b, _, _, _, hb, e => by
  injection e with e1 _
  exact absurd e1.symm (hb c (by simp))
 | c :: a, [], _, _, ha, _, e => by
  injection e with e1 _
  exact absurd e1 (ha c (by simp))
 | c :: a, d :: b, r, s, ha, hb, e => by
  injection e with e1 e2
  obtain ⟨h1, h2⟩ := split_end (fun x hx => ha x (by simp [hx])) (fun x hx => hb x (by simp [hx])) e2
  exact ⟨by rw [e1, h1], h2⟩
theorem textI_inj : ∀ {l m : List Int}, textI l = textI m → l = m
 | [], [], _ => rfl
 | [], y :: m, e => by simp [textI] at e
 | x :: l, [], e => by simp [textI] at e
 | x :: l, y :: m, e => by
  have e' : intS x ++ 32 :: textI l = intS y ++ 32 :: textI m := by simpa [textI] using e
  obtain ⟨h1, h2⟩ := split_end intS_no intS_no e'
  rw [intS_inj h1, textI_inj h2]
theorem textI_length {l : List Int} (h : ∀ x ∈ l, -2147483648 ≤ x ∧ x ≤ 2147483647) : (textI l).length ≤ 10 * l.length := by
 induction l with
 | nil => simp [textI]
 | cons x l ih =>
  have h1 := ih fun y hy => h y (by simp [hy])
  have h2 := h x (by simp)
  have h3 := intS_9 h2.1 h2.2
  simp only [textI, List.flatMap_cons, List.length_append, List.length_cons, List.length_nil] at h1 ⊢
  omega
attribute [local irreducible] wops xcode wcode seqK blockK loopK finK wcall wop wstp Runs
theorem dtext_ok {Φ : Lib} (L : LibC3 Φ) (L5 : LibC5 Φ) (l : List Int) (hl : l.length ≤ 1048576) (hr : ∀ x ∈ l, -2147483648 ≤ x ∧ x ≤ 2147483647) : Pure Φ 184 [rowI l] (.str (textI l)) := by
 refine runs_of (fun _ => false) rfl L5.f184 ?_
 repeat' first | refine st_nil ?_ | (refine gw ?_; first | (refine gq0 ?_; first | refine st_mv (v := AV.int _ _) rfl ?_ | refine st_mv (v := AV.rd _ _ _) rfl ?_ | refine st_mv (v := AV.str _) rfl ?_) | refine st_len_rd rfl ?_) | (refine gx ?_; first | refine sx_seq ?_ | refine sx_ops rfl ?_ | refine sx_block ?_) | refine sk_norm ?_
 refine sx_for l.length (fun i env h' => ∃ v, IsRow h' v 1 (textI (l.take i)).length (byteCells (textI (l.take i))) ∧ env.has [(3, v), (6, rowI l), (7, .int .i64 l.length), (8, .int .i64 i)]) ⟨_, IsRow.nil _ _, hh_⟩ ?_
 rintro i env h' hi ⟨v, hv, he⟩
 obtain ⟨env, rfl⟩ := he.ex
 clear he
 have hnt := hv.notTup
 by_cases hi2 : i < l.length
 ·obtain ⟨x, hx⟩ := ex_get hi2
  have hxr := hr x (List.mem_of_getElem? hx)
  have hlen : (textI (l.take i)).length ≤ 10 * (l.take i).length := textI_length fun y hy => hr y (List.mem_of_mem_take hy)
  rw [List.length_take] at hlen
  have h9 := intS_9 hxr.1 hxr.2
  repeat' first | refine st_nil ?_ | (refine gw ?_; first | (refine gq0 ?_; first | refine st_mv (v := AV.int _ _) rfl ?_ | refine st_mv rv_ ?_) | refine st_load_r rfl b_ pv_ ?_ | (refine st_lss rfl rfl rfl ?_ ?_ <;> (intro hc; try (exfalso; omega))) | refine st_index_map' rfl rfl hx (by omega) rfl ?_ | refine st_call rfl nt_ ?_) | (refine gx ?_; first | refine sx_seq ?_ | refine sx_ops rfl ?_ | refine sx_skip ?_ | refine sx_block ?_ | refine sx_cond_t rfl ?_) | refine sk_norm ?_
  refine call_any (strconv_ok L hv (by omega) x (by omega) (by omega)) ?_
  rintro v2 h2 ⟨hv2, hk2, hi2'⟩
  have hnt2 := hv2.notTup
  repeat' first | refine st_nil ?_ | (refine gw ?_; first | (refine gq0 ?_; first | refine st_mv (v := AV.int _ _) rfl ?_ | refine st_mv rv_ ?_) | refine st_add rfl rfl rfl (by omega) (by omega) ?_ | (refine st_append (m := 1) rv_ ir_ rfl rfl (by omega) ?_; intro va hpa hra hka hria) | refine st_lit (cs := [AV.int _ _]) rfl rfl ?_) | refine sx_ops rfl ?_ | refine sk_norm ?_ | refine bk_norm ?_
  refine lk_next hi2 ⟨va, ?_, hh_⟩
  rw [textI_snoc hx, byteCells_append, byteCells_append, List.length_append, List.length_append]
  exact hra
 ·have hii : i = l.length := by omega
  rw [List.take_of_length_le (by omega)] at hv
  have hns : v.isStr = false := by rcases hv with ⟨rfl, _⟩ | ⟨_, _, rfl, _⟩ <;> rfl
  repeat' first | refine st_nil ?_ | (refine gw ?_; first | refine st_mv rv_ ?_ | (refine st_lss rfl rfl rfl ?_ ?_ <;> (intro hc; try (exfalso; omega)))) | (refine gx ?_; first | refine sx_seq ?_ | refine sx_ops rfl ?_ | refine sx_exit ?_ | refine sx_cond_f rfl ?_) | refine sk_norm ?_ | refine sk_exit ?_ | refine bk_exit ?_ | refine lk_exit ?_
  refine st_strOf rfl hns (srcCells_row hv) ?_
  repeat' first | refine st_nil ?_ | refine st_mv (v := AV.str _) rfl ?_ | refine sx_ret ?_ | refine sk_norm ?_
  exact fin_ret rfl rfl
end Go.Proofs.YtdldfflfbfpngaaGreatDoor
