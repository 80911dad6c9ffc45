/- The statements: DfaSounds. -/
import Derived.Test.YtdldfflfbfpngaaGreatDoorD7
import Derived.Test.YtdldfflfbfpngaaGreatDoorO7
set_option linter.unusedVariables false
set_option linter.unusedSimpArgs false
namespace Go.Proofs.YtdldfflfbfpngaaGreatDoor
open Go
set_option maxHeartbeats 4000000
attribute [local irreducible] wops xcode wcode seqK blockK loopK finK wcall wop wstp Runs
def sizeR {α : Type} (l : List (Rw α)) : Nat := (l.map fun r => 1 + r.l.length).sum
theorem sizeR_snoc {α : Type} {l : List (Rw α)} {i : Nat} {r : Rw α} (h : l[i]? = some r) : sizeR (l.take (i + 1)) = sizeR (l.take i) + (1 + r.l.length) := by
 unfold sizeR
 rw [take_snoc h, List.map_append, List.sum_append]
 simp
theorem sizeR_le {α : Type} (l : List (Rw α)) (h : ∀ r ∈ l, r.l.length ≤ 1048576) : sizeR l ≤ l.length * 1048577 := by
 induction l with
 | nil => simp [sizeR]
 | cons r l ih =>
  have h1 := ih fun q hq => h q (by simp [hq])
  have h2 := h r (by simp)
  simp only [sizeR, List.map_cons, List.sum_cons, List.length_cons] at h1 ⊢
  omega
theorem sizeR_take {α : Type} (l : List (Rw α)) (h : ∀ r ∈ l, r.l.length ≤ 1048576) (hl : l.length ≤ 1048576) (i : Nat) : sizeR (l.take i) ≤ 1099512676352 := by
 have h1 := sizeR_le (l.take i) fun r hr => h r (List.mem_of_mem_take hr)
 have h2 : (l.take i).length ≤ 1048576 := by rw [List.length_take]; omega
 have h3 := Nat.mul_le_mul_right 1048577 h2
 omega
theorem sizeR_mem {α : Type} {l : List (Rw α)} {r : Rw α} (h : r ∈ l) : r.l.length ≤ sizeR l := by
 induction l with
 | nil => cases h
 | cons a l ih =>
  simp only [sizeR, List.map_cons, List.sum_cons]
  rcases List.mem_cons.1 h with rfl | h
  ·omega
  ·have := ih h
   simp only [sizeR] at this
   omega
theorem sizeR_len {α : Type} (l : List (Rw α)) : l.length ≤ sizeR l := by
 induction l with
 | nil => simp
 | cons a l ih =>
  simp only [sizeR, List.map_cons, List.sum_cons, List.length_cons] at ih ⊢
  omega
theorem sizeR_cat (l : List (Rw Span)) : (catS l).length ≤ sizeR l := by
 induction l with
 | nil => simp [catS]
 | cons a l ih =>
  simp only [sizeR, catS, List.map_cons, List.sum_cons, List.flatMap_cons, List.length_append] at ih ⊢
  omega
structure GivenD (d : Dfa) : Prop where
 tags : d.tags.l.length ≤ 1048576
 parts : d.parts.l.length ≤ 1048576
 next : d.next.l.length ≤ 1048576
 part : ∀ p ∈ d.parts.l, p.l.length ≤ 1048576
 row : ∀ r ∈ d.next.l, r.l.length ≤ 1048576
 wide : ∀ p ∈ d.parts.l, ∀ s ∈ p.l, -9223372036854775808 ≤ s.lo ∧ s.lo ≤ 9223372036854775807 ∧ -9223372036854775808 ≤ s.hi ∧ s.hi ≤ 9223372036854775807
def sizeD (d : Dfa) : Nat := d.tags.l.length + sizeR d.parts.l + sizeR d.next.l
theorem heavy_ok {Φ : Lib} (L5 : LibC5 Φ) (d : Dfa) (hd : GivenD d) : Pure Φ 170 [.agg d.av] (.bool (decide ((150 : Int) < sizeD d))) := by
 refine runs_of (fun _ => false) rfl L5.f170 ?_
 have h1 := hd.tags
 have h2 := hd.parts
 have h3 := hd.next
 have hb1 := sizeR_take d.parts.l hd.part hd.parts
 have hb2 := sizeR_take d.next.l hd.row hd.next
 repeat' first | refine st_nil ?_ | (refine gw ?_; first | refine st_mv rx_ ?_ | (refine gq2 ?_; first | refine st_load_t rx_ ?_ | refine st_load_p rfl hg_ (by simp) b_ pv_ ?_) | (refine gq6 ?_; first | refine st_len_t rx_ ?_ | refine st_len_rd rfl ?_) | (refine gq4 ?_; first | refine st_field_t rx_ ?_ | refine st_field_p rfl (Nat.zero_add _) ?_) | (refine st_box (v := AV.agg _) rfl rfl ?_; intro id hid; try simp only [Heap.set_none] at hid)) | (refine gx ?_; first | refine sx_seq ?_ | refine sx_ops rfl ?_ | refine sx_block ?_) | refine sk_norm ?_
 have hbox : (Heap.empty.set id (.cells 0 (AV.agg d.av).cells)).get id = some (.cells 0 d.av) := Heap.get_set_self _ _ _
 obtain ⟨ib, rfl⟩ : ∃ x, x = id := ⟨_, rfl⟩
 refine sx_for d.parts.l.length (fun i env h' => h'.get ib = some (.cells 0 d.av) ∧ env.has [(1, .ptr ib 0 0), (3, .int .i64 ((d.tags.l.length + sizeR (d.parts.l.take i) : Nat) : Int)), (4, .int .i64 i)]) ⟨hbox, hh_⟩ ?_
 clear hbox
 rintro i env h' hi ⟨hb, he⟩
 obtain ⟨env, rfl⟩ := he.ex
 clear he
 have q1 := hb1 i
 by_cases hi2 : i < d.parts.l.length
 ·obtain ⟨p, hp⟩ := ex_get hi2
  have hpl := hd.part p (List.mem_of_getElem? hp)
  repeat' first | refine st_nil ?_ | (refine gw ?_; first | refine st_mv rx_ ?_ | (refine gq2 ?_; first | refine st_load_t rx_ ?_ | refine st_load_r rfl b_ pv_ ?_ | refine st_load_p rfl hg_ (by simp) b_ pv_ ?_) | (refine gq3 ?_; first | refine st_bin_t1 rx_ ?_ | refine st_bin_t2 rx_ ?_ | refine st_add rfl rfl rfl (by omega) (by omega) ?_ | (refine st_lss rfl rfl rfl ?_ ?_ <;> (intro hc; try (exfalso; omega)))) | (refine gq5 ?_; first | refine st_index_t1 rx_ ?_ | refine st_index_t2 rx_ ?_ | refine st_index_map' rfl rfl hp (by omega) rfl ?_) | (refine gq6 ?_; first | refine st_len_t rx_ ?_ | refine st_len_rd rfl ?_) | (refine gq4 ?_; first | refine st_field_t rx_ ?_ | refine st_field_p rfl (Nat.zero_add _) ?_)) | (refine gx ?_; first | refine sx_seq ?_ | refine sx_ops rfl ?_ | refine sx_skip ?_ | refine sx_block ?_ | refine sx_cond_t rfl ?_) | refine sk_norm ?_ | refine bk_norm ?_
  have e : ((d.tags.l.length + sizeR (d.parts.l.take (i + 1)) : Nat) : Int) = ((d.tags.l.length + sizeR (d.parts.l.take i) : Nat) : Int) + (1 + (p.l.length : Int)) := by
   rw [sizeR_snoc hp]; omega
  refine lk_next hi2 ⟨hb, ?_⟩
  simp only [e]
  exact hh_
 ·rw [List.take_of_length_le (by omega)]
  rw [List.take_of_length_le (by omega)] at q1
  repeat' first | refine st_nil ?_ | (refine gw ?_; first | refine st_mv rx_ ?_ | (refine gq2 ?_; first | refine st_load_t rx_ ?_ | refine st_load_p rfl hg_ (by simp) b_ pv_ ?_) | (refine gq3 ?_; first | refine st_bin_t1 rx_ ?_ | refine st_bin_t2 rx_ ?_ | (refine st_lss rfl rfl rfl ?_ ?_ <;> (intro hc; try (exfalso; omega)))) | (refine gq6 ?_; first | refine st_len_t rx_ ?_ | refine st_len_rd rfl ?_) | (refine gq4 ?_; first | refine st_field_t rx_ ?_ | refine st_field_p rfl (Nat.zero_add _) ?_)) | (refine gx ?_; first | refine sx_seq ?_ | refine sx_ops rfl ?_ | refine sx_block ?_ | refine sx_exit ?_ | refine sx_cond_f rfl ?_) | refine sk_norm ?_ | refine sk_exit ?_ | refine bk_exit ?_ | refine lk_exit ?_
  refine sx_for d.next.l.length (fun i env h' => h'.get ib = some (.cells 0 d.av) ∧ env.has [(1, .ptr ib 0 0), (3, .int .i64 ((d.tags.l.length + sizeR d.parts.l + sizeR (d.next.l.take i) : Nat) : Int)), (5, .int .i64 i)]) ⟨hb, hh_⟩ ?_
  clear hb
  rintro j env h' hj ⟨hb, he⟩
  obtain ⟨env, rfl⟩ := he.ex
  clear he
  have q2 := hb2 j
  by_cases hj2 : j < d.next.l.length
  ·obtain ⟨p, hp⟩ := ex_get hj2
   have hpl := hd.row p (List.mem_of_getElem? hp)
   repeat' first | refine st_nil ?_ | (refine gw ?_; first | refine st_mv rx_ ?_ | (refine gq2 ?_; first | refine st_load_t rx_ ?_ | refine st_load_r rfl b_ pv_ ?_ | refine st_load_p rfl hg_ (by simp) b_ pv_ ?_) | (refine gq3 ?_; first | refine st_bin_t1 rx_ ?_ | refine st_bin_t2 rx_ ?_ | refine st_add rfl rfl rfl (by omega) (by omega) ?_ | (refine st_lss rfl rfl rfl ?_ ?_ <;> (intro hc; try (exfalso; omega)))) | (refine gq5 ?_; first | refine st_index_t1 rx_ ?_ | refine st_index_t2 rx_ ?_ | refine st_index_map' rfl rfl hp (by omega) rfl ?_) | (refine gq6 ?_; first | refine st_len_t rx_ ?_ | refine st_len_rd rfl ?_) | (refine gq4 ?_; first | refine st_field_t rx_ ?_ | refine st_field_p rfl (Nat.zero_add _) ?_)) | (refine gx ?_; first | refine sx_seq ?_ | refine sx_ops rfl ?_ | refine sx_skip ?_ | refine sx_block ?_ | refine sx_cond_t rfl ?_) | refine sk_norm ?_ | refine bk_norm ?_
   have e : ((d.tags.l.length + sizeR d.parts.l + sizeR (d.next.l.take (j + 1)) : Nat) : Int) = ((d.tags.l.length + sizeR d.parts.l + sizeR (d.next.l.take j) : Nat) : Int) + (1 + (p.l.length : Int)) := by
    rw [sizeR_snoc hp]; omega
   refine lk_next hj2 ⟨hb, ?_⟩
   simp only [e]
   exact hh_
  ·rw [List.take_of_length_le (by omega)]
   rw [List.take_of_length_le (by omega)] at q2
   have e : d.tags.l.length + sizeR d.parts.l + sizeR d.next.l = sizeD d := rfl
   rw [e]
   repeat' first | refine st_nil ?_ | (refine gw ?_; first | refine st_mv rx_ ?_ | (refine gq2 ?_; first | refine st_load_t rx_ ?_ | refine st_load_p rfl hg_ (by simp) b_ pv_ ?_) | (refine gq3 ?_; first | refine st_bin_t1 rx_ ?_ | refine st_bin_t2 rx_ ?_ | (refine st_lss rfl rfl rfl ?_ ?_ <;> (intro hc; try (exfalso; omega))) | (refine st_gtr rfl rfl rfl ?_ ?_ <;> (intro hc; try (exfalso; omega)))) | (refine gq6 ?_; first | refine st_len_t rx_ ?_ | refine st_len_rd rfl ?_) | (refine gq4 ?_; first | refine st_field_t rx_ ?_ | refine st_field_p rfl (Nat.zero_add _) ?_)) | (refine gx ?_; first | refine sx_seq ?_ | refine sx_ops rfl ?_ | refine sx_ret ?_ | refine sx_exit ?_ | refine sx_cond_f rfl ?_) | refine sk_norm ?_ | refine sk_exit ?_ | refine bk_exit ?_ | refine lk_exit ?_
   ·refine fin_ret (v := .bool true) rfl ?_
    rw [decide_eq_true (by assumption)]
   ·refine fin_ret (v := .bool false) rfl ?_
    rw [decide_eq_false (by assumption)]
theorem GivenD.wides {d : Dfa} (h : GivenD d) (hs : sizeD d ≤ 150) : d.Wide := by
 unfold sizeD at hs
 have h1 := sizeR_len d.parts.l
 have h2 := sizeR_len d.next.l
 have h3 := sizeR_cat d.parts.l
 refine ⟨⟨by omega, h.parts, h.next, h.row, h.tags⟩, fun p hp => ⟨?_, fun s hs => (h.wide p hp s hs).2.2.1⟩⟩
 have := sizeR_mem hp
 omega
set_option maxRecDepth 100000 in
theorem dfaSounds_ok {Φ : Lib} (L : LibC3 Φ) (L1 : C1Lib Φ) (L2 : C2Lib Φ) (SL : SortLib Φ) (G : GrowLib Φ) (L5 : LibC5 Φ) (KL : KeyLib Φ) (d : Dfa) (hd : GivenD d) (c : Rw (Rw Int)) (k : Int) (next tags : Rw Int) (hm : MakeIn c k next tags) (s r : Rw Int) (hsl : s.l.length ≤ 1048576) (hrl : r.l.length ≤ 1048576) (hrx : ∀ x ∈ r.l, 0 ≤ x ∧ x ≤ 65535) :
  Runs Φ 164 [.agg d.av, c.mv u16row, .int .u8 k, i8row next, i8row tags, s.iv, u16row r] Heap.empty (fun v _ => v = .bool true) := by
 have hkn := knownD_ok L L1 SL G L5 KL
 have hhv := heavy_ok L5 d hd
 refine runs_of (fun o => o == some 64) rfl L5.f164 ?_
 by_cases hh : (150 : Int) < sizeD d
 ·rw [decide_eq_true hh] at hhv
  repeat' first | refine st_nil ?_ | (refine gw ?_; first | refine st_mv rx_ ?_ | (refine gq2 ?_; first | refine st_load_t rx_ ?_ | refine st_load_p rfl hg_ (by simp) b_ pv_ ?_) | refine st_skipg rfl ?_ | refine st_pick_t (v := AV.bool _) rfl rfl ?_ | refine st_call rfl nt_ ?_ | (refine st_box (v := AV.agg _) rfl rfl ?_; intro id hid; try simp only [Heap.set_none] at hid)) | (refine gx ?_; first | refine sx_seq ?_ | refine sx_ops rfl ?_ | refine sx_ret ?_ | refine sx_cond_t rfl ?_) | refine sk_norm ?_ | refine sk_ret ?_ | refine call_pure (by assumption) fz_ fz_ ?_
  all_goals exact fin_ret (v := .bool true) rfl rfl
 rw [decide_eq_false hh] at hhv
 have hw := hd.wides (by omega)
 by_cases h30 : 30 < s.l.length
 ·repeat' first | refine st_nil ?_ | (refine gw ?_; first | refine st_mv rx_ ?_ | (refine gq2 ?_; first | refine st_load_t rx_ ?_ | refine st_load_p rfl hg_ (by simp) b_ pv_ ?_) | (refine gq3 ?_; first | refine st_bin_t1 rx_ ?_ | (refine st_gtr rfl rfl rfl ?_ ?_ <;> (intro hc; try (exfalso; omega)))) | (refine gq6 ?_; first | refine st_len_t rx_ ?_ | refine st_len_rd rfl ?_) | (refine gq1 ?_; first | refine st_skipg rfl ?_ | refine st_gog rfl ?_) | (refine gq7 ?_; first | refine st_pick_t (v := AV.bool _) rfl rfl ?_ | refine st_pick_f (v := AV.bool _) rfl rfl ?_) | refine st_call rfl nt_ ?_ | (refine st_box (v := AV.agg _) rfl rfl ?_; intro id hid; try simp only [Heap.set_none] at hid)) | (refine gx ?_; first | refine sx_seq ?_ | refine sx_ops rfl ?_ | refine sx_ret ?_ | refine sx_cond_t rfl ?_) | refine sk_norm ?_ | refine sk_ret ?_ | refine call_pure (by assumption) fz_ fz_ ?_
  all_goals exact fin_ret (v := .bool true) rfl rfl
 by_cases h31 : 30 < r.l.length
 ·repeat' first | refine st_nil ?_ | (refine gw ?_; first | refine st_mv rx_ ?_ | (refine gq2 ?_; first | refine st_load_t rx_ ?_ | refine st_load_p rfl hg_ (by simp) b_ pv_ ?_) | (refine gq3 ?_; first | refine st_bin_t1 rx_ ?_ | (refine st_gtr rfl rfl rfl ?_ ?_ <;> (intro hc; try (exfalso; omega)))) | (refine gq6 ?_; first | refine st_len_t rx_ ?_ | refine st_len_rd rfl ?_) | (refine gq1 ?_; first | refine st_skipg rfl ?_ | refine st_gog rfl ?_) | (refine gq7 ?_; first | refine st_pick_t (v := AV.bool _) rfl rfl ?_ | refine st_pick_f (v := AV.bool _) rfl rfl ?_) | refine st_call rfl nt_ ?_ | (refine st_box (v := AV.agg _) rfl rfl ?_; intro id hid; try simp only [Heap.set_none] at hid)) | (refine gx ?_; first | refine sx_seq ?_ | refine sx_ops rfl ?_ | refine sx_ret ?_ | refine sx_cond_t rfl ?_) | refine sk_norm ?_ | refine sk_ret ?_ | refine call_pure (by assumption) fz_ fz_ ?_
  all_goals exact fin_ret (v := .bool true) rfl rfl
 repeat' first | refine st_nil ?_ | (refine gw ?_; first | refine st_mv rx_ ?_ | (refine gq2 ?_; first | refine st_load_t rx_ ?_ | refine st_load_p rfl hg_ (by simp) b_ pv_ ?_) | (refine gq3 ?_; first | refine st_bin_t1 rx_ ?_ | (refine st_gtr rfl rfl rfl ?_ ?_ <;> (intro hc; try (exfalso; omega)))) | (refine gq6 ?_; first | refine st_len_t rx_ ?_ | refine st_len_rd rfl ?_) | refine st_gog rfl ?_ | refine st_pick_f (v := AV.bool _) rfl rfl ?_ | refine st_call rfl nt_ ?_ | (refine st_box (v := AV.agg _) rfl rfl ?_; intro id hid; try simp only [Heap.set_none] at hid) | refine st_not (b := true) rfl ?_) | (refine gx ?_; first | refine sx_seq ?_ | refine sx_ops rfl ?_ | refine sx_skip ?_ | refine sx_cond_f rfl ?_) | refine sk_norm ?_ | refine call_pure (by assumption) fz_ fz_ ?_
 refine make_call L L2 hm ?_
 intro x hx
 obtain ⟨ib, rfl⟩ : ∃ x, x = id := ⟨_, rfl⟩
 have hib := hid
 repeat' first | refine st_nil ?_ | (refine gw ?_; first | refine st_mv rx_ ?_ | (refine gq13 ?_; first | refine st_store_t1 rx_ ?_ | refine st_store_t2 rx_ ?_ | refine st_store_s (cs' := [AV.rd _ _ _, AV.rd _ _ _, AV.rd _ _ _]) rfl rfl rfl rfl b_ rfl ?_) | (refine st_alloc ?_; intro id hid; try simp only [Heap.set_none] at hid)) | (refine gx ?_; first | refine sx_seq ?_ | refine sx_ops rfl ?_ | refine sx_block ?_) | refine sk_norm ?_
 obtain ⟨ix, rfl⟩ : ∃ x, x = id := ⟨_, rfl⟩
 have hS0 := (((Sep.old Heap.empty).new (o := .cells 0 d.av) hib).new (id := ix) (o := .cells 0 x.av) (by rw [Heap.get_set_ne _ _ hid.1]; exact hid.2)).nil 1
 refine sx_for r.l.length (fun i env h' => ∃ v, Sep h' [cOld Heap.empty, cCell ib (.cells 0 d.av), cCell ix (.cells 0 x.av), cRow v 1 i ((scalarsL (r.l.take i)).map (.int .i64))] ∧ env.has [(5, s.iv), (6, u16row r), (7, .ptr ib 0 0), (15, .ptr ix 0 0), (16, v), (17, .int .i64 i)]) ⟨_, hS0, hh_⟩ ?_
 clear hS0 hid hib
 rintro i env h' hi ⟨v, hS, he⟩
 have ha : h'.get ib = some (.cells 0 d.av) := hS.get (i := 1) rfl
 have hb : h'.get ix = some (.cells 0 x.av) := hS.get (i := 2) rfl
 have hrow : IsRow h' v 1 i _ := hS.get (i := 3) rfl
 obtain ⟨env, rfl⟩ := he.ex
 clear he
 by_cases hi2 : i < r.l.length
 ·obtain ⟨y, hy⟩ := ex_get hi2
  have hyx := hrx y (List.mem_of_getElem? hy)
  repeat' first | refine st_nil ?_ | (refine gw ?_; first | refine st_mv rx_ ?_ | (refine gq2 ?_; first | refine st_load_t rx_ ?_ | refine st_load_r rfl b_ pv_ ?_) | (refine gq3 ?_; first | refine st_bin_t1 rx_ ?_ | refine st_bin_t2 rx_ ?_ | refine st_add rfl rfl rfl (by omega) (by omega) ?_ | (refine st_lss rfl rfl rfl ?_ ?_ <;> (intro hc; try (exfalso; omega))) | refine st_rem rfl rfl rfl (by omega) (by omega) ?_) | (refine gq5 ?_; first | refine st_index_t1 rx_ ?_ | refine st_index_t2 rx_ ?_ | refine st_index_map' rfl rfl hy (by omega) rfl ?_) | (refine gq6 ?_; first | refine st_len_t rx_ ?_ | refine st_len_rd rfl ?_) | (refine gq14 ?_; first | refine st_append_t1 rx_ ?_ | refine st_append_t2 rx_ ?_ | (refine st_append (m := 1) rx_ ir_ rfl rfl (by omega) ?_; intro va hpa hra hka hria)) | refine st_lit (cs := [AV.int _ _]) rfl rfl ?_ | refine st_conv rfl (by omega) (by omega) ?_) | (refine gx ?_; first | refine sx_seq ?_ | refine sx_ops rfl ?_ | refine sx_skip ?_ | refine sx_block ?_ | refine sx_cond_t rfl ?_) | refine sk_norm ?_ | refine bk_norm ?_
  have hS2 := hS.upd 3 (cRow va 1 (i + 1) ((scalarsL (r.l.take i)).map (.int .i64) ++ [.int .i64 (y % 230)])) rfl hra hka hria
  refine lk_next hi2 ⟨va, ?_, hh_⟩
  have e : (scalarsL (r.l.take (i + 1))).map (AV.int .i64) = (scalarsL (r.l.take i)).map (.int .i64) ++ [.int .i64 (y % 230)] := by
   rw [take_snoc hy]; simp [scalarsL]
  rw [e]
  exact hS2
 ·have hi3 : i = r.l.length := by omega
  subst hi3
  rw [List.take_length] at hrow
  have hsl2 : (scalarsL r.l).length = r.l.length := by simp [scalarsL]
  rw [← hsl2] at hrow
  have k1 := dlong_ok L1 L SL G L5 d hw s hsl
  have k2 := rlong11_ok L L2 d hw s hsl
  have k3 := dlong_ok L1 L SL G L5 x hx.wide ⟨scalarsL r.l, false⟩ (by show (scalarsL r.l).length ≤ _; omega)
  have k4 := rlong11_ok L L2 x hx.wide ⟨scalarsL r.l, false⟩ (by show (scalarsL r.l).length ≤ _; omega)
  have k5 := dsound_ok L L1 SL G d hw.fits
  have k6 := rsound11_ok L L2 d hw
  have k7 := dsound_ok L L1 SL G x hx.wide.fits
  rw [soundD_t hx.ok] at k7
  simp only at k3 k4
  generalize longD d s.l = z at k1 k2
  generalize longD x (scalarsL r.l) = z2 at k3 k4
  generalize soundD d = b at k5 k6
  cases b
  ·repeat' first | refine st_nil ?_ | (refine gw ?_; first | refine st_mv rx_ ?_ | (refine gq3 ?_; first | refine st_bin_t1 rx_ ?_ | refine st_bin_t2 rx_ ?_ | (refine st_lss rfl rfl rfl ?_ ?_ <;> (intro hc; try (exfalso; omega)))) | (refine gq6 ?_; first | refine st_len_t rx_ ?_ | refine st_len_rd rfl ?_)) | (refine gx ?_; first | refine sx_seq ?_ | refine sx_ops rfl ?_ | refine sx_exit ?_ | refine sx_cond_f rfl ?_) | refine sk_norm ?_ | refine sk_exit ?_ | refine bk_exit ?_ | refine lk_exit ?_
   refine sx_freeze 16 (v := v) rfl rfl hrow ?_
   intro h3 hk3
   have hS2 := hS.drop 3 (h' := h3) rfl hk3
   clear ha hb hrow hS
   have ha : h3.get ib = some (.cells 0 d.av) := hS2.get (i := 1) rfl
   have hb : h3.get ix = some (.cells 0 x.av) := hS2.get (i := 2) rfl
   repeat' first | refine st_nil ?_ | (refine gw ?_; first | refine st_mv rx_ ?_ | (refine gq2 ?_; first | refine st_load_t rx_ ?_ | refine st_load_p rfl hg_ (by simp) b_ pv_ ?_) | (refine gq3 ?_; first | refine st_bin_t1 rx_ ?_ | refine st_bin_t2 rx_ ?_ | (refine st_eql rfl rfl rfl ?_ ?_ <;> (intro hc; try (exfalso; omega)))) | refine st_gog rfl ?_ | refine st_pick_t (v := AV.bool _) rfl rfl ?_ | refine st_call rfl nt_ ?_ | refine st_extract rfl rfl ?_ | refine st_eqBB rfl rfl ?_) | (refine gx ?_; first | refine sx_seq ?_ | refine sx_ops rfl ?_ | refine sx_ret ?_) | refine sk_norm ?_ | refine call_pure (by assumption) fz_ fz_ ?_
   all_goals first
    | exact fin_ret (v := .bool true) rfl rfl
    | (exfalso; omega)
    | (exfalso; simp_all; done)
  ·repeat' first | refine st_nil ?_ | (refine gw ?_; first | refine st_mv rx_ ?_ | (refine gq3 ?_; first | refine st_bin_t1 rx_ ?_ | refine st_bin_t2 rx_ ?_ | (refine st_lss rfl rfl rfl ?_ ?_ <;> (intro hc; try (exfalso; omega)))) | (refine gq6 ?_; first | refine st_len_t rx_ ?_ | refine st_len_rd rfl ?_)) | (refine gx ?_; first | refine sx_seq ?_ | refine sx_ops rfl ?_ | refine sx_exit ?_ | refine sx_cond_f rfl ?_) | refine sk_norm ?_ | refine sk_exit ?_ | refine bk_exit ?_ | refine lk_exit ?_
   refine sx_freeze 16 (v := v) rfl rfl hrow ?_
   intro h3 hk3
   have hS2 := hS.drop 3 (h' := h3) rfl hk3
   clear ha hb hrow hS
   have ha : h3.get ib = some (.cells 0 d.av) := hS2.get (i := 1) rfl
   have hb : h3.get ix = some (.cells 0 x.av) := hS2.get (i := 2) rfl
   repeat' first | refine st_nil ?_ | (refine gw ?_; first | refine st_mv rx_ ?_ | (refine gq2 ?_; first | refine st_load_t rx_ ?_ | refine st_load_p rfl hg_ (by simp) b_ pv_ ?_) | (refine gq3 ?_; first | refine st_bin_t1 rx_ ?_ | refine st_bin_t2 rx_ ?_ | (refine st_eql rfl rfl rfl ?_ ?_ <;> (intro hc; try (exfalso; omega)))) | refine st_gog rfl ?_ | refine st_pick_t (v := AV.bool _) rfl rfl ?_ | refine st_call rfl nt_ ?_ | refine st_extract rfl rfl ?_ | refine st_eqBB rfl rfl ?_) | (refine gx ?_; first | refine sx_seq ?_ | refine sx_ops rfl ?_ | refine sx_ret ?_) | refine sk_norm ?_ | refine call_pure (by assumption) fz_ fz_ ?_
   all_goals first
    | exact fin_ret (v := .bool true) rfl rfl
    | (exfalso; omega)
    | (exfalso; simp_all; done)
end Go.Proofs.YtdldfflfbfpngaaGreatDoor
