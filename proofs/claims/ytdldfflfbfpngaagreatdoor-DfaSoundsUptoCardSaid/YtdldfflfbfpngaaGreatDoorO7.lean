/- The statements' small machine, at one place: the plain law. Machines at one place: bad bounds; known. -/
import Derived.Test.YtdldfflfbfpngaaGreatDoorO6
set_option linter.unusedVariables false
set_option linter.unusedSimpArgs false
namespace Go.Proofs.YtdldfflfbfpngaaGreatDoor
open Go
theorem inS_dot {c x : Int} : inS [⟨c, c⟩] x ↔ x = c := by
 simp only [inS, List.mem_singleton, exists_eq_left]
 omega
theorem normS_one {c : Int} (h : scal c = true) : normS [⟨c, c⟩] = [⟨c, c⟩] := by
 refine norm_of_canon ⟨List.pairwise_singleton _ _, fun s hs => ?_⟩ fun x hx => ?_
 ·simp only [List.mem_singleton] at hs; subst hs; exact Int.le_refl _
 ·rw [inS_dot] at hx; subst hx; exact h
theorem scal_97 : scal 97 = true := scal_iff.2 (by omega)
theorem scal_98 : scal 98 = true := scal_iff.2 (by omega)
def n1 : Nfa := ⟨⟨[⟨[⟨1, ⟨[⟨97, 97⟩], true⟩⟩], true⟩, ⟨[⟨2, ⟨[⟨98, 98⟩], true⟩⟩], true⟩, ⟨[], true⟩], true⟩, ⟨[⟨[], true⟩, ⟨[], true⟩, ⟨[], true⟩], true⟩, ⟨[-1, 0, 0], true⟩⟩
theorem n1_k : n1.k = 3 := rfl
theorem n1_frees {i : Nat} (h : i < 3) : n1.frees i = [] := by
 have : i = 0 ∨ i = 1 ∨ i = 2 := by omega
 rcases this with rfl | rfl | rfl <;> rfl
theorem n1_outs0 : n1.outs 0 = [⟨1, ⟨[⟨97, 97⟩], true⟩⟩] := rfl
theorem n1_outs1 : n1.outs 1 = [⟨2, ⟨[⟨98, 98⟩], true⟩⟩] := rfl
theorem n1_outs2 : n1.outs 2 = [] := rfl
theorem n1_ok : n1.Ok := by
 refine ⟨by decide, by decide, rfl, rfl, fun i hi t ht => ?_, fun i hi e he => ?_, fun t ht => ?_⟩
 ·rw [n1_k] at hi
  rw [n1_frees hi] at ht; cases ht
 ·rw [n1_k] at hi ⊢
  have : i = 0 ∨ i = 1 ∨ i = 2 := by omega
  rcases this with rfl | rfl | rfl
  ·rw [n1_outs0] at he
   simp at he; subst he
   exact ⟨by decide, normS_one scal_97⟩
  ·rw [n1_outs1] at he
   simp at he; subst he
   exact ⟨by decide, normS_one scal_98⟩
  ·rw [n1_outs2] at he; cases he
 ·simp [n1] at ht
  rcases ht with rfl | rfl <;> decide
theorem n1_fits : n1.Fits := by
 refine ⟨by decide, by decide, by decide, fun r hr => ?_, fun r hr => ?_, fun r hr e he s hs => ?_⟩
 ·simp [n1] at hr
  rcases hr with rfl | rfl | rfl
  ·exact ⟨by decide, fun e he => by simp at he; subst he; decide⟩
  ·exact ⟨by decide, fun e he => by simp at he; subst he; decide⟩
  ·exact ⟨by decide, fun e he => by cases he⟩
 ·simp [n1] at hr
  subst hr; decide
 ·simp [n1] at hr
  rcases hr with rfl | rfl | rfl
  ·simp at he; subst he
   simp at hs; subst hs; decide
  ·simp at he; subst he
   simp at hs; subst hs; decide
  ·cases he
theorem n1_small : n1.Small := by
 refine ⟨by decide, fun r hr e he => ?_, fun t ht => ?_⟩
 ·simp [n1] at hr
  rcases hr with rfl | rfl | rfl
  ·simp at he; subst he; decide
  ·simp at he; subst he; decide
  ·cases he
 ·simp [n1] at ht
  rcases ht with rfl | rfl <;> decide
theorem n1_reach {P : Nat → Prop} (hP : ∀ i, P i → i < 3) (i : Nat) : Reach n1 P i ↔ P i := by
 constructor
 ·intro h
  induction h with
  | base h => exact h
  | @step i t _ ht ih =>
   rw [n1_frees (hP i ih)] at ht; cases ht
 ·exact .base
theorem n1_close {P : Nat → Prop} {c : Nat} (hc : c < 3) (hP : ∀ i, P i ↔ i = c) : closeN n1 P = [(c : Int)] := by
 have hlt : ∀ i, P i → i < 3 := fun i h => by have := (hP i).1 h; omega
 refine rise_unique (closeN_sorted _ _) (List.pairwise_singleton _ _) fun x => ?_
 rw [mem_closeN n1_ok hlt, n1_reach hlt, hP]
 simp; omega
theorem n1_closeN {P : Nat → Prop} (hP : ∀ i, ¬ P i) : closeN n1 P = [] := by
 have hlt : ∀ i, P i → i < 3 := fun i h => absurd h (hP i)
 refine rise_unique (closeN_sorted _ _) .nil fun x => ?_
 rw [mem_closeN n1_ok hlt, n1_reach hlt]
 simp [hP]
theorem has_one {c r : Int} (hc : scal c = true) : hasS [⟨c, c⟩] r = true ↔ r = c := by
 rw [hasN (normS_one hc), inS_dot]
theorem n1_goes {at_ : List Int} {r : Int} (j : Nat) : goesTo n1 at_ r j ↔ ((0 : Int) ∈ at_ ∧ r = 97 ∧ j = 1) ∨ ((1 : Int) ∈ at_ ∧ r = 98 ∧ j = 2) := by
 simp only [goesTo, n1_k]
 constructor
 ·rintro ⟨s, hs, h1, h2, e, he, h3, rfl⟩
  have : s = 0 ∨ s = 1 ∨ s = 2 := by omega
  rcases this with rfl | rfl | rfl
  ·rw [show (0 : Int).toNat = 0 from rfl, n1_outs0] at he
   simp at he; subst he
   exact .inl ⟨hs, (has_one scal_97).1 h3, rfl⟩
  ·rw [show (1 : Int).toNat = 1 from rfl, n1_outs1] at he
   simp at he; subst he
   exact .inr ⟨hs, (has_one scal_98).1 h3, rfl⟩
  ·rw [show (2 : Int).toNat = 2 from rfl, n1_outs2] at he; cases he
 ·rintro (⟨hs, rfl, rfl⟩ | ⟨hs, rfl, rfl⟩)
  ·exact ⟨0, hs, by omega, by omega, ⟨1, ⟨[⟨97, 97⟩], true⟩⟩, by rw [show (0 : Int).toNat = 0 from rfl, n1_outs0]; simp, (has_one scal_97).2 rfl, rfl⟩
  ·exact ⟨1, hs, by omega, by omega, ⟨2, ⟨[⟨98, 98⟩], true⟩⟩, by rw [show (1 : Int).toNat = 1 from rfl, n1_outs1]; simp, (has_one scal_98).2 rfl, rfl⟩
theorem n1_sound : soundN n1 = true := sound_ok_iff.2 n1_ok
theorem n1_start : start1 n1 = [0] := by
 rw [start1, if_pos n1_sound]
 exact n1_close (c := 0) (by omega) fun _ => Iff.rfl
theorem n1_step0 : step1 n1 [0] 97 = [1] ∧ step1 n1 [0] 98 = [] := by
 unfold step1
 rw [if_pos n1_sound, if_pos n1_sound]
 exact ⟨n1_close (c := 1) (by omega) fun i => by rw [n1_goes]; simp, n1_closeN fun i => by rw [n1_goes]; simp⟩
theorem n1_step1 : step1 n1 [1] 97 = [] ∧ step1 n1 [1] 98 = [2] := by
 unfold step1
 rw [if_pos n1_sound, if_pos n1_sound]
 exact ⟨n1_closeN fun i => by rw [n1_goes]; simp, n1_close (c := 2) (by omega) fun i => by rw [n1_goes]; simp⟩
theorem n1_step2 : step1 n1 [2] 97 = [] ∧ step1 n1 [2] 98 = [] := by
 unfold step1
 rw [if_pos n1_sound, if_pos n1_sound]
 exact ⟨n1_closeN fun i => by rw [n1_goes]; simp, n1_closeN fun i => by rw [n1_goes]; simp⟩
theorem n1_tags : tags1 n1 [0] = [] ∧ tags1 n1 [1] = [0] ∧ tags1 n1 [2] = [0] := by
 unfold tags1
 rw [if_pos n1_sound, if_pos n1_sound, if_pos n1_sound]
 refine ⟨rise_unique (tagsN_rises _ _) .nil fun x => ?_, rise_unique (tagsN_rises _ _) (List.pairwise_singleton _ _) fun x => ?_, rise_unique (tagsN_rises _ _) (List.pairwise_singleton _ _) fun x => ?_⟩
 ·rw [tagsN_mem]
  simp only [List.mem_cons, List.not_mem_nil, or_false, n1_k, iff_false]
  rintro ⟨s, rfl, h1, h2, h3, h4⟩
  have : n1.tags.l.getD (0 : Int).toNat 0 = -1 := rfl
  omega
 ·rw [tagsN_mem]
  simp only [List.mem_cons, List.not_mem_nil, or_false, n1_k]
  constructor
  ·rintro ⟨s, rfl, h1, h2, h3, h4⟩
   exact h4.symm
  ·rintro rfl
   exact ⟨1, rfl, by omega, by omega, by omega, rfl⟩
 ·rw [tagsN_mem]
  simp only [List.mem_cons, List.not_mem_nil, or_false, n1_k]
  constructor
  ·rintro ⟨s, rfl, h1, h2, h3, h4⟩
   exact h4.symm
  ·rintro rfl
   exact ⟨2, rfl, by omega, by omega, by omega, rfl⟩
def P1 : List (Rw Span) := [⟨[⟨97, 97⟩], false⟩, ⟨[⟨98, 98⟩], false⟩]
theorem n1_sets : setsT n1.edges.l = [⟨[⟨97, 97⟩], true⟩, ⟨[⟨98, 98⟩], true⟩] := rfl
theorem n1_cls : Cls (setsT n1.edges.l) P1 := by
 rw [n1_sets]
 refine ⟨fun q hq => ?_, fun q hq x y hx hy hxy hi => ?_, fun q hq x y hx hy => ?_, fun x => ?_⟩
 ·simp [P1] at hq
  rcases hq with rfl | rfl
  ·exact ⟨by simp, normS_one scal_97⟩
  ·exact ⟨by simp, normS_one scal_98⟩
 ·simp [P1] at hq
  rcases hq with rfl | rfl
  ·have h1 := hxy ⟨[⟨97, 97⟩], true⟩ (by simp)
   rw [(hasR_of hx).2 hi] at h1
   exact (hasR_of hy).1 h1.symm
  ·have h1 := hxy ⟨[⟨98, 98⟩], true⟩ (by simp)
   rw [(hasR_of hx).2 hi] at h1
   exact (hasR_of hy).1 h1.symm
 ·simp [P1] at hq
  rcases hq with rfl | rfl
  ·rw [inS_dot] at hx hy
   rw [hx, hy]
   exact fun s hs => rfl
  ·rw [inS_dot] at hx hy
   rw [hx, hy]
   exact fun s hs => rfl
 ·unfold InU P1
  simp only [List.mem_cons, List.not_mem_nil, or_false, exists_eq_or_imp, exists_eq_left, inS_dot]
  constructor
  ·rintro (rfl | rfl)
   ·exact ⟨scal_97, .inl rfl⟩
   ·exact ⟨scal_98, .inr rfl⟩
  ·exact fun h => h.2
theorem n1_parts : flat0 (ofR (setsT n1.edges.l)).l = P1 := by
 have h1 := n1_cls.unique (ofR_cls _) (by unfold RisesP P1; simp [loOf]) (ofR_rises _)
 have h2 : flat0 (ofR (setsT n1.edges.l)).l = ((ofR (setsT n1.edges.l)).l.map (·.l)).map fun l => ⟨l, false⟩ := by rw [List.map_map]; rfl
 rw [h2, ← h1]
 rfl
theorem n1_row (a : List Int) : rowL n1 P1 a = [step1 n1 a 97, step1 n1 a 98] := rfl
theorem n1_acc1 : accL n1 P1 1 = [[0], [1]] := by
 rw [accL, accL, n1_start]
 show visitsL [[0]] (rowL n1 P1 [0]) = _
 rw [n1_row, n1_step0.1, n1_step0.2]
 rfl
theorem n1_acc2 : accL n1 P1 2 = [[0], [1], [2]] := by
 rw [accL, n1_acc1]
 show visitsL [[0], [1]] (rowL n1 P1 [1]) = _
 rw [n1_row, n1_step1.1, n1_step1.2]
 rfl
theorem n1_acc3 : accL n1 P1 3 = [[0], [1], [2]] := by
 rw [accL, n1_acc2]
 show visitsL [[0], [1], [2]] (rowL n1 P1 [2]) = _
 rw [n1_row, n1_step2.1, n1_step2.2]
 rfl
theorem n1_acc5 : accL n1 P1 5 = [[0], [1], [2]] := by
 rw [accL_stop n1 P1 (i := 3) (by rw [n1_acc3]; decide) (by omega), n1_acc3]
def pd1 : PD := ⟨[[⟨97, 97⟩], [⟨98, 98⟩]], [[1, -1], [-1, 2], [-1, -1]], [-1, 0, 0]⟩
theorem n1_mk : mkPD n1 (ofR (setsT n1.edges.l)).l 5 = pd1 := by
 rw [← mkPD_flat, n1_parts]
 unfold mkPD
 rw [n1_acc5]
 have h1 : rowsL n1 P1 [[0], [1], [2]] 3 = [[1, -1], [-1, 2], [-1, -1]] := by
  unfold rowsL
  simp only [List.take_succ_cons, List.take_zero, List.map_cons, List.map_nil, n1_row, n1_step0.1, n1_step0.2, n1_step1.1, n1_step1.2, n1_step2.1, n1_step2.2]
  rfl
 have h2 : tagsL n1 [[0], [1], [2]] 3 = [-1, 0, 0] := by
  unfold tagsL
  simp only [List.take_succ_cons, List.take_zero, List.map_cons, List.map_nil, n1_tags.1, n1_tags.2.1, n1_tags.2.2]
  rfl
 show (⟨plainS P1, rowsL n1 P1 [[0], [1], [2]] 3, tagsL n1 [[0], [1], [2]] 3⟩ : PD) = _
 rw [h1, h2]
 rfl
theorem n1_few : 2 < (accL n1 (ofR (setsT n1.edges.l)).l 2).length := by
 rw [← accL_flat, n1_parts, n1_acc2]; decide
theorem n1_many : (accL n1 (ofR (setsT n1.edges.l)).l 5).length ≤ 5 := by
 rw [← accL_flat, n1_parts, n1_acc5]; decide
theorem n1_long : longP pd1 [97, 98, 98] = (2, 0) := by
 decide
end Go.Proofs.YtdldfflfbfpngaaGreatDoor
set_option linter.unusedVariables false
set_option linter.unusedSimpArgs false
namespace Go.Proofs.YtdldfflfbfpngaaGreatDoor
open Go
set_option maxHeartbeats 4000000
attribute [local irreducible] wops xcode wcode seqK blockK loopK finK wcall wop wstp Runs
@[reducible] def bad16 (k : Int) : AV := .tup [.agg [.rd 0 [] true, .rd 0 [] true, .rd 0 [] true], .int .u16 k]
theorem dof_call {Φ : Lib} (L : LibC3 Φ) (L1 : C1Lib Φ) (SL : SortLib Φ) (L5 : LibC5 Φ) (KL : KeyLib Φ) (n : Nfa) (hn : n.Ok) (hf : n.Fits) (hsm : n.Small) (m : Nat) (hm1 : 1 ≤ m) (hm2 : m ≤ 2000) {mode : Nat} {h : Heap} {Q : AV → Heap → Prop} (P : List (Rw Span)) (hP : P = (ofR (setsT n.edges.l)).l)
  (k1 : m < (accL n P m).length → Q (bad16 63) h) (k2 : (accL n P m).length ≤ m → ∀ d : Dfa, d.plain = mkPD n P m → d.plain.Ok → d.Wide → (∀ t ∈ d.tags.l, -1 ≤ t ∧ t ≤ 5) → Q (.tup [.agg d.av, .int .u16 0]) h) :
  wcall (Runs Φ) mode 169 [.agg n.av, .int .i64 m] h Q := by
 subst hP
 refine call_ex (dof_ok L L1 SL L5 KL n hn hf hsm m hm1 hm2) (by simp [AV.frozenL, AV.frozen]) (fun v hv => ?_) (fun v hv => ?_)
 ·rcases hv with ⟨_, rfl⟩ | ⟨_, d, rfl, _⟩
  ·rfl
  ·simp [AV.frozenL, AV.frozen]
 ·rcases hv with ⟨h1, rfl⟩ | ⟨h1, d, rfl, h2, h3, h4, h5⟩
  ·exact k1 h1
  ·exact k2 h1 d h2 h3 h4 h5
theorem knownD_ok {Φ : Lib} (L : LibC3 Φ) (L1 : C1Lib Φ) (SL : SortLib Φ) (G : GrowLib Φ) (L5 : LibC5 Φ) (KL : KeyLib Φ) : Pure Φ 168 [] (.bool true) := by
 have hE := dsound_ok L L1 SL G d0 (by exact d0_fits)
 rw [soundD_f d0_no] at hE
 refine runs_of (fun _ => false) rfl L5.f168 ?_
 repeat' first | refine st_nil ?_ | (refine gw ?_; first | refine st_mv rx_ ?_ | (refine gq2 ?_; first | refine st_load_t rx_ ?_ | refine st_load_p rfl hg_ (by simp) b_ pv_ ?_) | (refine gq13 ?_; first | refine st_store_t1 rx_ ?_ | refine st_store_t2 rx_ ?_ | refine st_store_s (cs' := [AV.rd _ _ _, AV.rd _ _ _, AV.rd _ _ _]) rfl rfl rfl rfl b_ rfl ?_) | refine st_call rfl nt_ ?_ | (refine st_alloc ?_; intro id hid; try simp only [Heap.set_none] at hid) | (refine gq15 ?_; first | refine st_build (cs := [AV.int _ _, AV.int _ _]) rfl ?_ | refine st_build (cs := [AV.int _ _, AV.rd _ _ _]) rfl ?_ | refine st_build (cs := [AV.rd _ _ _, AV.rd _ _ _, AV.rd _ _ _]) rfl ?_) | (refine gq16 ?_; first | refine st_lit (cs := [AV.int _ _, AV.int _ _]) rfl rfl ?_ | refine st_lit (cs := [AV.int _ _, AV.rd _ _ _]) rfl rfl ?_ | refine st_lit (cs := [AV.rd _ _ _, AV.rd _ _ _, AV.rd _ _ _]) rfl rfl ?_ | refine st_lit rfl rfl ?_)) | (refine gx ?_; first | refine sx_seq ?_ | refine sx_ops rfl ?_) | refine sk_norm ?_
 refine dof_call L L1 SL L5 KL n1 n1_ok n1_fits n1_small 5 (by decide) (by decide) _ rfl (fun h => absurd h (by have := n1_many; omega)) (fun _ d hd hok hw ht => ?_)
 rw [n1_mk] at hd
 repeat' first | refine st_nil ?_ | (refine gw ?_; first | refine st_mv rx_ ?_ | (refine gq2 ?_; first | refine st_load_t rx_ ?_ | refine st_load_p rfl hg_ (by simp) b_ pv_ ?_) | (refine gq13 ?_; first | refine st_store_t1 rx_ ?_ | refine st_store_t2 rx_ ?_ | refine st_store_s (cs' := [AV.rd _ _ _, AV.rd _ _ _, AV.rd _ _ _]) rfl rfl rfl rfl b_ rfl ?_) | refine st_call rfl nt_ ?_ | (refine st_alloc ?_; intro id hid; try simp only [Heap.set_none] at hid) | refine st_extract rfl rfl ?_) | (refine gx ?_; first | refine sx_seq ?_ | refine sx_ops rfl ?_) | refine sk_norm ?_
 refine dof_call L L1 SL L5 KL n1 n1_ok n1_fits n1_small 2 (by decide) (by decide) _ rfl (fun _ => ?_) (fun h => absurd h (by have := n1_few; omega))
 have kl := dlong_ok L1 L SL G L5 d hw ⟨[97, 98, 98], true⟩ (by decide)
 have ks := dsound_ok L L1 SL G d hw.fits
 have htl : d.tags.l.length = 3 := by
  have : d.plain.tags.length = 3 := by rw [hd]; rfl
  exact this
 have hpl : d.parts.l.length = 2 := by
  have : d.plain.parts.length = 2 := by rw [hd]; rfl
  simpa [Dfa.plain, plainS] using this
 rw [longD, if_pos (soundD_t hok), hd, n1_long] at kl
 rw [soundD_t hok] at ks
 repeat' first | refine st_nil ?_ | (refine gw ?_; first | refine st_mv rx_ ?_ | (refine gq2 ?_; first | refine st_load_t rx_ ?_ | refine st_load_p rfl hg_ (by simp) b_ pv_ ?_) | (refine gq3 ?_; first | refine st_bin_t1 rx_ ?_ | (refine st_eql rfl rfl rfl ?_ ?_ <;> (intro hc; try (exfalso; omega)))) | (refine gq13 ?_; first | refine st_store_t1 rx_ ?_ | refine st_store_t2 rx_ ?_ | refine st_store_s (cs' := [AV.rd _ _ _, AV.rd _ _ _, AV.rd _ _ _]) rfl rfl rfl rfl b_ rfl ?_) | (refine gq6 ?_; first | refine st_len_t rx_ ?_ | refine st_len_rd rfl ?_) | (refine gq4 ?_; first | refine st_field_t rx_ ?_ | refine st_field_p rfl (Nat.zero_add _) ?_) | refine st_gog rfl ?_ | refine st_pick_t (v := AV.bool _) rfl rfl ?_ | refine st_call rfl nt_ ?_ | (refine st_alloc ?_; intro id hid; try simp only [Heap.set_none] at hid) | refine st_build (cs := [AV.rd _ _ _, AV.rd _ _ _, AV.rd _ _ _]) rfl ?_ | refine st_lit rfl rfl ?_ | refine st_not (b := false) rfl ?_ | refine st_extract rfl rfl ?_) | (refine gx ?_; first | refine sx_seq ?_ | refine sx_ops rfl ?_ | refine sx_ret ?_) | refine sk_norm ?_ | refine call_pure (by assumption) fz_ fz_ ?_
 all_goals first
  | exact fin_ret (v := .bool true) rfl rfl
  | (exfalso; omega)
  | (exfalso; simp_all; done)
end Go.Proofs.YtdldfflfbfpngaaGreatDoor
