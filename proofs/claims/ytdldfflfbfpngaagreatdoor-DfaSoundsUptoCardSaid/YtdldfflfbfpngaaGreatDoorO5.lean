/- A machine at one place that grows: the place of a set of states, walked. -/
import Derived.Test.YtdldfflfbfpngaaGreatDoorO4
import Derived.Test.YtdldfflfbfpngaaGreatDoorO1
set_option linter.unusedVariables false
set_option linter.unusedSimpArgs false
namespace Go.Proofs.YtdldfflfbfpngaaGreatDoor
open Go
set_option maxHeartbeats 4000000
def cAll (cs : List Chunk) : Chunk :=
 ⟨fun k => ∃ c ∈ cs, c.foot k, fun h => Sep h cs, fun {h h'} h1 h2 => ⟨fun c hc => c.keep (h1.all c hc) fun k hk => h2 k ⟨c, hc, hk⟩, h1.apart⟩, fun h1 k hk => by
  obtain ⟨c, hc, hk⟩ := hk
  exact c.there (h1.all c hc) k hk⟩
theorem Sep.fold {h : Heap} {cs ds : List Chunk} (hS : Sep h (cs ++ ds)) : Sep h (cAll cs :: ds) := by
 obtain ⟨p1, p2, p3⟩ := List.pairwise_append.1 hS.apart
 refine ⟨fun c hc => ?_, List.pairwise_cons.2 ⟨fun d hd k hk hk2 => ?_, p2⟩⟩
 ·rcases List.mem_cons.1 hc with rfl | hc
  ·exact hS.weak (List.sublist_append_left _ _)
  ·exact hS.all c (List.mem_append.2 (.inr hc))
 ·obtain ⟨c, hc, hk⟩ := hk
  exact p3 c hc d hd k hk hk2
theorem Sep.unfold {h : Heap} {cs ds : List Chunk} (hS : Sep h (cAll cs :: ds)) : Sep h (cs ++ ds) := by
 have h1 : Sep h cs := hS.all (cAll cs) (by simp)
 obtain ⟨p1, p2⟩ := List.pairwise_cons.1 hS.apart
 refine ⟨fun c hc => ?_, List.pairwise_append.2 ⟨h1.apart, p2, fun c hc d hd k hk hk2 => p1 d hd k ⟨c, hc, hk⟩ hk2⟩⟩
 rcases List.mem_append.1 hc with hc | hc
 ·exact h1.all c hc
 ·exact hS.all c (by simp [hc])
@[reducible] def mkC (n : Nfa) (vp vn vt : AV) (im : Nat) (va : AV) : List AV := vp :: vn :: vt :: (n.av ++ [.map im, va])
noncomputable def tagC (n : Nfa) (A : List (List Int)) : List AV := A.map fun a => .int .i64 (tagOf1 (tags1 n a))
def entA (A : List (List Int)) : List (AV × AV) := entsFrom AV.str 0 (A.map textI)
theorem placeOf_idx2 (A : List (List Int)) (b : List Int) : placeOf A b = A.idxOf b := by
 unfold placeOf
 rw [beq_uniq instBEqOfDecidableEq List.instBEq inferInstance inferInstance]
theorem textI_mem {A : List (List Int)} {b : List Int} : textI b ∈ A.map textI ↔ b ∈ A := by
 rw [List.mem_map]
 constructor
 ·rintro ⟨a, ha, e⟩
  rw [← textI_inj e]; exact ha
 ·exact fun h => ⟨b, h, rfl⟩
theorem alook_entA (A : List (List Int)) (b : List Int) : alook (entA A) (.str (textI b)) = if b ∈ A then some (.int .i64 (A.idxOf b : Nat)) else none := by
 rw [entA, alook_ents str_inj, Nat.zero_add, placeOf_map (f := textI) (fun _ _ e => textI_inj e), placeOf_idx2]
 simp only [textI_mem]
theorem aput_entA {A : List (List Int)} {b : List Int} (h : b ∉ A) : aput (entA A) (.str (textI b)) (.int .i64 (A.length : Nat)) = entA (A ++ [b]) := by
 have := aput_ents str_inj (textI b) (A.map textI) 0 (fun e => h (textI_mem.1 e))
 rw [Nat.zero_add, List.length_map] at this
 rw [entA, this, entA, List.map_append]
 rfl
attribute [local irreducible] wops xcode wcode seqK blockK loopK finK wcall wop wstp Runs
set_option maxRecDepth 100000 in
theorem dplace_ok {Φ : Lib} (L1 : C1Lib Φ) (SL : SortLib Φ) (L : LibC3 Φ) (L5 : LibC5 Φ) (n : Nfa) (hf : n.Fits) {h : Heap} {c : Chunk} {ib im : Nat} {vp vn t0 v0 : AV} {A : List (List Int)} (b : List Int) (hb : b.length ≤ 2000) (hbr : ∀ x ∈ b, -2147483648 ≤ x ∧ x ≤ 2147483647) (hA : A.length ≤ 1048576)
  (hS : Sep h [c, cCell ib (.cells 0 (mkC n vp vn t0 im v0)), cCell im (.map none (entA A)), cRow t0 1 A.length (tagC n A), cRow v0 1 A.length (A.map rowI)]) :
  Runs Φ 177 [.ptr ib 0 0, rowI b] h (fun v h' => v = .int .i64 (placeL A b) ∧ ∃ vt' va', Sep h' [c, cCell ib (.cells 0 (mkC n vp vn vt' im va')), cCell im (.map none (entA (visitL A b))), cRow vt' 1 (visitL A b).length (tagC n (visitL A b)), cRow va' 1 (visitL A b).length ((visitL A b).map rowI)]) := by
 have hbx : h.get ib = some (.cells 0 (mkC n vp vn t0 im v0)) := hS.get (i := 1) rfl
 have hm : h.get im = some (.map none (entA A)) := hS.get (i := 2) rfl
 have kt := dtext_ok L L5 b (by omega) hbr
 refine runs_of (fun o => o == some 57) rfl L5.f177 ?_
 by_cases h0 : b = []
 ·subst h0
  have hpl : placeL A [] = -1 := by simp [placeL]
  have hv : visitL A [] = A := by simp [visitL]
  rw [hpl, hv]
  have hl0 : ([] : List Int).length = 0 := rfl
  repeat' first | refine st_nil ?_ | (refine gw ?_; first | (refine gq0 ?_; first | refine st_mv (v := AV.int _ _) rfl ?_ | refine st_mv (v := AV.rd _ _ _) rfl ?_) | (refine st_eql rfl rfl rfl ?_ ?_ <;> (intro hc; try (exfalso; omega))) | refine st_len_rd rfl ?_) | (refine gx ?_; first | refine sx_seq ?_ | refine sx_ops rfl ?_ | refine sx_ret ?_ | refine sx_cond_t rfl ?_) | refine sk_norm ?_ | refine sk_ret ?_
  exact fin_ret (v := .int .i64 (-1)) rfl ⟨rfl, t0, v0, hS⟩
 ·have hpl : placeL A b = (A.idxOf b : Nat) := by simp [placeL, h0]
  have hl0 : 0 < b.length := List.length_pos_iff.2 h0
  rw [hpl]
  repeat' first | refine st_nil ?_ | (refine gw ?_; first | (refine gq0 ?_; first | refine st_mv (v := AV.int _ _) rfl ?_ | refine st_mv (v := AV.rd _ _ _) rfl ?_ | refine st_mv (v := AV.ptr _ _ _) rfl ?_ | refine st_mv (v := AV.str _) rfl ?_) | refine st_load_p rfl hg_ (by simp) b_ pv_ ?_ | (refine st_eql rfl rfl rfl ?_ ?_ <;> (intro hc; try (exfalso; omega))) | refine st_field_p rfl (Nat.zero_add _) ?_ | refine st_len_rd rfl ?_ | refine st_nilck_p rfl ?_ | refine st_call rfl nt_ ?_) | (refine gx ?_; first | refine sx_seq ?_ | refine sx_ops rfl ?_ | refine sx_skip ?_ | refine sx_cond_f rfl ?_) | refine sk_norm ?_ | refine call_pure (by assumption) fz_ fz_ ?_
  refine st_lookup2 (key := AV.str (textI b)) rfl rfl rfl hm ?_
  rw [alook_entA]
  by_cases hmem : b ∈ A
  ·rw [if_pos hmem]
   have hv : visitL A b = A := by simp [visitL, hmem]
   rw [hv]
   repeat' first | refine st_nil ?_ | (refine gw ?_; first | (refine gq0 ?_; first | refine st_mv (v := AV.int _ _) rfl ?_ | refine st_mv (v := AV.bool _) rfl ?_ | refine st_mv (v := AV.tup _) rfl ?_) | refine st_not (b := true) rfl ?_ | refine st_extract rfl rfl ?_) | (refine gx ?_; first | refine sx_seq ?_ | refine sx_ops rfl ?_ | refine sx_skip ?_ | refine sx_ret ?_ | refine sx_cond_f rfl ?_) | refine sk_norm ?_
   exact fin_ret (v := .int .i64 (A.idxOf b : Nat)) rfl ⟨rfl, t0, v0, hS⟩
  ·rw [if_neg hmem]
   have hv : visitL A b = A ++ [b] := by simp [visitL, hmem, h0]
   have hix : A.idxOf b = A.length := List.idxOf_eq_length hmem
   have hra1 : IsRow h v0 1 A.length (A.map rowI) := hS.get (i := 4) rfl
   have hnt := hra1.notTup
   have kg := tagss_ok L1 SL n hf b false (by omega)
   rw [hv, hix]
   repeat' first | refine st_nil ?_ | (refine gw ?_; first | (refine gq0 ?_; first | refine st_mv (v := AV.int _ _) rfl ?_ | refine st_mv (v := AV.bool _) rfl ?_ | refine st_mv (v := AV.ptr _ _ _) rfl ?_ | refine st_mv (v := AV.str _) rfl ?_ | refine st_mv (v := AV.tup _) rfl ?_) | refine st_load_p rfl hg_ (by simp) b_ pv_ ?_ | refine st_field_p rfl (Nat.zero_add _) ?_ | refine st_len_row rv_ (by assumption) ?_ | refine st_nilck_p rfl ?_ | refine st_not (b := false) rfl ?_ | refine st_extract rfl rfl ?_) | (refine gx ?_; first | refine sx_seq ?_ | refine sx_ops rfl ?_ | refine sx_cond_t rfl ?_) | refine sk_norm ?_
   refine st_update (key := AV.str (textI b)) (v := AV.int .i64 A.length) rfl rfl rfl rfl rfl hm ?_
   rw [aput_entA hmem]
   have hS2 := hS.put 2 (.map none (entA (A ++ [b]))) rfl
   have hbx2 : (h.set im (.map none (entA (A ++ [b])))).get ib = some (.cells 0 (mkC n vp vn t0 im v0)) := hS2.get (i := 1) rfl
   have hra2 : IsRow (h.set im (.map none (entA (A ++ [b])))) v0 1 A.length (A.map rowI) := hS2.get (i := 4) rfl
   clear hra1 hbx hm hS
   repeat' first | refine st_nil ?_ | (refine gw ?_; first | (refine gq0 ?_; first | refine st_mv (v := AV.rd _ _ _) rfl ?_ | refine st_mv (v := AV.ptr _ _ _) rfl ?_) | refine st_load_p rfl hg_ (by simp) b_ pv_ ?_ | refine st_field_p rfl (Nat.zero_add _) ?_ | refine st_nilck_p rfl ?_ | (refine st_append (m := 1) rv_ ir_ rfl rfl (by omega) ?_; intro va hpa hra hka hria) | refine st_lit (cs := [AV.rd _ _ _]) rfl rfl ?_) | (refine gx ?_; first | refine sx_seq ?_ | refine sx_ops rfl ?_) | refine sk_norm ?_
   have hS3 := hS2.upd 4 (cRow va 1 (A.length + 1) (A.map rowI ++ [rowI b])) rfl hra hka hria
   have hbx3 : hpa.get ib = some (.cells 0 (mkC n vp vn t0 im v0)) := hS3.get (i := 1) rfl
   refine st_store_row (v := va) (cs' := mkC n vp vn t0 im va) rfl rfl hra hbx3 (by simp) rfl ?_
   have hS4 := hS3.put 1 (.cells 0 (mkC n vp vn t0 im va)) rfl
   have hbx4 : (hpa.set ib (.cells 0 (mkC n vp vn t0 im va))).get ib = some (.cells 0 (mkC n vp vn t0 im va)) := hS4.get (i := 1) rfl
   have hrt4 : IsRow (hpa.set ib (.cells 0 (mkC n vp vn t0 im va))) t0 1 A.length (tagC n A) := hS4.get (i := 3) rfl
   have hnt2 := hrt4.notTup
   have hnt3 := hra.notTup
   clear hra2 hbx2 hS2 hS3 hbx3 hra hka hria
   obtain ⟨v1, rfl⟩ : ∃ x, x = va := ⟨_, rfl⟩
   repeat' first | refine st_nil ?_ | (refine gw ?_; first | refine st_mv (v := AV.ptr _ _ _) rfl ?_ | refine st_load_p rfl hg_ (by simp) b_ pv_ ?_ | refine st_field_p rfl (Nat.zero_add _) ?_ | refine st_nilck_p rfl ?_ | (refine st_append (m := 1) rv_ ir_ rfl rfl (by omega) ?_; intro va hpa hra hka hria) | refine st_lit (cs := [AV.int _ _]) rfl rfl ?_) | (refine gx ?_; first | refine sx_seq ?_ | refine sx_ops rfl ?_) | refine sk_norm ?_
   have hS5 := hS4.upd 3 (cRow va 1 (A.length + 1) (tagC n A ++ [.int .i64 (-1)])) rfl hra hka hria
   have hbx5 : hpa.get ib = some (.cells 0 (mkC n vp vn t0 im v1)) := hS5.get (i := 1) rfl
   refine st_store_row (v := va) (cs' := mkC n vp vn va im v1) rfl rfl hra hbx5 (by simp) rfl ?_
   have hS6 : Sep _ [c, cCell ib (.cells 0 (mkC n vp vn va im v1)), cCell im (.map none (entA (A ++ [b]))), cRow va 1 (A.length + 1) (tagC n A ++ [.int .i64 (-1)]), cRow v1 1 (A.length + 1) (A.map rowI ++ [rowI b])] := hS5.put 1 (.cells 0 (mkC n vp vn va im v1)) rfl
   have hnt4 := hra.notTup
   clear hbx4 hrt4 hS4 hS5 hbx5 hra hka hria
   obtain ⟨t1, rfl⟩ : ∃ x, x = va := ⟨_, rfl⟩
   generalize hpa.set ib (.cells 0 (mkC n vp vn t1 im v1)) = h6 at hS6 ⊢
   have hbx6 : h6.get ib = some (.cells 0 (mkC n vp vn t1 im v1)) := hS6.get (i := 1) rfl
   have hrt6 : IsRow h6 t1 1 (A.length + 1) (tagC n A ++ [.int .i64 (-1)]) := hS6.get (i := 3) rfl
   have htl : (tagC n A).length = A.length := by simp [tagC]
   repeat' first | refine st_nil ?_ | refine sx_seq ?_ | refine sk_norm ?_
   refine sx_opsZ rfl ?_
   have htc : tagC n (A ++ [b]) = tagC n A ++ [.int .i64 (tagOf1 (tags1 n b))] := by simp [tagC]
   have hal : A.map rowI ++ [rowI b] = (A ++ [b]).map rowI := by simp
   have hl1 : A.length + 1 = (A ++ [b]).length := by simp
   cases htg : tags1 n b with
   | nil =>
    rw [htg] at kg htc
    have hl00 : ([] : List Int).length = 0 := rfl
    repeat' first | refine st_nil ?_ | (refine gw ?_; first | (refine gq0 ?_; first | refine st_mv (v := AV.int _ _) rfl ?_ | refine st_mv (v := AV.rd _ _ _) rfl ?_ | refine st_mv (v := AV.ptr _ _ _) rfl ?_) | refine st_load_p rfl hg_ (by simp) b_ pv_ ?_ | (refine st_gtr rfl rfl rfl ?_ ?_ <;> (intro hc; try (exfalso; omega))) | refine st_field_p rfl (Nat.zero_add _) ?_ | refine st_len_rd rfl ?_ | refine st_nilck_p rfl ?_ | refine st_call rfl nt_ ?_) | (refine gx ?_; first | refine sx_seq ?_ | refine sx_ops rfl ?_ | refine sx_skip ?_ | refine sx_ret ?_ | refine sx_cond_f rfl ?_) | refine sk_norm ?_ | refine call_pure (by assumption) fz_ fz_ ?_
    refine fin_ret (v := .int .i64 A.length) rfl ⟨rfl, t1, v1, ?_⟩
    rw [htc, ← hal, ← hl1]
    exact hS6
   | cons t l =>
    rw [htg] at kg htc
    have ht0 : (t :: l)[0]? = some t := rfl
    have hlp : (t :: l).length = l.length + 1 := rfl
    repeat' first | refine st_nil ?_ | (refine gw ?_; first | (refine gq0 ?_; first | refine st_mv (v := AV.int _ _) rfl ?_ | refine st_mv (v := AV.rd _ _ _) rfl ?_ | refine st_mv (v := AV.ptr _ _ _) rfl ?_) | (refine gq2 ?_; first | refine st_load_r rfl b_ pv_ ?_ | refine st_load_p rfl hg_ (by simp) b_ pv_ ?_) | (refine st_gtr rfl rfl rfl ?_ ?_ <;> (intro hc; try (exfalso; omega))) | refine st_field_p rfl (Nat.zero_add _) ?_ | (refine gq5 ?_; first | refine st_index_map' rfl rfl ht0 (by omega) rfl ?_ | (refine st_index_row rv_ (by assumption) rfl (by omega) (by omega) ?_; intro ir gr hvr hgr hgp; have hner := Heap.ne_of hgr; have hner2 := Heap.ne_of2 hgr)) | refine st_len_rd rfl ?_ | refine st_nilck_p rfl ?_ | refine st_call rfl nt_ ?_ | refine st_store_p (v := AV.int _ _) rfl rfl hg_ rfl rfl b_ sv_ ?_) | (refine gx ?_; first | refine sx_seq ?_ | refine sx_ops rfl ?_ | refine sx_ret ?_ | refine sx_cond_t rfl ?_) | refine sk_norm ?_ | refine call_pure (by assumption) fz_ fz_ ?_
    have e9 : (tagC n A ++ [AV.int .i64 (-1)]).set ((A.length : Int).toNat * 1) (.int .i64 t) = tagC n A ++ [.int .i64 t] := by
     rw [Int.toNat_natCast, Nat.mul_one, List.set_append_right _ _ (by omega), htl, Nat.sub_self]
     rfl
    refine fin_ret (v := .int .i64 A.length) rfl ⟨rfl, t1, v1, ?_⟩
    rw [htc, ← hal, ← hl1, e9]
    exact hS6.rowset 3 (tagC n A ++ [.int .i64 t]) rfl hvr hgp (by simp [htl])
end Go.Proofs.YtdldfflfbfpngaaGreatDoor
