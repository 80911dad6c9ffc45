/- The statements: known. The statements: SimStates, SimFree, SimGoes, SimBad, SimFronts. The statements: SimFronts. What the statements read of their arguments. -/
import Derived.Test.YtpcbpgepjfenhaaD9
import Derived.Test.YtpcbpgepjfenhaaD3
import Derived.Test.YtpcbpgepjfenhaaA7
set_option linter.unusedVariables false
set_option linter.unusedSimpArgs false
namespace Go.Proofs.Ytpcbpgepjfenhaa
open Go
set_option maxHeartbeats 4000000
attribute [local irreducible] wops xcode wcode seqK blockK loopK finK wcall wop wstp Runs

theorem known_ok {Φ : Lib} (L : C1Lib Φ) (L2 : C2Lib Φ) (S : SortLib Φ) : Pure Φ 7 [] (.bool true) := by
  have hs : soundN n0 = true := sound_ok_iff.2 n0_ok
  have k1 := longest_ok L S n0 n0_fits [97, 98, 99] true (by decide)
  have k2 := start_ok L S n0 n0_fits
  have k3 := stepp_ok L S n0 n0_fits [0] true (by decide) 97
  have k4 := tagss_ok L S n0 n0_fits [1, 1] true (by decide)
  rw [longest1, if_pos hs, n0_long] at k1
  rw [start1, if_pos hs, n0_start] at k2
  rw [step1, if_pos hs, n0_step (by simp) (by omega)] at k3
  rw [tags1, if_pos hs, n0_tags11] at k4
  refine runs_of (fun _ => false) rfl L2.f7 ?_
  repeat' first | refine st_nil ?_ | (show wops _ _ _ _ _; first | (show wops _ (⟨_, .mv _, none⟩ :: _) _ _ _; first | refine st_mv (v := AV.int _ _) rfl ?_ | refine st_mv (v := AV.bool _) rfl ?_ | refine st_mv (v := AV.tup _) rfl ?_) | (show wops _ (⟨_, _, some _⟩ :: _) _ _ _; first | refine st_skipg rfl ?_ | refine st_gog rfl ?_) | (show wops _ (⟨_, .load _ _ _ _, none⟩ :: _) _ _ _; refine st_load_p rfl hg_ (by simp) (by first | (simp; done) | (simp; omega)) pv_ ?_) | (show wops _ (⟨_, .bin _ _ _, none⟩ :: _) _ _ _; (refine st_eql rfl rfl rfl ?_ ?_ <;> (intro hc; try (exfalso; omega)))) | (show wops _ (⟨_, .len _ _, none⟩ :: _) _ _ _; refine st_len_rd rfl ?_) | (show wops _ (⟨_, .pick _ _ _, none⟩ :: _) _ _ _; first | refine st_pick_t (v := AV.bool _) rfl rfl ?_ | refine st_pick_f (v := AV.bool _) rfl rfl ?_) | (show wops _ (⟨_, .call _ _ _, none⟩ :: _) _ _ _; refine st_call rfl nt_ ?_) | (show wops _ (⟨_, .alloc _, none⟩ :: _) _ _ _; (refine st_alloc ?_; intro id hid; try simp only [Heap.set_none] at hid)) | (show wops _ (⟨_, .store _ _ _, none⟩ :: _) _ _ _; refine st_store_s (cs' := [AV.rd _ _ _, AV.rd _ _ _, AV.rd _ _ _]) rfl rfl rfl rfl (by first | (simp; done) | (simp; omega)) rfl ?_) | (show wops _ (⟨_, .build _ _, none⟩ :: _) _ _ _; first | refine st_build (cs := [AV.int _ _, AV.int _ _]) rfl ?_ | refine st_build (cs := [AV.int _ _, AV.rd _ _ _]) rfl ?_ | refine st_build (cs := [AV.rd _ _ _, AV.rd _ _ _, AV.rd _ _ _]) rfl ?_) | (show wops _ (⟨_, .lit _ _ _ _, none⟩ :: _) _ _ _; first | refine st_lit (cs := [AV.int _ _, AV.int _ _]) rfl rfl ?_ | refine st_lit (cs := [AV.int _ _]) rfl rfl ?_ | refine st_lit (cs := [AV.int _ _, AV.rd _ _ _]) rfl rfl ?_ | refine st_lit rfl rfl ?_) | (show wops _ (⟨_, .extract _ _, none⟩ :: _) _ _ _; refine st_extract rfl rfl ?_)) | (show xcode _ _ _ _ _ _; first | refine sx_seq ?_ | refine sx_ops rfl ?_ | refine sx_ret ?_) | refine sk_norm ?_ | refine call_pure (by assumption) fz_ fz_ ?_ | refine fin_ret (v := AV.bool _) rfl ?_
  all_goals first | rfl | (exfalso; apply ‹¬ _›; rfl)

theorem scalars_own {Φ : Lib} (L : C2Lib Φ) (l : List Int) (fl : Bool) (hl : l.length ≤ 1048576) (hw : ∀ c ∈ l, 0 ≤ c ∧ c ≤ 65535) (h : Heap) : Runs Φ 13 [row16 l fl] h (fun v h' => IsRow h' v 1 l.length ((scalarsL l).map (.int .i64)) ∧ (∀ k, h.get k ≠ none → h'.get k = h.get k) ∧ ∀ k, v.rowId = some k → h.get k = none) := by
  refine runs_of (fun _ => false) rfl L.f13 ?_
  repeat' first | refine st_nil ?_ | (show wops _ _ _ _ _; first | (show wops _ (⟨_, .mv _, none⟩ :: _) _ _ _; first | refine st_mv (v := AV.int _ _) rfl ?_ | refine st_mv (v := AV.rd _ _ _) rfl ?_)) | (show xcode _ _ _ _ _ _; first | refine sx_seq ?_ | refine sx_ops rfl ?_ | refine sx_block ?_) | refine sk_norm ?_
  refine sx_for l.length (fun i env h' => ∃ v, IsRow h' v 1 i ((scalarsL (l.take i)).map (.int .i64)) ∧ (∀ k, h.get k ≠ none → h'.get k = h.get k) ∧ (∀ k, v.rowId = some k → h.get k = none) ∧ env.has [(0, row16 l fl), (3, v), (4, .int .i64 i)]) ⟨_, IsRow.nil _ _, fun _ _ => rfl, (fun _ h => by cases h), hh_⟩ ?_
  rintro i env h' hi ⟨v, hrow, hk, hfr, he⟩
  obtain ⟨env, rfl⟩ := he.ex
  clear he
  by_cases hi2 : i < l.length
  · obtain ⟨a, ha⟩ := ex_get hi2
    have hwa := hw a (List.mem_of_getElem? ha)
    repeat' first | refine st_nil ?_ | (show wops _ _ _ _ _; first | (show wops _ (⟨_, .mv _, none⟩ :: _) _ _ _; first | refine st_mv (v := AV.int _ _) rfl ?_ | refine st_mv (v := AV.rd _ _ _) rfl ?_ | refine st_mv (by simp only [ev_tmp, Env.puts, Env.put_apply, reduceIte, Nat.reduceEqDiff]; exact rfl) ?_) | (show wops _ (⟨_, .load _ _ _ _, none⟩ :: _) _ _ _; refine st_load_r rfl (by first | (simp; done) | (simp; omega)) pv_ ?_) | (show wops _ (⟨_, .bin _ _ _, none⟩ :: _) _ _ _; first | refine st_add rfl rfl rfl (by omega) (by omega) ?_ | (refine st_lss rfl rfl rfl ?_ ?_ <;> (intro hc; try (exfalso; omega))) | refine st_rem rfl rfl rfl (by omega) (by omega) ?_) | (show wops _ (⟨_, .indexAddr _ _ _, none⟩ :: _) _ _ _; refine st_index_map' rfl rfl ha (by omega) rfl ?_) | (show wops _ (⟨_, .len _ _, none⟩ :: _) _ _ _; refine st_len_rd rfl ?_) | (show wops _ (⟨_, .append _ _ _, none⟩ :: _) _ _ _; (refine st_append (m := 1) rv_ ir_ rfl rfl (by omega) ?_; intro va hpa hra hka hria)) | (show wops _ (⟨_, .lit _ _ _ _, none⟩ :: _) _ _ _; refine st_lit (cs := [AV.int _ _]) rfl rfl ?_) | (show wops _ (⟨_, .conv _ _, none⟩ :: _) _ _ _; refine st_conv rfl (by omega) (by omega) ?_)) | (show xcode _ _ _ _ _ _; first | refine sx_seq ?_ | refine sx_ops rfl ?_ | refine sx_skip ?_ | refine sx_block ?_ | refine sx_cond_t rfl ?_) | refine sk_norm ?_ | refine bk_norm ?_
    refine lk_next hi2 ⟨va, ?_, fun k hk1 => ?_, fun k hk1 => ?_, hh_⟩
    · rw [take_snoc ha]
      simpa [scalarsL] using hra
    · rw [hka k (by rw [hk k hk1]; exact hk1) (fun e => hk1 (hfr k e)), hk k hk1]
    · rcases hria k hk1 with h1 | h1
      · exact hfr k h1
      · by_cases h2 : h.get k = none
        · exact h2
        · rw [hk k h2] at h1; exact h1
  · repeat' first | refine st_nil ?_ | (show wops _ _ _ _ _; first | (show wops _ (⟨_, .mv _, none⟩ :: _) _ _ _; first | refine st_mv (v := AV.int _ _) rfl ?_ | refine st_mv (v := AV.rd _ _ _) rfl ?_ | refine st_mv (by simp only [ev_tmp, Env.puts, Env.put_apply, reduceIte, Nat.reduceEqDiff]; exact rfl) ?_) | (show wops _ (⟨_, .bin _ _ _, none⟩ :: _) _ _ _; (refine st_lss rfl rfl rfl ?_ ?_ <;> (intro hc; try (exfalso; omega)))) | (show wops _ (⟨_, .len _ _, none⟩ :: _) _ _ _; refine st_len_rd rfl ?_)) | (show xcode _ _ _ _ _ _; first | refine sx_seq ?_ | refine sx_ops rfl ?_ | refine sx_ret ?_ | refine sx_exit ?_ | refine sx_cond_f rfl ?_) | refine sk_norm ?_ | refine sk_exit ?_ | refine bk_exit ?_ | refine lk_exit ?_
    rw [List.take_of_length_le (by omega)] at hrow
    have : i = l.length := by omega
    subst this
    exact fin_ret (v := v) rfl ⟨hrow, hk, hfr⟩

end Go.Proofs.Ytpcbpgepjfenhaa
set_option linter.unusedVariables false
set_option linter.unusedSimpArgs false
namespace Go.Proofs.Ytpcbpgepjfenhaa
open Go
set_option maxHeartbeats 4000000
attribute [local irreducible] wops xcode wcode seqK blockK loopK finK wcall wop wstp Runs

@[reducible] def ints (l : List Int) (f : Bool) : AV := .rd l.length (l.map (.int .i64)) f
/-- What a machine is made of. -/
structure Given (kk : Int) (l : List Arc) (tg : List Int) : Prop where
  k : 0 ≤ kk ∧ kk ≤ 255
  len : l.length ≤ 1048576
  arcs : ∀ a ∈ l, a.Ok
  tlen : tg.length ≤ 1048576
  tags : ∀ t ∈ tg, -128 ≤ t ∧ t ≤ 127

theorem machine_of {Φ : Lib} (L2 : C2Lib Φ) {kk : Int} {l : List Arc} {tg : List Int} (hg : Given kk l tg) (fl ft : Bool) {m : Nat} {h : Heap} {Q : AV → Heap → Prop} (k : ∀ n : Nfa, n.Ok → n.Fits → soundN n = true → Q (.agg n.av) h) :
    wcall (Runs Φ) m 8 [.int .u8 kk, .rd l.length (l.flatMap Arc.av) fl, .rd tg.length (tg.map (.int .i8)) ft] h Q := by
  refine call_ex (machine_ok L2 kk hg.k l fl hg.len hg.arcs tg ft hg.tlen hg.tags) (by simp [AV.frozenL, AV.frozen]) (by rintro _ ⟨n, rfl, _⟩; simp [AV.frozen, AV.frozenL]) ?_
  rintro _ ⟨n, rfl, hn, hf⟩
  exact k n hn hf (sound_ok_iff.2 hn)

theorem goesTo_mono {n : Nfa} {a b : List Int} {r : Int} (h : ∀ s ∈ a, s ∈ b) (j : Nat) : goesTo n a r j → goesTo n b r j := fun ⟨s, hs, h1⟩ => ⟨s, h s hs, h1⟩
theorem stepN_mono {n : Nfa} (hn : n.Ok) {a b : List Int} {r : Int} (h : ∀ s ∈ a, s ∈ b) : ∀ x ∈ stepN n a r, x ∈ stepN n b r := fun x hx => by
  rw [stepN, mem_closeN hn (goesTo_lt hn)] at hx ⊢
  exact ⟨hx.1, hx.2.mono fun i => goesTo_mono h i⟩
theorem stepN_both {n : Nfa} (hn : n.Ok) {a b : List Int} {r : Int} : ∀ x ∈ stepN n (a ++ b) r, x ∈ stepN n a r ++ stepN n b r := fun x hx => by
  rw [stepN, mem_closeN hn (goesTo_lt hn)] at hx
  rw [List.mem_append, stepN, stepN, mem_closeN hn (goesTo_lt hn), mem_closeN hn (goesTo_lt hn)]
  have : ∀ i, Reach n (goesTo n (a ++ b) r) i → Reach n (goesTo n a r) i ∨ Reach n (goesTo n b r) i := fun i h => by
    induction h with
    | base h =>
      obtain ⟨s, hs, h1⟩ := h
      rcases List.mem_append.1 hs with hs | hs
      · exact .inl (.base ⟨s, hs, h1⟩)
      · exact .inr (.base ⟨s, hs, h1⟩)
    | step _ ht ih =>
      rcases ih with h | h
      · exact .inl (.step h ht)
      · exact .inr (.step h ht)
  rcases this _ hx.2 with h | h
  · exact .inl ⟨hx.1, h⟩
  · exact .inr ⟨hx.1, h⟩

theorem simStates_ok {Φ : Lib} (L : C1Lib Φ) (L2 : C2Lib Φ) (S : SortLib Φ) (kk : Int) (l : List Arc) (tg a b : List Int) (r : Int) (hg : Given kk l tg) (ha : a.length ≤ 1048576) (hb : b.length ≤ 1048576) (hr : 0 ≤ r ∧ r ≤ 65535) (f1 f2 f3 f4 : Bool) :
    Runs Φ 2 [.int .u8 kk, .rd l.length (l.flatMap Arc.av) f1, .rd tg.length (tg.map (.int .i8)) f2, ints a f3, ints b f4, .int .u16 r] Heap.empty (fun v _ => v = .bool true) := by
  have hkn := known_ok L L2 S
  refine runs_of (fun o => o == some 53) rfl L2.f2 ?_
  repeat' first | refine st_nil ?_ | (show wops _ _ _ _ _; first | (show wops _ (⟨_, .mv _, none⟩ :: _) _ _ _; first | refine st_mv (v := AV.int _ _) rfl ?_ | refine st_mv (v := AV.bool _) rfl ?_ | refine st_mv (v := AV.rd _ _ _) rfl ?_) | (show wops _ (⟨_, _, some _⟩ :: _) _ _ _; first | refine st_skipg rfl ?_ | refine st_gog rfl ?_) | (show wops _ (⟨_, .bin _ _ _, none⟩ :: _) _ _ _; (refine st_gtr rfl rfl rfl ?_ ?_ <;> (intro hc; try (exfalso; omega)))) | (show wops _ (⟨_, .len _ _, none⟩ :: _) _ _ _; refine st_len_rd rfl ?_) | (show wops _ (⟨_, .pick _ _ _, none⟩ :: _) _ _ _; first | refine st_pick_t (v := AV.bool _) rfl rfl ?_ | refine st_pick_f (v := AV.bool _) rfl rfl ?_) | (show wops _ (⟨_, .call _ _ _, none⟩ :: _) _ _ _; refine st_call rfl nt_ ?_) | (show wops _ (⟨_, .un _ _, none⟩ :: _) _ _ _; refine st_not (b := true) rfl ?_)) | (show xcode _ _ _ _ _ _; first | refine sx_seq ?_ | refine sx_ops rfl ?_ | refine sx_skip ?_ | refine sx_ret ?_ | refine sx_cond_t rfl ?_ | refine sx_cond_f rfl ?_) | refine sk_norm ?_ | refine sk_ret ?_ | refine call_pure (by assumption) fz_ fz_ ?_
  · exact fin_ret (v := .bool true) rfl rfl
  · exact fin_ret (v := .bool true) rfl rfl
  refine machine_of L2 hg f1 f2 fun n hn hf hs => ?_
  have e : ∀ c, step1 n c (r % 230) = stepN n c (r % 230) := fun c => by rw [step1, if_pos hs]
  have k1 := stepp_ok L S n hf a f3 ha (r % 230)
  have k2 := stepp_ok L S n hf b f4 hb (r % 230)
  have k3 := stepp_ok L S n hf (a ++ b) false (by simp; omega) (r % 230)
  have k7 := stepp_ok L S n hf [] true (by simp) (r % 230)
  rw [e] at k1 k2 k3 k7
  have hmost := hn.most
  have b1 : (stepN n a (r % 230)).length ≤ n.k := closeN_length _ _
  have b2 : (stepN n b (r % 230)).length ≤ n.k := closeN_length _ _
  have b3 : (stepN n (a ++ b) (r % 230)).length ≤ n.k := closeN_length _ _
  have k4 := within_ok L2 (stepN n a (r % 230)) (stepN n (a ++ b) (r % 230)) false false (by omega) (by omega) (stepN_mono hn fun s h => List.mem_append_left _ h)
  have k5 := within_ok L2 (stepN n b (r % 230)) (stepN n (a ++ b) (r % 230)) false false (by omega) (by omega) (stepN_mono hn fun s h => List.mem_append_right _ h)
  have k6 := each_ok L2 (stepN n (a ++ b) (r % 230)) (stepN n a (r % 230)) (stepN n b (r % 230)) false false false (by omega) (by omega) (by omega) (closeN_sorted _ _) (stepN_both hn)
  rw [stepN_nil hn] at k7
  repeat' first | refine st_nil ?_ | (show wops _ _ _ _ _; first | (show wops _ (⟨_, .mv _, none⟩ :: _) _ _ _; first | refine st_mv (v := AV.int _ _) rfl ?_ | refine st_mv (v := AV.rd _ _ _) rfl ?_ | refine st_mv (by simp only [ev_tmp, Env.puts, Env.put_apply, reduceIte, Nat.reduceEqDiff]; exact rfl) ?_) | (show wops _ (⟨_, .load _ _ _ _, none⟩ :: _) _ _ _; refine st_load_p rfl hg_ (by simp) (by first | (simp; done) | (simp; omega)) pv_ ?_) | (show wops _ (⟨_, .bin _ _ _, none⟩ :: _) _ _ _; refine st_rem rfl rfl rfl (by omega) (by omega) ?_) | (show wops _ (⟨_, .call _ _ _, none⟩ :: _) _ _ _; refine st_call rfl nt_ ?_) | (show wops _ (⟨_, .alloc _, none⟩ :: _) _ _ _; (refine st_alloc ?_; intro id hid; try simp only [Heap.set_none] at hid)) | (show wops _ (⟨_, .store _ _ _, none⟩ :: _) _ _ _; refine st_store_s (cs' := [AV.rd _ _ _, AV.rd _ _ _, AV.rd _ _ _]) rfl rfl rfl rfl (by first | (simp; done) | (simp; omega)) rfl ?_) | (show wops _ (⟨_, .append _ _ _, none⟩ :: _) _ _ _; (refine st_append rv_ ir_ rfl (by simp) (by first | omega | (simp; omega)) ?_; intro va hpa hra hka hria)) | (show wops _ (⟨_, .conv _ _, none⟩ :: _) _ _ _; refine st_conv rfl (by omega) (by omega) ?_)) | (show xcode _ _ _ _ _ _; first | refine sx_seq ?_ | refine sx_ops rfl ?_) | refine sk_norm ?_ | refine call_pure (by assumption) fz_ fz_ ?_
  have hra2 : IsRow hpa va 1 (a ++ b).length ((a ++ b).map (.int .i64)) := by simpa using hra
  rename_i va1 hpa1 hra1 hka1 hria1
  have g1 : hpa1.get id = some (.cells 0 n.av) := (hka1 id (by simp) (by simp [AV.rowId])).trans (Heap.get_set_self _ _ _)
  have e1 : va1.rowId ≠ some id := fun e => by
    rcases hria1 id e with h | h
    · cases h
    · rw [Heap.get_set_self] at h; cases h
  have g2 : hpa.get id = some (.cells 0 n.av) := (hka id (by rw [g1]; simp) e1).trans g1
  have e2 : va.rowId ≠ some id := fun e => by
    rcases hria id e with h | h
    · exact e1 h
    · rw [g1] at h; cases h
  refine sx_freeze 16 (v := va) rfl rfl hra2 ?_
  intro h2 hk2
  have g3 := (hk2 id e2).trans g2
  repeat' first | refine st_nil ?_ | (show wops _ _ _ _ _; first | (show wops _ (⟨_, .mv _, none⟩ :: _) _ _ _; first | refine st_mv (v := AV.int _ _) rfl ?_ | refine st_mv (v := AV.bool _) rfl ?_ | refine st_mv (v := AV.rd _ _ _) rfl ?_) | (show wops _ (⟨_, _, some _⟩ :: _) _ _ _; refine st_gog rfl ?_) | (show wops _ (⟨_, .load _ _ _ _, none⟩ :: _) _ _ _; refine st_load_p rfl hg_ (by simp) (by first | (simp; done) | (simp; omega)) pv_ ?_) | (show wops _ (⟨_, .bin _ _ _, none⟩ :: _) _ _ _; first | (refine st_eql rfl rfl rfl ?_ ?_ <;> (intro hc; try (exfalso; omega))) | refine st_rem rfl rfl rfl (by omega) (by omega) ?_) | (show wops _ (⟨_, .len _ _, none⟩ :: _) _ _ _; refine st_len_rd rfl ?_) | (show wops _ (⟨_, .pick _ _ _, none⟩ :: _) _ _ _; refine st_pick_t (v := AV.bool _) rfl rfl ?_) | (show wops _ (⟨_, .call _ _ _, none⟩ :: _) _ _ _; refine st_call rfl nt_ ?_) | (show wops _ (⟨_, .conv _ _, none⟩ :: _) _ _ _; refine st_conv rfl (by omega) (by omega) ?_)) | (show xcode _ _ _ _ _ _; first | refine sx_seq ?_ | refine sx_ops rfl ?_ | refine sx_ret ?_) | refine sk_norm ?_ | refine call_pure (by assumption) fz_ fz_ ?_ | refine fin_ret (v := AV.bool _) rfl ?_
  · rfl
  · exfalso
    have : (([] : List Int).length : Int) = 0 := rfl
    omega

theorem startN_first {n : Nfa} (hn : n.Ok) : ∃ l, startN n = 0 :: l := by
  have hlt : ∀ i, i = 0 → i < n.k := fun i h => by have := hn.pos; omega
  have h0 : (0 : Int) ∈ startN n := (mem_closeN hn hlt).2 ⟨Int.le_refl _, .base rfl⟩
  have hs := closeN_sorted n (· = 0)
  have hge : ∀ x ∈ startN n, 0 ≤ x := fun x hx => (mem_closeN' hx).1
  rw [← startN] at hs
  cases hl : startN n with
  | nil => rw [hl] at h0; cases h0
  | cons a l =>
    rw [hl] at h0 hs hge
    rcases List.mem_cons.1 h0 with h | h
    · exact ⟨l, by rw [← h]⟩
    · have := (List.pairwise_cons.1 hs).1 0 h
      have := hge a (by simp)
      omega

theorem simFree_ok {Φ : Lib} (L : C1Lib Φ) (L2 : C2Lib Φ) (S : SortLib Φ) (kk : Int) (l : List Arc) (tg : List Int) (hg : Given kk l tg) (f1 f2 : Bool) :
    Runs Φ 3 [.int .u8 kk, .rd l.length (l.flatMap Arc.av) f1, .rd tg.length (tg.map (.int .i8)) f2] Heap.empty (fun v _ => v = .bool true) := by
  have hkn := known_ok L L2 S
  refine runs_of (fun _ => false) rfl L2.f3 ?_
  repeat' first | refine st_nil ?_ | (show wops _ _ _ _ _; first | (show wops _ (⟨_, .mv _, none⟩ :: _) _ _ _; first | refine st_mv (v := AV.int _ _) rfl ?_ | refine st_mv (v := AV.bool _) rfl ?_ | refine st_mv (v := AV.rd _ _ _) rfl ?_) | (show wops _ (⟨_, .call _ _ _, none⟩ :: _) _ _ _; refine st_call rfl nt_ ?_)) | (show xcode _ _ _ _ _ _; first | refine sx_seq ?_ | refine sx_ops rfl ?_) | refine sk_norm ?_
  refine machine_of L2 hg f1 f2 fun n hn hf hs => ?_
  have k1 := start_ok L S n hf
  have e : start1 n = startN n := by rw [start1, if_pos hs]
  rw [e] at k1
  obtain ⟨tl, htl⟩ := startN_first hn
  have hmost := hn.most
  have b1 : (startN n).length ≤ n.k := closeN_length _ _
  have h0 : (startN n)[0]? = some 0 := by rw [htl]; rfl
  have hl0 : (startN n).length = tl.length + 1 := by rw [htl]; rfl
  have hlt : ∀ i, i = 0 → i < n.k := fun i h => by have := hn.pos; omega
  have hmem : ∀ x, x ∈ startN n ↔ 0 ≤ x ∧ Reach n (· = 0) x.toNat := fun x => mem_closeN hn hlt
  generalize startN n = at_ at *
  have hk : (n.tags.l.length : Int) = n.k := rfl
  repeat' first | refine st_nil ?_ | (show wops _ _ _ _ _; first | (show wops _ (⟨_, .mv _, none⟩ :: _) _ _ _; first | refine st_mv (v := AV.int _ _) rfl ?_ | refine st_mv (v := AV.bool _) rfl ?_ | refine st_mv (v := AV.rd _ _ _) rfl ?_) | (show wops _ (⟨_, _, some _⟩ :: _) _ _ _; refine st_gog rfl ?_) | (show wops _ (⟨_, .load _ _ _ _, none⟩ :: _) _ _ _; first | refine st_load_r rfl (by first | (simp; done) | (simp; omega)) pv_ ?_ | refine st_load_p rfl hg_ (by simp) (by first | (simp; done) | (simp; omega)) pv_ ?_) | (show wops _ (⟨_, .bin _ _ _, none⟩ :: _) _ _ _; first | (refine st_eql rfl rfl rfl ?_ ?_ <;> (intro hc; try (exfalso; omega))) | (refine st_neq rfl rfl rfl ?_ ?_ <;> (intro hc; try (exfalso; omega)))) | (show wops _ (⟨_, .indexAddr _ _ _, none⟩ :: _) _ _ _; refine st_index_map' rfl rfl h0 (by omega) rfl ?_) | (show wops _ (⟨_, .len _ _, none⟩ :: _) _ _ _; refine st_len_rd rfl ?_) | (show wops _ (⟨_, .pick _ _ _, none⟩ :: _) _ _ _; refine st_pick_f (v := AV.bool _) rfl rfl ?_) | (show wops _ (⟨_, .call _ _ _, none⟩ :: _) _ _ _; refine st_call rfl nt_ ?_) | (show wops _ (⟨_, .alloc _, none⟩ :: _) _ _ _; (refine st_alloc ?_; intro id hid; try simp only [Heap.set_none] at hid)) | (show wops _ (⟨_, .store _ _ _, none⟩ :: _) _ _ _; refine st_store_s (cs' := [AV.rd _ _ _, AV.rd _ _ _, AV.rd _ _ _]) rfl rfl rfl rfl (by first | (simp; done) | (simp; omega)) rfl ?_)) | (show xcode _ _ _ _ _ _; first | refine sx_seq ?_ | refine sx_ops rfl ?_ | refine sx_skip ?_ | refine sx_block ?_ | refine sx_cond_f rfl ?_) | refine sk_norm ?_ | refine call_pure (by assumption) fz_ fz_ ?_
  rename Nat => ib
  refine sx_for at_.length (fun i env h' => h'.get ib = some (.cells 0 n.av) ∧ env.has [(7, .ptr ib 0 0), (8, rowI at_), (9, .int .i64 i)]) ⟨hg_, hh_⟩ ?_
  rintro i env h' hi ⟨hbox, he⟩
  obtain ⟨env, rfl⟩ := he.ex
  clear he
  by_cases hi2 : i < at_.length
  · obtain ⟨s, hsi⟩ := ex_get hi2
    have hsm := (hmem s).1 (List.mem_of_getElem? hsi)
    have hsk := hsm.2.lt hn hlt
    obtain ⟨fs, hfs⟩ := ex_get (l := n.free.l) (show s.toNat < n.free.l.length by rw [hn.free]; exact hsk)
    have hfr : n.frees s.toNat = fs.l := by simp [Nfa.frees, List.getD_eq_getElem?_getD, hfs]
    have hfl := hf.frees fs (List.mem_of_getElem? hfs)
    have k2 := within_ok L2 fs.l at_ fs.fl false (by omega) (by omega) fun t ht => by
      have h1 := hn.frees s.toNat hsk t (hfr ▸ ht)
      exact (hmem t).2 ⟨h1.1, .step hsm.2 (hfr ▸ ht)⟩
    repeat' first | refine st_nil ?_ | (show wops _ _ _ _ _; first | (show wops _ (⟨_, .mv _, none⟩ :: _) _ _ _; first | refine st_mv (v := AV.int _ _) rfl ?_ | refine st_mv (v := AV.bool _) rfl ?_ | refine st_mv (v := AV.rd _ _ _) rfl ?_) | (show wops _ (⟨_, _, some _⟩ :: _) _ _ _; refine st_gog rfl ?_) | (show wops _ (⟨_, .load _ _ _ _, none⟩ :: _) _ _ _; first | refine st_load_r rfl (by first | (simp; done) | (simp; omega)) pv_ ?_ | refine st_load_p rfl hg_ (by simp) (by first | (simp; done) | (simp; omega)) pv_ ?_) | (show wops _ (⟨_, .bin _ _ _, none⟩ :: _) _ _ _; first | refine st_add rfl rfl rfl (by omega) (by omega) ?_ | (refine st_lss rfl rfl rfl ?_ ?_ <;> (intro hc; try (exfalso; omega))) | (refine st_geq rfl rfl rfl ?_ ?_ <;> (intro hc; try (exfalso; omega)))) | (show wops _ (⟨_, .fieldAddr _ _, none⟩ :: _) _ _ _; refine st_field_p rfl (Nat.zero_add _) ?_) | (show wops _ (⟨_, .indexAddr _ _ _, none⟩ :: _) _ _ _; first | refine st_index_map' rfl rfl hsi (by omega) rfl ?_ | refine st_index_map' rfl rfl hfs (by omega) rfl ?_) | (show wops _ (⟨_, .len _ _, none⟩ :: _) _ _ _; refine st_len_rd rfl ?_) | (show wops _ (⟨_, .pick _ _ _, none⟩ :: _) _ _ _; refine st_pick_f (v := AV.bool _) rfl rfl ?_) | (show wops _ (⟨_, .call _ _ _, none⟩ :: _) _ _ _; refine st_call rfl nt_ ?_) | (show wops _ (⟨_, .un _ _, none⟩ :: _) _ _ _; refine st_not (b := true) rfl ?_)) | (show xcode _ _ _ _ _ _; first | refine sx_seq ?_ | refine sx_ops rfl ?_ | refine sx_skip ?_ | refine sx_block ?_ | refine sx_cond_t rfl ?_ | refine sx_cond_f rfl ?_) | refine sk_norm ?_ | refine bk_norm ?_ | refine call_pure (by assumption) fz_ fz_ ?_
    exact lk_next hi2 ⟨hbox, hh_⟩
  · repeat' first | refine st_nil ?_ | (show wops _ _ _ _ _; first | (show wops _ (⟨_, .mv _, none⟩ :: _) _ _ _; first | refine st_mv (v := AV.int _ _) rfl ?_ | refine st_mv (v := AV.bool _) rfl ?_ | refine st_mv (v := AV.rd _ _ _) rfl ?_) | (show wops _ (⟨_, .bin _ _ _, none⟩ :: _) _ _ _; (refine st_lss rfl rfl rfl ?_ ?_ <;> (intro hc; try (exfalso; omega)))) | (show wops _ (⟨_, .len _ _, none⟩ :: _) _ _ _; refine st_len_rd rfl ?_) | (show wops _ (⟨_, .call _ _ _, none⟩ :: _) _ _ _; refine st_call rfl nt_ ?_)) | (show xcode _ _ _ _ _ _; first | refine sx_seq ?_ | refine sx_ops rfl ?_ | refine sx_ret ?_ | refine sx_exit ?_ | refine sx_cond_f rfl ?_) | refine sk_norm ?_ | refine sk_exit ?_ | refine bk_exit ?_ | refine lk_exit ?_ | refine call_pure (by assumption) fz_ fz_ ?_
    exact fin_ret (v := .bool true) rfl rfl

theorem step1_length (n : Nfa) (a : List Int) (r : Int) : (step1 n a r).length ≤ n.k := by
  unfold step1; split
  · exact closeN_length _ _
  · simp
theorem start1_length (n : Nfa) : (start1 n).length ≤ n.k := by
  unfold start1; split
  · exact closeN_length _ _
  · simp
theorem tags1_length (n : Nfa) (a : List Int) : (tags1 n a).length ≤ a.length := by
  unfold tags1; split
  · unfold tagsN
    refine Nat.le_trans (compactL_length _) ?_
    rw [List.length_mergeSort]
    exact List.length_filterMap_le _ _
  · simp

theorem simGoes_ok {Φ : Lib} (L : C1Lib Φ) (L2 : C2Lib Φ) (S : SortLib Φ) (kk : Int) (l : List Arc) (tg at_ r : List Int) (hg : Given kk l tg) (ha : at_.length ≤ 1048576) (hr : r.length ≤ 1048576) (hrw : ∀ c ∈ r, 0 ≤ c ∧ c ≤ 65535) (f1 f2 f3 f4 : Bool) :
    Runs Φ 4 [.int .u8 kk, .rd l.length (l.flatMap Arc.av) f1, .rd tg.length (tg.map (.int .i8)) f2, ints at_ f3, row16 r f4] Heap.empty (fun v _ => v = .bool true) := by
  have hkn := known_ok L L2 S
  have hsc := scalars_ok L2 r f4 hr hrw
  have hsl : (scalarsL r).length = r.length := by simp [scalarsL]
  generalize scalarsL r = s at *
  refine runs_of (fun _ => false) rfl L2.f4 ?_
  repeat' first | refine st_nil ?_ | (show wops _ _ _ _ _; first | (show wops _ (⟨_, .mv _, none⟩ :: _) _ _ _; first | refine st_mv (v := AV.int _ _) rfl ?_ | refine st_mv (v := AV.bool _) rfl ?_ | refine st_mv (v := AV.rd _ _ _) rfl ?_) | (show wops _ (⟨_, _, some _⟩ :: _) _ _ _; first | refine st_skipg rfl ?_ | refine st_gog rfl ?_) | (show wops _ (⟨_, .bin _ _ _, none⟩ :: _) _ _ _; (refine st_gtr rfl rfl rfl ?_ ?_ <;> (intro hc; try (exfalso; omega)))) | (show wops _ (⟨_, .len _ _, none⟩ :: _) _ _ _; refine st_len_rd rfl ?_) | (show wops _ (⟨_, .pick _ _ _, none⟩ :: _) _ _ _; first | refine st_pick_t (v := AV.bool _) rfl rfl ?_ | refine st_pick_f (v := AV.bool _) rfl rfl ?_) | (show wops _ (⟨_, .call _ _ _, none⟩ :: _) _ _ _; refine st_call rfl nt_ ?_) | (show wops _ (⟨_, .un _ _, none⟩ :: _) _ _ _; refine st_not (b := true) rfl ?_)) | (show xcode _ _ _ _ _ _; first | refine sx_seq ?_ | refine sx_ops rfl ?_ | refine sx_skip ?_ | refine sx_ret ?_ | refine sx_cond_t rfl ?_ | refine sx_cond_f rfl ?_) | refine sk_norm ?_ | refine sk_ret ?_ | refine call_pure (by assumption) fz_ fz_ ?_
  · exact fin_ret (v := .bool true) rfl rfl
  · exact fin_ret (v := .bool true) rfl rfl
  refine machine_of L2 hg f1 f2 fun n hn hf hs => ?_
  have hmost := hn.most
  have k1 := start_ok L S n hf
  have k2 := rstart_ok L2 n hf
  have b1 := start1_length n
  have k3 := same_ok L2 (start1 n) false false (by omega)
  have k4 := tagss_ok L S n hf at_ f3 ha
  have k5 := rtags_ok L2 n hf at_ f3 ha
  have b2 := tags1_length n at_
  have k6 := same_ok L2 (tags1 n at_) false false (by omega)
  repeat' first | refine st_nil ?_ | (show wops _ _ _ _ _; first | (show wops _ (⟨_, .mv _, none⟩ :: _) _ _ _; first | refine st_mv (v := AV.int _ _) rfl ?_ | refine st_mv (v := AV.bool _) rfl ?_ | refine st_mv (v := AV.rd _ _ _) rfl ?_) | (show wops _ (⟨_, _, some _⟩ :: _) _ _ _; refine st_gog rfl ?_) | (show wops _ (⟨_, .load _ _ _ _, none⟩ :: _) _ _ _; refine st_load_p rfl hg_ (by simp) (by first | (simp; done) | (simp; omega)) pv_ ?_) | (show wops _ (⟨_, .pick _ _ _, none⟩ :: _) _ _ _; refine st_pick_f (v := AV.bool _) rfl rfl ?_) | (show wops _ (⟨_, .call _ _ _, none⟩ :: _) _ _ _; refine st_call rfl nt_ ?_) | (show wops _ (⟨_, .alloc _, none⟩ :: _) _ _ _; (refine st_alloc ?_; intro id hid; try simp only [Heap.set_none] at hid)) | (show wops _ (⟨_, .store _ _ _, none⟩ :: _) _ _ _; refine st_store_s (cs' := [AV.rd _ _ _, AV.rd _ _ _, AV.rd _ _ _]) rfl rfl rfl rfl (by first | (simp; done) | (simp; omega)) rfl ?_) | (show wops _ (⟨_, .un _ _, none⟩ :: _) _ _ _; refine st_not (b := true) rfl ?_)) | (show xcode _ _ _ _ _ _; first | refine sx_seq ?_ | refine sx_ops rfl ?_ | refine sx_skip ?_ | refine sx_block ?_ | refine sx_cond_f rfl ?_) | refine sk_norm ?_ | refine call_pure (by assumption) fz_ fz_ ?_
  rename Nat => ib
  refine sx_for s.length (fun i env h' => ∃ x : List Int, x.length ≤ n.k ∧ h'.get ib = some (.cells 0 n.av) ∧ env.has [(3, ints at_ f3), (11, .ptr ib 0 0), (12, rowI s), (13, rowI x), (14, .int .i64 i)]) ⟨start1 n, b1, hg_, hh_⟩ ?_
  clear k1 k2 k3
  rintro i env h' hi ⟨x, hx, hbox, he⟩
  obtain ⟨env, rfl⟩ := he.ex
  clear he
  by_cases hi2 : i < s.length
  · obtain ⟨c, hc'⟩ := ex_get hi2
    have k1 := stepp_ok L S n hf at_ f3 ha c
    have k2 := rstep_ok L2 n hf at_ f3 ha c
    have b3 := step1_length n at_ c
    have k3 := same_ok L2 (step1 n at_ c) false false (by omega)
    have k7 := tagss_ok L S n hf x false (by omega)
    have k8 := rtags_ok L2 n hf x false (by omega)
    have b4 := tags1_length n x
    have k9 := same_ok L2 (tags1 n x) false false (by omega)
    have k10 := stepp_ok L S n hf x false (by omega) c
    repeat' first | refine st_nil ?_ | (show wops _ _ _ _ _; first | (show wops _ (⟨_, .mv _, none⟩ :: _) _ _ _; first | refine st_mv (v := AV.int _ _) rfl ?_ | refine st_mv (v := AV.bool _) rfl ?_ | refine st_mv (v := AV.rd _ _ _) rfl ?_) | (show wops _ (⟨_, _, some _⟩ :: _) _ _ _; refine st_gog rfl ?_) | (show wops _ (⟨_, .load _ _ _ _, none⟩ :: _) _ _ _; first | refine st_load_r rfl (by first | (simp; done) | (simp; omega)) pv_ ?_ | refine st_load_p rfl hg_ (by simp) (by first | (simp; done) | (simp; omega)) pv_ ?_) | (show wops _ (⟨_, .bin _ _ _, none⟩ :: _) _ _ _; first | refine st_add rfl rfl rfl (by omega) (by omega) ?_ | (refine st_lss rfl rfl rfl ?_ ?_ <;> (intro hc; try (exfalso; omega)))) | (show wops _ (⟨_, .indexAddr _ _ _, none⟩ :: _) _ _ _; refine st_index_map' rfl rfl hc' (by omega) rfl ?_) | (show wops _ (⟨_, .len _ _, none⟩ :: _) _ _ _; refine st_len_rd rfl ?_) | (show wops _ (⟨_, .pick _ _ _, none⟩ :: _) _ _ _; refine st_pick_f (v := AV.bool _) rfl rfl ?_) | (show wops _ (⟨_, .call _ _ _, none⟩ :: _) _ _ _; refine st_call rfl nt_ ?_) | (show wops _ (⟨_, .un _ _, none⟩ :: _) _ _ _; refine st_not (b := true) rfl ?_)) | (show xcode _ _ _ _ _ _; first | refine sx_seq ?_ | refine sx_ops rfl ?_ | refine sx_skip ?_ | refine sx_block ?_ | refine sx_cond_t rfl ?_ | refine sx_cond_f rfl ?_) | refine sk_norm ?_ | refine bk_norm ?_ | refine call_pure (by assumption) fz_ fz_ ?_
    exact lk_next hi2 ⟨step1 n x c, step1_length n x c, hbox, hh_⟩
  · have k1 := longest_ok L S n hf s false (by omega)
    have k2 := rlongest_ok L2 n hf s false (by omega)
    repeat' first | refine st_nil ?_ | (show wops _ _ _ _ _; first | (show wops _ (⟨_, .mv _, none⟩ :: _) _ _ _; first | refine st_mv (v := AV.int _ _) rfl ?_ | refine st_mv (v := AV.bool _) rfl ?_ | refine st_mv (v := AV.rd _ _ _) rfl ?_ | refine st_mv (v := AV.tup _) rfl ?_) | (show wops _ (⟨_, _, some _⟩ :: _) _ _ _; refine st_gog rfl ?_) | (show wops _ (⟨_, .load _ _ _ _, none⟩ :: _) _ _ _; refine st_load_p rfl hg_ (by simp) (by first | (simp; done) | (simp; omega)) pv_ ?_) | (show wops _ (⟨_, .bin _ _ _, none⟩ :: _) _ _ _; first | (refine st_lss rfl rfl rfl ?_ ?_ <;> (intro hc; try (exfalso; omega))) | (refine st_eql rfl rfl rfl ?_ ?_ <;> (intro hc; try (exfalso; omega)))) | (show wops _ (⟨_, .len _ _, none⟩ :: _) _ _ _; refine st_len_rd rfl ?_) | (show wops _ (⟨_, .pick _ _ _, none⟩ :: _) _ _ _; refine st_pick_t (v := AV.bool _) rfl rfl ?_) | (show wops _ (⟨_, .call _ _ _, none⟩ :: _) _ _ _; refine st_call rfl nt_ ?_) | (show wops _ (⟨_, .extract _ _, none⟩ :: _) _ _ _; refine st_extract rfl rfl ?_)) | (show xcode _ _ _ _ _ _; first | refine sx_seq ?_ | refine sx_ops rfl ?_ | refine sx_ret ?_ | refine sx_exit ?_ | refine sx_cond_f rfl ?_) | refine sk_norm ?_ | refine sk_exit ?_ | refine bk_exit ?_ | refine lk_exit ?_ | refine call_pure (by assumption) fz_ fz_ ?_ | refine fin_ret (v := AV.bool _) rfl ?_
    all_goals first
      | rfl
      | exact absurd rfl (by assumption)

theorem simBad_ok {Φ : Lib} (L : C1Lib Φ) (L2 : C2Lib Φ) (S : SortLib Φ) (n : Nfa) (hf : n.Fits) (at_ : List Int) (r : Int) (ha : at_.length ≤ 1048576) (f : Bool) :
    Runs Φ 5 [.agg n.av, ints at_ f, .int .i64 r] Heap.empty (fun v _ => v = .bool true) := by
  have hkn := known_ok L L2 S
  have hft := hf.tags
  have hfe := hf.edges
  have hff := hf.free
  refine runs_of (fun _ => false) rfl L2.f5 ?_
  repeat' first | refine st_nil ?_ | (show wops _ _ _ _ _; first | (show wops _ (⟨_, .mv _, none⟩ :: _) _ _ _; first | refine st_mv (v := AV.int _ _) rfl ?_ | refine st_mv (v := AV.bool _) rfl ?_ | refine st_mv (v := AV.rd _ _ _) rfl ?_) | (show wops _ (⟨_, _, some _⟩ :: _) _ _ _; first | refine st_skipg rfl ?_ | refine st_gog rfl ?_) | (show wops _ (⟨_, .load _ _ _ _, none⟩ :: _) _ _ _; refine st_load_p rfl hg_ (by simp) (by first | (simp; done) | (simp; omega)) pv_ ?_) | (show wops _ (⟨_, .bin _ _ _, none⟩ :: _) _ _ _; (refine st_gtr rfl rfl rfl ?_ ?_ <;> (intro hc; try (exfalso; omega)))) | (show wops _ (⟨_, .fieldAddr _ _, none⟩ :: _) _ _ _; refine st_field_p rfl (Nat.zero_add _) ?_) | (show wops _ (⟨_, .len _ _, none⟩ :: _) _ _ _; refine st_len_rd rfl ?_) | (show wops _ (⟨_, .pick _ _ _, none⟩ :: _) _ _ _; first | refine st_pick_t (v := AV.bool _) rfl rfl ?_ | refine st_pick_f (v := AV.bool _) rfl rfl ?_) | (show wops _ (⟨_, .call _ _ _, none⟩ :: _) _ _ _; refine st_call rfl nt_ ?_) | (show wops _ (⟨_, .box _, none⟩ :: _) _ _ _; (refine st_box (v := AV.agg _) rfl rfl ?_; intro id hid; try simp only [Heap.set_none] at hid)) | (show wops _ (⟨_, .un _ _, none⟩ :: _) _ _ _; refine st_not (b := true) rfl ?_)) | (show xcode _ _ _ _ _ _; first | refine sx_seq ?_ | refine sx_ops rfl ?_ | refine sx_skip ?_ | refine sx_block ?_ | refine sx_ret ?_ | refine sx_cond_t rfl ?_ | refine sx_cond_f rfl ?_) | refine sk_norm ?_ | refine sk_ret ?_ | refine call_pure (by assumption) fz_ fz_ ?_
  all_goals first
    | exact fin_ret (v := .bool true) rfl rfl
    | skip
  rename Nat => ib
  refine sx_for n.edges.l.length (fun i env h' => h'.get ib = some (.cells 0 n.av) ∧ env.has [(1, ints at_ f), (2, .int .i64 r), (3, .ptr ib 0 0), (7, .int .i64 i)]) ⟨hg_, hh_⟩ ?_
  rintro i env h' hi ⟨hbox, he⟩
  obtain ⟨env, rfl⟩ := he.ex
  clear he
  by_cases hi2 : i < n.edges.l.length
  · obtain ⟨es, hes⟩ := ex_get hi2
    have hesf := hf.edge es (List.mem_of_getElem? hes)
    repeat' first | refine st_nil ?_ | (show wops _ _ _ _ _; first | (show wops _ (⟨_, .mv _, none⟩ :: _) _ _ _; first | refine st_mv (v := AV.int _ _) rfl ?_ | refine st_mv (v := AV.bool _) rfl ?_) | (show wops _ (⟨_, .load _ _ _ _, none⟩ :: _) _ _ _; first | refine st_load_r rfl (by first | (simp; done) | (simp; omega)) pv_ ?_ | refine st_load_p rfl hg_ (by simp) (by first | (simp; done) | (simp; omega)) pv_ ?_) | (show wops _ (⟨_, .bin _ _ _, none⟩ :: _) _ _ _; first | (refine st_lss rfl rfl rfl ?_ ?_ <;> (intro hc; try (exfalso; omega))) | (refine st_gtr rfl rfl rfl ?_ ?_ <;> (intro hc; try (exfalso; omega)))) | (show wops _ (⟨_, .fieldAddr _ _, none⟩ :: _) _ _ _; refine st_field_p rfl (Nat.zero_add _) ?_) | (show wops _ (⟨_, .indexAddr _ _ _, none⟩ :: _) _ _ _; refine st_index_map' rfl rfl hes (by omega) rfl ?_) | (show wops _ (⟨_, .len _ _, none⟩ :: _) _ _ _; refine st_len_rd rfl ?_)) | (show xcode _ _ _ _ _ _; first | refine sx_seq ?_ | refine sx_ops rfl ?_ | refine sx_skip ?_ | refine sx_block ?_ | refine sx_ret ?_ | refine sx_cond_t rfl ?_ | refine sx_cond_f rfl ?_) | refine sk_norm ?_ | refine sk_ret ?_ | refine bk_ret ?_ | refine lk_ret ?_
    · exact fin_ret (v := .bool true) rfl rfl
    refine sx_for es.l.length (fun j env h' => h'.get ib = some (.cells 0 n.av) ∧ env.has [(1, ints at_ f), (2, .int .i64 r), (3, .ptr ib 0 0), (7, .int .i64 i), (8, .int .i64 j)]) ⟨hbox, hh_⟩ ?_
    clear hbox
    rintro j env h' hj ⟨hbox, he⟩
    obtain ⟨env, rfl⟩ := he.ex
    clear he
    by_cases hj2 : j < es.l.length
    · obtain ⟨e, he⟩ := ex_get hj2
      repeat' first | refine st_nil ?_ | (show wops _ _ _ _ _; first | (show wops _ (⟨_, .mv _, none⟩ :: _) _ _ _; first | refine st_mv (v := AV.int _ _) rfl ?_ | refine st_mv (v := AV.bool _) rfl ?_) | (show wops _ (⟨_, .load _ _ _ _, none⟩ :: _) _ _ _; first | refine st_load_r rfl (by first | (simp; done) | (simp; omega)) pv_ ?_ | refine st_load_p rfl hg_ (by simp) (by first | (simp; done) | (simp; omega)) pv_ ?_) | (show wops _ (⟨_, .bin _ _ _, none⟩ :: _) _ _ _; first | refine st_add rfl rfl rfl (by omega) (by omega) ?_ | (refine st_lss rfl rfl rfl ?_ ?_ <;> (intro hc; try (exfalso; omega))) | (refine st_gtr rfl rfl rfl ?_ ?_ <;> (intro hc; try (exfalso; omega)))) | (show wops _ (⟨_, .fieldAddr _ _, none⟩ :: _) _ _ _; first | refine st_field_p rfl (Nat.zero_add _) ?_ | refine st_field_r rfl (by simp) rfl ?_) | (show wops _ (⟨_, .indexAddr _ _ _, none⟩ :: _) _ _ _; first | refine st_index_map' rfl rfl hes (by omega) rfl ?_ | refine st_index_flat' rfl fl_ rfl he (by omega) rfl ?_) | (show wops _ (⟨_, .len _ _, none⟩ :: _) _ _ _; refine st_len_rd rfl ?_)) | (show xcode _ _ _ _ _ _; first | refine sx_seq ?_ | refine sx_ops rfl ?_ | refine sx_skip ?_ | refine sx_block ?_ | refine sx_ret ?_ | refine sx_cond_t rfl ?_ | refine sx_cond_f rfl ?_) | refine sk_norm ?_ | refine sk_ret ?_ | refine bk_norm ?_ | refine bk_ret ?_ | refine lk_ret ?_
      · exact fin_ret (v := .bool true) rfl rfl
      · exact lk_next hj2 ⟨hbox, hh_⟩
    · repeat' first | refine st_nil ?_ | (show wops _ _ _ _ _; first | (show wops _ (⟨_, .mv _, none⟩ :: _) _ _ _; refine st_mv (v := AV.int _ _) rfl ?_) | (show wops _ (⟨_, .load _ _ _ _, none⟩ :: _) _ _ _; first | refine st_load_r rfl (by first | (simp; done) | (simp; omega)) pv_ ?_ | refine st_load_p rfl hg_ (by simp) (by first | (simp; done) | (simp; omega)) pv_ ?_) | (show wops _ (⟨_, .bin _ _ _, none⟩ :: _) _ _ _; first | refine st_add rfl rfl rfl (by omega) (by omega) ?_ | (refine st_lss rfl rfl rfl ?_ ?_ <;> (intro hc; try (exfalso; omega)))) | (show wops _ (⟨_, .fieldAddr _ _, none⟩ :: _) _ _ _; refine st_field_p rfl (Nat.zero_add _) ?_) | (show wops _ (⟨_, .indexAddr _ _ _, none⟩ :: _) _ _ _; refine st_index_map' rfl rfl hes (by omega) rfl ?_) | (show wops _ (⟨_, .len _ _, none⟩ :: _) _ _ _; refine st_len_rd rfl ?_)) | (show xcode _ _ _ _ _ _; first | refine sx_seq ?_ | refine sx_ops rfl ?_ | refine sx_exit ?_ | refine sx_cond_f rfl ?_) | refine sk_norm ?_ | refine sk_exit ?_ | refine bk_norm ?_ | refine bk_exit ?_ | refine lk_exit ?_
      exact lk_next hi2 ⟨hbox, hh_⟩
  · have k1 := rsound_ok L2 n hf
    cases hs : soundN n
    all_goals rw [hs] at k1
    · have k2 := longest_ok L S n hf at_ f (by omega)
      have k3 := start_ok L S n hf
      have k4 := stepp_ok L S n hf at_ f ha r
      have k5 := tagss_ok L S n hf at_ f ha
      have hl : longest1 n at_ = (0, -1) := by simp [longest1, hs]
      have h3 : start1 n = [] := by simp [start1, hs]
      have h4 : step1 n at_ r = [] := by simp [step1, hs]
      have h5 : tags1 n at_ = [] := by simp [tags1, hs]
      rw [hl] at k2
      rw [h3] at k3
      rw [h4] at k4
      rw [h5] at k5
      have e0 : (([] : List Int).length : Int) = 0 := rfl
      repeat' first | refine st_nil ?_ | (show wops _ _ _ _ _; first | (show wops _ (⟨_, .mv _, none⟩ :: _) _ _ _; first | refine st_mv (v := AV.int _ _) rfl ?_ | refine st_mv (v := AV.bool _) rfl ?_ | refine st_mv (v := AV.rd _ _ _) rfl ?_ | refine st_mv (v := AV.tup _) rfl ?_) | (show wops _ (⟨_, _, some _⟩ :: _) _ _ _; refine st_gog rfl ?_) | (show wops _ (⟨_, .load _ _ _ _, none⟩ :: _) _ _ _; refine st_load_p rfl hg_ (by simp) (by first | (simp; done) | (simp; omega)) pv_ ?_) | (show wops _ (⟨_, .bin _ _ _, none⟩ :: _) _ _ _; first | (refine st_lss rfl rfl rfl ?_ ?_ <;> (intro hc; try (exfalso; omega))) | (refine st_eql rfl rfl rfl ?_ ?_ <;> (intro hc; try (exfalso; omega)))) | (show wops _ (⟨_, .fieldAddr _ _, none⟩ :: _) _ _ _; refine st_field_p rfl (Nat.zero_add _) ?_) | (show wops _ (⟨_, .len _ _, none⟩ :: _) _ _ _; refine st_len_rd rfl ?_) | (show wops _ (⟨_, .pick _ _ _, none⟩ :: _) _ _ _; refine st_pick_t (v := AV.bool _) rfl rfl ?_) | (show wops _ (⟨_, .call _ _ _, none⟩ :: _) _ _ _; refine st_call rfl nt_ ?_) | (show wops _ (⟨_, .extract _ _, none⟩ :: _) _ _ _; refine st_extract rfl rfl ?_)) | (show xcode _ _ _ _ _ _; first | refine sx_seq ?_ | refine sx_ops rfl ?_ | refine sx_skip ?_ | refine sx_ret ?_ | refine sx_exit ?_ | refine sx_cond_f rfl ?_) | refine sk_norm ?_ | refine sk_exit ?_ | refine bk_exit ?_ | refine lk_exit ?_ | refine call_pure (by assumption) fz_ fz_ ?_ | refine fin_ret (v := AV.bool _) rfl ?_
      all_goals first
        | rfl
        | (exfalso; omega)
        | (exfalso; apply ‹¬ _›; rfl)
    · have hn := sound_ok_iff.1 hs
      have hmost := hn.most
      have k2 := start_ok L S n hf
      have k3 := rstart_ok L2 n hf
      have b1 := start1_length n
      have k4 := same_ok L2 (start1 n) false false (by omega)
      repeat' first | refine st_nil ?_ | (show wops _ _ _ _ _; first | (show wops _ (⟨_, .mv _, none⟩ :: _) _ _ _; first | refine st_mv (v := AV.int _ _) rfl ?_ | refine st_mv (v := AV.bool _) rfl ?_) | (show wops _ (⟨_, .load _ _ _ _, none⟩ :: _) _ _ _; refine st_load_p rfl hg_ (by simp) (by first | (simp; done) | (simp; omega)) pv_ ?_) | (show wops _ (⟨_, .bin _ _ _, none⟩ :: _) _ _ _; (refine st_lss rfl rfl rfl ?_ ?_ <;> (intro hc; try (exfalso; omega)))) | (show wops _ (⟨_, .fieldAddr _ _, none⟩ :: _) _ _ _; refine st_field_p rfl (Nat.zero_add _) ?_) | (show wops _ (⟨_, .len _ _, none⟩ :: _) _ _ _; refine st_len_rd rfl ?_) | (show wops _ (⟨_, .call _ _ _, none⟩ :: _) _ _ _; refine st_call rfl nt_ ?_)) | (show xcode _ _ _ _ _ _; first | refine sx_seq ?_ | refine sx_ops rfl ?_ | refine sx_ret ?_ | refine sx_exit ?_ | refine sx_cond_t rfl ?_ | refine sx_cond_f rfl ?_) | refine sk_norm ?_ | refine sk_ret ?_ | refine sk_exit ?_ | refine bk_exit ?_ | refine lk_exit ?_ | refine call_pure (by assumption) fz_ fz_ ?_ | refine fin_ret (v := AV.bool _) rfl ?_
      rfl

end Go.Proofs.Ytpcbpgepjfenhaa
set_option linter.unusedVariables false
set_option linter.unusedSimpArgs false
namespace Go.Proofs.Ytpcbpgepjfenhaa
open Go
set_option maxHeartbeats 4000000
attribute [local irreducible] wops xcode wcode seqK blockK loopK finK wcall wop wstp Runs

noncomputable def goAll (n : Nfa) (at_ : List Int) (s : List Int) : List Int := s.foldl (stepN n) at_
theorem longFrom_append (n : Nfa) : ∀ (s m : List Int) (i : Nat) (at_ : List Int) (acc : Int × Int), longFrom n i at_ (s ++ m) acc = longFrom n (i + s.length) (goAll n at_ s) m (longFrom n i at_ s acc)
  | [], m, i, at_, acc => rfl
  | r :: s, m, i, at_, acc => by
    rw [List.cons_append, longFrom, longFrom_append n s m (i + 1), longFrom, List.length_cons, show i + 1 + s.length = i + (s.length + 1) by omega]
    rfl
theorem longFrom_cons (n : Nfa) (r : Int) (m : List Int) (i : Nat) (at_ : List Int) (acc : Int × Int) : ∃ acc', longFrom n i at_ (r :: m) acc = longFrom n (i + 1) (stepN n at_ r) m acc' ∧ (acc' = acc ∨ acc'.1 = ((i + 1 : Nat) : Int)) := by
  refine ⟨_, rfl, ?_⟩
  split
  · exact .inl rfl
  · exact .inr rfl
theorem longFrom_more (n : Nfa) : ∀ (m : List Int) (i : Nat) (at_ : List Int) (acc : Int × Int), longFrom n i at_ m acc = acc ∨ (i : Int) < (longFrom n i at_ m acc).1
  | [], _, _, _ => .inl rfl
  | r :: m, i, at_, acc => by
    obtain ⟨acc', e, h0⟩ := longFrom_cons n r m i at_ acc
    rw [e]
    rcases longFrom_more n m (i + 1) (stepN n at_ r) acc' with h | h
    · rw [h]
      rcases h0 with h0 | h0
      · exact .inl h0
      · exact .inr (by omega)
    · exact .inr (by omega)
theorem longFrom_most (n : Nfa) : ∀ (m : List Int) (i : Nat) (at_ : List Int) (acc : Int × Int), acc.1 ≤ i → (longFrom n i at_ m acc).1 ≤ (i + m.length : Nat)
  | [], i, _, acc, h => by simpa [longFrom] using h
  | r :: m, i, at_, acc, h => by
    obtain ⟨acc', e, h0⟩ := longFrom_cons n r m i at_ acc
    have h1 : acc'.1 ≤ ((i + 1 : Nat) : Int) := by
      rcases h0 with h0 | h0
      · rw [h0]; omega
      · omega
    have := longFrom_most n m (i + 1) (stepN n at_ r) acc' h1
    rw [e, List.length_cons, show i + (m.length + 1) = i + 1 + m.length by omega]
    exact this
theorem fronts (n : Nfa) (s m : List Int) : (longestN n s).1 ≤ (longestN n (s ++ m)).1 ∧ ((s.length : Int) < (longestN n (s ++ m)).1 ∨ longestN n (s ++ m) = longestN n s) := by
  have h1 : (longestN n s).1 ≤ (0 + s.length : Nat) := longFrom_most n s 0 _ _ (by decide)
  have h2 := longFrom_more n m (0 + s.length) (goAll n (startN n) s) (longestN n s)
  rw [longestN, longestN, longFrom_append] at *
  rcases h2 with h | h
  · rw [h]; exact ⟨Int.le_refl _, .inr rfl⟩
  · exact ⟨by omega, .inl (by omega)⟩

theorem simFronts_ok {Φ : Lib} (L : C1Lib Φ) (L2 : C2Lib Φ) (S : SortLib Φ) (kk : Int) (l : List Arc) (tg r more : List Int) (hg : Given kk l tg) (hr : r.length ≤ 1048576) (hrw : ∀ c ∈ r, 0 ≤ c ∧ c ≤ 65535) (hm : more.length ≤ 1048576) (hmw : ∀ c ∈ more, 0 ≤ c ∧ c ≤ 65535) (f1 f2 f3 f4 : Bool) :
    Runs Φ 6 [.int .u8 kk, .rd l.length (l.flatMap Arc.av) f1, .rd tg.length (tg.map (.int .i8)) f2, row16 r f3, row16 more f4] Heap.empty (fun v _ => v = .bool true) := by
  have hkn := known_ok L L2 S
  have hsl : (scalarsL r).length = r.length := by simp [scalarsL]
  have hml : (scalarsL more).length = more.length := by simp [scalarsL]
  refine runs_of (fun o => o == some 50) rfl L2.f6 ?_
  repeat' first | refine st_nil ?_ | (show wops _ _ _ _ _; first | (show wops _ (⟨_, .mv _, none⟩ :: _) _ _ _; first | refine st_mv (v := AV.int _ _) rfl ?_ | refine st_mv (v := AV.bool _) rfl ?_ | refine st_mv (v := AV.rd _ _ _) rfl ?_) | (show wops _ (⟨_, _, some _⟩ :: _) _ _ _; first | refine st_skipg rfl ?_ | refine st_gog rfl ?_) | (show wops _ (⟨_, .bin _ _ _, none⟩ :: _) _ _ _; (refine st_gtr rfl rfl rfl ?_ ?_ <;> (intro hc; try (exfalso; omega)))) | (show wops _ (⟨_, .len _ _, none⟩ :: _) _ _ _; refine st_len_rd rfl ?_) | (show wops _ (⟨_, .pick _ _ _, none⟩ :: _) _ _ _; first | refine st_pick_t (v := AV.bool _) rfl rfl ?_ | refine st_pick_f (v := AV.bool _) rfl rfl ?_) | (show wops _ (⟨_, .call _ _ _, none⟩ :: _) _ _ _; refine st_call rfl nt_ ?_) | (show wops _ (⟨_, .un _ _, none⟩ :: _) _ _ _; refine st_not (b := true) rfl ?_)) | (show xcode _ _ _ _ _ _; first | refine sx_seq ?_ | refine sx_ops rfl ?_ | refine sx_skip ?_ | refine sx_ret ?_ | refine sx_cond_t rfl ?_ | refine sx_cond_f rfl ?_) | refine sk_norm ?_ | refine sk_ret ?_ | refine call_pure (by assumption) fz_ fz_ ?_
  · exact fin_ret (v := .bool true) rfl rfl
  · exact fin_ret (v := .bool true) rfl rfl
  refine machine_of L2 hg f1 f2 fun n hn hf hs => ?_
  repeat' first | refine st_nil ?_ | (show wops _ _ _ _ _; first | (show wops _ (⟨_, .mv _, none⟩ :: _) _ _ _; refine st_mv (v := AV.rd _ _ _) rfl ?_) | (show wops _ (⟨_, .call _ _ _, none⟩ :: _) _ _ _; refine st_call rfl nt_ ?_) | (show wops _ (⟨_, .alloc _, none⟩ :: _) _ _ _; (refine st_alloc ?_; intro id hid; try simp only [Heap.set_none] at hid)) | (show wops _ (⟨_, .store _ _ _, none⟩ :: _) _ _ _; refine st_store_s (cs' := [AV.rd _ _ _, AV.rd _ _ _, AV.rd _ _ _]) rfl rfl rfl rfl (by first | (simp; done) | (simp; omega)) rfl ?_)) | (show xcode _ _ _ _ _ _; first | refine sx_seq ?_ | refine sx_ops rfl ?_) | refine sk_norm ?_
  refine call_pure (scalars_ok L2 r f3 hr hrw) (by simp [AV.frozenL, AV.frozen]) (by simp [AV.frozen]) ?_
  repeat' first | refine st_nil ?_ | (show wops _ _ _ _ _; first | (show wops _ (⟨_, .mv _, none⟩ :: _) _ _ _; refine st_mv (v := AV.rd _ _ _) rfl ?_) | (show wops _ (⟨_, .call _ _ _, none⟩ :: _) _ _ _; refine st_call rfl nt_ ?_)) | (show xcode _ _ _ _ _ _; first | refine sx_seq ?_ | refine sx_ops rfl ?_) | refine sk_norm ?_
  refine call_any (scalars_own L2 r f3 hr hrw _) ?_
  rintro v2 h2 ⟨hrow, hk2, hfr2⟩
  have g1 : h2.get id = some (.cells 0 n.av) := (hk2 id (by rw [Heap.get_set_self]; simp)).trans (Heap.get_set_self _ _ _)
  have e1 : v2.rowId ≠ some id := fun e => by
    have := hfr2 id e
    rw [Heap.get_set_self] at this; cases this
  have hsm := scalars_ok L2 more f4 hm hmw
  have k1 := longest_ok L S n hf (scalarsL r) false (by omega)
  repeat' first | refine st_nil ?_ | (show wops _ _ _ _ _; first | (show wops _ (⟨_, .mv _, none⟩ :: _) _ _ _; first | refine st_mv (v := AV.int _ _) rfl ?_ | refine st_mv (v := AV.rd _ _ _) rfl ?_ | refine st_mv (v := AV.tup _) rfl ?_ | refine st_mv (by simp only [ev_tmp, Env.puts, Env.put_apply, reduceIte, Nat.reduceEqDiff]; exact rfl) ?_) | (show wops _ (⟨_, .load _ _ _ _, none⟩ :: _) _ _ _; refine st_load_p rfl hg_ (by simp) (by first | (simp; done) | (simp; omega)) pv_ ?_) | (show wops _ (⟨_, .call _ _ _, none⟩ :: _) _ _ _; refine st_call rfl nt_ ?_) | (show wops _ (⟨_, .append _ _ _, none⟩ :: _) _ _ _; (refine st_append rv_ ir_ rfl (by simp) (by first | omega | (simp; omega)) ?_; intro va hpa hra hka hria)) | (show wops _ (⟨_, .extract _ _, none⟩ :: _) _ _ _; refine st_extract rfl rfl ?_)) | (show xcode _ _ _ _ _ _; first | refine sx_seq ?_ | refine sx_ops rfl ?_) | refine sk_norm ?_ | refine call_pure (by assumption) fz_ fz_ ?_
  have hra2 : IsRow hpa va 1 (scalarsL r ++ scalarsL more).length ((scalarsL r ++ scalarsL more).map (.int .i64)) := by
    rw [List.length_append, List.map_append, hsl]; exact hra
  have g2 : hpa.get id = some (.cells 0 n.av) := (hka id (by rw [g1]; simp) e1).trans g1
  have e2 : va.rowId ≠ some id := fun e => by
    rcases hria id e with h | h
    · exact e1 h
    · rw [g1] at h; cases h
  refine sx_freeze 13 (v := va) rfl rfl hra2 ?_
  intro h3 hk3
  have g3 := (hk3 id e2).trans g2
  have k2 := longest_ok L S n hf (scalarsL r ++ scalarsL more) false (by simp; omega)
  have hfro := fronts n (scalarsL r) (scalarsL more)
  have el : ∀ s, longest1 n s = longestN n s := fun s => by rw [longest1, if_pos hs]
  rw [el] at k1 k2
  obtain ⟨q1, q2⟩ := hfro
  have q3 : (longestN n (scalarsL r ++ scalarsL more)) = (longestN n (scalarsL r)) → (longestN n (scalarsL r ++ scalarsL more)).1 = (longestN n (scalarsL r)).1 ∧ (longestN n (scalarsL r ++ scalarsL more)).2 = (longestN n (scalarsL r)).2 := fun e => by rw [e]; exact ⟨rfl, rfl⟩
  repeat' first | refine st_nil ?_ | (show wops _ _ _ _ _; first | (show wops _ (⟨_, .mv _, none⟩ :: _) _ _ _; first | refine st_mv (v := AV.int _ _) rfl ?_ | refine st_mv (v := AV.bool _) rfl ?_ | refine st_mv (v := AV.rd _ _ _) rfl ?_ | refine st_mv (v := AV.tup _) rfl ?_) | (show wops _ (⟨_, _, some _⟩ :: _) _ _ _; first | refine st_skipg rfl ?_ | refine st_gog rfl ?_ | refine st_skipt rfl ?_) | (show wops _ (⟨_, .load _ _ _ _, none⟩ :: _) _ _ _; refine st_load_p rfl hg_ (by simp) (by first | (simp; done) | (simp; omega)) pv_ ?_) | (show wops _ (⟨_, .bin _ _ _, none⟩ :: _) _ _ _; first | (refine st_gtr rfl rfl rfl ?_ ?_ <;> (intro hc; try (exfalso; omega))) | (refine st_geq rfl rfl rfl ?_ ?_ <;> (intro hc; try (exfalso; omega))) | (refine st_eql rfl rfl rfl ?_ ?_ <;> (intro hc; try (exfalso; omega)))) | (show wops _ (⟨_, .len _ _, none⟩ :: _) _ _ _; refine st_len_rd rfl ?_) | (show wops _ (⟨_, .pick _ _ _, none⟩ :: _) _ _ _; first | refine st_pick_t (v := AV.bool _) rfl rfl ?_ | refine st_pick_f (v := AV.bool _) rfl rfl ?_) | (show wops _ (⟨_, .call _ _ _, none⟩ :: _) _ _ _; refine st_call rfl nt_ ?_) | (show wops _ (⟨_, .extract _ _, none⟩ :: _) _ _ _; refine st_extract rfl rfl ?_)) | (show xcode _ _ _ _ _ _; first | refine sx_seq ?_ | refine sx_ops rfl ?_ | refine sx_ret ?_) | refine sk_norm ?_ | refine call_pure (by assumption) fz_ fz_ ?_ | refine fin_ret (v := AV.bool _) rfl ?_
  all_goals simp only [el] at *
  all_goals first
    | rfl
    | (exfalso
       rcases q2 with q2 | q2
       · omega
       · obtain ⟨x, y⟩ := q3 q2
         omega)

end Go.Proofs.Ytpcbpgepjfenhaa
set_option linter.unusedVariables false
set_option linter.unusedSimpArgs false
namespace Go.Proofs.Ytpcbpgepjfenhaa
open Go

theorem AV.bulk_pos (v : AV) : 1 ≤ v.bulk := by
  cases v <;> simp [AV.bulk]
theorem AV.bulkL_len : ∀ cs : List AV, cs.length ≤ AV.bulkL cs
  | [] => Nat.zero_le _
  | v :: cs => by
    have h1 := AV.bulk_pos v
    have h2 := AV.bulkL_len cs
    simp only [AV.bulkL, List.length_cons]; omega
theorem TVall.len {n : Nat} {e : Ty} : ∀ {es : List (List AV)}, TVall n e es → es.flatten.length = es.length * n
  | _, .nil => by simp
  | _, .cons (c := c) (es := es) _ h2 h3 => by
    rw [List.flatten_cons, List.length_append, h2, h3.len, List.length_cons, Nat.add_mul, Nat.one_mul, Nat.add_comm]
theorem tvall_dec {α : Type} {f : α → List AV} {P : α → Prop} {n B : Nat} {e : Ty} (hd : ∀ c, TV e c → AV.bulkL c ≤ B → ∃ x, c = f x ∧ P x) : ∀ {es : List (List AV)}, TVall n e es → AV.bulkL es.flatten ≤ B → ∃ l : List α, es.length = l.length ∧ es.flatten = l.flatMap f ∧ ∀ x ∈ l, P x
  | _, .nil, _ => ⟨[], rfl, rfl, fun x h => by cases h⟩
  | _, .cons (c := c) (es := es) h1 _ h3, hb => by
    rw [List.flatten_cons, AV.bulkL_append] at hb
    obtain ⟨x, rfl, hx⟩ := hd c h1 (by omega)
    obtain ⟨l, a1, a2, a3⟩ := tvall_dec hd h3 (by omega)
    refine ⟨x :: l, by simp [a1], by rw [List.flatten_cons, a2, List.flatMap_cons], fun y hy => ?_⟩
    rcases List.mem_cons.1 hy with rfl | hy
    · exact hx
    · exact a3 y hy
/-- A slice of what can be told. -/
theorem slice_dec {α : Type} {f : α → List AV} {P : α → Prop} {n B : Nat} {e : Ty} (hn : 1 ≤ n) (hd : ∀ c, TV e c → AV.bulkL c ≤ B → ∃ x, c = f x ∧ P x) {c : List AV} (hc : TV (.slice n e) c) (hb : AV.bulkL c ≤ B) : ∃ l : List α, c = [.rd l.length (l.flatMap f) false] ∧ l.length ≤ B ∧ ∀ x ∈ l, P x := by
  cases hc with
  | slice h =>
    rename_i es
    simp only [AV.bulkL, AV.bulk] at hb
    have h1 := AV.bulkL_len es.flatten
    have h2 := h.len
    have h3 : es.length ≤ es.length * n := Nat.le_mul_of_pos_right _ hn
    obtain ⟨l, a1, a2, a3⟩ := tvall_dec hd h (by omega)
    exact ⟨l, by rw [a1, a2], by omega, a3⟩
theorem flat_one {α : Type} {g : α → AV} (l : List α) : l.flatMap (fun x => [g x]) = l.map g := by
  induction l with
  | nil => rfl
  | cons a l ih => simp [ih]
theorem slice_dec1 {α : Type} {g : α → AV} {P : α → Prop} {B : Nat} {e : Ty} (hd : ∀ c, TV e c → AV.bulkL c ≤ B → ∃ x, c = [g x] ∧ P x) {c : List AV} (hc : TV (.slice 1 e) c) (hb : AV.bulkL c ≤ B) : ∃ l : List α, c = [.rd l.length (l.map g) false] ∧ l.length ≤ B ∧ ∀ x ∈ l, P x := by
  obtain ⟨l, a1, a2, a3⟩ := slice_dec (f := fun x => [g x]) (Nat.le_refl 1) hd hc hb
  exact ⟨l, by rw [a1, flat_one], a2, a3⟩
theorem int_dec {k : IntKind} {c : List AV} (hc : TV (.int k) c) : ∃ x : Int, c = [.int k x] ∧ k.min ≤ x ∧ x ≤ k.max := by
  cases hc with
  | int h1 h2 => exact ⟨_, rfl, h1, h2⟩
theorem bool_dec {c : List AV} (hc : TV .bool c) : ∃ b : Bool, c = [.bool b] := by
  cases hc with
  | bool b => exact ⟨b, rfl⟩
theorem ints_dec {k : IntKind} {B : Nat} {c : List AV} (hc : TV (.slice 1 (.int k)) c) (hb : AV.bulkL c ≤ B) : ∃ l : List Int, c = [.rd l.length (l.map (.int k)) false] ∧ l.length ≤ B ∧ ∀ x ∈ l, k.min ≤ x ∧ x ≤ k.max :=
  slice_dec1 (fun c h _ => int_dec h) hc hb
theorem u8_range {x : Int} (h : IntKind.u8.min ≤ x ∧ x ≤ IntKind.u8.max) : 0 ≤ x ∧ x ≤ 255 := by
  simpa [IntKind.min, IntKind.max, IntKind.bits, IntKind.signed] using h
theorem u16_range {x : Int} (h : IntKind.u16.min ≤ x ∧ x ≤ IntKind.u16.max) : 0 ≤ x ∧ x ≤ 65535 := by
  simpa [IntKind.min, IntKind.max, IntKind.bits, IntKind.signed] using h
theorem i8_range {x : Int} (h : IntKind.i8.min ≤ x ∧ x ≤ IntKind.i8.max) : -128 ≤ x ∧ x ≤ 127 := by
  simpa [IntKind.min, IntKind.max, IntKind.bits, IntKind.signed] using h
theorem i64_range {x : Int} (h : IntKind.i64.min ≤ x ∧ x ≤ IntKind.i64.max) : -9223372036854775808 ≤ x ∧ x ≤ 9223372036854775807 := by
  simpa [IntKind.min, IntKind.max, IntKind.bits, IntKind.signed] using h

@[reducible] def arcT : Ty := .struct [.int .u8, .int .u8, .slice 1 (.int .u16), .bool]
@[reducible] def spanT : Ty := .struct [.int .i64, .int .i64]
@[reducible] def edgeT : Ty := .struct [.int .i64, .slice 2 spanT]
@[reducible] def nfaT : Ty := .struct [.slice 1 (.slice 2 edgeT), .slice 1 (.slice 1 (.int .i64)), .slice 1 (.int .i64)]

theorem arc_dec {c : List AV} (hc : TV arcT c) (hb : AV.bulkL c ≤ 1048576) : ∃ a : Arc, c = a.av ∧ a.Ok := by
  cases hc with
  | struct h =>
    cases h with
    | cons h1 h =>
      cases h with
      | cons h2 h =>
        cases h with
        | cons h3 h =>
          cases h with
          | cons h4 h =>
            cases h
            obtain ⟨x, rfl, b1⟩ := int_dec h1
            obtain ⟨y, rfl, b2⟩ := int_dec h2
            simp only [AV.bulkL_append] at hb
            obtain ⟨l, rfl, b3, b4⟩ := ints_dec h3 (B := 1048576) (by omega)
            obtain ⟨b, rfl⟩ := bool_dec h4
            exact ⟨⟨x, y, ⟨l, false⟩, b⟩, rfl, ⟨u8_range b1, u8_range b2, b3, fun c hc => u16_range (b4 c hc)⟩⟩
theorem span_dec {c : List AV} (hc : TV spanT c) : ∃ s : Span, c = s.av ∧ -9223372036854775808 ≤ s.hi := by
  cases hc with
  | struct h =>
    cases h with
    | cons h1 h =>
      cases h with
      | cons h2 h =>
        cases h
        obtain ⟨x, rfl, b1⟩ := int_dec h1
        obtain ⟨y, rfl, b2⟩ := int_dec h2
        exact ⟨⟨x, y⟩, rfl, (i64_range b2).1⟩
def Edge.Good (e : Edge) : Prop := e.set.l.length ≤ 1048576 ∧ ∀ s ∈ e.set.l, -9223372036854775808 ≤ s.hi
theorem edge_dec {c : List AV} (hc : TV edgeT c) (hb : AV.bulkL c ≤ 1048576) : ∃ e : Edge, c = e.av ∧ e.Good := by
  cases hc with
  | struct h =>
    cases h with
    | cons h1 h =>
      cases h with
      | cons h2 h =>
        cases h
        obtain ⟨x, rfl, b1⟩ := int_dec h1
        simp only [AV.bulkL_append] at hb
        obtain ⟨l, rfl, b3, b4⟩ := slice_dec (B := 1048576) (f := Span.av) (P := fun s => -9223372036854775808 ≤ s.hi) (by omega) (fun c h _ => span_dec h) h2 (by omega)
        exact ⟨⟨x, ⟨l, false⟩⟩, rfl, b3, b4⟩
theorem edges_dec {c : List AV} (hc : TV (.slice 2 edgeT) c) (hb : AV.bulkL c ≤ 1048576) : ∃ r : Rw Edge, c = [r.ev] ∧ (r.l.length ≤ 1048576 ∧ ∀ e ∈ r.l, e.Good) := by
  obtain ⟨l, rfl, b1, b2⟩ := slice_dec (B := 1048576) (f := Edge.av) (P := Edge.Good) (by omega) (fun c h hb => edge_dec h hb) hc hb
  exact ⟨⟨l, false⟩, rfl, b1, b2⟩
theorem frees_dec {c : List AV} (hc : TV (.slice 1 (.int .i64)) c) (hb : AV.bulkL c ≤ 1048576) : ∃ r : Rw Int, c = [r.iv] ∧ r.l.length ≤ 1048576 := by
  obtain ⟨l, rfl, b1, b2⟩ := ints_dec hc hb
  exact ⟨⟨l, false⟩, rfl, b1⟩
theorem nfa_dec {a : AV} (ha : TArg nfaT a) (hb : a.argBulk ≤ 1048576) : ∃ n : Nfa, a = .agg n.av ∧ n.Fits := by
  cases ha with
  | cell h hn => exact absurd rfl (hn _)
  | struct h =>
    simp only [AV.argBulk] at hb
    cases h with
    | cons h1 h =>
      cases h with
      | cons h2 h =>
        cases h with
        | cons h3 h =>
          cases h
          simp only [AV.bulkL_append] at hb
          obtain ⟨l1, rfl, b1, b2⟩ := slice_dec1 (B := 1048576) (g := Rw.ev) (P := fun r => r.l.length ≤ 1048576 ∧ ∀ e ∈ r.l, e.Good) (fun c h hb => edges_dec h hb) h1 (by omega)
          obtain ⟨l2, rfl, b3, b4⟩ := slice_dec1 (B := 1048576) (g := Rw.iv) (P := fun r => r.l.length ≤ 1048576) (fun c h hb => frees_dec h hb) h2 (by omega)
          obtain ⟨l3, rfl, b5, b6⟩ := ints_dec (B := 1048576) h3 (by omega)
          exact ⟨⟨⟨l1, false⟩, ⟨l2, false⟩, ⟨l3, false⟩⟩, rfl, ⟨b5, b1, b3, fun r hr => ⟨(b2 r hr).1, fun e he => ((b2 r hr).2 e he).1⟩, b4, fun r hr e he => ((b2 r hr).2 e he).2⟩⟩

theorem arg_cell {t : Ty} {a : AV} (ha : TArg t a) (ht : ∀ l, t ≠ .struct l) : TV t [a] := by
  cases ha with
  | cell h _ => exact h
  | struct h => exact absurd rfl (ht _)
theorem argBulk_cell {t : Ty} {a : AV} (ha : TArg t a) (ht : ∀ l, t ≠ .struct l) : AV.bulkL [a] ≤ a.argBulk := by
  have h := arg_cell ha ht
  cases a with
  | agg cs =>
    cases h with
    | struct _ => exact absurd rfl (ht _)
  | _ => simp [AV.bulkL, AV.argBulk]
theorem arg_int {k : IntKind} {a : AV} (ha : TArg (.int k) a) : ∃ x : Int, a = .int k x ∧ k.min ≤ x ∧ x ≤ k.max := by
  obtain ⟨x, e, h⟩ := int_dec (arg_cell ha (fun l e => by cases e))
  exact ⟨x, by cases e; rfl, h⟩
theorem arg_ints {k : IntKind} {a : AV} (ha : TArg (.slice 1 (.int k)) a) (hb : a.argBulk ≤ 1048576) : ∃ l : List Int, a = .rd l.length (l.map (.int k)) false ∧ l.length ≤ 1048576 ∧ ∀ x ∈ l, k.min ≤ x ∧ x ≤ k.max := by
  have hne : ∀ l, Ty.slice 1 (.int k) ≠ .struct l := fun l e => by cases e
  obtain ⟨l, e, h⟩ := ints_dec (B := 1048576) (arg_cell ha hne) (Nat.le_trans (argBulk_cell ha hne) hb)
  exact ⟨l, by cases e; rfl, h⟩
theorem arg_arcs {a : AV} (ha : TArg (.slice 4 arcT) a) (hb : a.argBulk ≤ 1048576) : ∃ l : List Arc, a = .rd l.length (l.flatMap Arc.av) false ∧ l.length ≤ 1048576 ∧ ∀ x ∈ l, x.Ok := by
  have hne : ∀ l, Ty.slice 4 arcT ≠ .struct l := fun l e => by cases e
  obtain ⟨l, e, h⟩ := slice_dec (B := 1048576) (f := Arc.av) (P := Arc.Ok) (by omega) (fun c h hb => arc_dec h hb) (arg_cell ha hne) (Nat.le_trans (argBulk_cell ha hne) hb)
  exact ⟨l, by cases e; rfl, h⟩

/-! ### The statements at what they read -/
theorem simStates_args {Φ : Lib} (L : C1Lib Φ) (L2 : C2Lib Φ) (S : SortLib Φ) (as : List AV) (ha : TArgs [.int .u8, .slice 4 arcT, .slice 1 (.int .i8), .slice 1 (.int .i64), .slice 1 (.int .i64), .int .u16] as) (hb : AV.argsBulk as ≤ 1048576) : Runs Φ 2 as Heap.empty (fun v _ => v = .bool true) := by
  cases ha with | cons a1 ha => cases ha with | cons a2 ha => cases ha with | cons a3 ha => cases ha with | cons a4 ha => cases ha with | cons a5 ha => cases ha with | cons a6 ha =>
  cases ha
  simp only [AV.argsBulk] at hb
  obtain ⟨k, rfl, c1⟩ := arg_int a1
  obtain ⟨l, rfl, c2⟩ := arg_arcs a2 (by omega)
  obtain ⟨t, rfl, c3⟩ := arg_ints a3 (by omega)
  obtain ⟨a, rfl, c4⟩ := arg_ints a4 (by omega)
  obtain ⟨b, rfl, c5⟩ := arg_ints a5 (by omega)
  obtain ⟨r, rfl, c6⟩ := arg_int a6
  exact simStates_ok L L2 S k l t a b r ⟨u8_range c1, c2.1, c2.2, c3.1, fun x hx => i8_range (c3.2 x hx)⟩ c4.1 c5.1 (u16_range c6) false false false false
theorem simFree_args {Φ : Lib} (L : C1Lib Φ) (L2 : C2Lib Φ) (S : SortLib Φ) (as : List AV) (ha : TArgs [.int .u8, .slice 4 arcT, .slice 1 (.int .i8)] as) (hb : AV.argsBulk as ≤ 1048576) : Runs Φ 3 as Heap.empty (fun v _ => v = .bool true) := by
  cases ha with | cons a1 ha => cases ha with | cons a2 ha => cases ha with | cons a3 ha =>
  cases ha
  simp only [AV.argsBulk] at hb
  obtain ⟨k, rfl, c1⟩ := arg_int a1
  obtain ⟨l, rfl, c2⟩ := arg_arcs a2 (by omega)
  obtain ⟨t, rfl, c3⟩ := arg_ints a3 (by omega)
  exact simFree_ok L L2 S k l t ⟨u8_range c1, c2.1, c2.2, c3.1, fun x hx => i8_range (c3.2 x hx)⟩ false false
theorem simGoes_args {Φ : Lib} (L : C1Lib Φ) (L2 : C2Lib Φ) (S : SortLib Φ) (as : List AV) (ha : TArgs [.int .u8, .slice 4 arcT, .slice 1 (.int .i8), .slice 1 (.int .i64), .slice 1 (.int .u16)] as) (hb : AV.argsBulk as ≤ 1048576) : Runs Φ 4 as Heap.empty (fun v _ => v = .bool true) := by
  cases ha with | cons a1 ha => cases ha with | cons a2 ha => cases ha with | cons a3 ha => cases ha with | cons a4 ha => cases ha with | cons a5 ha =>
  cases ha
  simp only [AV.argsBulk] at hb
  obtain ⟨k, rfl, c1⟩ := arg_int a1
  obtain ⟨l, rfl, c2⟩ := arg_arcs a2 (by omega)
  obtain ⟨t, rfl, c3⟩ := arg_ints a3 (by omega)
  obtain ⟨a, rfl, c4⟩ := arg_ints a4 (by omega)
  obtain ⟨r, rfl, c5⟩ := arg_ints a5 (by omega)
  exact simGoes_ok L L2 S k l t a r ⟨u8_range c1, c2.1, c2.2, c3.1, fun x hx => i8_range (c3.2 x hx)⟩ c4.1 c5.1 (fun x hx => u16_range (c5.2 x hx)) false false false false
theorem simBad_args {Φ : Lib} (L : C1Lib Φ) (L2 : C2Lib Φ) (S : SortLib Φ) (as : List AV) (ha : TArgs [nfaT, .slice 1 (.int .i64), .int .i64] as) (hb : AV.argsBulk as ≤ 1048576) : Runs Φ 5 as Heap.empty (fun v _ => v = .bool true) := by
  cases ha with | cons a1 ha => cases ha with | cons a2 ha => cases ha with | cons a3 ha =>
  cases ha
  simp only [AV.argsBulk] at hb
  obtain ⟨n, rfl, c1⟩ := nfa_dec a1 (by omega)
  obtain ⟨a, rfl, c2⟩ := arg_ints a2 (by omega)
  obtain ⟨r, rfl, c3⟩ := arg_int a3
  exact simBad_ok L L2 S n c1 a r c2.1 false
theorem simFronts_args {Φ : Lib} (L : C1Lib Φ) (L2 : C2Lib Φ) (S : SortLib Φ) (as : List AV) (ha : TArgs [.int .u8, .slice 4 arcT, .slice 1 (.int .i8), .slice 1 (.int .u16), .slice 1 (.int .u16)] as) (hb : AV.argsBulk as ≤ 1048576) : Runs Φ 6 as Heap.empty (fun v _ => v = .bool true) := by
  cases ha with | cons a1 ha => cases ha with | cons a2 ha => cases ha with | cons a3 ha => cases ha with | cons a4 ha => cases ha with | cons a5 ha =>
  cases ha
  simp only [AV.argsBulk] at hb
  obtain ⟨k, rfl, c1⟩ := arg_int a1
  obtain ⟨l, rfl, c2⟩ := arg_arcs a2 (by omega)
  obtain ⟨t, rfl, c3⟩ := arg_ints a3 (by omega)
  obtain ⟨r, rfl, c4⟩ := arg_ints a4 (by omega)
  obtain ⟨m, rfl, c5⟩ := arg_ints a5 (by omega)
  exact simFronts_ok L L2 S k l t r m ⟨u8_range c1, c2.1, c2.2, c3.1, fun x hx => i8_range (c3.2 x hx)⟩ c4.1 (fun x hx => u16_range (c4.2 x hx)) c5.1 (fun x hx => u16_range (c5.2 x hx)) false false false false

end Go.Proofs.Ytpcbpgepjfenhaa
