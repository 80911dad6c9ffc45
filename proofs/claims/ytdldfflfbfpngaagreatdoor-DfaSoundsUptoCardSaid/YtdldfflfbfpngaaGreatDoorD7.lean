/- The statements' helpers: place, Make, norm, same, scalars, within, each. The statements' machines: Machine. The statements: SimStates, SimFree, SimGoes, SimBad, SimFronts. -/
import Derived.Test.YtdldfflfbfpngaaGreatDoorD6
import Derived.Test.YtdldfflfbfpngaaGreatDoorB2
import Derived.Test.YtdldfflfbfpngaaGreatDoorD2
import Derived.Test.YtdldfflfbfpngaaGreatDoorD3
set_option linter.unusedVariables false
set_option linter.unusedSimpArgs false
namespace Go.Proofs.YtdldfflfbfpngaaGreatDoor
open Go
set_option maxHeartbeats 4000000
theorem call_ex {Φ : Lib} {m f : Nat} {args : List AV} {P : AV → Prop} {h : Heap} {Q : AV → Heap → Prop} (hp : Runs Φ f args Heap.empty (fun v _ => P v)) (ha : AV.frozenL args = true) (hv : ∀ v, P v → v.frozen = true) (k : ∀ v, P v → Q v h) : wcall (Runs Φ) m f args h Q :=
 .inr (.inr (.inl ⟨ha, Runs.mono Φ _ _ _ _ _ (fun v _ e => ⟨hv v e, k v e⟩) hp⟩))
theorem st_remt {F : FnSem} {r : List DOper} {Q : Env → Heap → Prop} {env : Env} {h : Heap} {d : Nat} {x y : DOpd} {k k' : IntKind} {a b : Int} (hx : ev env x = .int k a) (hy : ev env y = .int k' b) (hk : k = k') (h1 : 0 < b) (k1 : wops F r Q (env.put d (.int k (a.tmod b))) h) : wops F (⟨some d, .bin .rem x y, none⟩ :: r) Q env h := by
 subst hk
 have hb : b ≠ 0 := by omega
 simp [hx, hy, hb, k1]
theorem st_quo16 {F : FnSem} {r : List DOper} {Q : Env → Heap → Prop} {env : Env} {h : Heap} {d : Nat} {x y : DOpd} {a b : Int} (hx : ev env x = .int .u16 a) (hy : ev env y = .int .u16 b) (h0 : 0 ≤ a) (h1 : 0 < b) (h2 : a ≤ 65535) (k1 : wops F r Q (env.put d (.int .u16 (a / b))) h) : wops F (⟨some d, .bin .quo x y, none⟩ :: r) Q env h := by
 have hb : b ≠ 0 := by omega
 have e : a.tdiv b = a / b := Int.tdiv_eq_ediv_of_nonneg h0
 have l1 : 0 ≤ a / b := Int.ediv_nonneg h0 (by omega)
 have l2 : a / b ≤ a := Int.ediv_le_self b h0
 have : IntKind.u16.wrap (a.tdiv b) = a / b := by rw [e]; simp [IntKind.wrap, IntKind.bits, IntKind.signed]; omega
 simp [hx, hy, hb, this, k1]
attribute [local irreducible] wops xcode wcode seqK blockK loopK finK wcall wop wstp Runs
theorem place_ok {Φ : Lib} (L : C2Lib Φ) (c : Int) (hc : 0 ≤ c ∧ c ≤ 65535) : Runs Φ 34 [.int .u16 c] Heap.empty (fun v _ => ∃ x : Int, v = .int .i64 x ∧ 0 ≤ x ∧ x ≤ 2000000) := by
 have h8 : 0 ≤ c / 8 := by omega
 refine runs_of (fun _ => false) rfl L.f34 ?_
 repeat' first | refine st_nil ?_ | (refine gw ?_; first | (refine gq0 ?_; first | refine st_mv (v := AV.int _ _) rfl ?_ | refine st_mv (v := AV.bool _) rfl ?_) | (refine gq3 ?_; first | refine st_add rfl rfl rfl (by omega) (by omega) ?_ | (refine st_eql rfl rfl rfl ?_ ?_ <;> (intro hc; try (exfalso; omega))) | refine st_rem rfl rfl rfl (by omega) (by omega) ?_ | refine st_quo16 rfl rfl (by omega) (by omega) (by omega) ?_) | refine st_conv rfl (by omega) (by omega) ?_) | (refine gx ?_; first | refine sx_seq ?_ | refine sx_ops rfl ?_ | refine sx_skip ?_ | refine sx_block ?_ | refine sx_ret ?_ | refine sx_cond_t rfl ?_ | refine sx_cond_f rfl ?_) | refine sk_norm ?_ | refine sk_ret ?_ | refine bk_norm ?_ | refine bk_ret ?_ | refine fin_ret (v := AV.int _ _) rfl ?_
 all_goals exact ⟨_, rfl, by omega, by omega⟩
@[reducible] def row16 (l : List Int) (fl : Bool) : AV := .rd l.length (l.map (.int .u16)) fl
theorem make1_ok {Φ : Lib} (L : C2Lib Φ) (l : List Int) (fl : Bool) (hl : l.length ≤ 1048576) (hw : ∀ c ∈ l, 0 ≤ c ∧ c ≤ 65535) :
  Runs Φ 22 [row16 l fl] Heap.empty (fun v _ => ∃ s : List Span, v = .rd s.length (s.flatMap Span.av) false ∧ s.length ≤ min 64 ((l.length + 1) / 2) ∧ ∀ x ∈ s, 0 ≤ x.hi) := by
 refine runs_of (fun _ => false) rfl L.f22 ?_
 repeat' first | refine st_nil ?_ | (refine gq0 ?_; first | refine st_mv (v := AV.int _ _) rfl ?_ | refine st_mv (v := AV.rd _ _ _) rfl ?_) | (refine gx ?_; first | refine sx_seq ?_ | refine sx_ops rfl ?_ | refine sx_block ?_) | refine sk_norm ?_
 refine sx_loop (fun m env h' => ∃ (i : Nat) (v : AV) (s : List Span), m = l.length + 1 - i ∧ i ≤ l.length + 1 ∧ i ≤ 61 ∧ 2 * s.length ≤ i ∧ (∀ x ∈ s, 0 ≤ x.hi) ∧ IsRow h' v 2 s.length (s.flatMap Span.av) ∧ env.has [(0, row16 l fl), (3, v), (4, .int .i64 i)]) _ ⟨0, _, [], rfl, by omega, by omega, by simp, by simp, IsRow.nil _ _, hh_⟩ ?_
 rintro m env h' ⟨i, v, s, rfl, hi, hi60, hsl, hs, hrow, he⟩
 obtain ⟨env, rfl⟩ := he.ex
 clear he
 by_cases hi2 : i + 1 < l.length
 ·obtain ⟨a, ha⟩ := ex_get (show i < l.length by omega)
  obtain ⟨b, hb⟩ := ex_get hi2
  have hwa := hw a (List.mem_of_getElem? ha)
  have hwb := hw b (List.mem_of_getElem? hb)
  repeat' first | refine st_nil ?_ | (refine gw ?_; first | (refine gq0 ?_; first | refine st_mv (v := AV.int _ _) rfl ?_ | refine st_mv (v := AV.bool _) rfl ?_ | refine st_mv (v := AV.rd _ _ _) rfl ?_ | refine st_mv rv_ ?_) | refine st_gog rfl ?_ | refine st_load_r rfl b_ pv_ ?_ | (refine gq3 ?_; first | refine st_add rfl rfl rfl (by omega) (by omega) ?_ | (refine st_lss rfl rfl rfl ?_ ?_ <;> (intro hc; try (exfalso; omega)))) | refine st_index_map' rfl rfl ha (by omega) rfl ?_ | refine st_len_rd rfl ?_ | refine st_pick_t (v := AV.bool _) rfl rfl ?_ | refine st_call rfl nt_ ?_) | (refine gx ?_; first | refine sx_seq ?_ | refine sx_ops rfl ?_ | refine sx_skip ?_ | refine sx_block ?_ | refine sx_ret ?_ | refine sx_exit ?_ | refine sx_cond_t rfl ?_ | refine sx_cond_f rfl ?_) | refine sk_norm ?_ | refine sk_exit ?_ | refine bk_exit ?_ | refine lk_exit ?_
  ·refine call_ex (place_ok L a hwa) (by simp [AV.frozenL, AV.frozen]) (by rintro _ ⟨x, rfl, _⟩; rfl) ?_
   rintro _ ⟨x, rfl, hx0, hx1⟩
   repeat' first | refine st_nil ?_ | (refine gw ?_; first | (refine gq0 ?_; first | refine st_mv (v := AV.int _ _) rfl ?_ | refine st_mv (v := AV.rd _ _ _) rfl ?_ | refine st_mv rv_ ?_) | refine st_load_r rfl b_ pv_ ?_ | (refine gq3 ?_; first | refine st_add rfl rfl rfl (by omega) (by omega) ?_ | refine st_rem rfl rfl rfl (by omega) (by omega) ?_) | refine st_index_map' rfl rfl hb (by omega) rfl ?_ | (refine st_append (m := 1) rv_ ir_ rfl rfl (by omega) ?_; intro va hpa hra hka hria) | refine st_build (cs := [AV.int _ _, AV.int _ _]) rfl ?_ | refine st_lit (cs := [AV.int _ _, AV.int _ _]) rfl rfl ?_ | refine st_conv rfl (by omega) (by omega) ?_) | refine sx_ops rfl ?_ | refine sk_norm ?_ | refine bk_norm ?_
   refine lk_norm (l.length + 1 - (i + 2)) (by omega) ⟨i + 2, va, s ++ [⟨x, x + b % 40⟩], rfl, by omega, by omega, by simp; omega, fun y hy => ?_, by simpa [Span.av] using hra, hh_⟩
   rcases List.mem_append.1 hy with hy | hy
   ·exact hs y hy
   ·simp only [List.mem_singleton] at hy
    subst hy
    show 0 ≤ x + b % 40
    omega
  ·exact fin_row rfl hrow (fun _ => ⟨s, rfl, by omega, hs⟩)
 ·repeat' first | refine st_nil ?_ | (refine gw ?_; first | (refine gq0 ?_; first | refine st_mv (v := AV.int _ _) rfl ?_ | refine st_mv (v := AV.bool _) rfl ?_ | refine st_mv (v := AV.rd _ _ _) rfl ?_ | refine st_mv rv_ ?_) | refine st_skipg rfl ?_ | (refine gq3 ?_; first | refine st_add rfl rfl rfl (by omega) (by omega) ?_ | (refine st_lss rfl rfl rfl ?_ ?_ <;> (intro hc; try (exfalso; omega)))) | refine st_len_rd rfl ?_ | refine st_pick_f (v := AV.bool _) rfl rfl ?_) | (refine gx ?_; first | refine sx_seq ?_ | refine sx_ops rfl ?_ | refine sx_ret ?_ | refine sx_exit ?_ | refine sx_cond_f rfl ?_) | refine sk_norm ?_ | refine sk_exit ?_ | refine bk_exit ?_ | refine lk_exit ?_
  exact fin_row rfl hrow (fun _ => ⟨s, rfl, by omega, hs⟩)
def scalarsL (r : List Int) : List Int := r.map fun x => x % 230
@[simp] theorem frozenL_append (x y : List AV) : AV.frozenL (x ++ y) = (AV.frozenL x && AV.frozenL y) := by
 induction x with
 | nil => rfl
 | cons a x ih => simp [AV.frozenL, ih, Bool.and_assoc]
end Go.Proofs.YtdldfflfbfpngaaGreatDoor
set_option linter.unusedVariables false
set_option linter.unusedSimpArgs false
namespace Go.Proofs.YtdldfflfbfpngaaGreatDoor
open Go
set_option maxHeartbeats 4000000
attribute [local irreducible] wops xcode wcode seqK blockK loopK finK wcall wop wstp Runs
structure Arc where
 fr : Int
 to : Int
 set : Rw Int
 free : Bool
@[reducible] def Arc.av (a : Arc) : List AV := [.int .u8 a.fr, .int .u8 a.to, row16 a.set.l a.set.fl, .bool a.free]
@[simp] theorem Arc.av_length (a : Arc) : a.av.length = 4 := rfl
@[simp] theorem frz_row16 (l : List Int) (fl : Bool) : (row16 l fl).frozen = true := by
 simp only [row16, AV.frozen]
 exact frozenL_map (fun _ => rfl) l
@[simp] theorem frz_u16s (l : List Int) : AV.frozenL (l.map (.int .u16)) = true := frozenL_map (fun _ => rfl) l
@[simp] theorem frz_i8s (l : List Int) : AV.frozenL (l.map (.int .i8)) = true := frozenL_map (fun _ => rfl) l
@[simp] theorem frz_arc (a : Arc) : AV.frozenL a.av = true := by simp [Arc.av, AV.frozenL, AV.frozen]
@[simp] theorem frz_arcs (l : List Arc) : AV.frozenL (l.flatMap Arc.av) = true := frozenL_flat frz_arc l
structure Nfa.Small (n : Nfa) : Prop where
 cnt : (n.edges.l.map fun r => r.l.length).sum ≤ 40
 few : ∀ r ∈ n.edges.l, ∀ e ∈ r.l, e.set.l.length ≤ 8
 tags : ∀ t ∈ n.tags.l, -1 ≤ t ∧ t ≤ 5
end Go.Proofs.YtdldfflfbfpngaaGreatDoor
set_option linter.unusedVariables false
set_option linter.unusedSimpArgs false
namespace Go.Proofs.YtdldfflfbfpngaaGreatDoor
open Go
set_option maxHeartbeats 4000000
attribute [local irreducible] wops xcode wcode seqK blockK loopK finK wcall wop wstp Runs
@[reducible] def ints (l : List Int) (f : Bool) : AV := .rd l.length (l.map (.int .i64)) f
end Go.Proofs.YtdldfflfbfpngaaGreatDoor
