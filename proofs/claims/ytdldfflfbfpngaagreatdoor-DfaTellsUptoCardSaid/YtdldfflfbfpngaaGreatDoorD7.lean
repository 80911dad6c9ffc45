/- The statements' helpers: place, Make, norm, same, scalars, within, each. The statements' machines: Machine. The statements: SimStates, SimFree, SimGoes, SimBad, SimFronts. -/
import Derived.Test.YtdldfflfbfpngaaGreatDoorD6
import Derived.Test.YtdldfflfbfpngaaGreatDoorB2
import Derived.Test.YtdldfflfbfpngaaGreatDoorD2
import Derived.Test.YtdldfflfbfpngaaGreatDoorD3
set_option linter.unusedVariables false
set_option linter.unusedSimpArgs false
namespace Go.Proofs.YtdldfflfbfpngaaGreatDoor
open Go
set_option maxHeartbeats 4000000
theorem call_ex {Φ : Lib} {m f : Nat} {args : List AV} {P : AV → Prop} {h : Heap} {Q : AV → Heap → Prop} (hp : Runs Φ f args Heap.empty (fun v _ => P v)) (ha : AV.frozenL args = true) (hv : ∀ v, P v → v.frozen = true) (k : ∀ v, P v → Q v h) : wcall (Runs Φ) m f args h Q :=
 .inr (.inr (.inl ⟨ha, Runs.mono Φ _ _ _ _ _ (fun v _ e => ⟨hv v e, k v e⟩) hp⟩))
theorem st_remt {F : FnSem} {r : List DOper} {Q : Env → Heap → Prop} {env : Env} {h : Heap} {d : Nat} {x y : DOpd} {k k' : IntKind} {a b : Int} (hx : ev env x = .int k a) (hy : ev env y = .int k' b) (hk : k = k') (h1 : 0 < b) (k1 : wops F r Q (env.put d (.int k (a.tmod b))) h) : wops F (⟨some d, .bin .rem x y, none⟩ :: r) Q env h := by
 subst hk
 have hb : b ≠ 0 := by omega
 simp [hx, hy, hb, k1]
theorem st_quo16 {F : FnSem} {r : List DOper} {Q : Env → Heap → Prop} {env : Env} {h : Heap} {d : Nat} {x y : DOpd} {a b : Int} (hx : ev env x = .int .u16 a) (hy : ev env y = .int .u16 b) (h0 : 0 ≤ a) (h1 : 0 < b) (h2 : a ≤ 65535) (k1 : wops F r Q (env.put d (.int .u16 (a / b))) h) : wops F (⟨some d, .bin .quo x y, none⟩ :: r) Q env h := by
 have hb : b ≠ 0 := by omega
 have e : a.tdiv b = a / b := Int.tdiv_eq_ediv_of_nonneg h0
 have l1 : 0 ≤ a / b := Int.ediv_nonneg h0 (by omega)
 have l2 : a / b ≤ a := Int.ediv_le_self b h0
 have : IntKind.u16.wrap (a.tdiv b) = a / b := by rw [e]; simp [IntKind.wrap, IntKind.bits, IntKind.signed]; omega
 simp [hx, hy, hb, this, k1]
attribute [local irreducible] wops xcode wcode seqK blockK loopK finK wcall wop wstp Runs
theorem place_ok {Φ : Lib} (L : C2Lib Φ) (c : Int) (hc : 0 ≤ c ∧ c ≤ 65535) : Runs Φ 34 [.int .u16 c] Heap.empty (fun v _ => ∃ x : Int, v = .int .i64 x ∧ 0 ≤ x ∧ x ≤ 2000000) := by
 have h8 : 0 ≤ c / 8 := by omega
 refine runs_of (fun _ => false) rfl L.f34 ?_
 repeat' first | refine st_nil ?_ | (refine gw ?_; first | (refine gq0 ?_; first | refine st_mv (v := AV.int _ _) rfl ?_ | refine st_mv (v := AV.bool _) rfl ?_) | (refine gq3 ?_; first | refine st_add rfl rfl rfl (by omega) (by omega) ?_ | (refine st_eql rfl rfl rfl ?_ ?_ <;> (intro hc; try (exfalso; omega))) | refine st_rem rfl rfl rfl (by omega) (by omega) ?_ | refine st_quo16 rfl rfl (by omega) (by omega) (by omega) ?_) | refine st_conv rfl (by omega) (by omega) ?_) | (refine gx ?_; first | refine sx_seq ?_ | refine sx_ops rfl ?_ | refine sx_skip ?_ | refine sx_block ?_ | refine sx_ret ?_ | refine sx_cond_t rfl ?_ | refine sx_cond_f rfl ?_) | refine sk_norm ?_ | refine sk_ret ?_ | refine bk_norm ?_ | refine bk_ret ?_ | refine fin_ret (v := AV.int _ _) rfl ?_
 all_goals exact ⟨_, rfl, by omega, by omega⟩
@[reducible] def row16 (l : List Int) (fl : Bool) : AV := .rd l.length (l.map (.int .u16)) fl
theorem make1_ok {Φ : Lib} (L : C2Lib Φ) (l : List Int) (fl : Bool) (hl : l.length ≤ 1048576) (hw : ∀ c ∈ l, 0 ≤ c ∧ c ≤ 65535) :
  Runs Φ 22 [row16 l fl] Heap.empty (fun v _ => ∃ s : List Span, v = .rd s.length (s.flatMap Span.av) false ∧ s.length ≤ min 64 ((l.length + 1) / 2) ∧ ∀ x ∈ s, 0 ≤ x.hi) := by
 refine runs_of (fun _ => false) rfl L.f22 ?_
 repeat' first | refine st_nil ?_ | (refine gq0 ?_; first | refine st_mv (v := AV.int _ _) rfl ?_ | refine st_mv (v := AV.rd _ _ _) rfl ?_) | (refine gx ?_; first | refine sx_seq ?_ | refine sx_ops rfl ?_ | refine sx_block ?_) | refine sk_norm ?_
 refine sx_loop (fun m env h' => ∃ (i : Nat) (v : AV) (s : List Span), m = l.length + 1 - i ∧ i ≤ l.length + 1 ∧ i ≤ 61 ∧ 2 * s.length ≤ i ∧ (∀ x ∈ s, 0 ≤ x.hi) ∧ IsRow h' v 2 s.length (s.flatMap Span.av) ∧ env.has [(0, row16 l fl), (3, v), (4, .int .i64 i)]) _ ⟨0, _, [], rfl, by omega, by omega, by simp, by simp, IsRow.nil _ _, hh_⟩ ?_
 rintro m env h' ⟨i, v, s, rfl, hi, hi60, hsl, hs, hrow, he⟩
 obtain ⟨env, rfl⟩ := he.ex
 clear he
 by_cases hi2 : i + 1 < l.length
 ·obtain ⟨a, ha⟩ := ex_get (show i < l.length by omega)
  obtain ⟨b, hb⟩ := ex_get hi2
  have hwa := hw a (List.mem_of_getElem? ha)
  have hwb := hw b (List.mem_of_getElem? hb)
  repeat' first | refine st_nil ?_ | (refine gw ?_; first | (refine gq0 ?_; first | refine st_mv (v := AV.int _ _) rfl ?_ | refine st_mv (v := AV.bool _) rfl ?_ | refine st_mv (v := AV.rd _ _ _) rfl ?_ | refine st_mv rv_ ?_) | refine st_gog rfl ?_ | refine st_load_r rfl b_ pv_ ?_ | (refine gq3 ?_; first | refine st_add rfl rfl rfl (by omega) (by omega) ?_ | (refine st_lss rfl rfl rfl ?_ ?_ <;> (intro hc; try (exfalso; omega)))) | refine st_index_map' rfl rfl ha (by omega) rfl ?_ | refine st_len_rd rfl ?_ | refine st_pick_t (v := AV.bool _) rfl rfl ?_ | refine st_call rfl nt_ ?_) | (refine gx ?_; first | refine sx_seq ?_ | refine sx_ops rfl ?_ | refine sx_skip ?_ | refine sx_block ?_ | refine sx_ret ?_ | refine sx_exit ?_ | refine sx_cond_t rfl ?_ | refine sx_cond_f rfl ?_) | refine sk_norm ?_ | refine sk_exit ?_ | refine bk_exit ?_ | refine lk_exit ?_
  ·refine call_ex (place_ok L a hwa) (by simp [AV.frozenL, AV.frozen]) (by rintro _ ⟨x, rfl, _⟩; rfl) ?_
   rintro _ ⟨x, rfl, hx0, hx1⟩
   repeat' first | refine st_nil ?_ | (refine gw ?_; first | (refine gq0 ?_; first | refine st_mv (v := AV.int _ _) rfl ?_ | refine st_mv (v := AV.rd _ _ _) rfl ?_ | refine st_mv rv_ ?_) | refine st_load_r rfl b_ pv_ ?_ | (refine gq3 ?_; first | refine st_add rfl rfl rfl (by omega) (by omega) ?_ | refine st_rem rfl rfl rfl (by omega) (by omega) ?_) | refine st_index_map' rfl rfl hb (by omega) rfl ?_ | (refine st_append (m := 1) rv_ ir_ rfl rfl (by omega) ?_; intro va hpa hra hka hria) | refine st_build (cs := [AV.int _ _, AV.int _ _]) rfl ?_ | refine st_lit (cs := [AV.int _ _, AV.int _ _]) rfl rfl ?_ | refine st_conv rfl (by omega) (by omega) ?_) | refine sx_ops rfl ?_ | refine sk_norm ?_ | refine bk_norm ?_
   refine lk_norm (l.length + 1 - (i + 2)) (by omega) ⟨i + 2, va, s ++ [⟨x, x + b % 40⟩], rfl, by omega, by omega, by simp; omega, fun y hy => ?_, by simpa [Span.av] using hra, hh_⟩
   rcases List.mem_append.1 hy with hy | hy
   ·exact hs y hy
   ·simp only [List.mem_singleton] at hy
    subst hy
    show 0 ≤ x + b % 40
    omega
  ·exact fin_row rfl hrow (fun _ => ⟨s, rfl, by omega, hs⟩)
 ·repeat' first | refine st_nil ?_ | (refine gw ?_; first | (refine gq0 ?_; first | refine st_mv (v := AV.int _ _) rfl ?_ | refine st_mv (v := AV.bool _) rfl ?_ | refine st_mv (v := AV.rd _ _ _) rfl ?_ | refine st_mv rv_ ?_) | refine st_skipg rfl ?_ | (refine gq3 ?_; first | refine st_add rfl rfl rfl (by omega) (by omega) ?_ | (refine st_lss rfl rfl rfl ?_ ?_ <;> (intro hc; try (exfalso; omega)))) | refine st_len_rd rfl ?_ | refine st_pick_f (v := AV.bool _) rfl rfl ?_) | (refine gx ?_; first | refine sx_seq ?_ | refine sx_ops rfl ?_ | refine sx_ret ?_ | refine sx_exit ?_ | refine sx_cond_f rfl ?_) | refine sk_norm ?_ | refine sk_exit ?_ | refine bk_exit ?_ | refine lk_exit ?_
  exact fin_row rfl hrow (fun _ => ⟨s, rfl, by omega, hs⟩)
theorem lnorm_ok {Φ : Lib} (L : C2Lib Φ) (l : List Span) (fl : Bool) (ha : l.length ≤ 67108864) (hw : ∀ s ∈ l, -9223372036854775808 ≤ s.hi) :
  Pure Φ 23 [.rd l.length (l.flatMap Span.av) fl] (.rd (normS l).length ((normS l).flatMap Span.av) false) := by
 have hm := rnorm_ok L l fl ha hw
 refine runs_of (fun _ => false) rfl L.f23 ?_
 repeat' first | refine st_nil ?_ | (refine gw ?_; first | refine st_mv (v := AV.rd _ _ _) rfl ?_ | refine st_call rfl nt_ ?_) | (refine gx ?_; first | refine sx_seq ?_ | refine sx_ops rfl ?_ | refine sx_ret ?_) | refine sk_norm ?_ | refine call_pure (by assumption) fz_ fz_ ?_ | refine fin_ret (v := AV.rd _ _ _) rfl ?_
 rfl
def scalarsL (r : List Int) : List Int := r.map fun x => x % 230
@[simp] theorem frozenL_append (x y : List AV) : AV.frozenL (x ++ y) = (AV.frozenL x && AV.frozenL y) := by
 induction x with
 | nil => rfl
 | cons a x ih => simp [AV.frozenL, ih, Bool.and_assoc]
end Go.Proofs.YtdldfflfbfpngaaGreatDoor
set_option linter.unusedVariables false
set_option linter.unusedSimpArgs false
namespace Go.Proofs.YtdldfflfbfpngaaGreatDoor
open Go
set_option maxHeartbeats 4000000
attribute [local irreducible] wops xcode wcode seqK blockK loopK finK wcall wop wstp Runs
structure Arc where
 fr : Int
 to : Int
 set : Rw Int
 free : Bool
@[reducible] def Arc.av (a : Arc) : List AV := [.int .u8 a.fr, .int .u8 a.to, row16 a.set.l a.set.fl, .bool a.free]
@[simp] theorem Arc.av_length (a : Arc) : a.av.length = 4 := rfl
structure Arc.Ok (a : Arc) : Prop where
 fr : 0 ≤ a.fr ∧ a.fr ≤ 255
 to : 0 ≤ a.to ∧ a.to ≤ 255
 set : a.set.l.length ≤ 1048576
 nums : ∀ c ∈ a.set.l, 0 ≤ c ∧ c ≤ 65535
@[simp] theorem frz_row16 (l : List Int) (fl : Bool) : (row16 l fl).frozen = true := by
 simp only [row16, AV.frozen]
 exact frozenL_map (fun _ => rfl) l
@[simp] theorem frz_u16s (l : List Int) : AV.frozenL (l.map (.int .u16)) = true := frozenL_map (fun _ => rfl) l
@[simp] theorem frz_i8s (l : List Int) : AV.frozenL (l.map (.int .i8)) = true := frozenL_map (fun _ => rfl) l
@[simp] theorem frz_arc (a : Arc) : AV.frozenL a.av = true := by simp [Arc.av, AV.frozenL, AV.frozen]
@[simp] theorem frz_arcs (l : List Arc) : AV.frozenL (l.flatMap Arc.av) = true := frozenL_flat frz_arc l
theorem normS_idem (l : List Span) : normS (normS l) = normS l := by
 obtain ⟨a1, a2⟩ := normS_ok (normS l)
 obtain ⟨b1, b2⟩ := normS_ok l
 refine canon_unique a1 b1 fun x => ?_
 rw [a2 x, b2 x]
 constructor
 ·intro h
  simp only [hasR, Bool.and_eq_true, List.any_eq_true, decide_eq_true_eq] at h
  obtain ⟨_, s, hs, h1, h2⟩ := h
  exact (b2 x).1 ⟨s, hs, h1, h2⟩
 ·intro h
  obtain ⟨s, hs, h1, h2⟩ := (b2 x).2 h
  simp only [hasR, Bool.and_eq_true, List.any_eq_true, decide_eq_true_eq]
  refine ⟨?_, s, hs, h1, h2⟩
  simp only [hasR, Bool.and_eq_true] at h
  exact h.1
theorem normS_hi {l : List Span} {s : Span} (hs : s ∈ normS l) : 0 ≤ s.hi := by
 obtain ⟨b1, b2⟩ := normS_ok l
 have h1 := b1.2 s hs
 have := (b2 s.hi).1 ⟨s, hs, h1, Int.le_refl _⟩
 simp only [hasR, Bool.and_eq_true] at this
 have := scal_iff.1 this.1
 omega
structure MachAt (h : Heap) (i6 i8 ie iF : Nat) (k : Nat) (vt : AV) (we wf : List AV) (es : List (List Edge)) (fs : List (List Int)) (ts : List Int) (m : Nat) : Prop where
 ne : i6 ≠ i8 ∧ i6 ≠ ie ∧ i6 ≠ iF ∧ i8 ≠ ie ∧ i8 ≠ iF ∧ ie ≠ iF
 six : h.get i6 = some (.cells 0 [.rd 0 [] true, .rd 0 [] true, .rd 0 [] true])
 eight : h.get i8 = some (.cells 0 [.own ie 1 1 0 k none, .own iF 1 1 0 k none, vt])
 edges : h.get ie = some (.cells 1 we)
 frees : h.get iF = some (.cells 1 wf)
 lens : we.length = k ∧ wf.length = k ∧ es.length = k ∧ fs.length = k
 fam : Fam h (we ++ wf) (es.map (fun l => (2, l.length, l.flatMap Edge.av)) ++ fs.map (fun l => (1, l.length, l.map (.int .i64))))
 tags : IsRow h vt 1 ts.length (ts.map (.int .i64))
 apart : ∀ w ∈ we ++ wf, ∀ id, w.rowId = some id → id ≠ i6 ∧ id ≠ i8 ∧ id ≠ ie ∧ id ≠ iF ∧ vt.rowId ≠ some id
 tapart : ∀ id, vt.rowId = some id → id ≠ i6 ∧ id ≠ i8 ∧ id ≠ ie ∧ id ≠ iF
 eok : ∀ l ∈ es, l.length ≤ m ∧ ∀ e ∈ l, (0 ≤ e.to ∧ e.to < k) ∧ normS e.set.l = e.set.l ∧ e.set.l.length ≤ 8 ∧ ∀ s ∈ e.set.l, 0 ≤ s.hi
 fok : ∀ l ∈ fs, l.length ≤ m ∧ ∀ t ∈ l, 0 ≤ t ∧ t < k
 tok : ∀ t ∈ ts, -1 ≤ t ∧ t ≤ 5
 cnt : (es.map List.length).sum ≤ m
theorem len_sum_set {α : Type} : ∀ (es : List (List α)) (p : Nat) (l0 : List α) (x : α), es[p]? = some l0 → ((es.set p (l0 ++ [x])).map List.length).sum = (es.map List.length).sum + 1
 | [], p, l0, x, h => by simp at h
 | e :: es, 0, l0, x, h => by
  simp only [List.getElem?_cons_zero, Option.some.injEq] at h
  subst h
  simp only [List.set_cons_zero, List.map_cons, List.sum_cons, List.length_append, List.length_singleton]
  omega
 | e :: es, p + 1, l0, x, h => by
  have := len_sum_set es p l0 x (by simpa using h)
  simp only [List.set_cons_succ, List.map_cons, List.sum_cons, this]
  omega
structure Nfa.Small (n : Nfa) : Prop where
 cnt : (n.edges.l.map fun r => r.l.length).sum ≤ 40
 few : ∀ r ∈ n.edges.l, ∀ e ∈ r.l, e.set.l.length ≤ 8
 tags : ∀ t ∈ n.tags.l, -1 ≤ t ∧ t ≤ 5
theorem MachAt.tag {h : Heap} {i6 i8 ie iF k : Nat} {vt : AV} {we wf : List AV} {es : List (List Edge)} {fs : List (List Int)} {ts : List Int} {m : Nat} (hM : MachAt h i6 i8 ie iF k vt we wf es fs ts m) {va : AV} {hpa : Heap} {t : Int} (ht : -1 ≤ t ∧ t ≤ 5)
  (hra : IsRow hpa va 1 (ts.length + 1) (ts.map (.int .i64) ++ [.int .i64 t])) (hka : ∀ id, h.get id ≠ none → vt.rowId ≠ some id → hpa.get id = h.get id) (hria : ∀ id, va.rowId = some id → vt.rowId = some id ∨ h.get id = none) :
  MachAt (hpa.set i8 (.cells 0 [.own ie 1 1 0 k none, .own iF 1 1 0 k none, va])) i6 i8 ie iF k va we wf es fs (ts ++ [t]) m := by
 obtain ⟨n1, n2, n3, n4, n5, n6⟩ := hM.ne
 have old : ∀ id o, h.get id = some o → vt.rowId ≠ some id → hpa.get id = some o := fun id o ho hv => (hka id (by rw [ho]; simp) hv).trans ho
 have hva : ∀ id, va.rowId = some id → id ≠ i6 ∧ id ≠ i8 ∧ id ≠ ie ∧ id ≠ iF := fun id hid => by
  rcases hria id hid with h1 | h1
  ·exact hM.tapart id h1
  ·refine ⟨?_, ?_, ?_, ?_⟩ <;> rintro rfl
   ·rw [hM.six] at h1; cases h1
   ·rw [hM.eight] at h1; cases h1
   ·rw [hM.edges] at h1; cases h1
   ·rw [hM.frees] at h1; cases h1
 refine ⟨hM.ne, ?_, Heap.get_set_self _ _ _, ?_, ?_, hM.lens, ?_, ?_, fun w hw id hid => ?_, hva, hM.eok, hM.fok, fun x hx => ?_, hM.cnt⟩
 ·rw [Heap.get_set_ne _ _ n1]; exact old _ _ hM.six fun e => (hM.tapart _ e).1 rfl
 ·rw [Heap.get_set_ne _ _ (Ne.symm n4)]; exact old _ _ hM.edges fun e => (hM.tapart _ e).2.2.1 rfl
 ·rw [Heap.get_set_ne _ _ (Ne.symm n5)]; exact old _ _ hM.frees fun e => (hM.tapart _ e).2.2.2 rfl
 ·refine hM.fam.keep fun w hw id hid => ?_
  obtain ⟨a1, a2, a3, a4, a5⟩ := hM.apart w hw id hid
  rw [Heap.get_set_ne _ _ a2, hka id (hM.fam.there hw hid) a5]
 ·rw [List.length_append, List.map_append]
  exact hra.set_ne fun e => (hva i8 e).2.1 rfl
 ·obtain ⟨a1, a2, a3, a4, a5⟩ := hM.apart w hw id hid
  refine ⟨a1, a2, a3, a4, fun e => ?_⟩
  rcases hria id e with h1 | h1
  ·exact a5 h1
  ·exact hM.fam.there hw hid h1
 ·rcases List.mem_append.1 hx with hx | hx
  ·exact hM.tok x hx
  ·simp only [List.mem_singleton] at hx
   subst hx; exact ht
theorem MachAt.upd {h : Heap} {i6 i8 ie iF k : Nat} {vt : AV} {we wf : List AV} {es : List (List Edge)} {fs : List (List Int)} {ts : List Int} {m : Nat} (hM : MachAt h i6 i8 ie iF k vt we wf es fs ts m) {w va : AV} {hpa : Heap} (hw : w ∈ we ++ wf)
  (hka : ∀ id, h.get id ≠ none → w.rowId ≠ some id → hpa.get id = h.get id) (hria : ∀ id, va.rowId = some id → w.rowId = some id ∨ h.get id = none) :
  (∀ id o, h.get id = some o → w.rowId ≠ some id → hpa.get id = some o) ∧ (w.rowId ≠ some i6 ∧ w.rowId ≠ some i8 ∧ w.rowId ≠ some ie ∧ w.rowId ≠ some iF) ∧ (∀ id, va.rowId = some id → id ≠ i6 ∧ id ≠ i8 ∧ id ≠ ie ∧ id ≠ iF ∧ vt.rowId ≠ some id) ∧ IsRow hpa vt 1 ts.length (ts.map (.int .i64)) := by
 have hwa := hM.apart w hw
 refine ⟨fun id o ho hv => (hka id (by rw [ho]; simp) hv).trans ho, ⟨fun e => (hwa _ e).1 rfl, fun e => (hwa _ e).2.1 rfl, fun e => (hwa _ e).2.2.1 rfl, fun e => (hwa _ e).2.2.2.1 rfl⟩, fun id hid => ?_, hM.tags.keep fun id hid => hka id (hM.tags.there hid) fun e => (hwa id e).2.2.2.2 hid⟩
 rcases hria id hid with h1 | h1
 ·exact hwa id h1
 ·refine ⟨?_, ?_, ?_, ?_, fun e => hM.tags.there e h1⟩ <;> rintro rfl
  ·rw [hM.six] at h1; cases h1
  ·rw [hM.eight] at h1; cases h1
  ·rw [hM.edges] at h1; cases h1
  ·rw [hM.frees] at h1; cases h1
theorem MachAt.edge {h : Heap} {i6 i8 ie iF k : Nat} {vt : AV} {we wf : List AV} {es : List (List Edge)} {fs : List (List Int)} {ts : List Int} {m : Nat} (hM : MachAt h i6 i8 ie iF k vt we wf es fs ts m) {w va : AV} {hpa : Heap} {p : Nat} {l0 : List Edge} {e : Edge} (hw : we[p]? = some w) (hes : es[p]? = some l0)
  (he : (0 ≤ e.to ∧ e.to < k) ∧ normS e.set.l = e.set.l ∧ e.set.l.length ≤ 8 ∧ ∀ s ∈ e.set.l, 0 ≤ s.hi)
  (hra : IsRow hpa va 2 (l0.length + 1) (l0.flatMap Edge.av ++ e.av)) (hka : ∀ id, h.get id ≠ none → w.rowId ≠ some id → hpa.get id = h.get id) (hria : ∀ id, va.rowId = some id → w.rowId = some id ∨ h.get id = none) :
  MachAt (hpa.set ie (.cells 1 (we.set p va))) i6 i8 ie iF k vt (we.set p va) wf (es.set p (l0 ++ [e])) fs ts (m + 1) := by
 obtain ⟨n1, n2, n3, n4, n5, n6⟩ := hM.ne
 obtain ⟨l1, l2, l3, l4⟩ := hM.lens
 have hp := lt_of_getElem? hw
 have hwm : w ∈ we ++ wf := List.mem_append_left _ (List.mem_of_getElem? hw)
 obtain ⟨old, ⟨w6, w8, w9, wF⟩, hva, htg⟩ := hM.upd hwm hka hria
 have hset : ∀ x ∈ we.set p va ++ wf, x = va ∨ x ∈ we ++ wf := fun x hx => by
  rcases List.mem_append.1 hx with hx | hx
  ·rcases List.mem_or_eq_of_mem_set hx with hx | hx
   ·exact .inr (List.mem_append_left _ hx)
   ·exact .inl hx
  ·exact .inr (List.mem_append_right _ hx)
 have hap : ∀ x ∈ we.set p va ++ wf, ∀ id, x.rowId = some id → id ≠ i6 ∧ id ≠ i8 ∧ id ≠ ie ∧ id ≠ iF ∧ vt.rowId ≠ some id := fun x hx id hid => by
  rcases hset x hx with rfl | hx
  ·exact hva id hid
  ·exact hM.apart x hx id hid
 refine ⟨hM.ne, ?_, ?_, Heap.get_set_self _ _ _, ?_, ⟨by simpa using l1, l2, by simpa using l3, l4⟩, ?_, htg.set_ne (fun e => (hM.tapart _ e).2.2.1 rfl), hap, hM.tapart, fun l hl => ?_, fun l hl => ⟨by have := (hM.fok l hl).1; omega, (hM.fok l hl).2⟩, hM.tok, by rw [len_sum_set es p l0 e hes]; have := hM.cnt; omega⟩
 ·rw [Heap.get_set_ne _ _ n2]; exact old _ _ hM.six w6
 ·rw [Heap.get_set_ne _ _ n4]; exact old _ _ hM.eight w8
 ·rw [Heap.get_set_ne _ _ (Ne.symm n6)]; exact old _ _ hM.frees wF
 ·have hF := hM.fam.upd (j := p) (w := w) (v' := va) (d' := (2, (l0 ++ [e]).length, (l0 ++ [e]).flatMap Edge.av)) (by rw [List.getElem?_append_left hp]; exact hw) (by simpa using hra) hka hria
  rw [List.set_append_left _ _ hp, List.set_append_left _ _ (by simp; omega)] at hF
  have e1 : (es.map fun l => ((2 : Nat), l.length, l.flatMap Edge.av)).set p (2, (l0 ++ [e]).length, (l0 ++ [e]).flatMap Edge.av) = (es.set p (l0 ++ [e])).map fun l => ((2 : Nat), l.length, l.flatMap Edge.av) := by rw [List.map_set]
  rw [e1] at hF
  exact hF.keep fun x hx id hid => Heap.get_set_ne _ _ (hap x hx id hid).2.2.1
 ·rcases List.mem_or_eq_of_mem_set hl with hl | rfl
  ·exact ⟨by have := (hM.eok l hl).1; omega, (hM.eok l hl).2⟩
  ·have h0 := hM.eok l0 (List.mem_of_getElem? hes)
   refine ⟨by simp; omega, fun x hx => ?_⟩
   rcases List.mem_append.1 hx with hx | hx
   ·exact h0.2 x hx
   ·simp only [List.mem_singleton] at hx
    subst hx; exact he
theorem MachAt.free {h : Heap} {i6 i8 ie iF k : Nat} {vt : AV} {we wf : List AV} {es : List (List Edge)} {fs : List (List Int)} {ts : List Int} {m : Nat} (hM : MachAt h i6 i8 ie iF k vt we wf es fs ts m) {w va : AV} {hpa : Heap} {p : Nat} {l0 : List Int} {t : Int} (hw : wf[p]? = some w) (hfs : fs[p]? = some l0)
  (ht : 0 ≤ t ∧ t < k)
  (hra : IsRow hpa va 1 (l0.length + 1) (l0.map (.int .i64) ++ [.int .i64 t])) (hka : ∀ id, h.get id ≠ none → w.rowId ≠ some id → hpa.get id = h.get id) (hria : ∀ id, va.rowId = some id → w.rowId = some id ∨ h.get id = none) :
  MachAt (hpa.set iF (.cells 1 (wf.set p va))) i6 i8 ie iF k vt we (wf.set p va) es (fs.set p (l0 ++ [t])) ts (m + 1) := by
 obtain ⟨n1, n2, n3, n4, n5, n6⟩ := hM.ne
 obtain ⟨l1, l2, l3, l4⟩ := hM.lens
 have hp := lt_of_getElem? hw
 have hwm : w ∈ we ++ wf := List.mem_append_right _ (List.mem_of_getElem? hw)
 obtain ⟨old, ⟨w6, w8, w9, wF⟩, hva, htg⟩ := hM.upd hwm hka hria
 have hset : ∀ x ∈ we ++ wf.set p va, x = va ∨ x ∈ we ++ wf := fun x hx => by
  rcases List.mem_append.1 hx with hx | hx
  ·exact .inr (List.mem_append_left _ hx)
  ·rcases List.mem_or_eq_of_mem_set hx with hx | hx
   ·exact .inr (List.mem_append_right _ hx)
   ·exact .inl hx
 have hap : ∀ x ∈ we ++ wf.set p va, ∀ id, x.rowId = some id → id ≠ i6 ∧ id ≠ i8 ∧ id ≠ ie ∧ id ≠ iF ∧ vt.rowId ≠ some id := fun x hx id hid => by
  rcases hset x hx with rfl | hx
  ·exact hva id hid
  ·exact hM.apart x hx id hid
 refine ⟨hM.ne, ?_, ?_, ?_, Heap.get_set_self _ _ _, ⟨l1, by simpa using l2, l3, by simpa using l4⟩, ?_, htg.set_ne (fun e => (hM.tapart _ e).2.2.2 rfl), hap, hM.tapart, fun l hl => ⟨by have := (hM.eok l hl).1; omega, (hM.eok l hl).2⟩, fun l hl => ?_, hM.tok, by have := hM.cnt; omega⟩
 ·rw [Heap.get_set_ne _ _ n3]; exact old _ _ hM.six w6
 ·rw [Heap.get_set_ne _ _ n5]; exact old _ _ hM.eight w8
 ·rw [Heap.get_set_ne _ _ n6]; exact old _ _ hM.edges w9
 ·have hF := hM.fam.upd (j := we.length + p) (w := w) (v' := va) (d' := (1, (l0 ++ [t]).length, (l0 ++ [t]).map (.int .i64))) (by rw [List.getElem?_append_right (by omega), Nat.add_sub_cancel_left]; exact hw) (by simpa using hra) hka hria
  rw [List.set_append_right _ _ (by omega), List.set_append_right _ _ (by simp; omega), Nat.add_sub_cancel_left, List.length_map, show we.length + p - es.length = p by omega] at hF
  have e1 : (fs.map fun l => ((1 : Nat), l.length, l.map (AV.int .i64))).set p (1, (l0 ++ [t]).length, (l0 ++ [t]).map (AV.int .i64)) = (fs.set p (l0 ++ [t])).map fun l => ((1 : Nat), l.length, l.map (AV.int .i64)) := by rw [List.map_set]
  rw [e1] at hF
  exact hF.keep fun x hx id hid => Heap.get_set_ne _ _ (hap x hx id hid).2.2.2.1
 ·rcases List.mem_or_eq_of_mem_set hl with hl | rfl
  ·exact ⟨by have := (hM.fok l hl).1; omega, (hM.fok l hl).2⟩
  ·have h0 := hM.fok l0 (List.mem_of_getElem? hfs)
   refine ⟨by simp; omega, fun x hx => ?_⟩
   rcases List.mem_append.1 hx with hx | hx
   ·exact h0.2 x hx
   ·simp only [List.mem_singleton] at hx
    subst hx; exact ht
theorem MachAt.more {h : Heap} {i6 i8 ie iF k : Nat} {vt : AV} {we wf : List AV} {es : List (List Edge)} {fs : List (List Int)} {ts : List Int} {m : Nat} (hM : MachAt h i6 i8 ie iF k vt we wf es fs ts m) : MachAt h i6 i8 ie iF k vt we wf es fs ts (m + 1) :=
 { hM with eok := fun l hl => ⟨by have := (hM.eok l hl).1; omega, (hM.eok l hl).2⟩, fok := fun l hl => ⟨by have := (hM.fok l hl).1; omega, (hM.fok l hl).2⟩, cnt := by have := hM.cnt; omega }
theorem MachAt.done {h : Heap} {i6 i8 ie iF k : Nat} {vt : AV} {we wf : List AV} {es : List (List Edge)} {fs : List (List Int)} {ts : List Int} {m : Nat} (hM : MachAt h i6 i8 ie iF k vt we wf es fs ts m) (hk : 1 ≤ k ∧ k ≤ 12) (hts : ts.length = k) (hm : m ≤ 40) {env : Env} (h6 : env 6 = .ptr i6 0 0) :
  finK [.cell 6 3 true] (fun v x => ∃ n : Nfa, v = .agg n.av ∧ n.Ok ∧ n.Fits ∧ n.Small) .ret env (h.set i6 (.cells 0 [.own ie 1 1 0 k none, .own iF 1 1 0 k none, vt])) := by
 obtain ⟨n1, n2, n3, n4, n5, n6⟩ := hM.ne
 obtain ⟨l1, l2, l3, l4⟩ := hM.lens
 have hkeep : ∀ (w : AV) (e n : Nat) (cs : List AV), w ∈ we ++ wf → IsRow h w e n cs → IsRow (h.set i6 (.cells 0 [.own ie 1 1 0 k none, .own iF 1 1 0 k none, vt])) w e n cs := fun w e n cs hw hr => hr.set_ne fun e => (hM.apart w hw _ e).1 rfl
 have f1 : FzL (h.set i6 (.cells 0 [.own ie 1 1 0 k none, .own iF 1 1 0 k none, vt])) (fun _ => True) we ((es.map (fun l => ((2 : Nat), l.length, l.flatMap Edge.av))).map fun d => .rd d.2.1 d.2.2 false) :=
  Fam.fz (by simp; omega) (fun j w d hw hd => hkeep w _ _ _ (List.mem_append_left _ (List.mem_of_getElem? hw)) (hM.fam.row j w d (by rw [List.getElem?_append_left (lt_of_getElem? hw)]; exact hw) (by rw [List.getElem?_append_left (lt_of_getElem? hd)]; exact hd))) (fun _ => trivial)
 have f2 : FzL (h.set i6 (.cells 0 [.own ie 1 1 0 k none, .own iF 1 1 0 k none, vt])) (fun _ => True) wf ((fs.map (fun l => ((1 : Nat), l.length, l.map (AV.int .i64)))).map fun d => .rd d.2.1 d.2.2 false) :=
  Fam.fz (by simp; omega) (fun j w d hw hd => hkeep w _ _ _ (List.mem_append_right _ (List.mem_of_getElem? hw)) (hM.fam.row (we.length + j) w d (by rw [List.getElem?_append_right (by omega), Nat.add_sub_cancel_left]; exact hw) (by rw [List.getElem?_append_right (by simp; omega), List.length_map, show we.length + j - es.length = j by omega]; exact hd))) (fun _ => trivial)
 have f3 : FzV (h.set i6 (.cells 0 [.own ie 1 1 0 k none, .own iF 1 1 0 k none, vt])) (fun _ => True) vt (.rd ts.length (ts.map (.int .i64)) false) :=
  (hM.tags.set_ne fun e => (hM.tapart _ e).1 rfl).fz _ (fun _ _ => trivial) (FzL.same _)
 let n : Nfa := ⟨⟨es.map (⟨·, false⟩), false⟩, ⟨fs.map (⟨·, false⟩), false⟩, ⟨ts, false⟩⟩
 have hn : n.av = [.rd k ((es.map (fun l => ((2 : Nat), l.length, l.flatMap Edge.av))).map fun d => .rd d.2.1 d.2.2 false) false, .rd k ((fs.map (fun l => ((1 : Nat), l.length, l.map (AV.int .i64)))).map fun d => .rd d.2.1 d.2.2 false) false, .rd ts.length (ts.map (.int .i64)) false] := by
  simp only [n, Nfa.av, Rw.mv, Rw.iv, List.length_map, List.map_map, l3, l4]
  rfl
 have hw1 : ((we.drop (0 * 1)).take (k * 1)) = we := by rw [Nat.zero_mul, List.drop_zero, Nat.mul_one, ← l1, List.take_length]
 have hw2 : ((wf.drop (0 * 1)).take (k * 1)) = wf := by rw [Nat.zero_mul, List.drop_zero, Nat.mul_one, ← l2, List.take_length]
 refine fin_ret_fz (v := .agg [.own ie 1 1 0 k none, .own iF 1 1 0 k none, vt]) (v' := .agg n.av) (fun _ => True) ?_ ?_ ⟨n, rfl, ?_, ?_, ?_⟩
 ·simp [resVals, resVal, h6]
 ·rw [hn]
  refine .agg (.cons (.own trivial (cs := we) ?_ (by omega) (by rw [hw1]; exact f1)) (.cons (.own trivial (cs := wf) ?_ (by omega) (by rw [hw2]; exact f2)) (.cons f3 .nil)))
  ·rw [Heap.get_set_ne _ _ (Ne.symm n2)]; exact hM.edges
  ·rw [Heap.get_set_ne _ _ (Ne.symm n3)]; exact hM.frees
 ·have hnk : n.k = k := hts
  refine ⟨by omega, by omega, by rw [hnk]; simp [n, l3], by rw [hnk]; simp [n, l4], fun i hi t ht => ?_, fun i hi e he => ?_, fun t ht => (hM.tok t ht).1⟩
  ·obtain ⟨l, hl⟩ := ex_get (show i < fs.length by omega)
   have : n.frees i = l := by simp [Nfa.frees, n, List.getD_eq_getElem?_getD, hl]
   rw [this] at ht
   rw [hnk]
   exact (hM.fok l (List.mem_of_getElem? hl)).2 t ht
  ·obtain ⟨l, hl⟩ := ex_get (show i < es.length by omega)
   have : n.outs i = l := by simp [Nfa.outs, n, List.getD_eq_getElem?_getD, hl]
   rw [this] at he
   rw [hnk]
   have := (hM.eok l (List.mem_of_getElem? hl)).2 e he
   exact ⟨this.1, this.2.1⟩
 ·refine ⟨by show ts.length ≤ _; omega, by simp [n]; omega, by simp [n]; omega, fun r hr => ?_, fun r hr => ?_, fun r hr e he x hx => ?_⟩
  ·simp only [n, List.mem_map] at hr
   obtain ⟨l, hl, rfl⟩ := hr
   have := hM.eok l hl
   exact ⟨by show l.length ≤ _; omega, fun e he => by have := (this.2 e he).2.2.1; omega⟩
  ·simp only [n, List.mem_map] at hr
   obtain ⟨l, hl, rfl⟩ := hr
   have := (hM.fok l hl).1
   show l.length ≤ _
   omega
  ·simp only [n, List.mem_map] at hr
   obtain ⟨l, hl, rfl⟩ := hr
   have := ((hM.eok l hl).2 e he).2.2.2 x hx
   omega
 ·refine ⟨?_, fun r hr e he => ?_, hM.tok⟩
  ·simp only [n, List.map_map]
   have := hM.cnt
   exact Nat.le_trans this hm
  ·simp only [n, List.mem_map] at hr
   obtain ⟨l, hl, rfl⟩ := hr
   exact ((hM.eok l hl).2 e he).2.2.1
theorem machine_ok {Φ : Lib} (L : C2Lib Φ) (kk : Int) (hk : 0 ≤ kk ∧ kk ≤ 255) (l : List Arc) (fl : Bool) (hl : l.length ≤ 1048576) (ha : ∀ a ∈ l, a.Ok) (tg : List Int) (ft : Bool) (htl : tg.length ≤ 1048576) (htg : ∀ t ∈ tg, -128 ≤ t ∧ t ≤ 127) :
  Runs Φ 8 [.int .u8 kk, .rd l.length (l.flatMap Arc.av) fl, .rd tg.length (tg.map (.int .i8)) ft] Heap.empty (fun v _ => ∃ n : Nfa, v = .agg n.av ∧ n.Ok ∧ n.Fits ∧ n.Small) := by
 refine runs_of (fun o => o == some 64 || o == some 72) rfl L.f8 ?_
 repeat' first | refine st_nil ?_ | (refine gw ?_; first | refine st_mv (v := AV.int _ _) rfl ?_ | (refine gq3 ?_; first | refine st_add rfl rfl rfl (by omega) (by omega) ?_ | refine st_rem rfl rfl rfl (by omega) (by omega) ?_) | (refine st_alloc ?_; intro id hid; try simp only [Heap.set_none] at hid) | refine st_store_s (cs' := [AV.own _ _ _ _ _ _, AV.own _ _ _ _ _ _, AV.rd _ _ _]) rfl rfl rfl rfl b_ rfl ?_ | refine st_build (cs := [AV.own _ _ _ _ _ _, AV.own _ _ _ _ _ _, AV.rd _ _ _]) rfl ?_ | (refine st_mkslice rfl rfl (by omega) (by omega) ?_; intro id hid; try simp only [Heap.set_none] at hid) | refine st_conv rfl (by omega) (by omega) ?_) | (refine gx ?_; first | refine sx_seq ?_ | refine sx_ops rfl ?_ | refine sx_block ?_) | refine sk_norm ?_
 rename_i i6 h6 ie he iF hF
 rename Nat => i8
 rename i8 ≠ _ ∧ _ => h8
 obtain ⟨k, hk'⟩ : ∃ k : Nat, (1 + kk % 12 : Int) = k := ⟨(1 + kk % 12).toNat, by omega⟩
 have hk12 : 1 ≤ k ∧ k ≤ 12 := by omega
 rw [hk']
 have hnil := Fam.nils (Heap.empty) (List.replicate k 2 ++ List.replicate k 1)
 have n1 := he.1; have n2 := hF.1; have n3 := hF.2.1; have n4 := h8.1; have n5 := h8.2.1; have n6 := h8.2.2.1
 have hflat : ∀ m : Nat, (List.replicate m [AV.rd 0 [] true]).flatten = List.replicate m (AV.rd 0 [] true) := flat_reps _
 have hM : MachAt ((((Heap.empty.set i6 (.cells 0 [.rd 0 [] true, .rd 0 [] true, .rd 0 [] true])).set ie (.cells 1 (List.replicate (k : Int).toNat [AV.rd 0 [] true]).flatten)).set iF (.cells 1 (List.replicate (k : Int).toNat [AV.rd 0 [] true]).flatten)).set i8 (.cells 0 [.own ie 1 1 0 k none, .own iF 1 1 0 k none, .rd 0 [] true])) i6 i8 ie iF k (.rd 0 [] true) (List.replicate k (AV.rd 0 [] true)) (List.replicate k (AV.rd 0 [] true)) (List.replicate k []) (List.replicate k []) [] 0 := by
  refine ⟨⟨Ne.symm n6, Ne.symm n1, Ne.symm n3, n5, n4, Ne.symm n2⟩, ?_, Heap.get_set_self _ _ _, ?_, ?_, by simp, ?_, IsRow.nil _ _, ?_, ?_, ?_, ?_, by simp, by simp⟩
  ·simp [Heap.get_set2, *]
  ·simp [Heap.get_set2, *]
  ·simp [Heap.get_set2, *]
  ·refine Fam.keep (h := Heap.empty) ?_ ?_
   ·have := hnil
    simpa using this
   ·intro w hw id hid
    rcases List.mem_append.1 hw with hw | hw <;> (rw [List.mem_replicate] at hw; rw [hw.2] at hid; cases hid)
  ·intro w hw id hid
   rcases List.mem_append.1 hw with hw | hw <;> (rw [List.mem_replicate] at hw; rw [hw.2] at hid; cases hid)
  ·intro id hid; cases hid
  ·intro l hl
   rw [List.mem_replicate] at hl
   rw [hl.2]; simp
  ·intro l hl
   rw [List.mem_replicate] at hl
   rw [hl.2]; simp
 refine sx_for k (fun i env h' => ∃ vt ts, ts.length = i ∧ MachAt h' i6 i8 ie iF k vt (List.replicate k (AV.rd 0 [] true)) (List.replicate k (AV.rd 0 [] true)) (List.replicate k []) (List.replicate k []) ts 0 ∧ env.has [(1, .rd l.length (l.flatMap Arc.av) fl), (2, .rd tg.length (tg.map (.int .i8)) ft), (6, .ptr i6 0 0), (7, .int .i64 k), (8, .ptr i8 0 0), (9, .int .i64 i)]) ⟨_, [], rfl, hM, hh_⟩ ?_
 clear hM hnil n1 n2 n3 n4 n5 n6 h6 he hF h8
 rintro i env h' hi ⟨vt, ts, hts, hM, he⟩
 obtain ⟨env, rfl⟩ := he.ex
 clear he
 have g8 := hM.eight
 have g9 := hM.tags
 have hv8 : vt.rowId ≠ some i8 := fun e => (hM.tapart _ e).2.1 rfl
 by_cases hi2 : i < k
 ·by_cases hlt : i < tg.length
  ·obtain ⟨t, ht⟩ := ex_get hlt
   have htr := htg t (List.mem_of_getElem? ht)
   repeat' first | refine st_nil ?_ | (refine gw ?_; first | (refine gq0 ?_; first | refine st_mv (v := AV.int _ _) rfl ?_ | refine st_mv (v := AV.rd _ _ _) rfl ?_) | (refine gq2 ?_; first | refine st_load_r rfl b_ pv_ ?_ | refine st_load_p rfl hg_ (by simp) b_ pv_ ?_) | (refine gq3 ?_; first | refine st_add rfl rfl rfl (by omega) (by omega) ?_ | (refine st_lss rfl rfl rfl ?_ ?_ <;> (intro hc; try (exfalso; omega))) | refine st_remt rfl rfl rfl (by omega) ?_) | refine st_field_p rfl (Nat.zero_add _) ?_ | refine st_index_map' rfl rfl ht (by omega) rfl ?_ | refine st_len_rd rfl ?_ | refine st_store_row rfl rv_ (by assumption) hg_ b_ (by first | (simp only [List.set_cons_zero, List.set_cons_succ] <;> exact rfl) | exact rfl) ?_ | (refine st_append (m := 1) rv_ ir_ rfl rfl (by omega) ?_; intro va hpa hra hka hria) | refine st_lit (cs := [AV.int _ _]) rfl rfl ?_ | refine st_mx rfl rfl rfl ?_ | refine st_conv rfl (by omega) (by omega) ?_) | (refine gx ?_; first | refine sx_seq ?_ | refine sx_ops rfl ?_ | refine sx_skip ?_ | refine sx_block ?_ | refine sx_cond_t rfl ?_) | refine sk_norm ?_ | refine bk_norm ?_
   have ht6 : -1 ≤ max (t.tmod 6) (-1) ∧ max (t.tmod 6) (-1) ≤ 5 := by
    have := Int.tmod_lt_of_pos t (show (0 : Int) < 6 by decide)
    omega
   refine lk_next hi2 ⟨va, _, ?_, hM.tag ht6 hra hka hria, hh_⟩
   simp [hts]
  ·repeat' first | refine st_nil ?_ | (refine gw ?_; first | (refine gq0 ?_; first | refine st_mv (v := AV.int _ _) rfl ?_ | refine st_mv (v := AV.rd _ _ _) rfl ?_) | refine st_load_p rfl hg_ (by simp) b_ pv_ ?_ | (refine gq3 ?_; first | refine st_add rfl rfl rfl (by omega) (by omega) ?_ | (refine st_lss rfl rfl rfl ?_ ?_ <;> (intro hc; try (exfalso; omega)))) | refine st_field_p rfl (Nat.zero_add _) ?_ | refine st_len_rd rfl ?_ | refine st_store_row rfl rv_ (by assumption) hg_ b_ (by first | (simp only [List.set_cons_zero, List.set_cons_succ] <;> exact rfl) | exact rfl) ?_ | (refine st_append (m := 1) rv_ ir_ rfl rfl (by omega) ?_; intro va hpa hra hka hria) | refine st_lit (cs := [AV.int _ _]) rfl rfl ?_) | (refine gx ?_; first | refine sx_seq ?_ | refine sx_ops rfl ?_ | refine sx_skip ?_ | refine sx_block ?_ | refine sx_cond_t rfl ?_ | refine sx_cond_f rfl ?_) | refine sk_norm ?_ | refine bk_norm ?_
   refine lk_next hi2 ⟨va, _, ?_, hM.tag ⟨Int.le_refl (-1), by decide⟩ hra hka hria, hh_⟩
   simp [hts]
 ·have htk : ts.length = k := by omega
  clear g8 g9 hv8
  repeat' first | refine st_nil ?_ | (refine gw ?_; first | refine st_mv (v := AV.int _ _) rfl ?_ | (refine st_lss rfl rfl rfl ?_ ?_ <;> (intro hc; try (exfalso; omega)))) | (refine gx ?_; first | refine sx_seq ?_ | refine sx_ops rfl ?_ | refine sx_block ?_ | refine sx_exit ?_ | refine sx_cond_f rfl ?_) | refine sk_norm ?_ | refine sk_exit ?_ | refine bk_exit ?_ | refine lk_exit ?_
  refine sx_loop (fun m env h' => ∃ (i : Nat) (vt : AV) (we wf : List AV) (es : List (List Edge)) (fs : List (List Int)) (ts : List Int), m = l.length - i ∧ i ≤ l.length ∧ i ≤ 40 ∧ ts.length = k ∧ MachAt h' i6 i8 ie iF k vt we wf es fs ts i ∧ env.has [(1, .rd l.length (l.flatMap Arc.av) fl), (6, .ptr i6 0 0), (7, .int .i64 k), (8, .ptr i8 0 0), (11, .int .i64 i)]) _ ⟨0, vt, _, _, _, _, ts, rfl, Nat.zero_le _, by omega, htk, hM, hh_⟩ ?_
  clear hM htk hts hi2 hc hi
  rintro m env h' ⟨i, vt, we, wf, es, fs, ts, rfl, hi, hi40, hts, hM, he⟩
  obtain ⟨env, rfl⟩ := he.ex
  clear he
  have g8 := hM.eight
  have gE := hM.edges
  have gF := hM.frees
  have g6 := hM.six
  obtain ⟨l1, l2, l3, l4⟩ := hM.lens
  have hend : ∀ {env : Env} {h2 : Heap}, env 6 = .ptr i6 0 0 → h2 = h'.set i6 (.cells 0 [.own ie 1 1 0 k none, .own iF 1 1 0 k none, vt]) → finK d_glyphcutter_glyphcutterlaw09_Machine.results (fun v x => ∃ n : Nfa, v = .agg n.av ∧ n.Ok ∧ n.Fits ∧ n.Small) .ret env h2 := by
   rintro env _ h6 rfl
   exact hM.done hk12 hts (by omega) h6
  by_cases hi2 : i < l.length
  ·obtain ⟨a, hai⟩ := ex_get hi2
   have hao := ha a (List.mem_of_getElem? hai)
   have hb1 := hao.fr
   have hb2 := hao.to
   obtain ⟨p, hp⟩ : ∃ p : Nat, a.fr % (k : Int) = p := ⟨(a.fr % (k : Int)).toNat, by have := Int.emod_nonneg a.fr (show (k : Int) ≠ 0 by omega); omega⟩
   obtain ⟨q, hq⟩ : ∃ q : Nat, a.to % (k : Int) = q := ⟨(a.to % (k : Int)).toNat, by have := Int.emod_nonneg a.to (show (k : Int) ≠ 0 by omega); omega⟩
   have hpk : p < k := by have := Int.emod_lt_of_pos a.fr (show (0 : Int) < k by omega); omega
   have hqk : q < k := by have := Int.emod_lt_of_pos a.to (show (0 : Int) < k by omega); omega
   by_cases hfree : a.free = true
   ·obtain ⟨w, hw⟩ := ex_get (show p < wf.length by omega)
    obtain ⟨l0, hl0⟩ := ex_get (show p < fs.length by omega)
    have hwm : w ∈ we ++ wf := List.mem_append_right _ (List.mem_of_getElem? hw)
    have hwr : IsRow h' w 1 l0.length (l0.map (.int .i64)) := hM.fam.row (we.length + p) w (1, l0.length, l0.map (.int .i64)) (by rw [List.getElem?_append_right (by omega), Nat.add_sub_cancel_left]; exact hw) (by rw [List.getElem?_append_right (by simp; omega), List.length_map, show we.length + p - es.length = p by omega, List.getElem?_map, hl0]; rfl)
    have hwF : w.rowId ≠ some iF := fun e => (hM.apart w hwm _ e).2.2.2.1 rfl
    have hl0m := (hM.fok l0 (List.mem_of_getElem? hl0)).1
    repeat' first | refine st_nil ?_ | (refine gw ?_; first | (refine gq0 ?_; first | refine st_mv (v := AV.int _ _) rfl ?_ | refine st_mv (v := AV.bool _) rfl ?_ | refine st_mv (v := AV.rd _ _ _) rfl ?_) | refine st_gog rfl ?_ | (refine gq2 ?_; first | refine st_load_r rfl b_ pv_ ?_ | refine st_load_p rfl hg_ (by simp) b_ pv_ ?_) | (refine gq3 ?_; first | (refine st_lss rfl rfl rfl ?_ ?_ <;> (intro hc; try (exfalso; omega))) | refine st_rem rfl rfl rfl (by omega) (by omega) ?_) | refine st_field_r rfl (by simp) rfl ?_ | refine st_index_flat' rfl fl_ rfl hai (by omega) rfl ?_ | refine st_len_rd rfl ?_ | refine st_pick_t (v := AV.bool _) rfl rfl ?_ | refine st_store_p (v := AV.agg _) rfl rfl hg_ rfl rfl b_ sv_ ?_ | refine st_conv rfl (by omega) (by omega) ?_) | (refine gx ?_; first | refine sx_seq ?_ | refine sx_ops rfl ?_ | refine sx_skip ?_ | refine sx_block ?_ | refine sx_ret ?_ | refine sx_exit ?_ | refine sx_cond_t rfl ?_ | refine sx_cond_f rfl ?_) | refine sk_norm ?_ | refine sk_exit ?_ | refine bk_exit ?_ | refine lk_exit ?_
    ·rw [hp]
     refine sx_opsZ rfl ?_
     repeat' first | refine st_nil ?_ | (refine gw ?_; first | (refine gq0 ?_; first | refine st_mv (v := AV.int _ _) rfl ?_ | refine st_mv (v := AV.rd _ _ _) rfl ?_) | refine st_load_r rfl b_ pv_ ?_ | refine st_rem rfl rfl rfl (by omega) (by omega) ?_ | refine st_field_r rfl (by simp) rfl ?_ | refine st_index_flat' rfl fl_ rfl hai (by omega) rfl ?_ | refine st_conv rfl (by omega) (by omega) ?_) | refine sx_seq ?_ | refine sk_norm ?_
     rw [hq]
     refine sx_opsZ rfl ?_
     repeat' first | refine st_nil ?_ | (refine gw ?_; first | (refine gq0 ?_; first | refine st_mv (v := AV.int _ _) rfl ?_ | refine st_mv (v := AV.rd _ _ _) rfl ?_) | refine st_load_r rfl b_ pv_ ?_ | refine st_field_r rfl (by simp) rfl ?_ | refine st_index_flat' rfl fl_ rfl hai (by omega) rfl ?_) | refine sk_norm ?_
     rw [hfree]
     repeat' first | refine st_nil ?_ | (refine gw ?_; first | refine st_mv (v := AV.int _ _) rfl ?_ | (refine gq2 ?_; first | refine st_load_raw (g := _) rfl hg_ hw eq_ (by simp) ?_ | refine st_load_p rfl hg_ (by simp) b_ pv_ ?_) | refine st_add rfl rfl rfl (by omega) (by omega) ?_ | refine st_field_p rfl (Nat.zero_add _) ?_ | refine st_index_own rfl rfl (by omega) (by omega) ?_ | refine st_store_row rfl rv_ (by assumption) hg_ b_ (by first | (simp only [List.set_cons_zero, List.set_cons_succ] <;> exact rfl) | exact rfl) ?_ | (refine st_append (m := 1) rv_ ir_ rfl rfl (by omega) ?_; intro va hpa hra hka hria) | refine st_lit (cs := [AV.int _ _]) rfl rfl ?_) | (refine gx ?_; first | refine sx_ops rfl ?_ | refine sx_cond_t rfl ?_) | refine sk_norm ?_ | refine bk_norm ?_
     rw [Nat.zero_add, Nat.mul_one, show (p : Int).toNat = p by omega]
     refine lk_norm (l.length - (i + 1)) (by omega) ?_
     exact ⟨i + 1, vt, we, _, es, _, ts, rfl, by omega, by omega, hts, hM.free hw hl0 ⟨by omega, by omega⟩ hra hka hria, hh_⟩
    ·exact hend rfl rfl
   ·obtain ⟨w, hw⟩ := ex_get (show p < we.length by omega)
    obtain ⟨l0, hl0⟩ := ex_get (show p < es.length by omega)
    have hwm : w ∈ we ++ wf := List.mem_append_left _ (List.mem_of_getElem? hw)
    have hwr : IsRow h' w 2 l0.length (l0.flatMap Edge.av) := hM.fam.row p w (2, l0.length, l0.flatMap Edge.av) (by rw [List.getElem?_append_left (by omega)]; exact hw) (by rw [List.getElem?_append_left (by simp; omega), List.getElem?_map, hl0]; rfl)
    have hwF : w.rowId ≠ some ie := fun e => (hM.apart w hwm _ e).2.2.1 rfl
    have hl0m := (hM.eok l0 (List.mem_of_getElem? hl0)).1
    have hfree' : a.free = false := by simpa using hfree
    repeat' first | refine st_nil ?_ | (refine gw ?_; first | (refine gq0 ?_; first | refine st_mv (v := AV.int _ _) rfl ?_ | refine st_mv (v := AV.bool _) rfl ?_ | refine st_mv (v := AV.rd _ _ _) rfl ?_) | refine st_gog rfl ?_ | (refine gq2 ?_; first | refine st_load_r rfl b_ pv_ ?_ | refine st_load_p rfl hg_ (by simp) b_ pv_ ?_) | (refine gq3 ?_; first | (refine st_lss rfl rfl rfl ?_ ?_ <;> (intro hc; try (exfalso; omega))) | refine st_rem rfl rfl rfl (by omega) (by omega) ?_) | refine st_field_r rfl (by simp) rfl ?_ | refine st_index_flat' rfl fl_ rfl hai (by omega) rfl ?_ | refine st_len_rd rfl ?_ | refine st_pick_t (v := AV.bool _) rfl rfl ?_ | refine st_store_p (v := AV.agg _) rfl rfl hg_ rfl rfl b_ sv_ ?_ | refine st_conv rfl (by omega) (by omega) ?_) | (refine gx ?_; first | refine sx_seq ?_ | refine sx_ops rfl ?_ | refine sx_skip ?_ | refine sx_block ?_ | refine sx_ret ?_ | refine sx_exit ?_ | refine sx_cond_t rfl ?_ | refine sx_cond_f rfl ?_) | refine sk_norm ?_ | refine sk_exit ?_ | refine bk_exit ?_ | refine lk_exit ?_
    ·rw [hp]
     refine sx_opsZ rfl ?_
     repeat' first | refine st_nil ?_ | (refine gw ?_; first | (refine gq0 ?_; first | refine st_mv (v := AV.int _ _) rfl ?_ | refine st_mv (v := AV.rd _ _ _) rfl ?_) | refine st_load_r rfl b_ pv_ ?_ | refine st_rem rfl rfl rfl (by omega) (by omega) ?_ | refine st_field_r rfl (by simp) rfl ?_ | refine st_index_flat' rfl fl_ rfl hai (by omega) rfl ?_ | refine st_conv rfl (by omega) (by omega) ?_) | refine sx_seq ?_ | refine sk_norm ?_
     rw [hq]
     refine sx_opsZ rfl ?_
     repeat' first | refine st_nil ?_ | (refine gw ?_; first | (refine gq0 ?_; first | refine st_mv (v := AV.int _ _) rfl ?_ | refine st_mv (v := AV.rd _ _ _) rfl ?_) | refine st_load_r rfl b_ pv_ ?_ | refine st_field_r rfl (by simp) rfl ?_ | refine st_index_flat' rfl fl_ rfl hai (by omega) rfl ?_) | refine sk_norm ?_
     rw [hfree']
     repeat' first | refine st_nil ?_ | (refine gw ?_; first | (refine gq0 ?_; first | refine st_mv (v := AV.int _ _) rfl ?_ | refine st_mv (v := AV.rd _ _ _) rfl ?_) | refine st_load_r rfl b_ pv_ ?_ | (refine gq3 ?_; first | refine st_add rfl rfl rfl (by omega) (by omega) ?_ | (refine st_lss rfl rfl rfl ?_ ?_ <;> (intro hc; try (exfalso; omega)))) | refine st_field_r rfl (by simp) rfl ?_ | refine st_index_flat' rfl fl_ rfl hai (by omega) rfl ?_ | refine st_len_rd rfl ?_ | refine st_call rfl nt_ ?_) | (refine gx ?_; first | refine sx_seq ?_ | refine sx_ops rfl ?_ | refine sx_skip ?_ | refine sx_cond_t rfl ?_ | refine sx_cond_f rfl ?_) | refine sk_norm ?_ | refine bk_norm ?_
     ·refine call_ex (make1_ok L a.set.l a.set.fl hao.set hao.nums) (by simp [AV.frozenL]) (by rintro _ ⟨s, rfl, _⟩; simp [AV.frozen]) ?_
      rintro _ ⟨s, rfl, hs1, hs2⟩
      have hln := lnorm_ok L s false (by omega) (fun x hx => by have := hs2 x hx; omega)
      have hns := normS_length s
      repeat' first | refine st_nil ?_ | (refine gw ?_; first | (refine gq0 ?_; first | refine st_mv (v := AV.int _ _) rfl ?_ | refine st_mv (v := AV.rd _ _ _) rfl ?_) | (refine gq2 ?_; first | refine st_load_raw (g := _) rfl hg_ hw eq_ (by simp) ?_ | refine st_load_p rfl hg_ (by simp) b_ pv_ ?_) | refine st_add rfl rfl rfl (by omega) (by omega) ?_ | refine st_field_p rfl (Nat.zero_add _) ?_ | refine st_index_own rfl rfl (by omega) (by omega) ?_ | refine st_call rfl nt_ ?_ | refine st_store_row rfl rv_ (by assumption) hg_ b_ (by first | (simp only [List.set_cons_zero, List.set_cons_succ] <;> exact rfl) | exact rfl) ?_ | (refine st_append (m := 1) rv_ ir_ rfl rfl (by omega) ?_; intro va hpa hra hka hria) | refine st_build (cs := [AV.int _ _, AV.rd _ _ _]) rfl ?_ | refine st_lit (cs := [AV.int _ _, AV.rd _ _ _]) rfl rfl ?_) | refine sx_ops rfl ?_ | refine sk_norm ?_ | refine bk_norm ?_ | refine call_pure (by assumption) fz_ fz_ ?_
      rw [Nat.zero_add, Nat.mul_one, show (p : Int).toNat = p by omega]
      refine lk_norm (l.length - (i + 1)) (by omega) ?_
      exact ⟨i + 1, vt, _, wf, _, fs, ts, rfl, by omega, by omega, hts, hM.edge (e := ⟨q, ⟨normS s, false⟩⟩) hw hl0 ⟨⟨by show (0 : Int) ≤ q; omega, by show (q : Int) < k; omega⟩, normS_idem s, by show (normS s).length ≤ 8; omega, fun x hx => normS_hi hx⟩ hra hka hria, hh_⟩
     ·refine lk_norm (l.length - (i + 1)) (by omega) ?_
      exact ⟨i + 1, vt, we, wf, es, fs, ts, rfl, by omega, by omega, hts, hM.more, hh_⟩
    ·exact hend rfl rfl
  ·repeat' first | refine st_nil ?_ | (refine gw ?_; first | (refine gq0 ?_; first | refine st_mv (v := AV.int _ _) rfl ?_ | refine st_mv (v := AV.bool _) rfl ?_ | refine st_mv (v := AV.rd _ _ _) rfl ?_) | refine st_skipg rfl ?_ | refine st_load_p rfl hg_ (by simp) b_ pv_ ?_ | (refine st_lss rfl rfl rfl ?_ ?_ <;> (intro hc; try (exfalso; omega))) | refine st_len_rd rfl ?_ | refine st_pick_f (v := AV.bool _) rfl rfl ?_ | refine st_store_p (v := AV.agg _) rfl rfl hg_ rfl rfl b_ sv_ ?_) | (refine gx ?_; first | refine sx_seq ?_ | refine sx_ops rfl ?_ | refine sx_ret ?_ | refine sx_exit ?_ | refine sx_cond_f rfl ?_) | refine sk_norm ?_ | refine sk_exit ?_ | refine bk_exit ?_ | refine lk_exit ?_
   exact hend rfl rfl
end Go.Proofs.YtdldfflfbfpngaaGreatDoor
set_option linter.unusedVariables false
set_option linter.unusedSimpArgs false
namespace Go.Proofs.YtdldfflfbfpngaaGreatDoor
open Go
set_option maxHeartbeats 4000000
attribute [local irreducible] wops xcode wcode seqK blockK loopK finK wcall wop wstp Runs
@[reducible] def ints (l : List Int) (f : Bool) : AV := .rd l.length (l.map (.int .i64)) f
structure Given (kk : Int) (l : List Arc) (tg : List Int) : Prop where
 k : 0 ≤ kk ∧ kk ≤ 255
 len : l.length ≤ 1048576
 arcs : ∀ a ∈ l, a.Ok
 tlen : tg.length ≤ 1048576
 tags : ∀ t ∈ tg, -128 ≤ t ∧ t ≤ 127
end Go.Proofs.YtdldfflfbfpngaaGreatDoor
