/- A least machine is no larger: it fits where the machine did. Alike machines; the statements' known machine. The known machine: the plain law. The statements' known answer. -/
import Derived.Test.YtpcbpgepjfenhaaGreatDoorF1
set_option linter.unusedVariables false
set_option linter.unusedSimpArgs false
namespace Go.Proofs.YtpcbpgepjfenhaaGreatDoor
open Go
attribute [local irreducible] wops xcode wcode seqK blockK loopK finK wcall wop wstp Runs
theorem catL_set {P : List (List Span)} {g : Nat} {a : List Span} (h : P[g]? = some a) (u : List Span) : (catL (P.set g u)).length + a.length = (catL P).length + u.length := by
  induction P generalizing g with
  | nil => simp at h
  | cons p P ih =>
    cases g with
    | zero =>
      simp at h
      subst h
      simp [catL]
      omega
    | succ g =>
      simp at h
      have := ih h
      simp [catL] at this ⊢
      omega
theorem catL_app (P : List (List Span)) (p : List Span) : (catL (P ++ [p])).length = (catL P).length + p.length := by simp [catL]
theorem catL_perm {P P' : List (List Span)} (h : P.Perm P') : (catL P).length = (catL P').length := by
  induction h with
  | nil => rfl
  | cons x _ ih => simp [catL] at ih ⊢; omega
  | swap x y l => simp [catL]; omega
  | trans _ _ h1 h2 => exact h1.trans h2
theorem catL_sub {P P' : List (List Span)} (h : P.Sublist P') : (catL P).length ≤ (catL P').length := by
  induction h with
  | slnil => exact Nat.le_refl _
  | cons a _ ih => simp [catL] at ih ⊢; omega
  | cons_cons a _ ih => simp [catL] at ih ⊢; omega
theorem groups_cat {d : PD} (hn : ∀ q ∈ d.parts, normS q = q) (lv : Nat → Bool) (κ : Int → Int) (L : List Int) : ∀ m, m ≤ d.p → (catL (unis d (groupsL lv (alikeC κ d.row L) m))).length ≤ (catL (d.parts.take m)).length
  | 0, _ => by simp [groupsL, unis, catL]
  | m + 1, hm => by
    have ih := groups_cat hn lv κ L m (by omega)
    have hg : Grp lv (alikeC κ d.row L) m (groupsL lv (alikeC κ d.row L) m) := groups_ok alikeC_rfl alikeC_symm alikeC_trans m
    rw [groups_succ]
    obtain ⟨q, hq⟩ := ex_get (l := d.parts) (i := m) hm
    have hqm : d.part m = q := by simp [PD.part, List.getD_eq_getElem?_getD, hq]
    rw [take_snoc hq, catL_app]
    generalize groupsL lv (alikeC κ d.row L) m = G at ih hg
    unfold gStep
    split
    · split
      · rename_i g hf
        have hgl : g < G.length := (List.findIdx?_eq_some_iff_getElem.1 hf).1
        obtain ⟨ks, hks⟩ := ex_get hgl
        have hk1 := hg.ne ks (List.mem_of_getElem? hks)
        have e : G.getD g [] = ks := by simp [List.getD_eq_getElem?_getD, hks]
        rw [e, unis_set d hks hk1]
        have h1 := catL_set (unis_getE (d := d) hks) (normS (uniL (ks.map d.part) ++ d.part m))
        have hu : normS (uniL (ks.map d.part)) = uniL (ks.map d.part) := (uniL_ok fun r hr => by
          obtain ⟨k, hk, rfl⟩ := List.mem_map.1 hr
          have := (hg.mem ks (List.mem_of_getElem? hks) k hk).1
          exact hn _ (PD.part_mem (by omega))).1
        have h2 := union_len hu (hn _ (PD.part_mem (d := d) (k := m) (by omega)))
        rw [hqm] at h1 h2 ⊢
        omega
      · rw [unis_snoc, catL_app, hqm]
        omega
    · omega
theorem final_cat {d : PD} (hn : ∀ q ∈ d.parts, normS q = q) (κ : Int → Int) : (catL (finalP κ d).parts).length ≤ (catL d.parts).length := by
  have h1 := groups_cat hn (anyC d.row (d.L1 κ)) κ (d.L1 κ) d.p (Nat.le_refl _)
  rw [List.take_length] at h1
  refine Nat.le_trans (Nat.le_of_eq ?_) h1
  show (catL ((d.O κ).map fun g => (unis d (d.G κ)).getD g [])).length = _
  have h2 : ((d.O κ).map fun g => (unis d (d.G κ)).getD g []).Perm (unis d (d.G κ)) := by
    have h3 := (ordL_perm (d.G κ).length fun g => loOf ((unis d (d.G κ)).getD g [])).map fun g => (unis d (d.G κ)).getD g []
    refine h3.trans ?_
    have h4 : (List.range (d.G κ).length).map (fun g => (unis d (d.G κ)).getD g []) = unis d (d.G κ) := by
      refine List.ext_getElem (by simp [unis]) fun i a b => ?_
      rw [List.getElem_map, List.getElem_range, List.getD_eq_getElem?_getD, List.getElem?_eq_getElem b]
      rfl
    rw [h4]
  exact catL_perm h2
theorem bare_cat (d : PD) : (catL (bareP d).parts).length ≤ (catL d.parts).length := by
  have h1 : ((bareK d).map d.part).Sublist ((List.range d.p).map d.part) := List.filter_sublist.map _
  have h2 : (List.range d.p).map d.part = d.parts := by
    refine List.ext_getElem (by simp) fun i a b => ?_
    rw [List.getElem_map, List.getElem_range, PD.part, List.getD_eq_getElem?_getD, List.getElem?_eq_getElem b]
    rfl
  rw [h2] at h1
  exact catL_sub h1
theorem IsLeast.cat {d x : PD} (h : IsLeast d x) (hd : d.Ok) : (catL x.parts).length ≤ (catL d.parts).length := by
  obtain ⟨lv, κ, h1, h2, h3, h4, rfl⟩ := h.final hd
  exact Nat.le_trans (final_cat (d := pruneP lv (bareP d)) h2.norm κ) (bare_cat d)
theorem wide_of {x : Dfa} (hx : x.plain.Ok) (hc : (catL x.plain.parts).length ≤ 524288) : x.Wide := by
  have hpl : x.plain.p = x.parts.l.length := by simp [Dfa.plain, plainS, PD.p]
  have hnl : x.plain.n = x.tags.l.length := by simp [Dfa.plain, PD.n]
  have hxl : x.plain.next.length = x.next.l.length := by simp [Dfa.plain, plainI]
  have h1 := hx.p1
  have h2 := hx.n2
  have h3 := hx.nl
  refine ⟨⟨by rw [catS_plain]; exact hc, by omega, by omega, fun r hr => ?_, by omega⟩, fun p hp => ?_⟩
  · have := (hx.rows r.l (List.mem_map.2 ⟨r, hr, rfl⟩)).1
    omega
  · have hn := hx.norm p.l (List.mem_map.2 ⟨p, hp, rfl⟩)
    have h4 := norm_len_le hn
    have h5 := norm_range hn
    refine ⟨by omega, fun s hs => ?_⟩
    have h6 := (norm_canon hn).2 s hs
    have := h5 s hs
    omega
theorem IsLeast.wide {d x : Dfa} (h : IsLeast d.plain x.plain) (hd : d.plain.Ok) (hf : d.Fits) : x.Wide := by
  refine wide_of (h.ok hd) ?_
  have h1 := h.cat hd
  have h2 := hf.cat
  rw [catS_plain] at h2
  exact Nat.le_trans h1 h2
end Go.Proofs.YtpcbpgepjfenhaaGreatDoor
set_option linter.unusedVariables false
set_option linter.unusedSimpArgs false
namespace Go.Proofs.YtpcbpgepjfenhaaGreatDoor
open Go
set_option maxHeartbeats 4000000
attribute [local irreducible] wops xcode wcode seqK blockK loopK finK wcall wop wstp Runs
theorem named_id (d : PD) : Named (fun s => s) d d := ⟨rfl, rfl, rfl, rfl, fun _ h => h, fun _ => rfl, fun _ _ _ => rfl, fun _ _ => rfl⟩
theorem IsLeast.unique {d x y : PD} (hd : d.Ok) (hx : IsLeast d x) (hy : IsLeast d y) : x = y := IsLeast.names (named_id d) hd hd hx hy
end Go.Proofs.YtpcbpgepjfenhaaGreatDoor
set_option linter.unusedVariables false
set_option linter.unusedSimpArgs false
namespace Go.Proofs.YtpcbpgepjfenhaaGreatDoor
open Go
theorem norm_one {a : Int} (ha : scal a = true) : normS [⟨a, a⟩] = [⟨a, a⟩] := by
  obtain ⟨b1, b2⟩ := normS_ok [⟨a, a⟩]
  refine canon_unique b1 ⟨List.pairwise_singleton _ _, fun s hs => by simp at hs; subst hs; simp⟩ fun x => ?_
  rw [b2 x]
  simp only [inS, hasR, List.mem_singleton, exists_eq_left, List.any_cons, List.any_nil, Bool.or_false, Bool.and_eq_true, decide_eq_true_eq]
  constructor
  · exact fun h => h.2
  · intro h
    have : x = a := by omega
    subst this
    exact ⟨ha, h⟩
def d1 : Dfa := ⟨⟨[⟨[⟨97, 97⟩], true⟩, ⟨[⟨99, 99⟩], true⟩], true⟩, ⟨[⟨[1, 2], true⟩, ⟨[-1, 3], true⟩, ⟨[-1, 3], true⟩, ⟨[-1, -1], true⟩], true⟩, ⟨[-1, 0, 0, -1], true⟩⟩
def p1 : PD := ⟨[[⟨97, 97⟩], [⟨99, 99⟩]], [[1, 2], [-1, 3], [-1, 3], [-1, -1]], [-1, 0, 0, -1]⟩
theorem d1_plain : d1.plain = p1 := rfl
instance (n : Nat) (x : Int) : Decidable (In n x) := inferInstanceAs (Decidable (0 ≤ x ∧ x < n))
theorem in4 {s : Int} (h : In p1.n s) : s = 0 ∨ s = 1 ∨ s = 2 ∨ s = 3 := by
  have : 0 ≤ s ∧ s < 4 := h
  omega
theorem p1_ok : p1.Ok := by
  refine ⟨by decide, by decide, by decide, rfl, fun q hq => ?_, fun i j hij hj x hx => ?_, fun r hr => ?_, fun t ht => ?_⟩
  · simp [p1] at hq
    rcases hq with rfl | rfl
    · exact norm_one (by decide)
    · exact norm_one (by decide)
  · have hj2 : j < 2 := hj
    obtain rfl : i = 0 := by omega
    obtain rfl : j = 1 := by omega
    obtain ⟨⟨s, hs, h1⟩, ⟨t, ht, h2⟩⟩ := hx
    have hs' : s ∈ [(⟨97, 97⟩ : Span)] := hs
    have ht' : t ∈ [(⟨99, 99⟩ : Span)] := ht
    simp at hs' ht'
    subst hs'; subst ht'
    simp only at h1 h2
    omega
  · simp [p1] at hr
    rcases hr with rfl | rfl | rfl
    · exact ⟨rfl, fun x hx => by simp at hx; rcases hx with rfl | rfl <;> exact .inr (by decide)⟩
    · exact ⟨rfl, fun x hx => by simp at hx; rcases hx with rfl | rfl <;> first | exact .inl rfl | exact .inr (by decide)⟩
    · exact ⟨rfl, fun x hx => by simp at hx; rcases hx with rfl | rfl <;> first | exact .inl rfl | exact .inr (by decide)⟩
  · simp [p1] at ht
    rcases ht with rfl | rfl | rfl <;> decide
def lv1 (s : Int) : Bool := decide (s ≠ 3)
def k1 (s : Int) : Int := if s = 2 then 1 else s
def p2 : PD := ⟨[[⟨97, 97⟩], [⟨99, 99⟩]], [[1, 2], [-1, -1], [-1, -1], [-1, -1]], [-1, 0, 0, -1]⟩
theorem p1_bare : bareP p1 = p1 := rfl
theorem p1_prune : pruneP lv1 (bareP p1) = p2 := rfl
theorem p1_least : IsLeast p1 (finalP k1 p2) := by
  refine ⟨lv1, k1, fun s hs => ?_, ?_, by rw [p1_prune]⟩
  · rw [p1_bare]
    have l1 : LiveS p1.n p1.row p1.tag 1 := .tag (by decide) (by decide)
    have l2 : LiveS p1.n p1.row p1.tag 2 := .tag (by decide) (by decide)
    rcases in4 hs with rfl | rfl | rfl | rfl
    · exact ⟨fun _ => .step (x := 1) (by decide) (by decide) (by decide) l1, fun _ => by decide⟩
    · exact ⟨fun _ => l1, fun _ => by decide⟩
    · exact ⟨fun _ => l2, fun _ => by decide⟩
    · refine ⟨fun h => absurd h (by decide), fun h => ?_⟩
      cases h with
      | tag _ h => exact absurd h (by decide)
      | @step _ x _ hx hin _ =>
        have : x ∈ [(-1 : Int), -1] := hx
        simp at this
        subst this
        exact absurd hin (by decide)
  · rw [p1_prune]
    have hc : ∀ s : Int, s = 1 ∨ s = 2 ∨ s = 3 → ∀ k, col p2.row s k = -1 := by
      intro s hs k
      have : p2.row s = [-1, -1] := by rcases hs with rfl | rfl | rfl <;> rfl
      unfold col
      rw [this]
      match k with
      | 0 => rfl
      | 1 => rfl
      | _ + 2 => rfl
    refine ⟨rfl, fun s hs => ?_, fun s t hs ht h => ?_, fun s t hs ht h k => ?_, fun B hB s t hs ht h => ?_⟩
    · rcases in4 hs with rfl | rfl | rfl | rfl <;> decide
    · rcases in4 hs with rfl | rfl | rfl | rfl <;> rcases in4 ht with rfl | rfl | rfl | rfl <;> revert h <;> decide
    · by_cases e : s = t
      · rw [e]
      · have h1 : s ≠ 0 := by
          rintro rfl
          rcases in4 ht with rfl | rfl | rfl | rfl
          · exact e rfl
          all_goals exact absurd h (by decide)
        have h2 : t ≠ 0 := by
          rintro rfl
          rcases in4 hs with rfl | rfl | rfl | rfl
          · exact e rfl
          all_goals exact absurd h (by decide)
        rw [hc s (by have := in4 hs; omega), hc t (by have := in4 ht; omega)]
    · have h3 := hB s t hs ht h
      obtain ⟨h4, h5⟩ := h3
      have h6 := h5 0
      rcases in4 hs with rfl | rfl | rfl | rfl <;> rcases in4 ht with rfl | rfl | rfl | rfl
      all_goals first
        | rfl
        | (exact absurd h4 (by decide))
        | (rcases h6 with ⟨a, b⟩ | ⟨a, b, _⟩
           · first | exact absurd a (by decide) | exact absurd b (by decide)
           · first | exact absurd rfl a | exact absurd rfl b | exact absurd (by decide) a | exact absurd (by decide) b)
theorem p2_L1 : p2.L1 k1 = [0, 1] := by decide
theorem p2_G : p2.G k1 = [[0, 1]] := by
  unfold PD.G
  rw [p2_L1]
  decide
theorem p2_O : p2.O k1 = [0] := by
  unfold PD.O ordOf
  rw [p2_G]
  have := ordL_perm 1 (fun g => loOf ((unis p2 [[0, 1]]).getD g []))
  exact List.perm_singleton.1 this
theorem p2_cols : p2.cols k1 = [0] := by
  unfold PD.cols
  rw [p2_O, p2_G]
  rfl
theorem p2_L2 : p2.L2 k1 = [0, 1] := by
  unfold PD.L2
  have : p2.R2 k1 = fun s => [col p2.row s 0] := by
    funext s
    unfold PD.R2
    rw [p2_cols]
    rfl
  rw [this]
  decide
theorem p1_answer {x : PD} (h : IsLeast p1 x) : x.tags.length = 2 ∧ x.parts.length = 1 ∧ x.next = [[1], [-1]] := by
  have : x = finalP k1 p2 := IsLeast.unique p1_ok h p1_least
  subst this
  unfold finalP
  refine ⟨?_, ?_, ?_⟩
  · rw [p2_L2]; rfl
  · rw [p2_O]; rfl
  · rw [p2_L2]
    have e0 : p2.R2 k1 0 = [1] := by unfold PD.R2; rw [p2_cols]; rfl
    have e1 : p2.R2 k1 1 = [-1] := by unfold PD.R2; rw [p2_cols]; rfl
    simp only [List.map_cons, List.map_nil, e0, e1]
    decide
theorem d1_answer {x : Dfa} (h : IsLeast d1.plain x.plain) : x.tags.l.length = 2 ∧ x.parts.l.length = 1 ∧ x.next.l.length = 2 ∧ ∃ r, x.next.l[0]? = some r ∧ r.l = [1] := by
  obtain ⟨h1, h2, h3⟩ := p1_answer (d1_plain ▸ h)
  refine ⟨h1, by simpa [Dfa.plain, plainS] using h2, ?_, ?_⟩
  · have := congrArg List.length h3
    simpa [Dfa.plain, plainI] using this
  · have h4 : (plainI x.next.l) = [[1], [-1]] := h3
    cases hn : x.next.l with
    | nil => rw [hn] at h4; cases h4
    | cons r l =>
      rw [hn] at h4
      simp [plainI] at h4
      exact ⟨r, rfl, h4.1⟩
theorem d1_fits : d1.Fits := by
  refine ⟨by decide, by decide, by decide, fun r hr => ?_, by decide⟩
  simp [d1] at hr
  rcases hr with rfl | rfl | rfl <;> decide
def d0 : Dfa := ⟨⟨[], true⟩, ⟨[], true⟩, ⟨[], true⟩⟩
theorem d0_no : ¬ d0.plain.Ok := fun h => absurd h.n1 (by decide)
theorem d0_fits : d0.Fits := ⟨by decide, by decide, by decide, (fun r hr => by cases hr), by decide⟩
end Go.Proofs.YtpcbpgepjfenhaaGreatDoor
set_option linter.unusedVariables false
set_option linter.unusedSimpArgs false
namespace Go.Proofs.YtpcbpgepjfenhaaGreatDoor
open Go
set_option maxHeartbeats 4000000
attribute [local irreducible] wops xcode wcode seqK blockK loopK finK wcall wop wstp Runs
theorem least_good {Φ : Lib} (L : LibC3 Φ) (L1 : C1Lib Φ) (S : SortLib Φ) (G : GrowLib Φ) (J : JoinLib Φ) (d : Dfa) (hf : d.Fits) (ht : ∀ t ∈ d.tags.l, -2147483648 ≤ t ∧ t ≤ 2147483647) (hok : d.plain.Ok) {m : Nat} {h : Heap} {Q : AV → Heap → Prop} (k : ∀ x : Dfa, IsLeast d.plain x.plain → Q (.tup [.agg x.av, .int .u16 0]) h) : wcall (Runs Φ) m 95 [.agg d.av] h Q := by
  refine call_ex (leastOf_ok L L1 S G J d hf ht) (by simp [AV.frozenL, AV.frozen]) ?_ ?_
  · rintro _ (⟨_, rfl⟩ | ⟨_, x, _, rfl⟩)
    · rfl
    · simp [AV.frozen, AV.frozenL]
  · rintro _ (⟨h1, _⟩ | ⟨_, x, hx, rfl⟩)
    · exact absurd hok h1
    · exact k x hx
theorem least_bad {Φ : Lib} (L : LibC3 Φ) (L1 : C1Lib Φ) (S : SortLib Φ) (G : GrowLib Φ) (J : JoinLib Φ) (d : Dfa) (hf : d.Fits) (ht : ∀ t ∈ d.tags.l, -2147483648 ≤ t ∧ t ≤ 2147483647) (hok : ¬ d.plain.Ok) {m : Nat} {h : Heap} {Q : AV → Heap → Prop} (k : Q (.tup [.agg [.rd 0 [] true, .rd 0 [] true, .rd 0 [] true], .int .u16 1]) h) : wcall (Runs Φ) m 95 [.agg d.av] h Q := by
  refine call_ex (leastOf_ok L L1 S G J d hf ht) (by simp [AV.frozenL, AV.frozen]) ?_ ?_
  · rintro _ (⟨_, rfl⟩ | ⟨_, x, _, rfl⟩)
    · rfl
    · simp [AV.frozen, AV.frozenL]
  · rintro _ (⟨h1, rfl⟩ | ⟨h1, x, hx, rfl⟩)
    · exact k
    · exact absurd h1 hok
theorem known11_ok {Φ : Lib} (L : LibC3 Φ) (L1 : C1Lib Φ) (S : SortLib Φ) (G : GrowLib Φ) (J : JoinLib Φ) : Pure Φ 94 [] (.bool true) := by
  refine runs_of (fun _ => false) rfl L.f94 ?_
  repeat' first | refine st_nil ?_ | (refine gw ?_; first | (refine g0 ?_; first | refine st_mv (v := AV.bool _) rfl ?_ | refine st_mv (v := AV.rd _ _ _) rfl ?_) | refine st_call rfl nt_ ?_ | (refine g15 ?_; first | refine st_build (cs := [AV.int _ _, AV.int _ _]) rfl ?_ | refine st_build (cs := [AV.rd _ _ _, AV.rd _ _ _, AV.rd _ _ _]) rfl ?_) | (refine g16 ?_; first | refine st_lit (cs := [AV.int _ _, AV.int _ _]) rfl rfl ?_ | refine st_lit (cs := [AV.int _ _, AV.int _ _, AV.int _ _, AV.int _ _]) rfl rfl ?_ | refine st_lit rfl rfl ?_)) | (refine gx ?_; first | refine sx_seq ?_ | refine sx_ops rfl ?_) | refine sk_norm ?_
  refine least_good L L1 S G J d1 d1_fits (by decide) (by rw [d1_plain]; exact p1_ok) ?_
  intro x hx
  obtain ⟨a1, a2, a3, r, hr, a4⟩ := d1_answer hx
  have a5 : r.l.length = 1 := by rw [a4]; rfl
  have a6 : r.l[0]? = some 1 := by rw [a4]; rfl
  repeat' first | refine st_nil ?_ | (refine gw ?_; first | (refine g0 ?_; first | refine st_mv (v := AV.int _ _) rfl ?_ | refine st_mv (v := AV.tup _) rfl ?_) | refine st_call rfl nt_ ?_ | (refine st_alloc ?_; intro id hid; try simp only [Heap.set_none] at hid) | refine st_store_s (cs' := [AV.rd _ _ _, AV.rd _ _ _, AV.rd _ _ _]) rfl rfl rfl rfl b_ rfl ?_ | refine st_build (cs := [AV.rd _ _ _, AV.rd _ _ _, AV.rd _ _ _]) rfl ?_ | refine st_extract rfl rfl ?_) | (refine gx ?_; first | refine sx_seq ?_ | refine sx_ops rfl ?_) | refine sk_norm ?_
  refine least_bad L L1 S G J d0 d0_fits (by decide) d0_no ?_
  repeat' first | refine st_nil ?_ | (refine gw ?_; first | (refine g0 ?_; first | refine st_mv (v := AV.int _ _) rfl ?_ | refine st_mv (v := AV.bool _) rfl ?_ | refine st_mv (v := AV.tup _) rfl ?_) | refine st_gog rfl ?_ | (refine g2 ?_; first | refine st_load_r rfl b_ pv_ ?_ | refine st_load_p rfl hg_ (by simp) b_ pv_ ?_) | (refine st_eql rfl rfl rfl ?_ ?_ <;> (intro hc; try (exfalso; omega))) | refine st_field_p rfl (Nat.zero_add _) ?_ | (refine g5 ?_; first | refine st_index_map' rfl rfl hr (by omega) rfl ?_ | refine st_index_map' rfl rfl a6 (by omega) rfl ?_) | refine st_len_rd rfl ?_ | refine st_pick_t (v := AV.bool _) rfl rfl ?_ | (refine st_alloc ?_; intro id hid; try simp only [Heap.set_none] at hid) | refine st_store_s (cs' := [AV.rd _ _ _, AV.rd _ _ _, AV.rd _ _ _]) rfl rfl rfl rfl b_ rfl ?_ | refine st_extract rfl rfl ?_) | (refine gx ?_; first | refine sx_seq ?_ | refine sx_ops rfl ?_ | refine sx_ret ?_) | refine sk_norm ?_
  all_goals first
    | exact fin_ret (v := .bool true) rfl rfl
    | (exfalso; omega)
    | (exfalso; simp_all; done)
end Go.Proofs.YtpcbpgepjfenhaaGreatDoor
