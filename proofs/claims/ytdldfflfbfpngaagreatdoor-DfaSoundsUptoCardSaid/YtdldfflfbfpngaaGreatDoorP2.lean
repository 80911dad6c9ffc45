/- Least machines, plainly: empty parts, dead states; what the least machine tells. How many a set has; sets that have nothing in common. -/
import Derived.Test.YtdldfflfbfpngaaGreatDoorP1
set_option linter.unusedVariables false
set_option linter.unusedSimpArgs false
namespace Go.Proofs.YtdldfflfbfpngaaGreatDoor
open Go
def whichP (parts : List (List Span)) (r : Int) : Option Nat := parts.findIdx? fun q => hasR q r
def longFromP (d : PD) : Int → List Int → Nat → Int × Int → Int × Int
 | _, [], _, acc => acc
 | s, r :: l, i, acc => match whichP d.parts r with
  | none => acc
  | some k => if col d.row s k < 0 then acc else longFromP d (col d.row s k) l (i + 1) (if 0 ≤ d.tag (col d.row s k) then ((i : Int) + 1, d.tag (col d.row s k)) else acc)
def longP (d : PD) (l : List Int) : Int × Int := longFromP d 0 l 0 (0, -1)
theorem hasR_inS {q : List Span} (hq : normS q = q) {r : Int} : hasR q r = true ↔ inS q r := by
 rw [← (normS_ok q).2 r, hq]
theorem which_some {d : PD} (h : d.Ok) {r : Int} {k : Nat} : whichP d.parts r = some k ↔ k < d.p ∧ inS (d.part k) r := by
 unfold whichP
 rw [List.findIdx?_eq_some_iff_getElem]
 have hp : ∀ {k : Nat} (hk : k < d.p), d.parts[k] = d.part k := fun hk => by simp [PD.part, List.getD_eq_getElem?_getD, hk]
 constructor
 ·rintro ⟨hk, h1, _⟩
  rw [hp hk, hasR_inS (part_norm h k)] at h1
  exact ⟨hk, h1⟩
 ·rintro ⟨hk, h1⟩
  refine ⟨hk, by rw [hp hk, hasR_inS (part_norm h k)]; exact h1, fun j hj => ?_⟩
  rw [hp (show j < d.p by omega), hasR_inS (part_norm h j)]
  intro h2
  have := part_apart h h2 h1
  omega
end Go.Proofs.YtdldfflfbfpngaaGreatDoor
set_option linter.unusedVariables false
set_option linter.unusedSimpArgs false
namespace Go.Proofs.YtdldfflfbfpngaaGreatDoor
open Go
def sizeF (l : List Span) : Int := l.foldl (fun n s => n + (s.hi - s.lo + 1)) 0
theorem sizeF_snoc (l : List Span) (s : Span) : sizeF (l ++ [s]) = sizeF l + (s.hi - s.lo + 1) := by simp [sizeF]
theorem sizeF_from (l : List Span) : ∀ n : Int, l.foldl (fun n s => n + (s.hi - s.lo + 1)) n = n + sizeF l := by
 induction l with
 | nil => intro n; simp [sizeF]
 | cons a l ih =>
  intro n
  unfold sizeF
  rw [List.foldl_cons, List.foldl_cons, ih, ih (0 + _)]
  omega
theorem sizeF_cons (a : Span) (l : List Span) : sizeF (a :: l) = (a.hi - a.lo + 1) + sizeF l := by
 have := sizeF_from l (0 + (a.hi - a.lo + 1))
 unfold sizeF at *
 rw [List.foldl_cons, this]
 omega
def hasB (l : List Span) (x : Nat) : Bool := l.any fun s => decide (s.lo ≤ x) && decide ((x : Int) ≤ s.hi)
theorem hasB_iff {l : List Span} {x : Nat} : hasB l x = true ↔ inS l x := by
 unfold hasB inS
 simp only [List.any_eq_true, Bool.and_eq_true, decide_eq_true_eq]
def topN : Nat := 1114112
theorem topN_eq : topN = 1114112 := rfl
attribute [local irreducible] topN
def cntB (q : Nat → Bool) : Nat := (List.range topN).countP q
theorem countP_or {α : Type} (p q : α → Bool) : ∀ l : List α, l.countP (fun x => p x || q x) + l.countP (fun x => p x && q x) = l.countP p + l.countP q
 | [] => rfl
 | a :: l => by
  have ih := countP_or p q l
  simp only [List.countP_cons]
  cases p a <;> cases q a <;> simp <;> omega
theorem count_span (s : Span) (h0 : 0 ≤ s.lo) (h1 : s.lo ≤ s.hi + 1) : ∀ n : Nat, ((List.range n).countP (fun x : Nat => decide (s.lo ≤ x) && decide ((x : Int) ≤ s.hi)) : Int) = min (n : Int) (s.hi + 1) - min (n : Int) s.lo
 | 0 => by simp; omega
 | n + 1 => by
  have ih := count_span s h0 h1 n
  rw [List.range_succ, List.countP_append]
  simp only [List.countP_cons, List.countP_nil, Nat.zero_add]
  by_cases h2 : s.lo ≤ n <;> by_cases h3 : (n : Int) ≤ s.hi
  all_goals simp only [h2, h3, decide_true, decide_false, Bool.and_true, Bool.and_false, Bool.true_and, Bool.false_and, if_true, if_false, Bool.false_eq_true]
  all_goals omega
theorem size_count : ∀ {l : List Span}, Canon l → (∀ s ∈ l, 0 ≤ s.lo ∧ s.hi ≤ 1114111) → sizeF l = (cntB (hasB l) : Int)
 | [], _, _ => by
  have : cntB (hasB []) = 0 := by
   unfold cntB
   rw [List.countP_eq_zero]
   intro x _
   simp [hasB]
  rw [this]; rfl
 | a :: l, hc, hr => by
  have ih := size_count (canon_tail hc) fun s hs => hr s (by simp [hs])
  have ha := hr a (by simp)
  have h1 := hc.2 a (by simp)
  have h2 := countP_or (fun x : Nat => decide (a.lo ≤ x) && decide ((x : Int) ≤ a.hi)) (hasB l) (List.range topN)
  have h3 : (List.range topN).countP (fun x : Nat => (decide (a.lo ≤ x) && decide ((x : Int) ≤ a.hi)) && hasB l x) = 0 := by
   rw [List.countP_eq_zero]
   intro x _ h
   simp only [Bool.and_eq_true, decide_eq_true_eq] at h
   have := canon_above hc (hasB_iff.1 h.2)
   omega
  have h4 := count_span a ha.1 (by omega) topN
  have h5 : cntB (hasB (a :: l)) = (List.range topN).countP (fun x : Nat => (decide (a.lo ≤ x) && decide ((x : Int) ≤ a.hi)) || hasB l x) := rfl
  rw [sizeF_cons, ih, h5]
  unfold cntB
  rw [h3] at h2
  have htop := topN_eq
  have e1 : min (topN : Int) (a.hi + 1) = a.hi + 1 := by omega
  have e2 : min (topN : Int) a.lo = a.lo := by omega
  rw [e1, e2] at h4
  generalize (List.range topN).countP (fun x : Nat => decide (a.lo ≤ x) && decide ((x : Int) ≤ a.hi)) = c1 at h2 h4
  generalize (List.range topN).countP (hasB l) = c2 at h2 ⊢
  generalize (List.range topN).countP (fun x : Nat => (decide (a.lo ≤ x) && decide ((x : Int) ≤ a.hi)) || hasB l x) = c3 at h2 ⊢
  omega
theorem norm_range {l : List Span} (h : normS l = l) : ∀ s ∈ l, 0 ≤ s.lo ∧ s.hi ≤ 1114111 := fun s hs => by
 have h1 := (norm_canon h).2 s hs
 have h2 := scal_iff.1 (norm_scal h ⟨s, hs, Int.le_refl _, h1⟩)
 have h3 := scal_iff.1 (norm_scal h ⟨s, hs, h1, Int.le_refl _⟩)
 omega
theorem size_norm {l : List Span} (h : normS l = l) : sizeF l = (cntB (hasB l) : Int) := size_count (norm_canon h) (norm_range h)
theorem sizeF_len {l : List Span} (h : ∀ s ∈ l, s.lo ≤ s.hi) : (l.length : Int) ≤ sizeF l := by
 induction l with
 | nil => simp [sizeF]
 | cons a l ih =>
  have h1 := ih fun s hs => h s (by simp [hs])
  have h2 := h a (by simp)
  rw [sizeF_cons, List.length_cons]
  omega
theorem norm_len_le {l : List Span} (h : normS l = l) : l.length ≤ 1114112 := by
 have h1 := size_norm h
 have h2 := sizeF_len (norm_canon h).2
 have h3 : cntB (hasB l) ≤ topN := by
  unfold cntB
  have := List.countP_le_length (p := hasB l) (l := List.range topN)
  rwa [List.length_range] at this
 have h4 := topN_eq
 omega
def catL (P : List (List Span)) : List Span := P.flatMap id
theorem inS_catL {P : List (List Span)} {x : Int} : inS (catL P) x ↔ ∃ p ∈ P, inS p x := by
 unfold catL inS
 constructor
 ·rintro ⟨s, hs, h⟩
  obtain ⟨p, hp, hsp⟩ := List.mem_flatMap.1 hs
  exact ⟨p, hp, s, hsp, h⟩
 ·rintro ⟨p, hp, s, hs, h⟩
  exact ⟨s, List.mem_flatMap.2 ⟨p, hp, hs⟩, h⟩
theorem inS_norm_catL {P : List (List Span)} (hn : ∀ p ∈ P, normS p = p) {x : Int} : inS (normS (catL P)) x ↔ ∃ p ∈ P, inS p x := by
 rw [inS_normS, inS_catL]
 constructor
 ·exact fun h => h.2
 ·rintro ⟨p, hp, h⟩
  exact ⟨norm_scal (hn p hp) h, p, hp, h⟩
def sizesF (P : List (List Span)) : Int := P.foldl (fun n p => n + sizeF p) 0
theorem sizesF_snoc (P : List (List Span)) (p : List Span) : sizesF (P ++ [p]) = sizesF P + sizeF p := by simp [sizesF]
def ApartP (P : List (List Span)) : Prop := ∀ i j, i < j → j < P.length → ∀ x, ¬ (inS (P.getD i []) x ∧ inS (P.getD j []) x)
theorem apart_snoc {P : List (List Span)} {p : List Span} : ApartP (P ++ [p]) ↔ ApartP P ∧ ∀ x, ¬ ((∃ q ∈ P, inS q x) ∧ inS p x) := by
 have g1 : ∀ {i}, i < P.length → (P ++ [p]).getD i [] = P.getD i [] := fun hi => by
  simp [List.getD_eq_getElem?_getD, List.getElem?_append_left hi]
 have g2 : (P ++ [p]).getD P.length [] = p := by simp [List.getD_eq_getElem?_getD]
 constructor
 ·intro h
  refine ⟨fun i j hij hj x hx => h i j hij (by simp; omega) x (by rw [g1 (by omega), g1 hj]; exact hx), fun x ⟨⟨q, hq, h1⟩, h2⟩ => ?_⟩
  obtain ⟨i, hi, rfl⟩ := List.getElem_of_mem hq
  refine h i P.length hi (by simp) x ⟨?_, by rw [g2]; exact h2⟩
  rw [g1 hi]
  simpa [List.getD_eq_getElem?_getD, hi] using h1
 ·rintro ⟨h1, h2⟩ i j hij hj x ⟨h3, h4⟩
  rw [List.length_append] at hj
  simp only [List.length_cons, List.length_nil] at hj
  by_cases hj2 : j < P.length
  ·rw [g1 (by omega)] at h3
   rw [g1 hj2] at h4
   exact h1 i j hij hj2 x ⟨h3, h4⟩
  ·have : j = P.length := by omega
   subst this
   rw [g2] at h4
   rw [g1 hij] at h3
   refine h2 x ⟨⟨P.getD i [], getD_in hij, h3⟩, h4⟩
theorem sizes_apart (P : List (List Span)) : (∀ p ∈ P, normS p = p) → sizeF (normS (catL P)) ≤ sizesF P ∧ (sizeF (normS (catL P)) = sizesF P ↔ ApartP P) := by
 refine snoc_ind (P := fun P => (∀ p ∈ P, normS p = p) → sizeF (normS (catL P)) ≤ sizesF P ∧ (sizeF (normS (catL P)) = sizesF P ↔ ApartP P)) ?_ ?_ P
 ·intro _
  have e : normS (catL []) = [] := (uniL_ok (l := []) (by simp)).1
  rw [e]
  exact ⟨Int.le_refl _, fun _ i j _ hj => by simp at hj, fun _ => rfl⟩
 ·intro P p ih hn
  have hnP : ∀ q ∈ P, normS q = q := fun q hq => hn q (by simp [hq])
  have hnp : normS p = p := hn p (by simp)
  obtain ⟨i1, i2⟩ := ih hnP
  have hU := size_norm (normS_norm (catL P))
  have hU2 := size_norm (normS_norm (catL (P ++ [p])))
  have hp := size_norm hnp
  have hco := countP_or (hasB (normS (catL P))) (hasB p) (List.range topN)
  have hor : (List.range topN).countP (fun x => hasB (normS (catL P)) x || hasB p x) = cntB (hasB (normS (catL (P ++ [p])))) := by
   unfold cntB
   congr 1
   funext x
   rw [Bool.eq_iff_iff, Bool.or_eq_true, hasB_iff, hasB_iff, hasB_iff, inS_norm_catL hnP, inS_norm_catL hn]
   constructor
   ·rintro (⟨q, hq, h⟩ | h)
    ·exact ⟨q, by simp [hq], h⟩
    ·exact ⟨p, by simp, h⟩
   ·rintro ⟨q, hq, h⟩
    rcases List.mem_append.1 hq with hq | hq
    ·exact .inl ⟨q, hq, h⟩
    ·simp at hq; subst hq; exact .inr h
  have h0 : (List.range topN).countP (fun x => hasB (normS (catL P)) x && hasB p x) = 0 ↔ ∀ x, ¬ ((∃ q ∈ P, inS q x) ∧ inS p x) := by
   rw [List.countP_eq_zero]
   constructor
   ·rintro h x ⟨⟨q, hq, h1⟩, h2⟩
    have hs := scal_iff.1 (norm_scal hnp h2)
    have hx : (x.toNat : Int) = x := by omega
    have htop := topN_eq
    refine h x.toNat (by rw [List.mem_range]; omega) ?_
    rw [Bool.and_eq_true, hasB_iff, hasB_iff, hx, inS_norm_catL hnP]
    exact ⟨⟨q, hq, h1⟩, h2⟩
   ·intro h x _ hb
    rw [Bool.and_eq_true, hasB_iff, hasB_iff, inS_norm_catL hnP] at hb
    exact h x hb
  rw [hor] at hco
  rw [sizesF_snoc, apart_snoc, ← h0, ← i2]
  rw [hU2, hp]
  rw [hU] at i1 i2 ⊢
  unfold cntB at *
  generalize (List.range topN).countP (fun x => hasB (normS (catL P)) x && hasB p x) = c1 at hco ⊢
  omega
end Go.Proofs.YtdldfflfbfpngaaGreatDoor
