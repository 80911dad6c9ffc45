/- Parts of sets, plainly: there is one row of classes, sorted by their least scalars. Parts of sets, plainly: by the words of their scalars. Where sets begin or have ended; words; which part: walked. -/
import Derived.Test.YtdldfflfbfpngaaGreatDoorF3
import Derived.Test.YtdldfflfbfpngaaGreatDoorCE
import Derived.Test.YtdldfflfbfpngaaGreatDoorA7
set_option linter.unusedVariables false
set_option linter.unusedSimpArgs false
namespace Go.Proofs.YtdldfflfbfpngaaGreatDoor
open Go
theorem inS_head {l : List Span} (hl : l ≠ []) (hc : Canon l) : inS l (loOf l) := by
 cases l with
 | nil => exact absurd rfl hl
 | cons a l => exact ⟨a, by simp, Int.le_refl _, hc.2 a (by simp)⟩
theorem loOf_least {l : List Span} (hc : Canon l) {x : Int} (hx : inS l x) : loOf l ≤ x := by
 obtain ⟨s, hs, h1, h2⟩ := hx
 cases l with
 | nil => cases hs
 | cons a l =>
  show a.lo ≤ x
  rcases List.mem_cons.1 hs with rfl | hs
  ·exact h1
  ·have h3 := List.rel_of_pairwise_cons hc.1 hs
   have h4 := hc.2 a (by simp)
   omega
theorem canon_norm {l : List Span} (h : normS l = l) : Canon l := by rw [← h]; exact (normS_ok l).1
def Ones (l P : List (Rw Span)) : Prop := ∀ q ∈ P, ∀ x y, inS q.l x → inS q.l y → SameU l x y
theorem Ones.some {l : List (Rw Span)} {P : Rw (Rw Span)} (h : Ones l P.l) {s : Rw Span} (hs : ∀ x y, inS s.l x → inS s.l y → SameU l x y) : Ones l (someR P s).l := by
 unfold someR
 split
 ·exact h
 ·intro q hq
  rcases List.mem_append.1 hq with hq | hq
  ·exact h q hq
  ·simp only [List.mem_singleton] at hq
   subst hq
   exact hs
theorem sameU_snoc {l : List (Rw Span)} {s : Rw Span} {x y : Int} (h : SameU l x y) (h2 : hasR s.l x = hasR s.l y) : SameU (l ++ [s]) x y := by
 intro t ht
 rcases List.mem_append.1 ht with ht | ht
 ·exact h t ht
 ·simp only [List.mem_singleton] at ht
  subst ht
  exact h2
theorem has_yes {s : List Span} {x : Int} (h1 : scal x = true) (h : inS s x) : hasR s x = true := (hasR_of h1).2 h
theorem has_no {s : List Span} {x : Int} (h : ¬ inS s x) : hasR s x = false := by
 cases e : hasR s x with
 | false => rfl
 | true => exact absurd (hasR_iff.1 e).2 h
theorem ones_inter {l : List (Rw Span)} {p s : Rw Span} (h : ∀ x y, inS p.l x → inS p.l y → SameU l x y) : ∀ x y, inS (interR p s).l x → inS (interR p s).l y → SameU (l ++ [s]) x y := fun x y hx hy => by
 obtain ⟨a1, a2, a3⟩ := inS_inter.1 hx
 obtain ⟨b1, b2, b3⟩ := inS_inter.1 hy
 exact sameU_snoc (h x y a2 b2) (by rw [has_yes a1 a3, has_yes b1 b3])
theorem ones_minus {l : List (Rw Span)} {p s : Rw Span} (h : ∀ x y, inS p.l x → inS p.l y → SameU l x y) : ∀ x y, inS (minusR p s).l x → inS (minusR p s).l y → SameU (l ++ [s]) x y := fun x y hx hy => by
 obtain ⟨a1, a2, a3⟩ := inS_minus.1 hx
 obtain ⟨b1, b2, b3⟩ := inS_minus.1 hy
 exact sameU_snoc (h x y a2 b2) (by rw [has_no a3, has_no b3])
theorem ones_split {l P : List (Rw Span)} (h : Ones l P) (s : Rw Span) : Ones (l ++ [s]) (splitR P s).l := by
 have key : ∀ (Q : List (Rw Span)) (out : Rw (Rw Span)), (∀ q ∈ Q, ∀ x y, inS q.l x → inS q.l y → SameU l x y) → Ones (l ++ [s]) out.l → Ones (l ++ [s]) (Q.foldl (splitA s) out).l := by
  intro Q
  induction Q with
  | nil => intro out _ ho; exact ho
  | cons q Q ih =>
   intro out hQ ho
   have hq := hQ q (by simp)
   exact ih _ (fun q2 h2 => hQ q2 (by simp [h2])) ((ho.some (ones_inter hq)).some (ones_minus hq))
 exact key P _ h (fun q hq => by cases hq)
theorem ones_ok (l : List (Rw Span)) : Ones l (foldA l).1.l := by
 have key : ∀ (m k : List (Rw Span)) (st : Rw (Rw Span) × Rw Span), Ones k st.1.l → (∀ x y, inS st.2.l x → inS st.2.l y → SameU k x y) → Ones (k ++ m) (m.foldl stepA st).1.l := by
  intro m
  induction m with
  | nil => intro k st h _; simpa using h
  | cons s m ih =>
   intro k st h hr
   have := ih (k ++ [s]) (stepA st s) ((ones_split h s).some (ones_inter hr)) (ones_minus hr)
   simpa using this
 simpa [foldA] using key l [] (⟨[], true⟩, all0) (fun q hq => by cases hq) (fun x y _ _ s hs => by cases hs)
structure Cls (l P : List (Rw Span)) : Prop where
 good : ∀ q ∈ P, q.l ≠ [] ∧ normS q.l = q.l
 same : ∀ q ∈ P, ∀ x y, scal x = true → scal y = true → SameU l x y → inS q.l x → inS q.l y
 one : Ones l P
 un : ∀ x, InU P x ↔ scal x = true ∧ ∃ s ∈ l, inS s.l x
def RisesP (P : List (List Span)) : Prop := P.Pairwise fun a b => loOf a < loOf b
theorem rises_ext : ∀ {P Q : List (List Span)}, RisesP P → RisesP Q → (∀ s, s ∈ P ↔ s ∈ Q) → P = Q
 | [], [], _, _, _ => rfl
 | [], q :: Q, _, _, h => by have := (h q).2 (by simp); cases this
 | p :: P, [], _, _, h => by have := (h p).1 (by simp); cases this
 | p :: P, q :: Q, hp, hq, h => by
  have h1 := List.pairwise_cons.1 hp
  have h2 := List.pairwise_cons.1 hq
  have e : p = q := by
   rcases List.mem_cons.1 ((h p).1 (by simp)) with e | e
   ·exact e
   ·rcases List.mem_cons.1 ((h q).2 (by simp)) with e2 | e2
    ·exact e2.symm
    ·have := h1.1 q e2
     have := h2.1 p e
     omega
  subst e
  congr 1
  refine rises_ext h1.2 h2.2 fun s => ⟨fun hs => ?_, fun hs => ?_⟩
  ·rcases List.mem_cons.1 ((h s).1 (by simp [hs])) with rfl | h3
   ·have := h1.1 s hs; omega
   ·exact h3
  ·rcases List.mem_cons.1 ((h s).2 (by simp [hs])) with rfl | h3
   ·have := h2.1 s hs; omega
   ·exact h3
theorem Cls.sub {l P Q : List (Rw Span)} (hP : Cls l P) (hQ : Cls l Q) {q : Rw Span} (hq : q ∈ P) : ∃ r ∈ Q, r.l = q.l := by
 obtain ⟨g1, g2⟩ := hP.good q hq
 have hx := inS_head g1 (canon_norm g2)
 have hsx := norm_scal g2 hx
 obtain ⟨r, hr, hrx⟩ := (hQ.un _).2 ((hP.un _).1 ⟨q, hq, hx⟩)
 obtain ⟨f1, f2⟩ := hQ.good r hr
 refine ⟨r, hr, canon_unique (canon_norm f2) (canon_norm g2) fun y => ⟨fun hy => ?_, fun hy => ?_⟩⟩
 ·exact hP.same q hq _ y hsx (norm_scal f2 hy) (hQ.one r hr _ y hrx hy) hx
 ·exact hQ.same r hr _ y hsx (norm_scal g2 hy) (hP.one q hq _ y hx hy) hrx
theorem Cls.unique {l P Q : List (Rw Span)} (hP : Cls l P) (hQ : Cls l Q) (rP : RisesP (P.map (·.l))) (rQ : RisesP (Q.map (·.l))) : P.map (·.l) = Q.map (·.l) := by
 refine rises_ext rP rQ fun s => ⟨fun hs => ?_, fun hs => ?_⟩
 ·obtain ⟨q, hq, rfl⟩ := List.mem_map.1 hs
  obtain ⟨r, hr, e⟩ := hP.sub hQ hq
  exact List.mem_map.2 ⟨r, hr, e⟩
 ·obtain ⟨q, hq, rfl⟩ := List.mem_map.1 hs
  obtain ⟨r, hr, e⟩ := hQ.sub hP hq
  exact List.mem_map.2 ⟨r, hr, e⟩
theorem ofR_cls (l : List (Rw Span)) : Cls l (ofR l).l := by
 have hp : (ofR l).l.Perm (foldA l).1.l := sortR_perm _
 have ha := atoms_ok l
 have hs := ha.ats.sub hp
 refine ⟨hs.good, fun q hq x y hx hy hxy => hs.same x y hx hy hxy q hq, fun q hq => ones_ok l q (hp.mem_iff.1 hq), fun x => ?_⟩
 rw [← ha.un x]
 exact ⟨fun ⟨q, hq, h⟩ => ⟨q, hp.mem_iff.1 hq, h⟩, fun ⟨q, hq, h⟩ => ⟨q, hp.mem_iff.2 hq, h⟩⟩
theorem insR_sorted {P : List (Rw Span)} {p : Rw Span} (h : P.Pairwise fun a b => loOf a.l ≤ loOf b.l) : (insR P p).Pairwise fun a b => loOf a.l ≤ loOf b.l := by
 unfold insR
 rw [List.pairwise_append]
 have hsplit : P.takeWhile (fun q => decide (loOf q.l < loOf p.l)) ++ P.dropWhile (fun q => decide (loOf q.l < loOf p.l)) = P := List.takeWhile_append_dropWhile
 have hall := h
 rw [← hsplit, List.pairwise_append] at hall
 obtain ⟨h1, h2, h3⟩ := hall
 have ht : ∀ q ∈ P.takeWhile (fun q => decide (loOf q.l < loOf p.l)), loOf q.l < loOf p.l := fun q hq => by
  have := List.all_eq_true.1 (List.all_takeWhile (p := fun q : Rw Span => decide (loOf q.l < loOf p.l)) (l := P)) q hq
  simpa using this
 have hd : ∀ q ∈ P.dropWhile (fun q => decide (loOf q.l < loOf p.l)), loOf p.l ≤ loOf q.l := by
  cases e : P.dropWhile (fun q => decide (loOf q.l < loOf p.l)) with
  | nil => intro q hq; cases hq
  | cons a D =>
   have ha : ¬ loOf a.l < loOf p.l := by
    have := List.head?_dropWhile_not (fun q : Rw Span => decide (loOf q.l < loOf p.l)) P
    rw [e] at this
    simpa using this
   rw [e] at h2
   have h4 := List.pairwise_cons.1 h2
   intro q hq
   rcases List.mem_cons.1 hq with rfl | hq
   ·omega
   ·have := h4.1 q hq
    omega
 refine ⟨h1, List.pairwise_cons.2 ⟨hd, h2⟩, fun a ha b hb => ?_⟩
 rcases List.mem_cons.1 hb with rfl | hb
 ·have := ht a ha; omega
 ·exact h3 a ha b hb
theorem sortR_sorted (l : List (Rw Span)) : (sortR l).Pairwise fun a b => loOf a.l ≤ loOf b.l := by
 have key : ∀ (m P : List (Rw Span)), (P.Pairwise fun a b => loOf a.l ≤ loOf b.l) → (m.foldl insR P).Pairwise fun a b => loOf a.l ≤ loOf b.l := by
  intro m
  induction m with
  | nil => intro P h; exact h
  | cons p m ih => intro P h; exact ih _ (insR_sorted h)
 exact key l [] .nil
theorem ofR_rises (l : List (Rw Span)) : RisesP ((ofR l).l.map (·.l)) := by
 have hp : (ofR l).l.Perm (foldA l).1.l := sortR_perm _
 have hs := (atoms_ok l).ats.sub hp
 unfold RisesP
 rw [List.pairwise_map]
 refine ((sortR_sorted (foldA l).1.l).and hs.apart).imp_of_mem fun {a b} ha hb h => ?_
 obtain ⟨h1, h2⟩ := h
 obtain ⟨g1, g2⟩ := hs.good a ha
 obtain ⟨f1, f2⟩ := hs.good b hb
 have hne : loOf a.l ≠ loOf b.l := fun e => h2 (loOf a.l) ⟨inS_head g1 (canon_norm g2), e ▸ inS_head f1 (canon_norm f2)⟩
 omega
end Go.Proofs.YtdldfflfbfpngaaGreatDoor
set_option linter.unusedVariables false
set_option linter.unusedSimpArgs false
namespace Go.Proofs.YtdldfflfbfpngaaGreatDoor
open Go
def normR (l : List (Rw Span)) : List (Rw Span) := l.map fun s => ⟨normS s.l, false⟩
def wordT (S : List (Rw Span)) (r : Int) : List UInt8 := if S.any (fun s => hasS s.l r) = true then S.map (fun s => if hasS s.l r = true then 1 else 0) else []
def stepT (S : List (Rw Span)) (st : List (List UInt8) × List (List Span)) (a b : Int) : List (List UInt8) × List (List Span) :=
 if wordT S a = [] then st
 else if wordT S a ∈ st.1 then (st.1, st.2.set (st.1.idxOf (wordT S a)) (st.2.getD (st.1.idxOf (wordT S a)) [] ++ [⟨a, b - 1⟩]))
 else (st.1 ++ [wordT S a], st.2 ++ [[⟨a, b - 1⟩]])
def runT (S : List (Rw Span)) (e : List Int) : Nat → List (List UInt8) × List (List Span)
 | 0 => ([], [])
 | i + 1 => stepT S (runT S e i) (e.getD i 0) (e.getD (i + 1) 0)
def partsT (S : List (Rw Span)) (e : List Int) : List (List Span) := (runT S e (e.length - 1)).2.map normS
structure EdgesOf (S : List (Rw Span)) (e : List Int) : Prop where
 norm : ∀ s ∈ S, normS s.l = s.l
 rises : e.Pairwise (· < ·)
 mem : ∀ x, x ∈ e ↔ ∃ s ∈ S, ∃ t ∈ s.l, x = t.lo ∨ x = t.hi + 1
theorem hasN {l : List Span} (h : normS l = l) {x : Int} : hasS l x = true ↔ inS l x := by
 rw [← hasR_hasS, hasR_iff]
 exact ⟨fun h => h.2, fun hx => ⟨norm_scal h hx, hx⟩⟩
theorem EdgesOf.lt {S : List (Rw Span)} {e : List Int} (h : EdgesOf S e) {i j : Nat} (hij : i < j) (hj : j < e.length) : e.getD i 0 < e.getD j 0 := by
 have := List.pairwise_iff_getElem.1 h.rises i j (by omega) hj hij
 simpa [List.getD_eq_getElem?_getD, List.getElem?_eq_getElem hj, List.getElem?_eq_getElem (show i < e.length by omega)] using this
theorem EdgesOf.at {S : List (Rw Span)} {e : List Int} (h : EdgesOf S e) {x : Int} (hx : x ∈ e) : ∃ j, j < e.length ∧ e.getD j 0 = x := by
 obtain ⟨j, hj, rfl⟩ := List.getElem_of_mem hx
 exact ⟨j, hj, by simp [List.getD_eq_getElem?_getD, hj]⟩
theorem EdgesOf.step {S : List (Rw Span)} {e : List Int} (h : EdgesOf S e) {i : Nat} (hi : i + 1 < e.length) {x z : Int} (hz : z ∈ e) (h1 : e.getD i 0 ≤ x) (h2 : x < e.getD (i + 1) 0) : z ≤ x ↔ z ≤ e.getD i 0 := by
 obtain ⟨j, hj, rfl⟩ := h.at hz
 constructor
 ·intro hzx
  by_cases hji : j ≤ i
  ·by_cases e1 : j = i
   ·subst e1; exact Int.le_refl _
   ·exact Int.le_of_lt (h.lt (by omega) (by omega))
  ·by_cases e1 : j = i + 1
   ·subst e1; omega
   ·have := h.lt (show i + 1 < j by omega) hj
    omega
 ·intro h3; omega
theorem wordT_const {S : List (Rw Span)} {e : List Int} (h : EdgesOf S e) {i : Nat} (hi : i + 1 < e.length) {x : Int} (h1 : e.getD i 0 ≤ x) (h2 : x < e.getD (i + 1) 0) : wordT S x = wordT S (e.getD i 0) := by
 have key : ∀ s ∈ S, hasS s.l x = hasS s.l (e.getD i 0) := fun s hs => by
  rw [Bool.eq_iff_iff, hasN (h.norm s hs), hasN (h.norm s hs)]
  unfold inS
  constructor
  ·rintro ⟨t, ht, a, b⟩
   have e1 := (h.step hi ((h.mem t.lo).2 ⟨s, hs, t, ht, .inl rfl⟩) h1 h2).1 a
   exact ⟨t, ht, e1, by omega⟩
  ·rintro ⟨t, ht, a, b⟩
   have e2 := h.step hi ((h.mem (t.hi + 1)).2 ⟨s, hs, t, ht, .inr rfl⟩) h1 h2
   refine ⟨t, ht, by omega, ?_⟩
   apply Classical.byContradiction
   intro h3
   have := e2.1 (by omega)
   omega
 unfold wordT
 have e1 : S.any (fun s => hasS s.l x) = S.any (fun s => hasS s.l (e.getD i 0)) := by
  rw [Bool.eq_iff_iff, List.any_eq_true, List.any_eq_true]
  exact ⟨fun ⟨s, hs, h⟩ => ⟨s, hs, (key s hs) ▸ h⟩, fun ⟨s, hs, h⟩ => ⟨s, hs, (key s hs).symm ▸ h⟩⟩
 rw [e1]
 split
 ·exact List.map_congr_left fun s hs => by rw [key s hs]
 ·rfl
theorem wordT_ne {S : List (Rw Span)} (hn : ∀ s ∈ S, normS s.l = s.l) {x : Int} : wordT S x ≠ [] ↔ ∃ s ∈ S, inS s.l x := by
 unfold wordT
 constructor
 ·intro h
  split at h
  ·rename_i h1
   obtain ⟨s, hs, h2⟩ := List.any_eq_true.1 h1
   exact ⟨s, hs, (hasN (hn s hs)).1 h2⟩
  ·exact absurd rfl h
 ·rintro ⟨s, hs, hx⟩
  rw [if_pos (List.any_eq_true.2 ⟨s, hs, (hasN (hn s hs)).2 hx⟩)]
  intro e
  rw [List.map_eq_nil_iff] at e
  subst e
  cases hs
theorem wordT_range {S : List (Rw Span)} {e : List Int} (h : EdgesOf S e) {x : Int} (hx : wordT S x ≠ []) : 1 ≤ e.length ∧ e.getD 0 0 ≤ x ∧ x < e.getD (e.length - 1) 0 := by
 obtain ⟨s, hs, t, ht, a, b⟩ := (wordT_ne h.norm).1 hx
 obtain ⟨j, hj, e1⟩ := h.at ((h.mem t.lo).2 ⟨s, hs, t, ht, .inl rfl⟩)
 obtain ⟨k, hk, e2⟩ := h.at ((h.mem (t.hi + 1)).2 ⟨s, hs, t, ht, .inr rfl⟩)
 refine ⟨by omega, ?_, ?_⟩
 ·by_cases e3 : j = 0
  ·subst e3; omega
  ·have := h.lt (show 0 < j by omega) hj
   omega
 ·by_cases e3 : k = e.length - 1
  ·subst e3; omega
  ·have := h.lt (show k < e.length - 1 by omega) (by omega)
   omega
structure InvT (S : List (Rw Span)) (e : List Int) (b : Int) (W : List (List UInt8)) (O : List (List Span)) : Prop where
 len : O.length = W.length
 ne : ∀ w ∈ W, w ≠ []
 nodup : W.Nodup
 mem : ∀ (k : Nat) (w : List UInt8) (o : List Span), W[k]? = some w → O[k]? = some o → o ≠ [] ∧ (∀ x, inS o x ↔ e.getD 0 0 ≤ x ∧ x < b ∧ wordT S x = w) ∧ inS o (loOf o) ∧ ∀ x, inS o x → loOf o ≤ x
 all : ∀ x, e.getD 0 0 ≤ x → x < b → wordT S x ≠ [] → wordT S x ∈ W
 rises : O.Pairwise fun a b => loOf a < loOf b
theorem inS_app {a b : List Span} {x : Int} : inS (a ++ b) x ↔ inS a x ∨ inS b x := by
 unfold inS
 constructor
 ·rintro ⟨s, hs, h⟩
  rcases List.mem_append.1 hs with hs | hs
  ·exact .inl ⟨s, hs, h⟩
  ·exact .inr ⟨s, hs, h⟩
 ·rintro (⟨s, hs, h⟩ | ⟨s, hs, h⟩)
  ·exact ⟨s, List.mem_append.2 (.inl hs), h⟩
  ·exact ⟨s, List.mem_append.2 (.inr hs), h⟩
theorem inS_one {a b x : Int} : inS [⟨a, b - 1⟩] x ↔ a ≤ x ∧ x < b := by
 simp only [inS, List.mem_singleton, exists_eq_left]
 omega
theorem loOf_app {a b : List Span} (h : a ≠ []) : loOf (a ++ b) = loOf a := by
 cases a with
 | nil => exact absurd rfl h
 | cons x a => rfl
theorem invT_ok {S : List (Rw Span)} {e : List Int} (h : EdgesOf S e) : ∀ i, i < e.length → InvT S e (e.getD i 0) (runT S e i).1 (runT S e i).2
 | 0, _ => ⟨rfl, by simp [runT], by simp [runT], by simp [runT], fun x h1 h2 => by omega, .nil⟩
 | i + 1, hi => by
  have ih := invT_ok h i (by omega)
  have hlt := h.lt (show i < i + 1 by omega) hi
  have h0i : e.getD 0 0 ≤ e.getD i 0 := by
   by_cases e0 : i = 0
   ·subst e0; exact Int.le_refl _
   ·exact Int.le_of_lt (h.lt (by omega) (by omega))
  have hc := fun {x : Int} (h1 : e.getD i 0 ≤ x) (h2 : x < e.getD (i + 1) 0) => wordT_const h hi h1 h2
  rw [runT]
  generalize runT S e i = st at ih
  obtain ⟨W, O⟩ := st
  simp only at ih
  unfold stepT
  simp only
  generalize e.getD i 0 = a at *
  generalize e.getD (i + 1) 0 = b at *
  have hcase : ∀ x, e.getD 0 0 ≤ x ∧ x < b ↔ (e.getD 0 0 ≤ x ∧ x < a) ∨ (a ≤ x ∧ x < b) := fun x => by omega
  by_cases hw0 : wordT S a = []
  ·rw [if_pos hw0]
   refine ⟨ih.len, ih.ne, ih.nodup, fun k w o hk ho => ?_, fun x h1 h2 h3 => ?_, ih.rises⟩
   ·obtain ⟨m1, m2, m3, m4⟩ := ih.mem k w o hk ho
    refine ⟨m1, fun x => ?_, m3, m4⟩
    rw [m2]
    have hwne := ih.ne w (List.mem_of_getElem? hk)
    constructor
    ·rintro ⟨p, q, r⟩; exact ⟨p, by omega, r⟩
    ·rintro ⟨p, q, r⟩
     refine ⟨p, ?_, r⟩
     apply Classical.byContradiction
     intro hn
     exact hwne (by rw [← r, hc (by omega) q, hw0])
   ·by_cases hxa : x < a
    ·exact ih.all x h1 hxa h3
    ·exact absurd (by rw [hc (by omega) h2, hw0]) h3
  ·rw [if_neg hw0]
   by_cases hmem : wordT S a ∈ W
   ·rw [if_pos hmem]
    have hkl : W.idxOf (wordT S a) < W.length := List.idxOf_lt_length_iff.2 hmem
    have hkw : W[W.idxOf (wordT S a)]? = some (wordT S a) := by
     rw [List.getElem?_eq_getElem hkl, List.getElem_idxOf hkl]
    generalize W.idxOf (wordT S a) = k0 at hkl hkw
    obtain ⟨o0, ho0⟩ := ex_get (l := O) (i := k0) (by rw [ih.len]; exact hkl)
    have hog : O.getD k0 [] = o0 := by simp [List.getD_eq_getElem?_getD, ho0]
    rw [hog]
    obtain ⟨m1, m2, m3, m4⟩ := ih.mem k0 _ o0 hkw ho0
    have hlo : loOf (o0 ++ [⟨a, b - 1⟩]) = loOf o0 := loOf_app m1
    have hloa : loOf o0 < a := ((m2 _).1 m3).2.1
    refine ⟨by simp [ih.len], ih.ne, ih.nodup, fun k w o hk ho => ?_, fun x h1 h2 h3 => ?_, ?_⟩
    ·by_cases hkk : k = k0
     ·subst hkk
      rw [List.getElem?_set_self (lt_of_getElem? ho0)] at ho
      injection ho with ho
      subst ho
      rw [hkw] at hk
      injection hk with hk
      subst hk
      refine ⟨by simp, fun x => ?_, by rw [hlo]; exact inS_app.2 (.inl m3), fun x hx => ?_⟩
      ·rw [inS_app, m2, inS_one]
       constructor
       ·rintro (⟨p, q, r⟩ | ⟨p, q⟩)
        ·exact ⟨p, by omega, r⟩
        ·exact ⟨by omega, q, hc p q⟩
       ·rintro ⟨p, q, r⟩
        by_cases hxa : x < a
        ·exact .inl ⟨p, hxa, r⟩
        ·exact .inr ⟨by omega, q⟩
      ·rw [hlo]
       rcases inS_app.1 hx with hx | hx
       ·exact m4 x hx
       ·have := (inS_one.1 hx).1
        omega
     ·rw [List.getElem?_set_ne (Ne.symm hkk)] at ho
      obtain ⟨n1, n2, n3, n4⟩ := ih.mem k w o hk ho
      refine ⟨n1, fun x => ?_, n3, n4⟩
      rw [n2]
      constructor
      ·rintro ⟨p, q, r⟩; exact ⟨p, by omega, r⟩
      ·rintro ⟨p, q, r⟩
       refine ⟨p, ?_, r⟩
       apply Classical.byContradiction
       intro hn
       have e1 : w = wordT S a := by rw [← r, hc (by omega) q]
       have h1 := lt_of_getElem? hk
       have h2 := List.pairwise_iff_getElem.1 ih.nodup
       have g1 : W[k] = w := (List.getElem?_eq_some_iff.1 hk).2
       have g2 : W[k0] = wordT S a := (List.getElem?_eq_some_iff.1 hkw).2
       rcases Nat.lt_or_gt_of_ne hkk with h3 | h3
       ·exact h2 k k0 h1 hkl h3 (by rw [g1, g2, e1])
       ·exact h2 k0 k hkl h1 h3 (by rw [g1, g2, e1])
    ·by_cases hxa : x < a
     ·exact ih.all x h1 hxa h3
     ·rw [hc (by omega) h2]; exact hmem
    ·rw [List.pairwise_iff_getElem]
     intro p q hp hq hpq
     rw [List.length_set] at hp hq
     have hr := List.pairwise_iff_getElem.1 ih.rises p q hp hq hpq
     have hgo : ∀ r (hr : r < (O.set k0 (o0 ++ [⟨a, b - 1⟩])).length), loOf (O.set k0 (o0 ++ [⟨a, b - 1⟩]))[r] = loOf (O[r]'(by rw [List.length_set] at hr; exact hr)) := fun r hr => by
      rw [List.getElem_set]
      split
      ·rename_i e1
       subst e1
       rw [hlo, (List.getElem?_eq_some_iff.1 ho0).2]
      ·rfl
     rw [hgo, hgo]
     exact hr
   ·rw [if_neg hmem]
    refine ⟨by simp [ih.len], fun w hw => ?_, ?_, fun k w o hk ho => ?_, fun x h1 h2 h3 => ?_, ?_⟩
    ·rcases List.mem_append.1 hw with hw | hw
     ·exact ih.ne w hw
     ·simp only [List.mem_singleton] at hw; subst hw; exact hw0
    ·rw [List.nodup_append]
     exact ⟨ih.nodup, by simp, fun x hx y hy => by simp only [List.mem_singleton] at hy; subst hy; rintro rfl; exact hmem hx⟩
    ·by_cases hkl : k < W.length
     ·rw [List.getElem?_append_left hkl] at hk
      rw [List.getElem?_append_left (by rw [ih.len]; exact hkl)] at ho
      obtain ⟨n1, n2, n3, n4⟩ := ih.mem k w o hk ho
      refine ⟨n1, fun x => ?_, n3, n4⟩
      rw [n2]
      constructor
      ·rintro ⟨p, q, r⟩; exact ⟨p, by omega, r⟩
      ·rintro ⟨p, q, r⟩
       refine ⟨p, ?_, r⟩
       apply Classical.byContradiction
       intro hn
       exact hmem (by rw [← hc (by omega) q, r]; exact List.mem_of_getElem? hk)
     ·have hk2 := lt_of_getElem? hk
      simp only [List.length_append, List.length_singleton] at hk2
      have hk3 : k = W.length := by omega
      subst hk3
      rw [List.getElem?_append_right (Nat.le_refl _), Nat.sub_self, List.getElem?_cons_zero] at hk
      rw [List.getElem?_append_right (by rw [ih.len]; exact Nat.le_refl _), ih.len, Nat.sub_self, List.getElem?_cons_zero] at ho
      injection hk with hk
      injection ho with ho
      subst hk ho
      refine ⟨by simp, fun x => ?_, inS_one.2 ⟨Int.le_refl _, hlt⟩, fun x hx => (inS_one.1 hx).1⟩
      rw [inS_one]
      constructor
      ·rintro ⟨p, q⟩
       exact ⟨by omega, q, hc p q⟩
      ·rintro ⟨p, q, r⟩
       refine ⟨?_, q⟩
       apply Classical.byContradiction
       intro hn
       exact hmem (by rw [← r]; exact ih.all x p (by omega) (by rw [r]; exact hw0))
    ·by_cases hxa : x < a
     ·exact List.mem_append.2 (.inl (ih.all x h1 hxa h3))
     ·rw [hc (by omega) h2]; simp
    ·rw [List.pairwise_append]
     refine ⟨ih.rises, List.pairwise_singleton _ _, fun o ho q hq => ?_⟩
     simp only [List.mem_singleton] at hq
     subst hq
     obtain ⟨k, hk, rfl⟩ := List.getElem_of_mem ho
     have hkW : k < W.length := by rw [← ih.len]; exact hk
     obtain ⟨n1, n2, n3, n4⟩ := ih.mem k _ _ (List.getElem?_eq_getElem hkW) (List.getElem?_eq_getElem hk)
     exact ((n2 _).1 n3).2.1
theorem wordT_norm (l : List (Rw Span)) (x : Int) : wordT (normR l) x = if l.any (fun s => hasR s.l x) = true then l.map (fun s => if hasR s.l x = true then (1 : UInt8) else 0) else [] := by
 have key : ∀ s : Rw Span, hasS (normS s.l) x = hasR s.l x := fun s => by
  rw [Bool.eq_iff_iff, hasN (normS_norm s.l), hasR_iff]
  exact inS_normS
 unfold wordT normR
 rw [List.any_map, List.map_map]
 simp only [Function.comp_def, key]
theorem sameU_word {l : List (Rw Span)} {x y : Int} (h : SameU l x y) : wordT (normR l) x = wordT (normR l) y := by
 rw [wordT_norm, wordT_norm]
 have e1 : l.any (fun s => hasR s.l x) = l.any (fun s => hasR s.l y) := by
  rw [Bool.eq_iff_iff, List.any_eq_true, List.any_eq_true]
  exact ⟨fun ⟨s, hs, h2⟩ => ⟨s, hs, (h s hs) ▸ h2⟩, fun ⟨s, hs, h2⟩ => ⟨s, hs, (h s hs).symm ▸ h2⟩⟩
 rw [e1]
 split
 ·exact List.map_congr_left fun s hs => by rw [h s hs]
 ·rfl
theorem word_sameU {l : List (Rw Span)} {x y : Int} (hx : wordT (normR l) x ≠ []) (h : wordT (normR l) x = wordT (normR l) y) : SameU l x y := by
 have hy : wordT (normR l) y ≠ [] := h ▸ hx
 rw [wordT_norm] at h hx
 rw [wordT_norm] at h hy
 split at hx
 ·rename_i h1
  split at hy
  ·rename_i h2
   rw [if_pos h1, if_pos h2] at h
   intro s hs
   obtain ⟨k, hk, rfl⟩ := List.getElem_of_mem hs
   have e := congrArg (fun m => m[k]?) h
   simp only [List.getElem?_map, List.getElem?_eq_getElem hk, Option.map_some, Option.some.injEq] at e
   cases e1 : hasR l[k].l x <;> cases e2 : hasR l[k].l y <;> simp [e1, e2] at e ⊢
  ·exact absurd rfl hy
 ·exact absurd rfl hx
theorem normR_norm (l : List (Rw Span)) : ∀ s ∈ normR l, normS s.l = s.l := fun s hs => by
 obtain ⟨t, ht, rfl⟩ := List.mem_map.1 hs
 exact normS_norm t.l
theorem partsT_ok {l : List (Rw Span)} {e : List Int} (h : EdgesOf (normR l) e) : partsT (normR l) e = (ofR l).l.map (·.l) := by
 have hword : ∀ x, wordT (normR l) x ≠ [] ↔ scal x = true ∧ ∃ s ∈ l, inS s.l x := fun x => by
  rw [wordT_ne (normR_norm l)]
  constructor
  ·rintro ⟨s, hs, hx⟩
   obtain ⟨t, ht, rfl⟩ := List.mem_map.1 hs
   have := inS_normS.1 hx
   exact ⟨this.1, t, ht, this.2⟩
  ·rintro ⟨hx, t, ht, h2⟩
   exact ⟨_, List.mem_map.2 ⟨t, ht, rfl⟩, inS_normS.2 ⟨hx, h2⟩⟩
 by_cases he : e.length = 0
 ·have h0 : partsT (normR l) e = [] := by simp [partsT, he, runT]
  have hno : ∀ s ∈ l, ∀ x, scal x = true → ¬ inS s.l x := fun s hs x hx h2 => by
   have := (wordT_range h ((hword x).2 ⟨hx, s, hs, h2⟩)).1
   omega
  have hc := ofR_cls l
  rw [h0]
  cases eq : (ofR l).l with
  | nil => rfl
  | cons q Q =>
   have hq : q ∈ (ofR l).l := by rw [eq]; simp
   obtain ⟨g1, g2⟩ := hc.good q hq
   obtain ⟨hx, s, hs, h2⟩ := (hc.un _).1 ⟨q, hq, inS_head g1 (canon_norm g2)⟩
   exact absurd h2 (hno s hs _ hx)
 ·have hI := invT_ok h (e.length - 1) (by omega)
  have hrange := fun {x : Int} (hx : wordT (normR l) x ≠ []) => wordT_range h hx
  unfold partsT
  generalize runT (normR l) e (e.length - 1) = st at hI
  obtain ⟨W, O⟩ := st
  simp only at hI ⊢
  have hO : ∀ o ∈ O, ∃ w ∈ W, (∀ x, inS (normS o) x ↔ wordT (normR l) x = w) ∧ inS o (loOf o) ∧ (∀ x, inS o x → loOf o ≤ x) ∧ ∀ x, inS o x ↔ inS (normS o) x := fun o ho => by
   obtain ⟨k, hk, rfl⟩ := List.getElem_of_mem ho
   have hkW : k < W.length := by rw [← hI.len]; exact hk
   obtain ⟨n1, n2, n3, n4⟩ := hI.mem k _ _ (List.getElem?_eq_getElem hkW) (List.getElem?_eq_getElem hk)
   have hne := hI.ne _ (List.getElem_mem hkW)
   have hiff : ∀ x, inS O[k] x ↔ wordT (normR l) x = W[k] := fun x => by
    rw [n2]
    constructor
    ·exact fun h => h.2.2
    ·intro hw
     have := hrange (x := x) (by rw [hw]; exact hne)
     exact ⟨this.2.1, this.2.2, hw⟩
   have hs : ∀ x, inS O[k] x → scal x = true := fun x hx => ((hword x).1 (by rw [(hiff x).1 hx]; exact hne)).1
   refine ⟨W[k], List.getElem_mem hkW, fun x => ?_, n3, n4, fun x => ?_⟩
   ·rw [inS_normS, ← hiff]
    exact ⟨fun h => h.2, fun h => ⟨hs x h, h⟩⟩
   ·rw [inS_normS]
    exact ⟨fun h => ⟨hs x h, h⟩, fun h => h.2⟩
  have hlo : ∀ o ∈ O, normS o ≠ [] ∧ loOf (normS o) = loOf o := fun o ho => by
   obtain ⟨w, hw, h1, h2, h3, h4⟩ := hO o ho
   have h5 := (h4 _).1 h2
   have hne : normS o ≠ [] := fun e => by rw [e] at h5; obtain ⟨s, hs, _⟩ := h5; cases hs
   have h6 := loOf_least (canon_norm (normS_norm o)) h5
   have h7 := h3 _ ((h4 _).2 (inS_head hne (canon_norm (normS_norm o))))
   exact ⟨hne, by omega⟩
  have hC : Cls l (O.map fun o => ⟨normS o, false⟩) := by
   refine ⟨fun q hq => ?_, fun q hq x y hx hy hxy hi => ?_, fun q hq x y hx hy => ?_, fun x => ?_⟩
   ·obtain ⟨o, ho, rfl⟩ := List.mem_map.1 hq
    exact ⟨(hlo o ho).1, normS_norm o⟩
   ·obtain ⟨o, ho, rfl⟩ := List.mem_map.1 hq
    obtain ⟨w, hw, h1, _⟩ := hO o ho
    exact (h1 y).2 (by rw [← sameU_word hxy]; exact (h1 x).1 hi)
   ·obtain ⟨o, ho, rfl⟩ := List.mem_map.1 hq
    obtain ⟨w, hw, h1, _⟩ := hO o ho
    have e1 := (h1 x).1 hx
    exact word_sameU (by rw [e1]; exact hI.ne w hw) (by rw [e1, (h1 y).1 hy])
   ·rw [← hword]
    constructor
    ·rintro ⟨q, hq, hi⟩
     obtain ⟨o, ho, rfl⟩ := List.mem_map.1 hq
     obtain ⟨w, hw, h1, _⟩ := hO o ho
     rw [(h1 x).1 hi]
     exact hI.ne w hw
    ·intro hx
     have hr := hrange hx
     have hm := hI.all x hr.2.1 hr.2.2 hx
     obtain ⟨k, hk, hkw⟩ := List.getElem_of_mem hm
     have hkO : k < O.length := by rw [hI.len]; exact hk
     obtain ⟨n1, n2, n3, n4⟩ := hI.mem k _ _ (List.getElem?_eq_getElem hk) (List.getElem?_eq_getElem hkO)
     refine ⟨⟨normS O[k], false⟩, List.mem_map.2 ⟨O[k], List.getElem_mem hkO, rfl⟩, ?_⟩
     obtain ⟨w, hw, _, _, _, h4⟩ := hO O[k] (List.getElem_mem hkO)
     exact (h4 x).1 ((n2 x).2 ⟨hr.2.1, hr.2.2, hkw.symm⟩)
  have hR : RisesP ((O.map fun o => (⟨normS o, false⟩ : Rw Span)).map (·.l)) := by
   unfold RisesP
   rw [List.map_map, List.pairwise_map]
   refine hI.rises.imp_of_mem fun {a b} ha hb hab => ?_
   show loOf (normS a) < loOf (normS b)
   rw [(hlo a ha).2, (hlo b hb).2]
   exact hab
  have := hC.unique (ofR_cls l) hR (ofR_rises l)
  rw [← this, List.map_map]
  rfl
end Go.Proofs.YtdldfflfbfpngaaGreatDoor
set_option linter.unusedVariables false
set_option linter.unusedSimpArgs false
namespace Go.Proofs.YtdldfflfbfpngaaGreatDoor
open Go
set_option maxHeartbeats 4000000
def boundT (l : List Span) : List Int := l.flatMap fun t => [t.lo, t.hi + 1]
def boundS (S : List (Rw Span)) : List Int := S.flatMap fun s => boundT s.l
def cntE (L : List Int) : List (AV × AV) := (firsts L).map fun x => (AV.int .i64 x, AV.int .i64 (L.count x : Nat))
def edgeE (S : List (Rw Span)) : List Int := (firsts (boundS S)).mergeSort (fun x y => decide (x ≤ y))
theorem alook_tab (f : Int → AV) (x : Int) : ∀ l : List Int, alook (l.map fun y => (AV.int .i64 y, f y)) (.int .i64 x) = if x ∈ l then some (f x) else none
 | [] => by simp [alook]
 | y :: l => by
  rw [List.map_cons, alook, alook_tab f x l]
  by_cases e : y = x
  ·subst e; simp
  ·have h1 : ¬ AV.int .i64 y = AV.int .i64 x := fun h => e (by injection h)
   simp only [h1, if_false, List.mem_cons]
   have h2 : ¬ x = y := fun h => e h.symm
   simp [h2]
theorem aput_tab (f : Int → AV) (x : Int) (v : AV) : ∀ l : List Int, l.Nodup → aput (l.map fun y => (AV.int .i64 y, f y)) (.int .i64 x) v = if x ∈ l then l.map fun y => (AV.int .i64 y, if y = x then v else f y) else (l.map fun y => (AV.int .i64 y, f y)) ++ [(.int .i64 x, v)]
 | [], _ => by simp [aput]
 | y :: l, hn => by
  obtain ⟨hy, hn2⟩ := List.nodup_cons.1 hn
  rw [List.map_cons, aput, aput_tab f x v l hn2]
  by_cases e : y = x
  ·subst e
   simp only [if_true, List.mem_cons, true_or, List.map_cons]
   congr 1
   refine List.map_congr_left fun z hz => ?_
   have : ¬ z = y := fun h => hy (h ▸ hz)
   simp [this]
  ·have h1 : ¬ AV.int .i64 y = AV.int .i64 x := fun h => e (by injection h)
   have h2 : ¬ x = y := fun h => e h.symm
   simp only [h1, if_false, List.mem_cons, h2, false_or]
   by_cases hx : x ∈ l
   ·simp only [hx, if_true, List.map_cons, e, if_false]
   ·simp only [hx, if_false, List.map_cons, List.cons_append]
theorem alook_cnt (L : List Int) (x : Int) : (alook (cntE L) (.int .i64 x)).getD (.int .i64 0) = .int .i64 (L.count x : Nat) := by
 rw [cntE, alook_tab]
 split
 ·rfl
 ·rename_i h
  have : L.count x = 0 := List.count_eq_zero.2 fun hx => h (mem_firsts.2 hx)
  simp [this]
theorem firsts_nodup' (L : List Int) : (firsts L).Nodup := by
 refine snoc_ind (P := fun L : List Int => (firsts L).Nodup) List.nodup_nil (fun l x ih => ?_) L
 rw [firsts_snoc]
 exact nodup_addNew ih
theorem aput_cnt (L : List Int) (x : Int) : aput (cntE L) (.int .i64 x) (.int .i64 ((L.count x : Nat) + 1)) = cntE (L ++ [x]) := by
 rw [cntE, aput_tab _ _ _ _ (firsts_nodup' L)]
 unfold cntE
 by_cases hx : x ∈ L
 ·rw [if_pos (mem_firsts.2 hx), firsts_in hx]
  refine List.map_congr_left fun y hy => ?_
  congr 1
  by_cases e : y = x
  ·subst e
   simp [List.count_append]
  ·have e2 : ¬ x = y := fun h => e h.symm
   simp [List.count_append, e, e2, List.count_cons]
 ·rw [if_neg (fun h => hx (mem_firsts.1 h)), firsts_out hx, List.map_append]
  have hc : L.count x = 0 := List.count_eq_zero.2 hx
  congr 1
  ·refine List.map_congr_left fun y hy => ?_
   have e2 : ¬ x = y := fun h => hx (h ▸ mem_firsts.1 hy)
   simp [List.count_append, e2, List.count_cons]
  ·simp [List.count_append, hc]
theorem keyInts_cnt (L : List Int) : keyInts (cntE L) = firsts L := by
 unfold keyInts cntE
 rw [List.map_map]
 exact List.map_id _
theorem boundT_snoc {l : List Span} {j : Nat} {t : Span} (h : l[j]? = some t) : boundT (l.take (j + 1)) = boundT (l.take j) ++ [t.lo] ++ [t.hi + 1] := by
 unfold boundT
 rw [take_snoc h, List.flatMap_append]
 simp
theorem boundS_snoc {S : List (Rw Span)} {i : Nat} {s : Rw Span} (h : S[i]? = some s) : boundS (S.take (i + 1)) = boundS (S.take i) ++ boundT s.l := by
 unfold boundS
 rw [take_snoc h, List.flatMap_append]
 simp
theorem boundT_length (l : List Span) : (boundT l).length = 2 * l.length := by
 induction l with
 | nil => rfl
 | cons t l ih =>
  have e : boundT (t :: l) = [t.lo, t.hi + 1] ++ boundT l := rfl
  rw [e, List.length_append, ih, List.length_cons]
  simp
  omega
theorem boundS_length (S : List (Rw Span)) : (boundS S).length = 2 * (catS S).length := by
 induction S with
 | nil => rfl
 | cons s S ih =>
  have e : boundS (s :: S) = boundT s.l ++ boundS S := rfl
  have e2 : catS (s :: S) = s.l ++ catS S := rfl
  rw [e, e2, List.length_append, List.length_append, ih, boundT_length]
  omega
theorem boundS_mem {S : List (Rw Span)} {x : Int} : x ∈ boundS S ↔ ∃ s ∈ S, ∃ t ∈ s.l, x = t.lo ∨ x = t.hi + 1 := by
 simp only [boundS, boundT, List.mem_flatMap, List.mem_cons, List.not_mem_nil, or_false]
theorem edgeE_ok {S : List (Rw Span)} (hn : ∀ s ∈ S, normS s.l = s.l) : EdgesOf S (edgeE S) := by
 refine ⟨hn, ?_, fun x => ?_⟩
 ·have h1 := List.pairwise_mergeSort (le := fun a b : Int => decide (a ≤ b)) (fun a b c h1 h2 => by simp at *; omega) (fun a b => by simp; omega) (firsts (boundS S))
  have h2 : (edgeE S).Nodup := (List.mergeSort_perm _ _).nodup_iff.2 (firsts_nodup' _)
  have h3 := h1.and h2
  refine h3.imp fun {a b} h => ?_
  have h4 := h.1
  simp at h4
  have := h.2
  omega
 ·rw [← boundS_mem, edgeE, (List.mergeSort_perm _ _).mem_iff, mem_firsts]
structure KeyLib (Φ : Lib) : Prop where
 sorted : Φ 201 = some (.ext (extSortedKeys 212))
attribute [local irreducible] wops xcode wcode seqK blockK loopK finK wcall wop wstp Runs
theorem keys_run {Φ : Lib} (L5 : LibC5 Φ) {h : Heap} {im : Nat} : Runs Φ 202 [.map im] h (fun v h' => ∃ io, v = .fn 212 [.ptr io 0 0] ∧ h.get io = none ∧ h' = h.set io (.cells 0 [.map im])) := by
 refine runs_of (fun _ => false) rfl L5.f202 ?_
 repeat' first | (refine gx ?_; first | refine sx_seq ?_ | refine sx_ops rfl ?_)
 refine st_box (v := AV.map im) rfl rfl ?_
 intro id hid
 repeat' first | refine st_nil ?_ | (refine gw ?_; first | (refine gq0 ?_; first | refine st_mv (v := AV.fn _ _) rfl ?_ | refine st_mv (v := AV.nilf) rfl ?_) | refine st_mkfn (vs := [AV.ptr _ _ _]) rfl rfl ?_) | (refine gx ?_; first | refine sx_seq ?_ | refine sx_ops rfl ?_ | refine sx_ret ?_) | refine sk_norm ?_
 exact fin_ret (v := .fn 212 [.ptr id 0 0]) rfl ⟨id, rfl, hid, rfl⟩
theorem tedges_ok {Φ : Lib} (L5 : LibC5 Φ) (K : KeyLib Φ) (S : List (Rw Span)) (fl : Bool) (hS : S.length ≤ 1048576) (hc : (catS S).length ≤ 1048576) (hr : ∀ s ∈ S, ∀ t ∈ s.l, 0 ≤ t.lo ∧ t.lo ≤ t.hi ∧ t.hi ≤ 1114111) : Pure Φ 182 [.rd S.length (S.map Rw.sv) fl] (rowI (edgeE S)) := by
 refine runs_of (fun _ => false) rfl L5.f182 ?_
 repeat' first | refine st_nil ?_ | (refine gw ?_; first | (refine gq0 ?_; first | refine st_mv (v := AV.int _ _) rfl ?_ | refine st_mv (v := AV.rd _ _ _) rfl ?_ | refine st_mv (v := AV.map _) rfl ?_) | refine st_len_rd rfl ?_ | (refine st_mkmap ?_; intro id hid; try simp only [Heap.set_none] at hid)) | (refine gx ?_; first | refine sx_seq ?_ | refine sx_ops rfl ?_ | refine sx_block ?_) | refine sk_norm ?_
 obtain ⟨im, rfl⟩ : ∃ x, x = id := ⟨_, rfl⟩
 refine sx_for S.length (fun i env h' => h'.get im = some (.map (some .i64) (cntE (boundS (S.take i)))) ∧ env.has [(3, .map im), (9, .rd S.length (S.map Rw.sv) fl), (10, .int .i64 S.length), (11, .int .i64 i)]) ⟨Heap.get_set_self _ _ _, hh_⟩ ?_
 rintro i env h' hi ⟨hm, he⟩
 obtain ⟨env, rfl⟩ := he.ex
 clear he
 by_cases hi2 : i < S.length
 ·obtain ⟨s, hs⟩ := ex_get hi2
  have hsr := hr s (List.mem_of_getElem? hs)
  have hsn := boundS_snoc hs
  have hle : (boundS (S.take (i + 1))).length ≤ 2097152 := by
   have h1 := catS_take_le S (i + 1)
   rw [boundS_length]
   omega
  rw [hsn, List.length_append, boundT_length] at hle
  repeat' first | refine st_nil ?_ | (refine gw ?_; first | (refine gq0 ?_; first | refine st_mv (v := AV.int _ _) rfl ?_ | refine st_mv (v := AV.rd _ _ _) rfl ?_) | refine st_load_r rfl b_ pv_ ?_ | (refine st_lss rfl rfl rfl ?_ ?_ <;> (intro hc; try (exfalso; omega))) | refine st_index_map' rfl rfl hs (by omega) rfl ?_ | refine st_len_rd rfl ?_) | (refine gx ?_; first | refine sx_seq ?_ | refine sx_ops rfl ?_ | refine sx_skip ?_ | refine sx_block ?_ | refine sx_cond_t rfl ?_) | refine sk_norm ?_
  refine sx_for s.l.length (fun j env h' => h'.get im = some (.map (some .i64) (cntE (boundS (S.take i) ++ boundT (s.l.take j)))) ∧ env.has [(3, .map im), (9, .rd S.length (S.map Rw.sv) fl), (10, .int .i64 S.length), (11, .int .i64 i), (15, s.sv), (16, .int .i64 s.l.length), (17, .int .i64 j)]) ⟨by simpa [boundT] using hm, hh_⟩ ?_
  clear hm
  rintro j env h' hj ⟨hm, he⟩
  obtain ⟨env, rfl⟩ := he.ex
  clear he
  by_cases hj2 : j < s.l.length
  ·obtain ⟨t, ht⟩ := ex_get hj2
   obtain ⟨t0, t1, t2⟩ := hsr t (List.mem_of_getElem? ht)
   have hbs := boundT_snoc ht
   have hbl : (boundT (s.l.take j)).length ≤ 2 * s.l.length := by
    rw [boundT_length, List.length_take]
    omega
   generalize hL : boundS (S.take i) ++ boundT (s.l.take j) = L at hm
   have hLl : L.length ≤ 2097152 := by rw [← hL, List.length_append]; omega
   have hc1 : L.count t.lo ≤ L.length := List.count_le_length
   have hc2 : (L ++ [t.lo]).count (t.hi + 1) ≤ (L ++ [t.lo]).length := List.count_le_length
   rw [List.length_append, List.length_singleton] at hc2
   repeat' first | refine st_nil ?_ | (refine gw ?_; first | refine st_mv (v := AV.map _) rfl ?_ | (refine gq2 ?_; first | refine st_load_ra rfl (by first | rfl | (simp [*]; done) | fail) ?_ | refine st_load_p rfl hg_ (by simp) b_ pv_ ?_) | (refine st_lss rfl rfl rfl ?_ ?_ <;> (intro hc; try (exfalso; omega))) | refine st_field_p rfl (Nat.zero_add _) ?_ | refine st_index_flat' rfl fl_ rfl ht (by omega) rfl ?_ | (refine st_alloc ?_; intro id hid; try simp only [Heap.set_none] at hid) | refine st_store_s (cs' := [AV.int _ _, AV.int _ _]) rfl rfl rfl rfl b_ rfl ?_) | (refine gx ?_; first | refine sx_seq ?_ | refine sx_ops rfl ?_ | refine sx_skip ?_ | refine sx_block ?_ | refine sx_cond_t rfl ?_) | refine sk_norm ?_
   have hne : im ≠ id := fun e => by rw [← e, hm] at hid; cases hid
   have hm2 : (h'.set id (.cells 0 [.int .i64 t.lo, .int .i64 t.hi])).get im = some (.map (some .i64) (cntE L)) := by rw [Heap.get_set_ne _ _ hne]; exact hm
   refine st_lookup (key := AV.int .i64 t.lo) rfl rfl rfl hm2 ?_
   rw [alook_cnt]
   repeat' first | refine st_add rfl rfl rfl (by omega) (by omega) ?_
   refine st_update (key := AV.int .i64 t.lo) (v := AV.int .i64 ((L.count t.lo : Nat) + 1)) rfl rfl rfl rfl rfl hm2 ?_
   rw [aput_cnt]
   repeat' first | refine st_nil ?_ | (refine gw ?_; first | refine st_mv (v := AV.map _) rfl ?_ | refine st_load_p rfl hg_ (by simp) b_ pv_ ?_ | refine st_add rfl rfl rfl (by omega) (by omega) ?_ | refine st_field_p rfl (Nat.zero_add _) ?_) | refine sx_ops rfl ?_ | refine sk_norm ?_
   refine st_lookup (key := AV.int .i64 (t.hi + 1)) rfl rfl rfl (Heap.get_set_self _ _ _) ?_
   rw [alook_cnt]
   repeat' first | refine st_add rfl rfl rfl (by omega) (by omega) ?_
   refine st_update (key := AV.int .i64 (t.hi + 1)) (v := AV.int .i64 (((L ++ [t.lo]).count (t.hi + 1) : Nat) + 1)) rfl rfl rfl rfl rfl (Heap.get_set_self _ _ _) ?_
   rw [aput_cnt]
   repeat' first | refine st_nil ?_ | (refine gw ?_; first | refine st_mv (v := AV.int _ _) rfl ?_ | refine st_add rfl rfl rfl (by omega) (by omega) ?_) | refine sx_ops rfl ?_ | refine sk_norm ?_ | refine bk_norm ?_
   refine lk_next hj2 ⟨?_, hh_⟩
   rw [Heap.get_set_self, hbs, ← List.append_assoc, ← List.append_assoc, hL]
  ·have hj3 : j = s.l.length := by omega
   subst hj3
   rw [List.take_of_length_le (Nat.le_refl _)] at hm
   repeat' first | refine st_nil ?_ | (refine gw ?_; first | refine st_mv (v := AV.int _ _) rfl ?_ | (refine gq3 ?_; first | refine st_add rfl rfl rfl (by omega) (by omega) ?_ | (refine st_lss rfl rfl rfl ?_ ?_ <;> (intro hc; try (exfalso; omega))))) | (refine gx ?_; first | refine sx_seq ?_ | refine sx_ops rfl ?_ | refine sx_exit ?_ | refine sx_cond_f rfl ?_) | refine sk_norm ?_ | refine sk_exit ?_ | refine bk_norm ?_ | refine bk_exit ?_ | refine lk_exit ?_
   refine lk_next hi2 ⟨?_, hh_⟩
   rw [hsn]
   exact hm
 ·have hi3 : i = S.length := by omega
  subst hi3
  rw [List.take_of_length_le (Nat.le_refl _)] at hm
  repeat' first | refine st_nil ?_ | (refine gw ?_; first | refine st_mv (v := AV.map _) rfl ?_ | (refine st_lss rfl rfl rfl ?_ ?_ <;> (intro hc; try (exfalso; omega))) | refine st_call rfl nt_ ?_) | (refine gx ?_; first | refine sx_seq ?_ | refine sx_ops rfl ?_ | refine sx_exit ?_ | refine sx_cond_f rfl ?_) | refine sk_norm ?_ | refine sk_exit ?_ | refine bk_exit ?_ | refine lk_exit ?_
  refine call_any (keys_run L5) ?_
  rintro _ h2 ⟨io, rfl, hio, rfl⟩
  have hne : im ≠ io := fun e => by rw [← e, hm] at hio; cases hio
  have hm2 : (h'.set io (.cells 0 [.map im])).get im = some (.map (some .i64) (cntE (boundS S))) := by rw [Heap.get_set_ne _ _ hne]; exact hm
  have hfl : (firsts (boundS S)).length ≤ 2097152 := by
   have h1 := firsts_length (boundS S)
   rw [boundS_length] at h1
   omega
  have hcl : (cntE (boundS S)).length = (firsts (boundS S)).length := by simp [cntE]
  have hEl : (edgeE S).length = (firsts (boundS S)).length := by simp [edgeE]
  have hkeys : ∀ p ∈ cntE (boundS S), ∃ x : Int, p.1 = .int .i64 x ∧ -9223372036854775808 ≤ x ∧ x ≤ 9223372036854775807 := fun p hp => by
   obtain ⟨x, hx, rfl⟩ := List.mem_map.1 hp
   obtain ⟨s, hs, t, ht, e⟩ := boundS_mem.1 (mem_firsts.1 hx)
   have := hr s hs t ht
   exact ⟨x, rfl, by omega, by omega⟩
  repeat' first | refine st_call rfl nt_ ?_
  refine call_any (Q' := fun v h' => IsRow h' v 1 (edgeE S).length ((edgeE S).map (.int .i64))) (Runs.ext rfl K.sorted ⟨rfl, rfl, rfl, im, [], cntE (boundS S), Heap.get_set_self _ _ _, hm2, hkeys, by omega, fun e => ?_, fun e idn hidn => ?_⟩) ?_
  ·have h0 : edgeE S = [] := List.eq_nil_of_length_eq_zero (by rw [hEl, ← hcl, e]; rfl)
   rw [h0]
   exact IsRow.nil _ _
  ·rw [keyInts_cnt]
   refine .inr ⟨idn, 1, by rw [hEl, ← hcl], Heap.get_set_self _ _ _, Nat.le_refl _, by simp⟩
  ·intro v h3 hv
   have hnt := hv.notTup
   repeat' first | refine st_nil ?_ | refine st_mv rv_ ?_ | refine sx_ret ?_ | refine sk_norm ?_
   exact fin_row rfl hv (fun _ => rfl)
end Go.Proofs.YtdldfflfbfpngaaGreatDoor
