/- Numbers by first places; tables. Least machines, plainly: kinds, what is come to, parts together. Least machines, plainly: parts, the least machine. Least machines, plainly: what the least machine is. -/
import Derived.Test.YtdldfflfbfpngaaGreatDoorA1
import Derived.Test.YtdldfflfbfpngaaGreatDoorD2
set_option linter.unusedVariables false
set_option linter.unusedSimpArgs false
namespace Go.Proofs.YtdldfflfbfpngaaGreatDoor
open Go
section
variable {β γ : Type} [DecidableEq β] [DecidableEq γ]
def addNew (acc : List β) (x : β) : List β := if x ∈ acc then acc else acc ++ [x]
def firsts (l : List β) : List β := l.foldl addNew []
def placeOf (l : List β) (x : β) : Nat := l.idxOf x
theorem firsts_snoc (l : List β) (x : β) : firsts (l ++ [x]) = addNew (firsts l) x := by simp [firsts]
theorem mem_addNew {acc : List β} {x y : β} : y ∈ addNew acc x ↔ y ∈ acc ∨ y = x := by
 unfold addNew
 split
 ·constructor
  ·exact .inl
  ·rintro (h | rfl)
   ·exact h
   ·assumption
 ·simp
theorem mem_foldl_addNew : ∀ {m acc : List β} {y : β}, y ∈ m.foldl addNew acc ↔ y ∈ acc ∨ y ∈ m
 | [], acc, y => by simp
 | x :: m, acc, y => by
  rw [List.foldl_cons, mem_foldl_addNew, mem_addNew]
  simp [or_assoc]
@[simp] theorem mem_firsts {l : List β} {y : β} : y ∈ firsts l ↔ y ∈ l := by
 simp [firsts, mem_foldl_addNew]
theorem nodup_addNew {acc : List β} {x : β} (h : acc.Nodup) : (addNew acc x).Nodup := by
 unfold addNew
 split
 ·exact h
 ·rename_i hx
  rw [List.nodup_append]
  refine ⟨h, by simp, ?_⟩
  intro a ha b hb e
  simp at hb
  subst hb e
  exact hx ha
theorem length_addNew (acc : List β) (x : β) : (addNew acc x).length ≤ acc.length + 1 := by
 unfold addNew
 split <;> simp
theorem firsts_length (l : List β) : (firsts l).length ≤ l.length := by
 have : ∀ (m acc : List β), (m.foldl addNew acc).length ≤ acc.length + m.length := by
  intro m
  induction m with
  | nil => intro acc; simp
  | cons x m ih =>
   intro acc
   have h1 := ih (addNew acc x)
   have h2 := length_addNew acc x
   rw [List.foldl_cons, List.length_cons]
   omega
 simpa [firsts] using this l []
theorem placeOf_map {f : β → γ} (hf : ∀ a b, f a = f b → a = b) (l : List β) (x : β) : placeOf (l.map f) (f x) = placeOf l x := by
 unfold placeOf
 induction l with
 | nil => rfl
 | cons y l ih =>
  rw [List.map_cons, List.idxOf_cons, List.idxOf_cons, ih]
  by_cases h : y = x
  ·subst h; simp
  ·have h2 : (f y == f x) = false := by simpa using fun e => h (hf _ _ e)
   have h1 : (y == x) = false := by simpa using h
   rw [h1, h2]
end
section
variable {β γ : Type} [DecidableEq β] [DecidableEq γ]
theorem firsts_in {l : List β} {x : β} (h : x ∈ l) : firsts (l ++ [x]) = firsts l := by rw [firsts_snoc, addNew, if_pos (mem_firsts.2 h)]
theorem firsts_out {l : List β} {x : β} (h : x ∉ l) : firsts (l ++ [x]) = firsts l ++ [x] := by rw [firsts_snoc, addNew, if_neg (fun e => h (mem_firsts.1 e))]
theorem snoc_ind {α : Type} {P : List α → Prop} (h0 : P []) (hs : ∀ l x, P l → P (l ++ [x])) : ∀ l, P l := by
 intro l
 have : ∀ m : List α, P m.reverse := by
  intro m
  induction m with
  | nil => exact h0
  | cons x m ih => rw [List.reverse_cons]; exact hs _ _ ih
 have := this l.reverse
 rwa [List.reverse_reverse] at this
end
section
variable {β : Type} [DecidableEq β]
def entsFrom (e : β → AV) (k : Nat) : List β → List (AV × AV)
 | [] => []
 | x :: l => (e x, .int .i64 k) :: entsFrom e (k + 1) l
theorem alook_ents {e : β → AV} (he : ∀ a b, e a = e b → a = b) (x : β) : ∀ (l : List β) (k : Nat), alook (entsFrom e k l) (e x) = if x ∈ l then some (.int .i64 ((k + placeOf l x : Nat))) else none
 | [], k => by simp [entsFrom, alook]
 | y :: l, k => by
  by_cases h : y = x
  ·subst h
   simp [entsFrom, alook, placeOf]
  ·have h2 : ¬ e y = e x := fun h2 => h (he _ _ h2)
   have h3 : ¬ x = y := fun h3 => h h3.symm
   simp only [entsFrom, alook, h2, if_false, alook_ents he x l (k + 1), List.mem_cons, h3, false_or, placeOf, List.idxOf_cons]
   have h4 : (y == x) = false := by simp [h]
   rw [h4]
   split
   ·congr 3
    simp only [cond_false, Bool.false_eq_true, if_false]
    omega
   ·rfl
omit [DecidableEq β] in
theorem aput_ents {e : β → AV} (he : ∀ a b, e a = e b → a = b) (x : β) : ∀ (l : List β) (k : Nat), x ∉ l → aput (entsFrom e k l) (e x) (.int .i64 ((k + l.length : Nat))) = entsFrom e k (l ++ [x])
 | [], k, _ => by simp [entsFrom, aput]
 | y :: l, k, hx => by
  have h2 : ¬ e y = e x := fun h2 => hx (by rw [he _ _ h2]; simp)
  have h3 : x ∉ l := fun h3 => hx (by simp [h3])
  have ih := aput_ents he x l (k + 1) h3
  simp only [entsFrom, aput, h2, if_false, List.cons_append, List.length_cons]
  rw [show k + (l.length + 1) = k + 1 + l.length by omega, ih]
end
end Go.Proofs.YtdldfflfbfpngaaGreatDoor
set_option linter.unusedVariables false
set_option linter.unusedSimpArgs false
namespace Go.Proofs.YtdldfflfbfpngaaGreatDoor
open Go
def In (n : Nat) (x : Int) : Prop := 0 ≤ x ∧ x < n
def col (R : Int → List Int) (s : Int) (k : Nat) : Int := (R s).getD k (-1)
def Opt (B : Int → Int → Prop) (x y : Int) : Prop := (x = -1 ∧ y = -1) ∨ (x ≠ -1 ∧ y ≠ -1 ∧ B x y)
def Bis (n : Nat) (R : Int → List Int) (T : Int → Int) (B : Int → Int → Prop) : Prop := ∀ s t, In n s → In n t → B s t → T s = T t ∧ ∀ k, Opt B (col R s k) (col R t k)
structure Kinds (n : Nat) (R : Int → List Int) (T : Int → Int) (κ : Int → Int) : Prop where
 no : κ (-1) = -1
 yes : ∀ s, In n s → 0 ≤ κ s
 tag : ∀ s t, In n s → In n t → κ s = κ t → T s = T t
 step : ∀ s t, In n s → In n t → κ s = κ t → ∀ k, κ (col R s k) = κ (col R t k)
 least : ∀ B, Bis n R T B → ∀ s t, In n s → In n t → B s t → κ s = κ t
end Go.Proofs.YtdldfflfbfpngaaGreatDoor
set_option linter.unusedVariables false
set_option linter.unusedSimpArgs false
namespace Go.Proofs.YtdldfflfbfpngaaGreatDoor
open Go
theorem inS_normS {l : List Span} {x : Int} : inS (normS l) x ↔ scal x = true ∧ inS l x := by
 rw [(normS_ok l).2 x]
 unfold hasR inS
 simp only [Bool.and_eq_true, List.any_eq_true, decide_eq_true_eq]
theorem norm_scal {l : List Span} (h : normS l = l) {x : Int} (hx : inS l x) : scal x = true := by
 rw [← h, inS_normS] at hx
 exact hx.1
theorem norm_canon {l : List Span} (h : normS l = l) : Canon l := by
 rw [← h]; exact (normS_ok l).1
theorem norm_of_canon {l : List Span} (h : Canon l) (hs : ∀ x, inS l x → scal x = true) : normS l = l :=
 canon_unique (normS_ok l).1 h fun x => by
  rw [inS_normS]
  exact ⟨fun h => h.2, fun h => ⟨hs x h, h⟩⟩
theorem normS_norm (l : List Span) : normS (normS l) = normS l := norm_of_canon (normS_ok l).1 fun x hx => (inS_normS.1 hx).1
theorem inS_append {a b : List Span} {x : Int} : inS (a ++ b) x ↔ inS a x ∨ inS b x := by
 unfold inS
 constructor
 ·rintro ⟨s, hs, h⟩
  rcases List.mem_append.1 hs with hs | hs
  ·exact .inl ⟨s, hs, h⟩
  ·exact .inr ⟨s, hs, h⟩
 ·rintro (⟨s, hs, h⟩ | ⟨s, hs, h⟩)
  ·exact ⟨s, List.mem_append_left _ hs, h⟩
  ·exact ⟨s, List.mem_append_right _ hs, h⟩
theorem canon_head {a : Span} {l : List Span} (h : Canon (a :: l)) : inS (a :: l) a.lo ∧ ∀ x, inS (a :: l) x → a.lo ≤ x := by
 have h1 := h.2 a (by simp)
 refine ⟨⟨a, by simp, Int.le_refl _, h1⟩, fun x hx => ?_⟩
 obtain ⟨s, hs, h2, h3⟩ := hx
 rcases List.mem_cons.1 hs with rfl | hs
 ·exact h2
 ·have := (List.pairwise_cons.1 h.1).1 s hs
  omega
theorem canon_ne {l : List Span} (h : Canon l) : l ≠ [] ↔ ∃ x, inS l x := by
 constructor
 ·intro hl
  cases l with
  | nil => exact absurd rfl hl
  | cons a l => exact ⟨_, (canon_head h).1⟩
 ·rintro ⟨x, s, hs, _⟩ rfl
  cases hs
def uniL : List (List Span) → List Span
 | [] => []
 | p :: r => r.foldl (fun a b => normS (a ++ b)) p
theorem foldl_uni : ∀ (r : List (List Span)) (p : List Span), normS p = p → (∀ q ∈ r, normS q = q) → normS (r.foldl (fun a b => normS (a ++ b)) p) = r.foldl (fun a b => normS (a ++ b)) p ∧ ∀ x, inS (r.foldl (fun a b => normS (a ++ b)) p) x ↔ inS p x ∨ ∃ q ∈ r, inS q x
 | [], p, hp, _ => ⟨hp, fun x => by simp⟩
 | q :: r, p, hp, hr => by
  obtain ⟨h1, h2⟩ := foldl_uni r (normS (p ++ q)) (normS_norm _) fun q' hq => hr q' (by simp [hq])
  refine ⟨h1, fun x => ?_⟩
  rw [List.foldl_cons, h2 x, inS_normS, inS_append]
  have hq := hr q (by simp)
  constructor
  ·rintro (⟨_, h | h⟩ | ⟨q', h3, h4⟩)
   ·exact .inl h
   ·exact .inr ⟨q, by simp, h⟩
   ·exact .inr ⟨q', by simp [h3], h4⟩
  ·rintro (h | ⟨q', h3, h4⟩)
   ·exact .inl ⟨norm_scal hp h, .inl h⟩
   ·rcases List.mem_cons.1 h3 with rfl | h3
    ·exact .inl ⟨norm_scal hq h4, .inr h4⟩
    ·exact .inr ⟨q', h3, h4⟩
theorem uniL_ok {l : List (List Span)} (h : ∀ q ∈ l, normS q = q) : normS (uniL l) = uniL l ∧ ∀ x, inS (uniL l) x ↔ ∃ q ∈ l, inS q x := by
 cases l with
 | nil => exact ⟨norm_of_canon ⟨List.Pairwise.nil, fun s h => by cases h⟩ (fun x ⟨s, h, _⟩ => by cases h), fun x => by simp [uniL, inS]⟩
 | cons p r =>
  obtain ⟨h1, h2⟩ := foldl_uni r p (h p (by simp)) fun q hq => h q (by simp [hq])
  refine ⟨h1, fun x => ?_⟩
  rw [uniL, h2 x]
  simp
structure PD where
 parts : List (List Span)
 next : List (List Int)
 tags : List Int
@[reducible] def PD.n (d : PD) : Nat := d.tags.length
@[reducible] def PD.p (d : PD) : Nat := d.parts.length
def PD.row (d : PD) (s : Int) : List Int := d.next.getD s.toNat []
def PD.tag (d : PD) (s : Int) : Int := d.tags.getD s.toNat (-1)
def PD.part (d : PD) (k : Nat) : List Span := d.parts.getD k []
structure PD.Ok (d : PD) : Prop where
 p1 : d.p ≤ 2000
 n1 : 1 ≤ d.n
 n2 : d.n ≤ 2000
 nl : d.next.length = d.n
 norm : ∀ q ∈ d.parts, normS q = q
 apart : ∀ i j, i < j → j < d.p → ∀ x, ¬ (inS (d.part i) x ∧ inS (d.part j) x)
 rows : ∀ r ∈ d.next, r.length = d.p ∧ ∀ x ∈ r, x = -1 ∨ In d.n x
 tags : ∀ t ∈ d.tags, -1 ≤ t
theorem PD.part_mem {d : PD} {k : Nat} (hk : k < d.p) : d.part k ∈ d.parts := by
 simp only [PD.part, List.getD_eq_getElem?_getD, List.getElem?_eq_getElem hk, Option.getD_some]
 exact List.getElem_mem hk
theorem PD.Ok.one {d : PD} (h : d.Ok) {i j : Nat} (hi : i < d.p) (hj : j < d.p) {x : Int} (h1 : inS (d.part i) x) (h2 : inS (d.part j) x) : i = j := by
 rcases Nat.lt_trichotomy i j with h3 | h3 | h3
 ·exact absurd ⟨h1, h2⟩ (h.apart i j h3 hj x)
 ·exact h3
 ·exact absurd ⟨h2, h1⟩ (h.apart j i h3 hi x)
def loOf (q : List Span) : Int := (q.headD ⟨0, 0⟩).lo
section
variable {κ : Int → Int} {d : PD} (h : d.Ok) (hne : ∀ q ∈ d.parts, q ≠ []) (hK : Kinds d.n d.row d.tag κ)
include h hK
end
end Go.Proofs.YtdldfflfbfpngaaGreatDoor
set_option linter.unusedVariables false
set_option linter.unusedSimpArgs false
namespace Go.Proofs.YtdldfflfbfpngaaGreatDoor
open Go
theorem getD_in {α : Type} {l : List α} {i : Nat} {a : α} (h : i < l.length) : l.getD i a ∈ l := by
 simp [List.getD_eq_getElem?_getD, h]
theorem getD_out {α : Type} {l : List α} {i : Nat} {a : α} (h : ¬ i < l.length) : l.getD i a = a := by
 have : l[i]? = none := by rw [List.getElem?_eq_none_iff]; omega
 simp [List.getD_eq_getElem?_getD, this]
section
variable {κ : Int → Int} {d : PD} (h : d.Ok) (hne : ∀ q ∈ d.parts, q ≠ []) (hK : Kinds d.n d.row d.tag κ)
include h hK
omit hK in
theorem part_apart {i j : Nat} {x : Int} (h1 : inS (d.part i) x) (h2 : inS (d.part j) x) : i = j := by
 have hlt : ∀ {i : Nat}, inS (d.part i) x → i < d.p := fun {i} hx => by
  apply Classical.byContradiction
  intro hn
  unfold PD.part at hx
  rw [getD_out hn] at hx
  obtain ⟨s, hs, _⟩ := hx
  cases hs
 exact h.one (hlt h1) (hlt h2) h1 h2
omit hK in
theorem part_norm (k : Nat) : normS (d.part k) = d.part k := by
 by_cases hk : k < d.p
 ·exact h.norm _ (PD.part_mem hk)
 ·unfold PD.part
  rw [getD_out hk]
  exact (uniL_ok (l := []) (by simp)).1
end
end Go.Proofs.YtdldfflfbfpngaaGreatDoor
