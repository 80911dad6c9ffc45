/- A machine at one place, plainly: sets of states in the order in which they are come to. The document's machine at one place: what it is. -/
import Derived.Test.YtdldfflfbfpngaaGreatDoorF8
set_option linter.unusedVariables false
set_option linter.unusedSimpArgs false
namespace Go.Proofs.YtdldfflfbfpngaaGreatDoor
open Go
def visitL (L : List (List Int)) (to : List Int) : List (List Int) := if to = [] ∨ to ∈ L then L else L ++ [to]
def visitsL (L : List (List Int)) (tos : List (List Int)) : List (List Int) := tos.foldl visitL L
def placeL (L : List (List Int)) (to : List Int) : Int := if to = [] then -1 else (L.idxOf to : Nat)
def loP (p : Rw Span) : Int := match p.l with
  | [] => 0
  | s :: _ => s.lo
noncomputable def rowL (n : Nfa) (P : List (Rw Span)) (a : List Int) : List (List Int) := P.map fun p => step1 n a (loP p)
noncomputable def accL (n : Nfa) (P : List (Rw Span)) : Nat → List (List Int)
  | 0 => [start1 n]
  | i + 1 => match (accL n P i)[i]? with
    | none => accL n P i
    | some a => visitsL (accL n P i) (rowL n P a)
theorem visitL_pre (L : List (List Int)) (to : List Int) : L <+: visitL L to := by
  unfold visitL
  split
  · exact List.prefix_refl _
  · exact List.prefix_append _ _
theorem visitsL_pre (tos : List (List Int)) : ∀ L : List (List Int), L <+: visitsL L tos := by
  induction tos with
  | nil => exact fun L => List.prefix_refl _
  | cons a tos ih => exact fun L => (visitL_pre L a).trans (ih _)
theorem visitL_mem {L : List (List Int)} {to : List Int} (h : to ≠ []) : to ∈ visitL L to := by
  unfold visitL
  split
  · rename_i h1
    exact h1.resolve_left h
  · simp
theorem visitsL_mem {tos : List (List Int)} : ∀ {L : List (List Int)} {to : List Int}, to ∈ tos → to = [] ∨ to ∈ visitsL L tos := by
  induction tos with
  | nil => intro L to h; cases h
  | cons a tos ih =>
    intro L to h
    rcases List.mem_cons.1 h with rfl | h
    · by_cases e : to = []
      · exact .inl e
      · exact .inr ((visitsL_pre tos _).subset (visitL_mem e))
    · exact ih h
theorem visitsL_snoc (L : List (List Int)) (tos : List (List Int)) (to : List Int) : visitsL L (tos ++ [to]) = visitL (visitsL L tos) to := by simp [visitsL]
theorem accL_pre (n : Nfa) (P : List (Rw Span)) (i : Nat) : accL n P i <+: accL n P (i + 1) := by
  rw [accL]
  split
  · exact List.prefix_refl _
  · exact visitsL_pre _ _
theorem accL_mono (n : Nfa) (P : List (Rw Span)) {i : Nat} : ∀ {j : Nat}, i ≤ j → accL n P i <+: accL n P j := by
  intro j
  induction j with
  | zero => intro h; have : i = 0 := by omega
            subst this; exact List.prefix_refl _
  | succ j ih =>
    intro h
    by_cases e : i = j + 1
    · subst e; exact List.prefix_refl _
    · exact (ih (by omega)).trans (accL_pre n P j)
theorem accL_stop (n : Nfa) (P : List (Rw Span)) {i : Nat} (h : (accL n P i).length ≤ i) : ∀ {j : Nat}, i ≤ j → accL n P j = accL n P i := by
  intro j
  induction j with
  | zero => intro hj; have : i = 0 := by omega
            subst this; rfl
  | succ j ih =>
    intro hj
    by_cases e : i = j + 1
    · subst e; rfl
    · have h1 := ih (by omega)
      rw [accL, h1, List.getElem?_eq_none (by omega)]
theorem accL_row {n : Nfa} {P : List (Rw Span)} {i j : Nat} {a : List Int} (ha : (accL n P i)[i]? = some a) (hij : i + 1 ≤ j) {to : List Int} (h : to ∈ rowL n P a) : to = [] ∨ to ∈ accL n P j := by
  have e : accL n P (i + 1) = visitsL (accL n P i) (rowL n P a) := by rw [accL, ha]
  rcases visitsL_mem (L := accL n P i) h with h1 | h1
  · exact .inl h1
  · rw [← e] at h1
    exact .inr ((accL_mono n P hij).subset h1)
theorem placeL_pre {L M : List (List Int)} (h : L <+: M) {to : List Int} (ht : to = [] ∨ to ∈ L) : placeL M to = placeL L to := by
  unfold placeL
  split
  · rfl
  · rename_i h1
    obtain ⟨t, rfl⟩ := h
    rw [List.idxOf_append, if_pos (ht.resolve_left h1)]
theorem placeL_visit {L : List (List Int)} {to : List Int} : placeL (visitL L to) to = placeL L to := by
  unfold visitL
  split
  · rfl
  · rename_i h
    have h1 : to ≠ [] := fun e => h (.inl e)
    have h2 : to ∉ L := fun e => h (.inr e)
    unfold placeL
    rw [if_neg h1, if_neg h1, List.idxOf_append, if_neg h2, List.idxOf_eq_length h2]
    simp
noncomputable def rowsL (n : Nfa) (P : List (Rw Span)) (A : List (List Int)) (i : Nat) : List (List Int) := (A.take i).map fun a => (rowL n P a).map (placeL A)
noncomputable def tagsL (n : Nfa) (A : List (List Int)) (i : Nat) : List Int := (A.take i).map fun a => tagOf1 (tags1 n a)
theorem rowsL_next {n : Nfa} {P : List (Rw Span)} {i : Nat} {a : List Int} (ha : (accL n P i)[i]? = some a) :
    rowsL n P (accL n P (i + 1)) (i + 1) = rowsL n P (accL n P i) i ++ [(rowL n P a).map (placeL (accL n P (i + 1)))] := by
  have hpre := accL_pre n P i
  have hlt := lt_of_getElem? ha
  have ha' : (accL n P (i + 1))[i]? = some a := by
    obtain ⟨t, e⟩ := hpre
    rw [← e, List.getElem?_append_left hlt]; exact ha
  unfold rowsL
  rw [take_snoc ha', List.map_append, List.map_singleton]
  congr 1
  have e1 : (accL n P (i + 1)).take i = (accL n P i).take i := by
    obtain ⟨t, e⟩ := hpre
    rw [← e, List.take_append_of_le_length (by omega)]
  rw [e1]
  refine List.map_congr_left fun b hb => List.map_congr_left fun to hto => ?_
  refine placeL_pre hpre ?_
  obtain ⟨k, hk, hkb⟩ := List.getElem_of_mem hb
  rw [List.length_take] at hk
  have hki : k < i := by omega
  have hbk : (accL n P k)[k]? = some b := by
    have h3 : (accL n P i)[k]? = some b := by
      rw [List.getElem_take] at hkb
      rw [← hkb, List.getElem?_eq_getElem]
    have h4 := accL_mono n P (show k ≤ i by omega)
    by_cases h5 : k < (accL n P k).length
    · obtain ⟨t, e⟩ := h4
      rw [← e, List.getElem?_append_left h5] at h3
      exact h3
    · have h6 := accL_stop n P (i := k) (by omega) (show k ≤ i by omega)
      rw [h6] at h3
      exact h3
  exact accL_row hbk (by omega) hto
noncomputable def mkPD (n : Nfa) (P : List (Rw Span)) (m : Nat) : PD := ⟨plainS P, rowsL n P (accL n P m) (accL n P m).length, tagsL n (accL n P m) (accL n P m).length⟩
end Go.Proofs.YtdldfflfbfpngaaGreatDoor
set_option linter.unusedVariables false
set_option linter.unusedSimpArgs false
namespace Go.Proofs.YtdldfflfbfpngaaGreatDoor
open Go
set_option maxHeartbeats 4000000
theorem row_next {A : List (List Int)} {tos : List (List Int)} {j : Nat} {to : List Int} (h : tos[j]? = some to) {B : List (List Int)} (hB : B = visitsL A (tos.take j)) :
    visitsL A (tos.take (j + 1)) = visitL B to ∧ (tos.take (j + 1)).map (placeL (visitL B to)) = (tos.take j).map (placeL B) ++ [placeL B to] := by
  rw [take_snoc h, visitsL_snoc, ← hB]
  refine ⟨rfl, ?_⟩
  rw [List.map_append, List.map_singleton, placeL_visit]
  congr 1
  refine List.map_congr_left fun x hx => placeL_pre (visitL_pre B to) ?_
  rw [hB]
  exact visitsL_mem hx
attribute [local irreducible] wops xcode wcode seqK blockK loopK finK wcall wop wstp Runs
end Go.Proofs.YtdldfflfbfpngaaGreatDoor
