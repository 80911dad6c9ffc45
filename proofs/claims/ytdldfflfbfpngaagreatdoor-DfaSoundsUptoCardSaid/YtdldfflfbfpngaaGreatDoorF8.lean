/- The document's machine at one place: size, place, tag. The document's machine at one place: it may be, or there is none. -/
import Derived.Test.YtdldfflfbfpngaaGreatDoorF4
import Derived.Test.YtdldfflfbfpngaaGreatDoorCC
import Derived.Test.YtdldfflfbfpngaaGreatDoorD2
import Derived.Test.YtdldfflfbfpngaaGreatDoorD3
import Derived.Test.YtdldfflfbfpngaaGreatDoorD7
set_option linter.unusedVariables false
set_option linter.unusedSimpArgs false
namespace Go.Proofs.YtdldfflfbfpngaaGreatDoor
open Go
set_option maxHeartbeats 4000000
theorem step1_len (n : Nfa) (a : List Int) (r : Int) : (step1 n a r).length ≤ n.k := by
 unfold step1; split
 ·exact closeN_length _ _
 ·simp
theorem start1_len (n : Nfa) : (start1 n).length ≤ n.k := by
 unfold start1; split
 ·exact closeN_length _ _
 ·simp
def tagOf1 (l : List Int) : Int := match l with
 | [] => -1
 | t :: _ => t
theorem tags1_mem {n : Nfa} {a : List Int} {t : Int} (h : t ∈ tags1 n a) : t ∈ n.tags.l := by
 unfold tags1 at h
 split at h
 ·obtain ⟨s, _, h0, h1, _, h2⟩ := tagsN_mem.1 h
  have hl : s.toNat < n.tags.l.length := by
   have : n.k = n.tags.l.length := rfl
   omega
  rw [← h2, List.getD_eq_getElem?_getD, List.getElem?_eq_getElem hl, Option.getD_some]
  exact List.getElem_mem hl
 ·cases h
theorem tagOf1_range {n : Nfa} (hn : ∀ t ∈ n.tags.l, -1 ≤ t ∧ t ≤ 5) (a : List Int) : -1 ≤ tagOf1 (tags1 n a) ∧ tagOf1 (tags1 n a) ≤ 5 := by
 have h := fun t (ht : t ∈ tags1 n a) => hn t (tags1_mem ht)
 cases e : tags1 n a with
 | nil => exact ⟨Int.le_refl _, by decide⟩
 | cons t l => exact h t (by rw [e]; simp)
attribute [local irreducible] wops xcode wcode seqK blockK loopK finK wcall wop wstp Runs
end Go.Proofs.YtdldfflfbfpngaaGreatDoor
set_option linter.unusedVariables false
set_option linter.unusedSimpArgs false
namespace Go.Proofs.YtdldfflfbfpngaaGreatDoor
open Go
set_option maxHeartbeats 4000000
def setsT (E : List (Rw Edge)) : List (Rw Span) := E.flatMap fun r => r.l.map fun e => e.set
theorem setsT_length (E : List (Rw Edge)) : (setsT E).length = (E.map fun r => r.l.length).sum := by
 induction E with
 | nil => rfl
 | cons r E ih =>
  have e1 : setsT (r :: E) = (r.l.map fun e => e.set) ++ setsT E := rfl
  rw [e1, List.length_append, ih, List.length_map, List.map_cons, List.sum_cons]
theorem setsT_take_le (E : List (Rw Edge)) (i : Nat) : (setsT (E.take i)).length ≤ (setsT E).length := by
 have : setsT E = setsT (E.take i) ++ setsT (E.drop i) := by
  unfold setsT
  rw [← List.flatMap_append, List.take_append_drop]
 rw [this, List.length_append]
 omega
theorem setsT_snoc {E : List (Rw Edge)} {i : Nat} {r : Rw Edge} (h : E[i]? = some r) : setsT (E.take (i + 1)) = setsT (E.take i) ++ r.l.map fun e => e.set := by
 unfold setsT
 rw [take_snoc h, List.flatMap_append]
 simp
theorem setsT_mem {E : List (Rw Edge)} {s : Rw Span} (h : s ∈ setsT E) : ∃ r ∈ E, ∃ e ∈ r.l, e.set = s := by
 obtain ⟨r, hr, h2⟩ := List.mem_flatMap.1 h
 obtain ⟨e, he, rfl⟩ := List.mem_map.1 h2
 exact ⟨r, hr, e, he, rfl⟩
theorem catS_8 (l : List (Rw Span)) (h : ∀ s ∈ l, s.l.length ≤ 8) : (catS l).length ≤ 8 * l.length := by
 induction l with
 | nil => simp [catS]
 | cons s l ih =>
  have h1 := ih fun q hq => h q (by simp [hq])
  have h2 := h s (by simp)
  have e1 : catS (s :: l) = s.l ++ catS l := rfl
  rw [e1, List.length_append, List.length_cons]
  omega
theorem In.more {k m : Nat} {x : Int} (h : x = -1 ∨ In k x) (hm : k ≤ m) : x = -1 ∨ In m x := by
 rcases h with h | h
 ·exact .inl h
 ·right; unfold In at *; omega
attribute [local irreducible] wops xcode wcode seqK blockK loopK finK wcall wop wstp Runs
end Go.Proofs.YtdldfflfbfpngaaGreatDoor
