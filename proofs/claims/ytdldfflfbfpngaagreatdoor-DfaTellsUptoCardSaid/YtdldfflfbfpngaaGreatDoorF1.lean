/- The document's sets and machines at one place. The document's machines: turn, same, longest. -/
import Derived.Test.YtdldfflfbfpngaaGreatDoorE6
set_option linter.unusedVariables false
set_option linter.unusedSimpArgs false
namespace Go.Proofs.YtdldfflfbfpngaaGreatDoor
open Go
set_option maxHeartbeats 4000000
attribute [local irreducible] wops xcode wcode seqK blockK loopK finK wcall wop wstp Runs
@[reducible] def interS (a b : List Span) : List Span := makeS a b 8
@[reducible] def minusS (a b : List Span) : List Span := makeS a b 2
theorem bit8 {a b : List Span} {x : Int} : bitOf 8 (kOf a b x) = true ↔ hasR a x = true ∧ hasR b x = true := by
 unfold kOf bitOf
 cases hasR a x <;> cases hasR b x <;> decide
theorem bit2 {a b : List Span} {x : Int} : bitOf 2 (kOf a b x) = true ↔ hasR a x = true ∧ ¬ hasR b x = true := by
 unfold kOf bitOf
 cases hasR a x <;> cases hasR b x <;> decide
theorem hasR_iff {a : List Span} {x : Int} : hasR a x = true ↔ scal x = true ∧ inS a x := by
 rw [← (normS_ok a).2 x, inS_normS]
theorem inS_inter {a b : List Span} {x : Int} : inS (interS a b) x ↔ scal x = true ∧ inS a x ∧ inS b x := by
 rw [(makeS_ok a b 8).2 x, bit8, hasR_iff, hasR_iff]
 constructor
 ·rintro ⟨h1, ⟨_, h2⟩, _, h3⟩; exact ⟨h1, h2, h3⟩
 ·rintro ⟨h1, h2, h3⟩; exact ⟨h1, ⟨h1, h2⟩, h1, h3⟩
theorem inS_minus {a b : List Span} {x : Int} : inS (minusS a b) x ↔ scal x = true ∧ inS a x ∧ ¬ inS b x := by
 rw [(makeS_ok a b 2).2 x, bit2, hasR_iff, hasR_iff]
 constructor
 ·rintro ⟨h1, ⟨_, h2⟩, h3⟩; exact ⟨h1, h2, fun h => h3 ⟨h1, h⟩⟩
 ·rintro ⟨h1, h2, h3⟩; exact ⟨h1, ⟨h1, h2⟩, fun h => h3 h.2⟩
theorem make_norm (a b : List Span) (k : Int) : normS (makeS a b k) = makeS a b k := norm_of_canon (makeS_ok a b k).1 fun x hx => (((makeS_ok a b k).2 x).1 hx).1
structure WideS (l : List Span) : Prop where
 len : l.length ≤ 67108864
 hi : ∀ s ∈ l, -9223372036854775808 ≤ s.hi
structure Dfa.Wide (d : Dfa) : Prop where
 fits : d.Fits
 wide : ∀ p ∈ d.parts.l, WideS p.l
end Go.Proofs.YtdldfflfbfpngaaGreatDoor
set_option linter.unusedVariables false
set_option linter.unusedSimpArgs false
namespace Go.Proofs.YtdldfflfbfpngaaGreatDoor
open Go
set_option maxHeartbeats 4000000
attribute [local irreducible] wops xcode wcode seqK blockK loopK finK wcall wop wstp Runs
noncomputable def longD (d : Dfa) (l : List Int) : Int × Int := if soundD d = true then longP d.plain l else (0, -1)
end Go.Proofs.YtdldfflfbfpngaaGreatDoor
