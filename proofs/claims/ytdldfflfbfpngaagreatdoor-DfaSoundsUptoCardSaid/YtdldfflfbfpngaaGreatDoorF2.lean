/- A least machine is no larger: it fits where the machine did. The known machine: the plain law. -/
import Derived.Test.YtdldfflfbfpngaaGreatDoorF1
set_option linter.unusedVariables false
set_option linter.unusedSimpArgs false
namespace Go.Proofs.YtdldfflfbfpngaaGreatDoor
open Go
attribute [local irreducible] wops xcode wcode seqK blockK loopK finK wcall wop wstp Runs
theorem wide_of {x : Dfa} (hx : x.plain.Ok) (hc : (catL x.plain.parts).length ≤ 524288) : x.Wide := by
 have hpl : x.plain.p = x.parts.l.length := by simp [Dfa.plain, plainS, PD.p]
 have hnl : x.plain.n = x.tags.l.length := by simp [Dfa.plain, PD.n]
 have hxl : x.plain.next.length = x.next.l.length := by simp [Dfa.plain, plainI]
 have h1 := hx.p1
 have h2 := hx.n2
 have h3 := hx.nl
 refine ⟨⟨by rw [catS_plain]; exact hc, by omega, by omega, fun r hr => ?_, by omega⟩, fun p hp => ?_⟩
 ·have := (hx.rows r.l (List.mem_map.2 ⟨r, hr, rfl⟩)).1
  omega
 ·have hn := hx.norm p.l (List.mem_map.2 ⟨p, hp, rfl⟩)
  have h4 := norm_len_le hn
  have h5 := norm_range hn
  refine ⟨by omega, fun s hs => ?_⟩
  have h6 := (norm_canon hn).2 s hs
  have := h5 s hs
  omega
end Go.Proofs.YtdldfflfbfpngaaGreatDoor
set_option linter.unusedVariables false
set_option linter.unusedSimpArgs false
namespace Go.Proofs.YtdldfflfbfpngaaGreatDoor
open Go
def d1 : Dfa := ⟨⟨[⟨[⟨97, 97⟩], true⟩, ⟨[⟨99, 99⟩], true⟩], true⟩, ⟨[⟨[1, 2], true⟩, ⟨[-1, 3], true⟩, ⟨[-1, 3], true⟩, ⟨[-1, -1], true⟩], true⟩, ⟨[-1, 0, 0, -1], true⟩⟩
def p1 : PD := ⟨[[⟨97, 97⟩], [⟨99, 99⟩]], [[1, 2], [-1, 3], [-1, 3], [-1, -1]], [-1, 0, 0, -1]⟩
instance (n : Nat) (x : Int) : Decidable (In n x) := inferInstanceAs (Decidable (0 ≤ x ∧ x < n))
def k1 (s : Int) : Int := if s = 2 then 1 else s
def p2 : PD := ⟨[[⟨97, 97⟩], [⟨99, 99⟩]], [[1, 2], [-1, -1], [-1, -1], [-1, -1]], [-1, 0, 0, -1]⟩
def d0 : Dfa := ⟨⟨[], true⟩, ⟨[], true⟩, ⟨[], true⟩⟩
theorem d0_no : ¬ d0.plain.Ok := fun h => absurd h.n1 (by decide)
theorem d0_fits : d0.Fits := ⟨by decide, by decide, by decide, (fun r hr => by cases hr), by decide⟩
end Go.Proofs.YtdldfflfbfpngaaGreatDoor
