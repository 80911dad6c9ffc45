/- The statements' machine made. The statements: twice; tells. -/
import Derived.Test.YtdldfflfbfpngaaGreatDoorF3
set_option linter.unusedVariables false
set_option linter.unusedSimpArgs false
namespace Go.Proofs.YtdldfflfbfpngaaGreatDoor
open Go
set_option maxHeartbeats 4000000
attribute [local irreducible] wops xcode wcode seqK blockK loopK finK wcall wop wstp Runs
@[reducible] def u16row (r : Rw Int) : AV := row16 r.l r.fl
theorem made_ok {Ls : List (Rw Span)} {P : Rw (Rw Span)} {rows : List (List Int)} {ts : List Int} (hat : Ats Ls P.l) (hp : P.l.length ≤ 2000) (h1 : 1 ≤ ts.length) (h2 : ts.length ≤ 2000) (hl : rows.length = ts.length) (hr : ∀ r ∈ rows, r.length = P.l.length ∧ ∀ x ∈ r, x = -1 ∨ In ts.length x) (ht : ∀ t ∈ ts, -1 ≤ t) : (Dfa.mk P ⟨rows.map fun r => ⟨r, false⟩, false⟩ ⟨ts, false⟩).plain.Ok := by
 have hpl : (plainS P.l).length = P.l.length := by simp [plainS]
 refine ⟨by show (plainS P.l).length ≤ 2000; omega, h1, h2, ?_, fun q hq => ?_, fun i j hij hj x hx => ?_, fun r hr' => ?_, ht⟩
 ·show (plainI (rows.map fun r => Rw.mk r false)).length = ts.length
  simp [plainI, hl]
 ·obtain ⟨p, hp, rfl⟩ := List.mem_map.1 hq
  exact (hat.good p hp).2
 ·have hj2 : j < (plainS P.l).length := hj
  rw [hpl] at hj2
  have h3 := List.pairwise_iff_getElem.1 hat.apart i j (by omega) hj2 hij
  have e : ∀ {n : Nat} (hn : n < P.l.length), (Dfa.mk P ⟨rows.map fun r => ⟨r, false⟩, false⟩ ⟨ts, false⟩).plain.part n = P.l[n].l := fun {n} hn => by
   simp [PD.part, Dfa.plain, plainS, List.getD_eq_getElem?_getD, hn]
  rw [e (by omega), e hj2] at hx
  exact h3 x hx
 ·have : r ∈ plainI (rows.map fun r => Rw.mk r false) := hr'
  simp [plainI] at this
  have h4 := hr r this
  refine ⟨?_, h4.2⟩
  show r.length = (plainS P.l).length
  omega
end Go.Proofs.YtdldfflfbfpngaaGreatDoor
set_option linter.unusedVariables false
set_option linter.unusedSimpArgs false
namespace Go.Proofs.YtdldfflfbfpngaaGreatDoor
open Go
set_option maxHeartbeats 4000000
attribute [local irreducible] wops xcode wcode seqK blockK loopK finK wcall wop wstp Runs
@[simp] theorem frz_u16r (l : List (Rw Int)) : AV.frozenL (l.map u16row) = true := frozenL_map (fun r => by simp [AV.frozen]) l
end Go.Proofs.YtdldfflfbfpngaaGreatDoor
