/- For every input of bulk at most 1048576 the law glyphcutterlaw09.SimBad returns true, and its arguments stay as they were (the statement SimBadUptoSaid). Conditions: none but the statement's own. -/
import Derived.Test.YtpcbpgepjfenhaaF
import Derived.Test.YtpcbpgepjfenhaaE1
import Derived.OpenShut
import Derived.JoinedCond
set_option linter.unusedVariables false
namespace Go.Proofs.Ytpcbpgepjfenhaa.simBad
open Go Go.RowKit

theorem own : ownKnob Try.prog.godebug = none := by kernel_rfl
theorem types : tysOf Try.prog Try.f6.params.toList = some [nfaT, .slice 1 (.int .i64), .int .i64] := by kernel_rfl

set_option maxRecDepth 100000 in
theorem contract (H : Type) (enc : TypeId × Value → H) (W : World) (base : Nat) (args : Array Value) (ds gs : List (DataW H)) (before : List MemPlace)
    (hval : ∀ (j : Nat) t v, Try.f6.params[j]? = some t → args[j]? = some v → Value.okWide Try.prog W .any base t v)
    (hW : DataW.Whole enc Try.prog Try.f6.params.toList Rows.simBadSpec.vars false W args.toList ds gs before) (hk : Rows.uptoSmall H (ds ++ gs) = true) :
    Calls Try.prog 6 args W fun e W' => ∃ v, e = .returned v ∧ Rows.simBadSpec.post enc Try.prog Try.f6 false true false false W args v W' := by
  refine law_ok (s := Rows.simBadSpec) seat_ok (k := 5) (fn := Try.f6) (Ts := [nfaT, .slice 1 (.int .i64), .int .i64]) (tb := 4) (by decide) Try.func6 types (of_decide_eq_true (by kernel_rfl)) (by kernel_rfl) Try.underlying4 seat_kids (fun h1 h2 => seat_sz h1 h2) (by rfl) ?_ hval hW fun xs h1 h2 => ?_
  · intro ds hl
    match ds, hl with
    | [d0, d1, d2], _ => rfl
  · exact simBad_args seat_lib1 seat_lib2 seat_sort xs h1 (Nat.le_trans h2 (upto_small hk))

set_option maxRecDepth 100000 in
theorem lifted (os : Os) (started : os.Started) (H : Type) (enc : TypeId × Value → H) (F : Stop.Interp) :
    ReturnsInHanded {} Try.checked os 6 .any ((Rows.OpenSpec.upto Rows.simBadSpec).pre6 enc Try.prog Try.f6 Rows.simBadUptoRow.domain false) (((Rows.OpenSpec.upto Rows.simBadSpec).at F).post enc Try.prog Try.f6 false true false false) := by
  refine returnsInHanded_of_cond (C := Try.checked) (s := Rows.OpenSpec.upto Rows.simBadSpec) (k := Rows.uptoSmall) rfl own started (by kernel_rfl) Try.func6
    (OpenSpec.witness (enc := enc) (C := Try.checked) (s := Rows.OpenSpec.upto Rows.simBadSpec) (k := Rows.uptoSmall) rfl false ⟨#[], #[.agg #[.slice none 0 0, .slice none 0 0, .slice none 0 0], .slice none 0 0, .int .i64 0], []⟩ 8 (by kernel_rfl) (by kernel_rfl) (by kernel_rfl)
      (x := ([.agg [.nil, .nil, .nil], .nil, .lit (.int .i64 0)], [], [])) (by kernel_rfl) rfl (by kernel_rfl)) ?_
  intro W base args ds gs before hval hW _ hk _
  exact contract H enc W base args ds gs before hval hW hk

theorem over : Rows.simBadUptoRow.holds Try.pinned (Rows.OpenSpec.upto Rows.simBadSpec) :=
  OpenClaim.holds_of_cond 6 Try.f6 rfl rfl rfl rfl rfl rfl rfl ⟨rfl, rfl, rfl, rfl, rfl⟩ rfl rfl rfl rfl rfl (by kernel_rfl) Try.func6 (by kernel_rfl)
    (of_decide_eq_true (by kernel_rfl)) (by unfold Func.isWrapper; first | (rw [if_pos (by decide +kernel)]; kernel_rfl) | (rw [if_neg (by decide +kernel)]; exact ⟨rfl, rfl⟩))
    (fun os started H enc _ F => lifted os started H enc F)

theorem proved : Rows.SimBadUptoSaid :=
  over

end Go.Proofs.Ytpcbpgepjfenhaa.simBad
