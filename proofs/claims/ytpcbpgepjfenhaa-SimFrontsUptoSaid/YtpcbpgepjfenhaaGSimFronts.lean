/- For every input of bulk at most 1048576 the law glyphcutterlaw09.SimFronts returns true, and its arguments stay as they were (the statement SimFrontsUptoSaid). Conditions: none but the statement's own. -/
import Derived.Test.YtpcbpgepjfenhaaF
import Derived.Test.YtpcbpgepjfenhaaE1
import Derived.OpenShut
import Derived.JoinedCond
set_option linter.unusedVariables false
namespace Go.Proofs.Ytpcbpgepjfenhaa.simFronts
open Go Go.RowKit

theorem own : ownKnob Try.prog.godebug = none := by kernel_rfl
theorem types : tysOf Try.prog Try.f7.params.toList = some [.int .u8, .slice 4 arcT, .slice 1 (.int .i8), .slice 1 (.int .u16), .slice 1 (.int .u16)] := by kernel_rfl

set_option maxRecDepth 100000 in
theorem contract (H : Type) (enc : TypeId × Value → H) (W : World) (base : Nat) (args : Array Value) (ds gs : List (DataW H)) (before : List MemPlace)
    (hval : ∀ (j : Nat) t v, Try.f7.params[j]? = some t → args[j]? = some v → Value.okWide Try.prog W .any base t v)
    (hW : DataW.Whole enc Try.prog Try.f7.params.toList Rows.simFrontsSpec.vars false W args.toList ds gs before) (hk : Rows.uptoSmall H (ds ++ gs) = true) :
    Calls Try.prog 7 args W fun e W' => ∃ v, e = .returned v ∧ Rows.simFrontsSpec.post enc Try.prog Try.f7 false true false false W args v W' := by
  refine law_ok (s := Rows.simFrontsSpec) seat_ok (k := 6) (fn := Try.f7) (Ts := [.int .u8, .slice 4 arcT, .slice 1 (.int .i8), .slice 1 (.int .u16), .slice 1 (.int .u16)]) (tb := 4) (by decide) Try.func7 types (of_decide_eq_true (by kernel_rfl)) (by kernel_rfl) Try.underlying4 seat_kids (fun h1 h2 => seat_sz h1 h2) (by rfl) ?_ hval hW fun xs h1 h2 => ?_
  · intro ds hl
    match ds, hl with
    | [d0, d1, d2, d3, d4], _ => rfl
  · exact simFronts_args seat_lib1 seat_lib2 seat_sort xs h1 (Nat.le_trans h2 (upto_small hk))

set_option maxRecDepth 100000 in
theorem lifted (os : Os) (started : os.Started) (H : Type) (enc : TypeId × Value → H) (F : Stop.Interp) :
    ReturnsInHanded {} Try.checked os 7 .any ((Rows.OpenSpec.upto Rows.simFrontsSpec).pre6 enc Try.prog Try.f7 Rows.simFrontsUptoRow.domain false) (((Rows.OpenSpec.upto Rows.simFrontsSpec).at F).post enc Try.prog Try.f7 false true false false) := by
  refine returnsInHanded_of_cond (C := Try.checked) (s := Rows.OpenSpec.upto Rows.simFrontsSpec) (k := Rows.uptoSmall) rfl own started (by kernel_rfl) Try.func7
    (OpenSpec.witness (enc := enc) (C := Try.checked) (s := Rows.OpenSpec.upto Rows.simFrontsSpec) (k := Rows.uptoSmall) rfl false ⟨#[], #[.int .u8 0, .slice none 0 0, .slice none 0 0, .slice none 0 0, .slice none 0 0], []⟩ 8 (by kernel_rfl) (by kernel_rfl) (by kernel_rfl)
      (x := ([.lit (.int .u8 0), .nil, .nil, .nil, .nil], [], [])) (by kernel_rfl) rfl (by kernel_rfl)) ?_
  intro W base args ds gs before hval hW _ hk _
  exact contract H enc W base args ds gs before hval hW hk

theorem over : Rows.simFrontsUptoRow.holds Try.pinned (Rows.OpenSpec.upto Rows.simFrontsSpec) :=
  OpenClaim.holds_of_cond 7 Try.f7 rfl rfl rfl rfl rfl rfl rfl ⟨rfl, rfl, rfl, rfl, rfl⟩ rfl rfl rfl rfl rfl (by kernel_rfl) Try.func7 (by kernel_rfl)
    (of_decide_eq_true (by kernel_rfl)) (by unfold Func.isWrapper; first | (rw [if_pos (by decide +kernel)]; kernel_rfl) | (rw [if_neg (by decide +kernel)]; exact ⟨rfl, rfl⟩))
    (fun os started H enc _ F => lifted os started H enc F)

theorem proved : Rows.SimFrontsUptoSaid :=
  over

end Go.Proofs.Ytpcbpgepjfenhaa.simFronts
