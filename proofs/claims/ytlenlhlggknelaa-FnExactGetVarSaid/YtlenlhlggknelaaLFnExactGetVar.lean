/- The program's GetVar returns what the reference's returns, for all arguments: no condition. -/
import Derived.Test.YtlenlhlggknelaaP2
set_option linter.unusedVariables false
namespace Go.Proofs.Ytlenlhlggknelaa
open Go.Eng Go.ChangeShapes Go.WideShapes Go.ChangeAt Go.RowKit
set_option maxRecDepth 100000 in
theorem fnExactGetVar_lifted (os : Os) (started : os.Started) (H : Type) (enc : TypeId × Value → H) :
    ReturnsInHanded {} Try.checked os 5 .any (Rows.fnExactGetVarSpec.pre6 enc Try.prog Try.f5 Rows.fnExactGetVarRow.domain false) (Rows.fnExactGetVarSpec.post enc Try.prog Try.f5 false true false false) := by
  refine row_of_sp (C := Try.checked) (b := 4) ownKnob0 started laidOut0 (by kernel_rfl) Try.func5
    (ChangeSpec.witness6 (enc := enc) (C := Try.checked) false ⟨#[], #[.slice none 0 0, .int .i64 0], []⟩ 8 (by kernel_rfl) (by kernel_rfl) (by kernel_rfl) (by kernel_rfl))
    tabOk rfl (fun ds h => ?_) rfl Try.underlying4 (by kernel_rfl) (by kernel_rfl) (fun xs h => ?_)
  · match ds, h with
    | [d0, d1], _ => rfl
  · match xs, h with
    | [x0, x1], h =>
      obtain ⟨a0, rfl, u0⟩ := ta30 h.1
      obtain ⟨a1, rfl, u1⟩ := ta3 h.2.1
      obtain ⟨K, hK⟩ := pure_FnExactGetVar a0 a1 u0 u1
      exact w_laws_FnExactGetVar K a0 a1 true hK
theorem fnExactGetVar_holds : Rows.FnExactGetVarSaid :=
  OpenClaim.holds_of_wide 5 Try.f5 rfl rfl rfl rfl rfl rfl rfl ⟨rfl, rfl, rfl, rfl, rfl⟩ rfl rfl rfl rfl rfl (by kernel_rfl) Try.func5 (by kernel_rfl)
    (of_decide_eq_true (by kernel_rfl)) (by unfold Func.isWrapper; first | (rw [if_pos (by decide +kernel)]; kernel_rfl) | (rw [if_neg (by decide +kernel)]; exact ⟨rfl, rfl⟩))
    (fun os started H enc _ => fnExactGetVar_lifted os started H enc)
#print axioms fnExactGetVar_holds

end Go.Proofs.Ytlenlhlggknelaa
