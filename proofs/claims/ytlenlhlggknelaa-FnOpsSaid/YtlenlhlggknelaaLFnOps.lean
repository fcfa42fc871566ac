/- The law FnOps answers true for all arguments: no condition. -/
import Derived.Test.YtlenlhlggknelaaPFnOps
set_option linter.unusedVariables false
namespace Go.Proofs.Ytlenlhlggknelaa
open Go.Eng Go.ChangeShapes Go.WideShapes Go.ChangeAt Go.RowKit
set_option maxRecDepth 100000 in
theorem fnOps_lifted (os : Os) (started : os.Started) (H : Type) (enc : TypeId × Value → H) :
    ReturnsInHanded {} Try.checked os 14 .any (Rows.fnOpsSpec.pre6 enc Try.prog Try.f14 Rows.fnOpsRow.domain false) (Rows.fnOpsSpec.post enc Try.prog Try.f14 false true false false) := by
  refine row_of_sp (C := Try.checked) (b := 4) ownKnob0 started laidOut0 (by kernel_rfl) Try.func14
    (ChangeSpec.witness6 (enc := enc) (C := Try.checked) false ⟨#[], #[.slice none 0 0], []⟩ 8 (by kernel_rfl) (by kernel_rfl) (by kernel_rfl) (by kernel_rfl))
    tabOk rfl (fun ds h => ?_) rfl Try.underlying4 (by kernel_rfl) (by kernel_rfl) (fun xs h => ?_)
  · match ds, h with
    | [d0], _ => rfl
  · match xs, h with
    | [x0], h =>
      obtain ⟨a0, rfl, u0⟩ := ta_Lu8 h.1
      obtain ⟨K, hK⟩ := pure_FnOps a0 u0
      exact w_laws_FnOps K a0 true hK
theorem fnOps_holds : Rows.FnOpsSaid :=
  OpenClaim.holds_of_wide 14 Try.f14 rfl rfl rfl rfl rfl rfl rfl ⟨rfl, rfl, rfl, rfl, rfl⟩ rfl rfl rfl rfl rfl (by kernel_rfl) Try.func14 (by kernel_rfl)
    (of_decide_eq_true (by kernel_rfl)) (by unfold Func.isWrapper; first | (rw [if_pos (by decide +kernel)]; kernel_rfl) | (rw [if_neg (by decide +kernel)]; exact ⟨rfl, rfl⟩))
    (fun os started H enc _ => fnOps_lifted os started H enc)
#print axioms fnOps_holds

end Go.Proofs.Ytlenlhlggknelaa
