/- The program's KidsIn returns what the reference's returns, for all arguments: no condition. -/
import Derived.Test.YtemgbggfhohfeaaPFnExactKidsIn
set_option linter.unusedVariables false
namespace Go.Proofs.Ytemgbggfhohfeaa
open Go.Eng Go.ChangeShapes Go.WideShapes Go.ChangeAt Go.RowKit
set_option maxRecDepth 100000 in
theorem fnExactKidsIn_lifted (os : Os) (started : os.Started) (H : Type) (enc : TypeId × Value → H) :
    ReturnsInHanded {} Try.checked os 10 .any (Rows.fnExactKidsInSpec.pre6 enc Try.prog Try.f10 Rows.fnExactKidsInRow.domain false) (Rows.fnExactKidsInSpec.post enc Try.prog Try.f10 false true false false) := by
  refine row_of_sp (C := Try.checked) (b := 4) ownKnob0 started laidOut0 (by kernel_rfl) Try.func10
    (ChangeSpec.witness6 (enc := enc) (C := Try.checked) false ⟨#[], #[.agg #[.int .i64 0, .int .i64 0, .int .i64 0, .int .i64 0, .int .i64 0, .int .i64 0, .slice none 0 0, .slice none 0 0, .slice none 0 0, .slice none 0 0, .slice none 0 0, .slice none 0 0], .agg #[.int .i64 0, .int .i64 0]], []⟩ 8 (by kernel_rfl) (by kernel_rfl) (by kernel_rfl) (by kernel_rfl))
    tabOk rfl (fun ds h => ?_) rfl Try.underlying4 (by kernel_rfl) (by kernel_rfl) (fun xs h => ?_)
  · match ds, h with
    | [d0, d1], _ => rfl
  · match xs, h with
    | [x0, x1], h =>
      obtain ⟨a0, rfl, u0⟩ := ta_laws_World h.1
      obtain ⟨a1, rfl, u1⟩ := ta_laws_Handle h.2.1
      obtain ⟨K, hK⟩ := pure_FnExactKidsIn a0 a1 u0 u1
      exact w_laws_FnExactKidsIn K a0 a1 true hK
theorem fnExactKidsIn_holds : Rows.FnExactKidsInSaid :=
  OpenClaim.holds_of_wide 10 Try.f10 rfl rfl rfl rfl rfl rfl rfl ⟨rfl, rfl, rfl, rfl, rfl⟩ rfl rfl rfl rfl rfl (by kernel_rfl) Try.func10 (by kernel_rfl)
    (of_decide_eq_true (by kernel_rfl)) (by unfold Func.isWrapper; first | (rw [if_pos (by decide +kernel)]; kernel_rfl) | (rw [if_neg (by decide +kernel)]; exact ⟨rfl, rfl⟩))
    (fun os started H enc _ => fnExactKidsIn_lifted os started H enc)
#print axioms fnExactKidsIn_holds

end Go.Proofs.Ytemgbggfhohfeaa
