/- The program's Turns returns what the reference's returns, for all arguments: no condition. -/
import Derived.Test.YtlenlhlggknelaaP1
set_option linter.unusedVariables false
namespace Go.Proofs.Ytlenlhlggknelaa
open Go.Eng Go.ChangeShapes Go.WideShapes Go.ChangeAt Go.RowKit
theorem pure_FnExactTurns (a : T_laws_Op) (h : Wf43 a) : ∃ K, m_laws_FnExactTurns K a = some true := by
  refine turns_true a ?_
  have := h.2.2.2.2.2.2.1
  simp only [reachBytes, Nat.mul_one] at this
  omega
set_option maxRecDepth 100000 in
theorem fnExactTurns_lifted (os : Os) (started : os.Started) (H : Type) (enc : TypeId × Value → H) :
    ReturnsInHanded {} Try.checked os 8 .any (Rows.fnExactTurnsSpec.pre6 enc Try.prog Try.f8 Rows.fnExactTurnsRow.domain false) (Rows.fnExactTurnsSpec.post enc Try.prog Try.f8 false true false false) := by
  refine row_of_sp (C := Try.checked) (b := 4) ownKnob0 started laidOut0 (by kernel_rfl) Try.func8
    (ChangeSpec.witness6 (enc := enc) (C := Try.checked) false ⟨#[], #[.agg #[.int .i64 0, .int .i64 0, .int .i64 0, .int .i64 0, .int .i64 0, .int .i64 0, .int .i64 0, .int .i64 0, .int .i64 0, .slice none 0 0]], []⟩ 8 (by kernel_rfl) (by kernel_rfl) (by kernel_rfl) (by kernel_rfl))
    tabOk rfl (fun ds h => ?_) rfl Try.underlying4 (by kernel_rfl) (by kernel_rfl) (fun xs h => ?_)
  · match ds, h with
    | [d0], _ => rfl
  · match xs, h with
    | [x0], h =>
      obtain ⟨a0, rfl, u0⟩ := ta43 h.1
      obtain ⟨K, hK⟩ := pure_FnExactTurns a0 u0
      exact w_laws_FnExactTurns K a0 true hK
theorem fnExactTurns_holds : Rows.FnExactTurnsSaid :=
  OpenClaim.holds_of_wide 8 Try.f8 rfl rfl rfl rfl rfl rfl rfl ⟨rfl, rfl, rfl, rfl, rfl⟩ rfl rfl rfl rfl rfl (by kernel_rfl) Try.func8 (by kernel_rfl)
    (of_decide_eq_true (by kernel_rfl)) (by unfold Func.isWrapper; first | (rw [if_pos (by decide +kernel)]; kernel_rfl) | (rw [if_neg (by decide +kernel)]; exact ⟨rfl, rfl⟩))
    (fun os started H enc _ => fnExactTurns_lifted os started H enc)
#print axioms fnExactTurns_holds

end Go.Proofs.Ytlenlhlggknelaa
