/- The program's Stats returns what the reference's returns, for all arguments: no condition. -/
import Derived.Test.YtjdblamhaljjbaaGreatFStatsP
import Derived.JoinedOf
set_option linter.unusedVariables false
set_option maxHeartbeats 100000000
namespace Go.Proofs.YtjdblamhaljjbaaGreat
open Go.Eng Go.ChangeShapes Go.WideShapes Go.ChangeAt Go.RowKit
theorem and2 {a b : Bool} (h : a = true) (g : b = true) : (a && b) = true := by rw [h, g]; rfl
set_option maxRecDepth 100000 in
theorem closed_FnExactStats : joinedFacts Tryz.pinned.checked.prog 7 Tryz.f7 Rows.fnExactStatsSpec Rows.fnExactStatsRow = true := by
  unfold joinedFacts
  refine (and2 (and2 (and2 (and2 (and2 (and2 (and2 (and2 (and2 (and2 (and2 (and2 (and2 (and2 (and2 (and2 (and2 (and2 (and2 (and2 (and2 (and2 (and2 (and2 (and2 (and2 (and2 (and2 (and2 (and2 (and2 ?_ ?_) ?_) ?_) ?_) ?_) ?_) ?_) ?_) ?_) ?_) ?_) ?_) ?_) ?_) ?_) ?_) ?_) ?_) ?_) ?_) ?_) ?_) ?_) ?_) ?_) ?_) ?_) ?_) ?_) ?_) ?_)
  all_goals as_aux_lemma => kernel_rfl
theorem law_FnExactStats {K : Nat} {a0 : T_laws_World} {a1 : T_laws_Handle} (h : m_laws_FnExactStats K a0 a1 = some true) : Sp Tryz.prog 7 [.g (en_laws_World a0), .g (en_laws_Handle a1)] [] (.c (.bool true)) [] := (sp_168 K).1 a0 a1 true h
set_option maxRecDepth 100000 in
theorem fnExactStats_lifted (os : Os) (started : os.Started) (H : Type) (enc : TypeId × Value → H) :
    ReturnsInHanded {} Tryz.checked os 7 .any (Rows.fnExactStatsSpec.pre6 enc Tryz.prog Tryz.f7 Rows.fnExactStatsRow.domain false) (Rows.fnExactStatsSpec.post enc Tryz.prog Tryz.f7 false true false false) := by
  refine row_of_sp (C := Tryz.checked) (b := 4) ownKnob0 started laidOut0 (by kernel_rfl) Tryz.func7
    (ChangeSpec.witness6 (enc := enc) (C := Tryz.checked) false ⟨#[], #[.agg #[.int .i64 0, .int .i64 0, .int .i64 0, .int .i64 0, .int .i64 0, .int .i64 0, .slice none 0 0, .slice none 0 0, .slice none 0 0, .slice none 0 0, .slice none 0 0, .slice none 0 0], .agg #[.int .i64 0, .int .i64 0]], []⟩ 8 (by kernel_rfl) (by kernel_rfl) (by kernel_rfl) (by kernel_rfl))
    tabOk rfl (fun ds h => ?_) rfl Tryz.underlying4 (by kernel_rfl) (by kernel_rfl) (fun xs h => ?_)
  · match ds, h with
    | [d0, d1], _ => rfl
  · match xs, h with
    | [x0, x1], h =>
      obtain ⟨a0, rfl, u0⟩ := ta_laws_World h.1
      obtain ⟨a1, rfl, u1⟩ := ta_laws_Handle h.2.1
      obtain ⟨K, hK⟩ := pure_FnExactStats a0 a1 u0 u1
      exact law_FnExactStats hK
theorem fnExactStats_holds : Rows.FnExactStatsSaid :=
  OpenClaim.holds_of_wide 7 Tryz.f7 rfl rfl rfl rfl rfl rfl rfl ⟨rfl, rfl, rfl, rfl, rfl⟩ rfl rfl rfl rfl rfl (by kernel_rfl) Tryz.func7 closed_FnExactStats
    (of_decide_eq_true (by kernel_rfl)) (by unfold Func.isWrapper; first | (rw [if_pos (by decide +kernel)]; kernel_rfl) | (rw [if_neg (by decide +kernel)]; exact ⟨rfl, rfl⟩))
    (fun os started H enc _ => fnExactStats_lifted os started H enc)
#print axioms fnExactStats_holds
end Go.Proofs.YtjdblamhaljjbaaGreat
