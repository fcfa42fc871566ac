/- The program's Tag returns what the reference's returns, for all arguments: no condition. -/
import Derived.Test.YtjdblamhaljjbaaGreatFTagP
import Derived.JoinedOf
set_option linter.unusedVariables false
set_option maxHeartbeats 100000000
namespace Go.Proofs.YtjdblamhaljjbaaGreat
open Go.Eng Go.ChangeShapes Go.WideShapes Go.ChangeAt Go.RowKit
theorem and2 {a b : Bool} (h : a = true) (g : b = true) : (a && b) = true := by rw [h, g]; rfl
set_option maxRecDepth 100000 in
theorem closed_FnExactTag : joinedFacts Tryz.pinned.checked.prog 6 Tryz.f6 Rows.fnExactTagSpec Rows.fnExactTagRow = true := by
  unfold joinedFacts
  refine (and2 (and2 (and2 (and2 (and2 (and2 (and2 (and2 (and2 (and2 (and2 (and2 (and2 (and2 (and2 (and2 (and2 (and2 (and2 (and2 (and2 (and2 (and2 (and2 (and2 (and2 (and2 (and2 (and2 (and2 (and2 ?_ ?_) ?_) ?_) ?_) ?_) ?_) ?_) ?_) ?_) ?_) ?_) ?_) ?_) ?_) ?_) ?_) ?_) ?_) ?_) ?_) ?_) ?_) ?_) ?_) ?_) ?_) ?_) ?_) ?_) ?_) ?_)
  all_goals as_aux_lemma => kernel_rfl
theorem law_FnExactTag {K : Nat} {a0 : T_laws_World} {a1 : T_laws_Handle} {a2 : Int} (h : m_laws_FnExactTag K a0 a1 a2 = some true) : Sp Tryz.prog 6 [.g (en_laws_World a0), .g (en_laws_Handle a1), .c (.int .i64 a2)] [] (.c (.bool true)) [] := (sp_166 K).1 a0 a1 a2 true h
set_option maxRecDepth 100000 in
theorem fnExactTag_lifted (os : Os) (started : os.Started) (H : Type) (enc : TypeId × Value → H) :
    ReturnsInHanded {} Tryz.checked os 6 .any (Rows.fnExactTagSpec.pre6 enc Tryz.prog Tryz.f6 Rows.fnExactTagRow.domain false) (Rows.fnExactTagSpec.post enc Tryz.prog Tryz.f6 false true false false) := by
  refine row_of_sp (C := Tryz.checked) (b := 4) ownKnob0 started laidOut0 (by kernel_rfl) Tryz.func6
    (ChangeSpec.witness6 (enc := enc) (C := Tryz.checked) false ⟨#[], #[.agg #[.int .i64 0, .int .i64 0, .int .i64 0, .int .i64 0, .int .i64 0, .int .i64 0, .slice none 0 0, .slice none 0 0, .slice none 0 0, .slice none 0 0, .slice none 0 0, .slice none 0 0], .agg #[.int .i64 0, .int .i64 0], .int .i64 0], []⟩ 8 (by kernel_rfl) (by kernel_rfl) (by kernel_rfl) (by kernel_rfl))
    tabOk rfl (fun ds h => ?_) rfl Tryz.underlying4 (by kernel_rfl) (by kernel_rfl) (fun xs h => ?_)
  · match ds, h with
    | [d0, d1, d2], _ => rfl
  · match xs, h with
    | [x0, x1, x2], h =>
      obtain ⟨a0, rfl, u0⟩ := ta_laws_World h.1
      obtain ⟨a1, rfl, u1⟩ := ta_laws_Handle h.2.1
      obtain ⟨a2, rfl, u2⟩ := ta_i64 h.2.2.1
      obtain ⟨K, hK⟩ := pure_FnExactTag a0 a1 a2 u0 u1 u2
      exact law_FnExactTag hK
theorem fnExactTag_holds : Rows.FnExactTagSaid :=
  OpenClaim.holds_of_wide 6 Tryz.f6 rfl rfl rfl rfl rfl rfl rfl ⟨rfl, rfl, rfl, rfl, rfl⟩ rfl rfl rfl rfl rfl (by kernel_rfl) Tryz.func6 closed_FnExactTag
    (of_decide_eq_true (by kernel_rfl)) (by unfold Func.isWrapper; first | (rw [if_pos (by decide +kernel)]; kernel_rfl) | (rw [if_neg (by decide +kernel)]; exact ⟨rfl, rfl⟩))
    (fun os started H enc _ => fnExactTag_lifted os started H enc)
#print axioms fnExactTag_holds
end Go.Proofs.YtjdblamhaljjbaaGreat
