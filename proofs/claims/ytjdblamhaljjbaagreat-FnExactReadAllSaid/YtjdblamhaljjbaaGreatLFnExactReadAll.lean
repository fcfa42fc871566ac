/- The program's ReadAll returns what the reference's returns, for all arguments: no condition. -/
import Derived.Test.YtjdblamhaljjbaaGreatFReadAllP
import Derived.JoinedOf
set_option linter.unusedVariables false
set_option maxHeartbeats 100000000
namespace Go.Proofs.YtjdblamhaljjbaaGreat
open Go.Eng Go.ChangeShapes Go.WideShapes Go.ChangeAt Go.RowKit
theorem and2 {a b : Bool} (h : a = true) (g : b = true) : (a && b) = true := by rw [h, g]; rfl
set_option maxRecDepth 100000 in
theorem closed_FnExactReadAll : joinedFacts Tryz.pinned.checked.prog 5 Tryz.f5 Rows.fnExactReadAllSpec Rows.fnExactReadAllRow = true := by
  unfold joinedFacts
  refine (and2 (and2 (and2 (and2 (and2 (and2 (and2 (and2 (and2 (and2 (and2 (and2 (and2 (and2 (and2 (and2 (and2 (and2 (and2 (and2 (and2 (and2 (and2 (and2 (and2 (and2 (and2 (and2 (and2 (and2 (and2 ?_ ?_) ?_) ?_) ?_) ?_) ?_) ?_) ?_) ?_) ?_) ?_) ?_) ?_) ?_) ?_) ?_) ?_) ?_) ?_) ?_) ?_) ?_) ?_) ?_) ?_) ?_) ?_) ?_) ?_) ?_) ?_)
  all_goals as_aux_lemma => kernel_rfl
theorem law_FnExactReadAll {K : Nat} {a0 : T_laws_World} {a1 : T_laws_Ref} (h : m_laws_FnExactReadAll K a0 a1 = some true) : Sp Tryz.prog 5 [.g (en_laws_World a0), .g (en_laws_Ref a1)] [] (.c (.bool true)) [] := (sp_174 K).1 a0 a1 true h
set_option maxRecDepth 100000 in
theorem fnExactReadAll_lifted (os : Os) (started : os.Started) (H : Type) (enc : TypeId × Value → H) :
    ReturnsInHanded {} Tryz.checked os 5 .any (Rows.fnExactReadAllSpec.pre6 enc Tryz.prog Tryz.f5 Rows.fnExactReadAllRow.domain false) (Rows.fnExactReadAllSpec.post enc Tryz.prog Tryz.f5 false true false false) := by
  refine row_of_sp (C := Tryz.checked) (b := 4) ownKnob0 started laidOut0 (by kernel_rfl) Tryz.func5
    (ChangeSpec.witness6 (enc := enc) (C := Tryz.checked) false ⟨#[], #[.agg #[.int .i64 0, .int .i64 0, .int .i64 0, .int .i64 0, .int .i64 0, .int .i64 0, .slice none 0 0, .slice none 0 0, .slice none 0 0, .slice none 0 0, .slice none 0 0, .slice none 0 0], .agg #[.int .i64 0, .int .i64 0, .int .i64 0, .int .i64 0]], []⟩ 8 (by kernel_rfl) (by kernel_rfl) (by kernel_rfl) (by kernel_rfl))
    tabOk rfl (fun ds h => ?_) rfl Tryz.underlying4 (by kernel_rfl) (by kernel_rfl) (fun xs h => ?_)
  · match ds, h with
    | [d0, d1], _ => rfl
  · match xs, h with
    | [x0, x1], h =>
      obtain ⟨a0, rfl, u0⟩ := ta_laws_World h.1
      obtain ⟨a1, rfl, u1⟩ := ta_laws_Ref h.2.1
      obtain ⟨K, hK⟩ := pure_FnExactReadAll a0 a1 u0 u1
      exact law_FnExactReadAll hK
theorem fnExactReadAll_holds : Rows.FnExactReadAllSaid :=
  OpenClaim.holds_of_wide 5 Tryz.f5 rfl rfl rfl rfl rfl rfl rfl ⟨rfl, rfl, rfl, rfl, rfl⟩ rfl rfl rfl rfl rfl (by kernel_rfl) Tryz.func5 closed_FnExactReadAll
    (of_decide_eq_true (by kernel_rfl)) (by unfold Func.isWrapper; first | (rw [if_pos (by decide +kernel)]; kernel_rfl) | (rw [if_neg (by decide +kernel)]; exact ⟨rfl, rfl⟩))
    (fun os started H enc _ => fnExactReadAll_lifted os started H enc)
#print axioms fnExactReadAll_holds
end Go.Proofs.YtjdblamhaljjbaaGreat
