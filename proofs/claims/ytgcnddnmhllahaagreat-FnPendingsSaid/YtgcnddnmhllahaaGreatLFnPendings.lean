/- The law FnPendings answers true for all arguments: no condition. -/
import Derived.Test.YtgcnddnmhllahaaGreatJFnPendingsP
import Derived.JoinedOf
set_option linter.unusedVariables false
set_option maxHeartbeats 100000000
namespace Go.Proofs.YtgcnddnmhllahaaGreat
open Go.Eng Go.ChangeShapes Go.WideShapes Go.ChangeAt Go.RowKit
theorem W6{a b:Bool}(h:a=true)(g:b=true):(a&&b)=true:=by rw[h,g];rfl
set_option maxRecDepth 100000 in
theorem Bxw:joinedFacts Tryz.pinned.checked.prog 8 Tryz.f8 Rows.fnPendingsSpec Rows.fnPendingsRow=true:=by
  unfold joinedFacts;refine(W6 (W6 (W6 (W6 (W6 (W6 (W6 (W6 (W6 (W6 (W6 (W6 (W6 (W6 (W6 (W6 (W6 (W6 (W6 (W6 (W6 (W6 (W6 (W6 (W6 (W6 (W6 (W6 (W6 (W6 (W6 ?_ ?_) ?_) ?_) ?_) ?_) ?_) ?_) ?_) ?_) ?_) ?_) ?_) ?_) ?_) ?_) ?_) ?_) ?_) ?_) ?_) ?_) ?_) ?_) ?_) ?_) ?_) ?_) ?_) ?_) ?_) ?_)
  all_goals as_aux_lemma=>kernel_rfl
theorem Bxx{K:Nat}{a0:List Int}(h:A17 K a0=some true):Sp Tryz.prog 8 [.c (.row false 1 (a0.map Bu))] [] (.c (.bool true)) []:=(Bqi K).1 a0 true h
set_option maxRecDepth 100000 in
theorem Bxy (os:Os)(started:os.Started)(H:Type)(enc:TypeId×Value->H):
    ReturnsInHanded {} Tryz.checked os 8 .any (Rows.fnPendingsSpec.pre6 enc Tryz.prog Tryz.f8 Rows.fnPendingsRow.domain false) (Rows.fnPendingsSpec.post enc Tryz.prog Tryz.f8 false true false false):=by
  refine Ax0 (C:=Tryz.checked) (b:=4) Bqn started Bqo (by kernel_rfl) Tryz.func8
    (ChangeSpec.witness6 (enc:=enc) (C:=Tryz.checked) false ⟨#[],#[.slice none 0 0],[]⟩ 8 (by kernel_rfl) (by kernel_rfl) (by kernel_rfl) (by kernel_rfl))
    Abj rfl (fun ds h=> ?_) rfl Tryz.underlying4 (by kernel_rfl) (by kernel_rfl) (fun xs h=> ?_)
  · match ds,h with
    |[d0],_=>rfl
  · match xs,h with
    |[x0],h=>
      obtain⟨a0,rfl,u0⟩:=Bqm h.1;obtain⟨K,hK⟩:=Bxv a0 u0;exact Bxx hK
theorem fnPendings_holds:Rows.FnPendingsSaid:=
  OpenClaim.holds_of_wide 8 Tryz.f8 rfl rfl rfl rfl rfl rfl rfl ⟨rfl,rfl,rfl,rfl,rfl⟩ rfl rfl rfl rfl rfl (by kernel_rfl) Tryz.func8 Bxw
    (of_decide_eq_true (by kernel_rfl)) (by unfold Func.isWrapper;first|(rw[if_pos (by decide+kernel)];kernel_rfl)|(rw[if_neg (by decide+kernel)];exact⟨rfl,rfl⟩))
    (fun os started H enc _=>Bxy os started H enc)
#print axioms fnPendings_holds
end Go.Proofs.YtgcnddnmhllahaaGreat
