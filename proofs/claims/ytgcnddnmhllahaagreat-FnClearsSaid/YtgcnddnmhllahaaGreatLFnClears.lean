/- The law FnClears answers true for all arguments: no condition. -/
import Derived.Test.YtgcnddnmhllahaaGreatHFnClearsP
import Derived.JoinedOf
set_option linter.unusedVariables false
set_option maxHeartbeats 100000000
namespace Go.Proofs.YtgcnddnmhllahaaGreat
open Go.Eng Go.ChangeShapes Go.WideShapes Go.ChangeAt Go.RowKit
theorem A10{a b:Bool}(h:a=true)(g:b=true):(a&&b)=true:=by rw[h,g];rfl
set_option maxRecDepth 100000 in
theorem Bam:joinedFacts Tryz.pinned.checked.prog 7 Tryz.f7 Rows.fnClearsSpec Rows.fnClearsRow=true:=by
  unfold joinedFacts;refine(A10 (A10 (A10 (A10 (A10 (A10 (A10 (A10 (A10 (A10 (A10 (A10 (A10 (A10 (A10 (A10 (A10 (A10 (A10 (A10 (A10 (A10 (A10 (A10 (A10 (A10 (A10 (A10 (A10 (A10 (A10 ?_ ?_) ?_) ?_) ?_) ?_) ?_) ?_) ?_) ?_) ?_) ?_) ?_) ?_) ?_) ?_) ?_) ?_) ?_) ?_) ?_) ?_) ?_) ?_) ?_) ?_) ?_) ?_) ?_) ?_) ?_) ?_)
  all_goals as_aux_lemma=>kernel_rfl
theorem Bez{K:Nat}{a0:List Int}(h:A1u K a0=some true):Sp Tryz.prog 7 [.c (.row false 1 (a0.map Bp))] [] (.c (.bool true)) []:=(Byb K).1 a0 true h
set_option maxRecDepth 100000 in
theorem Ban (os:Os)(started:os.Started)(H:Type)(enc:TypeId×Value->H):
    ReturnsInHanded {} Tryz.checked os 7 .any (Rows.fnClearsSpec.pre6 enc Tryz.prog Tryz.f7 Rows.fnClearsRow.domain false) (Rows.fnClearsSpec.post enc Tryz.prog Tryz.f7 false true false false):=by
  refine Ao2 (C:=Tryz.checked) (b:=4) Bo3 started Bo4 (by kernel_rfl) Tryz.func7
    (ChangeSpec.witness6 (enc:=enc) (C:=Tryz.checked) false ⟨#[],#[.slice none 0 0],[]⟩ 8 (by kernel_rfl) (by kernel_rfl) (by kernel_rfl) (by kernel_rfl))
    Af5 rfl (fun ds h=> ?_) rfl Tryz.underlying4 (by kernel_rfl) (by kernel_rfl) (fun xs h=> ?_)
  · match ds,h with
    |[d0],_=>rfl
  · match xs,h with
    |[x0],h=>
      obtain⟨a0,rfl,u0⟩:=Byd h.1;obtain⟨K,hK⟩:=Bct a0 u0;exact Bez hK
theorem fnClears_holds:Rows.FnClearsSaid:=
  OpenClaim.holds_of_wide 7 Tryz.f7 rfl rfl rfl rfl rfl rfl rfl ⟨rfl,rfl,rfl,rfl,rfl⟩ rfl rfl rfl rfl rfl (by kernel_rfl) Tryz.func7 Bam
    (of_decide_eq_true (by kernel_rfl)) (by unfold Func.isWrapper;first|(rw[if_pos (by decide+kernel)];kernel_rfl)|(rw[if_neg (by decide+kernel)];exact⟨rfl,rfl⟩))
    (fun os started H enc _=>Ban os started H enc)
#print axioms fnClears_holds
end Go.Proofs.YtgcnddnmhllahaaGreat
