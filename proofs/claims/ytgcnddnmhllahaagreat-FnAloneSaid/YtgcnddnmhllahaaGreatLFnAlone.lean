/- The law FnAlone answers true for all arguments: no condition. -/
import Derived.Test.YtgcnddnmhllahaaGreatHFnAloneP
import Derived.JoinedOf
set_option linter.unusedVariables false
set_option maxHeartbeats 100000000
namespace Go.Proofs.YtgcnddnmhllahaaGreat
open Go.Eng Go.ChangeShapes Go.WideShapes Go.ChangeAt Go.RowKit
theorem A1o{a b:Bool}(h:a=true)(g:b=true):(a&&b)=true:=by rw[h,g];rfl
set_option maxRecDepth 100000 in
theorem Bb0:joinedFacts Tryz.pinned.checked.prog 4 Tryz.f4 Rows.fnAloneSpec Rows.fnAloneRow=true:=by
  unfold joinedFacts;refine(A1o (A1o (A1o (A1o (A1o (A1o (A1o (A1o (A1o (A1o (A1o (A1o (A1o (A1o (A1o (A1o (A1o (A1o (A1o (A1o (A1o (A1o (A1o (A1o (A1o (A1o (A1o (A1o (A1o (A1o (A1o ?_ ?_) ?_) ?_) ?_) ?_) ?_) ?_) ?_) ?_) ?_) ?_) ?_) ?_) ?_) ?_) ?_) ?_) ?_) ?_) ?_) ?_) ?_) ?_) ?_) ?_) ?_) ?_) ?_) ?_) ?_) ?_)
  all_goals as_aux_lemma=>kernel_rfl
theorem Bgk{K:Nat}{a0:List Int}(h:A2m K a0=some true):Sp Tryz.prog 4 [.c (.row false 1 (a0.map Bp))] [] (.c (.bool true)) []:=(Bxi K).1 a0 true h
set_option maxRecDepth 100000 in
theorem Bb1 (os:Os)(started:os.Started)(H:Type)(enc:TypeId×Value->H):
    ReturnsInHanded {} Tryz.checked os 4 .any (Rows.fnAloneSpec.pre6 enc Tryz.prog Tryz.f4 Rows.fnAloneRow.domain false) (Rows.fnAloneSpec.post enc Tryz.prog Tryz.f4 false true false false):=by
  refine Ao2 (C:=Tryz.checked) (b:=4) Boi started Boj (by kernel_rfl) Tryz.func4
    (ChangeSpec.witness6 (enc:=enc) (C:=Tryz.checked) false ⟨#[],#[.slice none 0 0],[]⟩ 8 (by kernel_rfl) (by kernel_rfl) (by kernel_rfl) (by kernel_rfl))
    Af5 rfl (fun ds h=> ?_) rfl Tryz.underlying4 (by kernel_rfl) (by kernel_rfl) (fun xs h=> ?_)
  · match ds,h with
    |[d0],_=>rfl
  · match xs,h with
    |[x0],h=>
      obtain⟨a0,rfl,u0⟩:=Bxk h.1;obtain⟨K,hK⟩:=Bel a0 u0;exact Bgk hK
theorem fnAlone_holds:Rows.FnAloneSaid:=
  OpenClaim.holds_of_wide 4 Tryz.f4 rfl rfl rfl rfl rfl rfl rfl ⟨rfl,rfl,rfl,rfl,rfl⟩ rfl rfl rfl rfl rfl (by kernel_rfl) Tryz.func4 Bb0
    (of_decide_eq_true (by kernel_rfl)) (by unfold Func.isWrapper;first|(rw[if_pos (by decide+kernel)];kernel_rfl)|(rw[if_neg (by decide+kernel)];exact⟨rfl,rfl⟩))
    (fun os started H enc _=>Bb1 os started H enc)
#print axioms fnAlone_holds
end Go.Proofs.YtgcnddnmhllahaaGreat
