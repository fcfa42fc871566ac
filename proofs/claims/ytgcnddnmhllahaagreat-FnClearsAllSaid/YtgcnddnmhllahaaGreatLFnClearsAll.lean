/- The law FnClearsAll answers true for all arguments: no condition. -/
import Derived.Test.YtgcnddnmhllahaaGreatHFnClearsAllP
import Derived.JoinedOf
set_option linter.unusedVariables false
set_option maxHeartbeats 100000000
namespace Go.Proofs.YtgcnddnmhllahaaGreat
open Go.Eng Go.ChangeShapes Go.WideShapes Go.ChangeAt Go.RowKit
theorem A2i{a b:Bool}(h:a=true)(g:b=true):(a&&b)=true:=by rw[h,g];rfl
set_option maxRecDepth 100000 in
theorem A9j:joinedFacts Tryz.pinned.checked.prog 9 Tryz.f9 Rows.fnClearsAllSpec Rows.fnClearsAllRow=true:=by
  unfold joinedFacts;refine(A2i (A2i (A2i (A2i (A2i (A2i (A2i (A2i (A2i (A2i (A2i (A2i (A2i (A2i (A2i (A2i (A2i (A2i (A2i (A2i (A2i (A2i (A2i (A2i (A2i (A2i (A2i (A2i (A2i (A2i (A2i ?_ ?_) ?_) ?_) ?_) ?_) ?_) ?_) ?_) ?_) ?_) ?_) ?_) ?_) ?_) ?_) ?_) ?_) ?_) ?_) ?_) ?_) ?_) ?_) ?_) ?_) ?_) ?_) ?_) ?_) ?_) ?_)
  all_goals as_aux_lemma=>kernel_rfl
theorem Bbe{K:Nat}{a0:List Int}(h:Ayj K a0=some true):Sp Tryz.prog 9 [.c (.row false 1 (a0.map Bp))] [] (.c (.bool true)) []:=(B0f K).1 a0 true h
set_option maxRecDepth 100000 in
theorem A9k (os:Os)(started:os.Started)(H:Type)(enc:TypeId×Value->H):
    ReturnsInHanded {} Tryz.checked os 9 .any (Rows.fnClearsAllSpec.pre6 enc Tryz.prog Tryz.f9 Rows.fnClearsAllRow.domain false) (Rows.fnClearsAllSpec.post enc Tryz.prog Tryz.f9 false true false false):=by
  refine Ao2 (C:=Tryz.checked) (b:=4) Bqu started Bqv (by kernel_rfl) Tryz.func9
    (ChangeSpec.witness6 (enc:=enc) (C:=Tryz.checked) false ⟨#[],#[.slice none 0 0],[]⟩ 8 (by kernel_rfl) (by kernel_rfl) (by kernel_rfl) (by kernel_rfl))
    Af5 rfl (fun ds h=> ?_) rfl Tryz.underlying4 (by kernel_rfl) (by kernel_rfl) (fun xs h=> ?_)
  · match ds,h with
    |[d0],_=>rfl
  · match xs,h with
    |[x0],h=>
      obtain⟨a0,rfl,u0⟩:=B0h h.1;obtain⟨K,hK⟩:=Bap a0 u0;exact Bbe hK
theorem fnClearsAll_holds:Rows.FnClearsAllSaid:=
  OpenClaim.holds_of_wide 9 Tryz.f9 rfl rfl rfl rfl rfl rfl rfl ⟨rfl,rfl,rfl,rfl,rfl⟩ rfl rfl rfl rfl rfl (by kernel_rfl) Tryz.func9 A9j
    (of_decide_eq_true (by kernel_rfl)) (by unfold Func.isWrapper;first|(rw[if_pos (by decide+kernel)];kernel_rfl)|(rw[if_neg (by decide+kernel)];exact⟨rfl,rfl⟩))
    (fun os started H enc _=>A9k os started H enc)
#print axioms fnClearsAll_holds
end Go.Proofs.YtgcnddnmhllahaaGreat
