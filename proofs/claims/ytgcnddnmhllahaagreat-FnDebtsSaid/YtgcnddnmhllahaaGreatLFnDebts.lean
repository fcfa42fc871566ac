/- The law FnDebts answers true for all arguments: no condition. -/
import Derived.Test.YtgcnddnmhllahaaGreatJFnDebtsP
import Derived.JoinedOf
set_option linter.unusedVariables false
set_option maxHeartbeats 100000000
namespace Go.Proofs.YtgcnddnmhllahaaGreat
open Go.Eng Go.ChangeShapes Go.WideShapes Go.ChangeAt Go.RowKit
theorem W9{a b:Bool}(h:a=true)(g:b=true):(a&&b)=true:=by rw[h,g];rfl
set_option maxRecDepth 100000 in
theorem Bzf:joinedFacts Tryz.pinned.checked.prog 10 Tryz.f10 Rows.fnDebtsSpec Rows.fnDebtsRow=true:=by
  unfold joinedFacts;refine(W9 (W9 (W9 (W9 (W9 (W9 (W9 (W9 (W9 (W9 (W9 (W9 (W9 (W9 (W9 (W9 (W9 (W9 (W9 (W9 (W9 (W9 (W9 (W9 (W9 (W9 (W9 (W9 (W9 (W9 (W9 ?_ ?_) ?_) ?_) ?_) ?_) ?_) ?_) ?_) ?_) ?_) ?_) ?_) ?_) ?_) ?_) ?_) ?_) ?_) ?_) ?_) ?_) ?_) ?_) ?_) ?_) ?_) ?_) ?_) ?_) ?_) ?_)
  all_goals as_aux_lemma=>kernel_rfl
theorem Bzg{K:Nat}{a0:List Int}(h:A2w K a0=some true):Sp Tryz.prog 10 [.c (.row false 1 (a0.map Bu))] [] (.c (.bool true)) []:=(Br0 K).1 a0 true h
set_option maxRecDepth 100000 in
theorem Bzh (os:Os)(started:os.Started)(H:Type)(enc:TypeId×Value->H):
    ReturnsInHanded {} Tryz.checked os 10 .any (Rows.fnDebtsSpec.pre6 enc Tryz.prog Tryz.f10 Rows.fnDebtsRow.domain false) (Rows.fnDebtsSpec.post enc Tryz.prog Tryz.f10 false true false false):=by
  refine Ax0 (C:=Tryz.checked) (b:=4) Br5 started Br6 (by kernel_rfl) Tryz.func10
    (ChangeSpec.witness6 (enc:=enc) (C:=Tryz.checked) false ⟨#[],#[.slice none 0 0],[]⟩ 8 (by kernel_rfl) (by kernel_rfl) (by kernel_rfl) (by kernel_rfl))
    Abj rfl (fun ds h=> ?_) rfl Tryz.underlying4 (by kernel_rfl) (by kernel_rfl) (fun xs h=> ?_)
  · match ds,h with
    |[d0],_=>rfl
  · match xs,h with
    |[x0],h=>
      obtain⟨a0,rfl,u0⟩:=Br4 h.1;obtain⟨K,hK⟩:=Bze a0 u0;exact Bzg hK
theorem fnDebts_holds:Rows.FnDebtsSaid:=
  OpenClaim.holds_of_wide 10 Tryz.f10 rfl rfl rfl rfl rfl rfl rfl ⟨rfl,rfl,rfl,rfl,rfl⟩ rfl rfl rfl rfl rfl (by kernel_rfl) Tryz.func10 Bzf
    (of_decide_eq_true (by kernel_rfl)) (by unfold Func.isWrapper;first|(rw[if_pos (by decide+kernel)];kernel_rfl)|(rw[if_neg (by decide+kernel)];exact⟨rfl,rfl⟩))
    (fun os started H enc _=>Bzh os started H enc)
#print axioms fnDebts_holds
end Go.Proofs.YtgcnddnmhllahaaGreat
