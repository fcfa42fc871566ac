/- The law FnLeaves answers true for all arguments: no condition. -/
import Derived.Test.YtcdojenmonmcfaaGreatFFnLeavesP
import Derived.JoinedOf
set_option linter.unusedVariables false
set_option maxHeartbeats 100000000
namespace Go.Proofs.YtcdojenmonmcfaaGreat
open Go.Eng Go.ChangeShapes Go.WideShapes Go.ChangeAt Go.RowKit
theorem Axe{a b:Bool}(h:a=true)(g:b=true):(a&&b)=true:=by rw[h,g];rfl
set_option maxRecDepth 100000 in
theorem A56:joinedFacts Tryz.pinned.checked.prog 3 Tryz.f3 Rows.fnLeavesSpec Rows.fnLeavesRow=true:=by
  unfold joinedFacts
  refine(Axe (Axe (Axe (Axe (Axe (Axe (Axe (Axe (Axe (Axe (Axe (Axe (Axe (Axe (Axe (Axe (Axe (Axe (Axe (Axe (Axe (Axe (Axe (Axe (Axe (Axe (Axe (Axe (Axe (Axe (Axe ?_ ?_) ?_) ?_) ?_) ?_) ?_) ?_) ?_) ?_) ?_) ?_) ?_) ?_) ?_) ?_) ?_) ?_) ?_) ?_) ?_) ?_) ?_) ?_) ?_) ?_) ?_) ?_) ?_) ?_) ?_) ?_)
  all_goals as_aux_lemma=>kernel_rfl
theorem Bai{K:Nat}{a0:List Int}(h:Aw5 K a0=some true):Sp Tryz.prog 3 [.c (.row false 1 (a0.map B5))] [] (.c (.bool true)) []:=(Bth K).1 a0 true h
set_option maxRecDepth 100000 in
theorem A57 (os:Os)(started:os.Started)(H:Type)(enc:TypeId×Value→H):
    ReturnsInHanded {} Tryz.checked os 3 .any (Rows.fnLeavesSpec.pre6 enc Tryz.prog Tryz.f3 Rows.fnLeavesRow.domain false) (Rows.fnLeavesSpec.post enc Tryz.prog Tryz.f3 false true false false):=by
  refine Aks (C:=Tryz.checked) (b:=4) Bkd started Bke (by kernel_rfl) Tryz.func3
    (ChangeSpec.witness6 (enc:=enc) (C:=Tryz.checked) false ⟨#[],#[.slice none 0 0],[]⟩ 8 (by kernel_rfl) (by kernel_rfl) (by kernel_rfl) (by kernel_rfl))
    Apk rfl (fun ds h=> ?_) rfl Tryz.underlying4 (by kernel_rfl) (by kernel_rfl) (fun xs h=> ?_)
  · match ds,h with
    |[d0],_=>rfl
  · match xs,h with
    |[x0],h=>
      obtain⟨a0,rfl,u0⟩:=Btj h.1
      obtain⟨K,hK⟩:=A8d a0 u0
      exact Bai hK
theorem fnLeaves_holds:Rows.FnLeavesSaid:=
  OpenClaim.holds_of_wide 3 Tryz.f3 rfl rfl rfl rfl rfl rfl rfl ⟨rfl,rfl,rfl,rfl,rfl⟩ rfl rfl rfl rfl rfl (by kernel_rfl) Tryz.func3 A56
    (of_decide_eq_true (by kernel_rfl)) (by unfold Func.isWrapper;first|(rw[if_pos (by decide+kernel)];kernel_rfl)|(rw[if_neg (by decide+kernel)];exact⟨rfl,rfl⟩))
    (fun os started H enc _=>A57 os started H enc)
#print axioms fnLeaves_holds
end Go.Proofs.YtcdojenmonmcfaaGreat
