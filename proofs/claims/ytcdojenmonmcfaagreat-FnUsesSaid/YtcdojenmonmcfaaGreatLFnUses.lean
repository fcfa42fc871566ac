/- The law FnUses answers true for all arguments: no condition. -/
import Derived.Test.YtcdojenmonmcfaaGreatFFnUsesP
import Derived.JoinedOf
set_option linter.unusedVariables false
set_option maxHeartbeats 100000000
namespace Go.Proofs.YtcdojenmonmcfaaGreat
open Go.Eng Go.ChangeShapes Go.WideShapes Go.ChangeAt Go.RowKit
theorem Axs{a b:Bool}(h:a=true)(g:b=true):(a&&b)=true:=by rw[h,g];rfl
set_option maxRecDepth 100000 in
theorem A9a:joinedFacts Tryz.pinned.checked.prog 7 Tryz.f7 Rows.fnUsesSpec Rows.fnUsesRow=true:=by
  unfold joinedFacts
  refine(Axs (Axs (Axs (Axs (Axs (Axs (Axs (Axs (Axs (Axs (Axs (Axs (Axs (Axs (Axs (Axs (Axs (Axs (Axs (Axs (Axs (Axs (Axs (Axs (Axs (Axs (Axs (Axs (Axs (Axs (Axs ?_ ?_) ?_) ?_) ?_) ?_) ?_) ?_) ?_) ?_) ?_) ?_) ?_) ?_) ?_) ?_) ?_) ?_) ?_) ?_) ?_) ?_) ?_) ?_) ?_) ?_) ?_) ?_) ?_) ?_) ?_) ?_)
  all_goals as_aux_lemma=>kernel_rfl
theorem Bfj{K:Nat}{a0:List Int}(h:Azw K a0=some true):Sp Tryz.prog 7 [.c (.row false 1 (a0.map B5))] [] (.c (.bool true)) []:=(Bvb K).1 a0 true h
set_option maxRecDepth 100000 in
theorem A9b (os:Os)(started:os.Started)(H:Type)(enc:TypeId×Value→H):
    ReturnsInHanded {} Tryz.checked os 7 .any (Rows.fnUsesSpec.pre6 enc Tryz.prog Tryz.f7 Rows.fnUsesRow.domain false) (Rows.fnUsesSpec.post enc Tryz.prog Tryz.f7 false true false false):=by
  refine Aks (C:=Tryz.checked) (b:=4) Bmh started Bmi (by kernel_rfl) Tryz.func7
    (ChangeSpec.witness6 (enc:=enc) (C:=Tryz.checked) false ⟨#[],#[.slice none 0 0],[]⟩ 8 (by kernel_rfl) (by kernel_rfl) (by kernel_rfl) (by kernel_rfl))
    Apk rfl (fun ds h=> ?_) rfl Tryz.underlying4 (by kernel_rfl) (by kernel_rfl) (fun xs h=> ?_)
  · match ds,h with
    |[d0],_=>rfl
  · match xs,h with
    |[x0],h=>
      obtain⟨a0,rfl,u0⟩:=Bvd h.1
      obtain⟨K,hK⟩:=Bdf a0 u0
      exact Bfj hK
theorem fnUses_holds:Rows.FnUsesSaid:=
  OpenClaim.holds_of_wide 7 Tryz.f7 rfl rfl rfl rfl rfl rfl rfl ⟨rfl,rfl,rfl,rfl,rfl⟩ rfl rfl rfl rfl rfl (by kernel_rfl) Tryz.func7 A9a
    (of_decide_eq_true (by kernel_rfl)) (by unfold Func.isWrapper;first|(rw[if_pos (by decide+kernel)];kernel_rfl)|(rw[if_neg (by decide+kernel)];exact⟨rfl,rfl⟩))
    (fun os started H enc _=>A9b os started H enc)
#print axioms fnUses_holds
end Go.Proofs.YtcdojenmonmcfaaGreat
