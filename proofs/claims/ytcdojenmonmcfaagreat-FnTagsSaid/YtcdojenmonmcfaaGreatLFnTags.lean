/- The law FnTags answers true for all arguments: no condition. -/
import Derived.Test.YtcdojenmonmcfaaGreatFFnTagsP
import Derived.JoinedOf
set_option linter.unusedVariables false
set_option maxHeartbeats 100000000
namespace Go.Proofs.YtcdojenmonmcfaaGreat
open Go.Eng Go.ChangeShapes Go.WideShapes Go.ChangeAt Go.RowKit
theorem Ax1{a b:Bool}(h:a=true)(g:b=true):(a&&b)=true:=by rw[h,g];rfl
set_option maxRecDepth 100000 in
theorem A9t:joinedFacts Tryz.pinned.checked.prog 6 Tryz.f6 Rows.fnTagsSpec Rows.fnTagsRow=true:=by
  unfold joinedFacts
  refine(Ax1 (Ax1 (Ax1 (Ax1 (Ax1 (Ax1 (Ax1 (Ax1 (Ax1 (Ax1 (Ax1 (Ax1 (Ax1 (Ax1 (Ax1 (Ax1 (Ax1 (Ax1 (Ax1 (Ax1 (Ax1 (Ax1 (Ax1 (Ax1 (Ax1 (Ax1 (Ax1 (Ax1 (Ax1 (Ax1 (Ax1 ?_ ?_) ?_) ?_) ?_) ?_) ?_) ?_) ?_) ?_) ?_) ?_) ?_) ?_) ?_) ?_) ?_) ?_) ?_) ?_) ?_) ?_) ?_) ?_) ?_) ?_) ?_) ?_) ?_) ?_) ?_) ?_)
  all_goals as_aux_lemma=>kernel_rfl
theorem Bf6{K:Nat}{a0:List Int}(h:Az7 K a0=some true):Sp Tryz.prog 6 [.c (.row false 1 (a0.map B7))] [] (.c (.bool true)) []:=(Bwq K).1 a0 true h
set_option maxRecDepth 100000 in
theorem A9u (os:Os)(started:os.Started)(H:Type)(enc:TypeId×Value→H):
    ReturnsInHanded {} Tryz.checked os 6 .any (Rows.fnTagsSpec.pre6 enc Tryz.prog Tryz.f6 Rows.fnTagsRow.domain false) (Rows.fnTagsSpec.post enc Tryz.prog Tryz.f6 false true false false):=by
  refine Aku (C:=Tryz.checked) (b:=4) Bm7 started Bm8 (by kernel_rfl) Tryz.func6
    (ChangeSpec.witness6 (enc:=enc) (C:=Tryz.checked) false ⟨#[],#[.slice none 0 0],[]⟩ 8 (by kernel_rfl) (by kernel_rfl) (by kernel_rfl) (by kernel_rfl))
    Apn rfl (fun ds h=> ?_) rfl Tryz.underlying4 (by kernel_rfl) (by kernel_rfl) (fun xs h=> ?_)
  · match ds,h with
    |[d0],_=>rfl
  · match xs,h with
    |[x0],h=>
      obtain⟨a0,rfl,u0⟩:=Bws h.1
      obtain⟨K,hK⟩:=Bd3 a0 u0
      exact Bf6 hK
theorem fnTags_holds:Rows.FnTagsSaid:=
  OpenClaim.holds_of_wide 6 Tryz.f6 rfl rfl rfl rfl rfl rfl rfl ⟨rfl,rfl,rfl,rfl,rfl⟩ rfl rfl rfl rfl rfl (by kernel_rfl) Tryz.func6 A9t
    (of_decide_eq_true (by kernel_rfl)) (by unfold Func.isWrapper;first|(rw[if_pos (by decide+kernel)];kernel_rfl)|(rw[if_neg (by decide+kernel)];exact⟨rfl,rfl⟩))
    (fun os started H enc _=>A9u os started H enc)
#print axioms fnTags_holds
end Go.Proofs.YtcdojenmonmcfaaGreat
