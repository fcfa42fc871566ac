/- The law FnStales answers true for all arguments: no condition. -/
import Derived.Test.YtcdojenmonmcfaaGreatFFnStalesP
import Derived.JoinedOf
set_option linter.unusedVariables false
set_option maxHeartbeats 100000000
namespace Go.Proofs.YtcdojenmonmcfaaGreat
open Go.Eng Go.ChangeShapes Go.WideShapes Go.ChangeAt Go.RowKit
theorem Axc{a b:Bool}(h:a=true)(g:b=true):(a&&b)=true:=by rw[h,g];rfl
set_option maxRecDepth 100000 in
theorem A6x:joinedFacts Tryz.pinned.checked.prog 5 Tryz.f5 Rows.fnStalesSpec Rows.fnStalesRow=true:=by
  unfold joinedFacts
  refine(Axc (Axc (Axc (Axc (Axc (Axc (Axc (Axc (Axc (Axc (Axc (Axc (Axc (Axc (Axc (Axc (Axc (Axc (Axc (Axc (Axc (Axc (Axc (Axc (Axc (Axc (Axc (Axc (Axc (Axc (Axc ?_ ?_) ?_) ?_) ?_) ?_) ?_) ?_) ?_) ?_) ?_) ?_) ?_) ?_) ?_) ?_) ?_) ?_) ?_) ?_) ?_) ?_) ?_) ?_) ?_) ?_) ?_) ?_) ?_) ?_) ?_) ?_)
  all_goals as_aux_lemma=>kernel_rfl
theorem Ba5{K:Nat}{a0:List Int}(h:Aw3 K a0=some true):Sp Tryz.prog 5 [.c (.row false 1 (a0.map B7))] [] (.c (.bool true)) []:=(Buo K).1 a0 true h
set_option maxRecDepth 100000 in
theorem A6y (os:Os)(started:os.Started)(H:Type)(enc:TypeId×Value→H):
    ReturnsInHanded {} Tryz.checked os 5 .any (Rows.fnStalesSpec.pre6 enc Tryz.prog Tryz.f5 Rows.fnStalesRow.domain false) (Rows.fnStalesSpec.post enc Tryz.prog Tryz.f5 false true false false):=by
  refine Aku (C:=Tryz.checked) (b:=4) Blb started Blc (by kernel_rfl) Tryz.func5
    (ChangeSpec.witness6 (enc:=enc) (C:=Tryz.checked) false ⟨#[],#[.slice none 0 0],[]⟩ 8 (by kernel_rfl) (by kernel_rfl) (by kernel_rfl) (by kernel_rfl))
    Apn rfl (fun ds h=> ?_) rfl Tryz.underlying4 (by kernel_rfl) (by kernel_rfl) (fun xs h=> ?_)
  · match ds,h with
    |[d0],_=>rfl
  · match xs,h with
    |[x0],h=>
      obtain⟨a0,rfl,u0⟩:=Buq h.1
      obtain⟨K,hK⟩:=A8u a0 u0
      exact Ba5 hK
theorem fnStales_holds:Rows.FnStalesSaid:=
  OpenClaim.holds_of_wide 5 Tryz.f5 rfl rfl rfl rfl rfl rfl rfl ⟨rfl,rfl,rfl,rfl,rfl⟩ rfl rfl rfl rfl rfl (by kernel_rfl) Tryz.func5 A6x
    (of_decide_eq_true (by kernel_rfl)) (by unfold Func.isWrapper;first|(rw[if_pos (by decide+kernel)];kernel_rfl)|(rw[if_neg (by decide+kernel)];exact⟨rfl,rfl⟩))
    (fun os started H enc _=>A6y os started H enc)
#print axioms fnStales_holds
end Go.Proofs.YtcdojenmonmcfaaGreat
