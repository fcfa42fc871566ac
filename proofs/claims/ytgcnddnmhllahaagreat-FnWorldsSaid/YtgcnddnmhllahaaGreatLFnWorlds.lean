/- The law FnWorlds answers true for all arguments: no condition. -/
import Derived.Test.YtgcnddnmhllahaaGreatFFnWorldsP
import Derived.JoinedOf
set_option linter.unusedVariables false
set_option maxHeartbeats 100000000
namespace Go.Proofs.YtgcnddnmhllahaaGreat
open Go.Eng Go.ChangeShapes Go.WideShapes Go.ChangeAt Go.RowKit
theorem A02{a b:Bool}(h:a=true)(g:b=true):(a&&b)=true:=by rw[h,g];rfl
set_option maxRecDepth 100000 in
theorem A9h:joinedFacts Tryz.pinned.checked.prog 5 Tryz.f5 Rows.fnWorldsSpec Rows.fnWorldsRow=true:=by
  unfold joinedFacts
  refine(A02 (A02 (A02 (A02 (A02 (A02 (A02 (A02 (A02 (A02 (A02 (A02 (A02 (A02 (A02 (A02 (A02 (A02 (A02 (A02 (A02 (A02 (A02 (A02 (A02 (A02 (A02 (A02 (A02 (A02 (A02 ?_ ?_) ?_) ?_) ?_) ?_) ?_) ?_) ?_) ?_) ?_) ?_) ?_) ?_) ?_) ?_) ?_) ?_) ?_) ?_) ?_) ?_) ?_) ?_) ?_) ?_) ?_) ?_) ?_) ?_) ?_) ?_)
  all_goals as_aux_lemma=>kernel_rfl
theorem Bd0{K:Nat}{a0:List Int}(h:A0t K a0=some true):Sp Tryz.prog 5 [.c (.row false 1 (a0.map Bn))] [] (.c (.bool true)) []:=(Bx2 K).1 a0 true h
set_option maxRecDepth 100000 in
theorem A9i (os:Os)(started:os.Started)(H:Type)(enc:TypeId×Value→H):
    ReturnsInHanded {} Tryz.checked os 5 .any (Rows.fnWorldsSpec.pre6 enc Tryz.prog Tryz.f5 Rows.fnWorldsRow.domain false) (Rows.fnWorldsSpec.post enc Tryz.prog Tryz.f5 false true false false):=by
  refine An7 (C:=Tryz.checked) (b:=4) Bo5 started Bo6 (by kernel_rfl) Tryz.func5
    (ChangeSpec.witness6 (enc:=enc) (C:=Tryz.checked) false ⟨#[],#[.slice none 0 0],[]⟩ 8 (by kernel_rfl) (by kernel_rfl) (by kernel_rfl) (by kernel_rfl))
    As3 rfl (fun ds h=> ?_) rfl Tryz.underlying4 (by kernel_rfl) (by kernel_rfl) (fun xs h=> ?_)
  · match ds,h with
    |[d0],_=>rfl
  · match xs,h with
    |[x0],h=>
      obtain⟨a0,rfl,u0⟩:=Bx4 h.1
      obtain⟨K,hK⟩:=Bbr a0 u0
      exact Bd0 hK
theorem fnWorlds_holds:Rows.FnWorldsSaid:=
  OpenClaim.holds_of_wide 5 Tryz.f5 rfl rfl rfl rfl rfl rfl rfl ⟨rfl,rfl,rfl,rfl,rfl⟩ rfl rfl rfl rfl rfl (by kernel_rfl) Tryz.func5 A9h
    (of_decide_eq_true (by kernel_rfl)) (by unfold Func.isWrapper;first|(rw[if_pos (by decide+kernel)];kernel_rfl)|(rw[if_neg (by decide+kernel)];exact⟨rfl,rfl⟩))
    (fun os started H enc _=>A9i os started H enc)
#print axioms fnWorlds_holds
end Go.Proofs.YtgcnddnmhllahaaGreat
