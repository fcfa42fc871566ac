/- The law FnOwed answers true for all arguments: no condition. -/
import Derived.Test.YtplfjgdlpbdojaaGreatFFnOwedP
import Derived.JoinedOf
set_option linter.unusedVariables false
set_option maxHeartbeats 100000000
namespace Go.Proofs.YtplfjgdlpbdojaaGreat
open Go.Eng Go.ChangeShapes Go.WideShapes Go.ChangeAt Go.RowKit
theorem Awp{a b:Bool}(h:a=true)(g:b=true):(a&&b)=true:=by rw[h,g];rfl
set_option maxRecDepth 100000 in
theorem A77:joinedFacts Tryz.pinned.checked.prog 4 Tryz.f4 Rows.fnOwedSpec Rows.fnOwedRow=true:=by
  unfold joinedFacts
  refine(Awp (Awp (Awp (Awp (Awp (Awp (Awp (Awp (Awp (Awp (Awp (Awp (Awp (Awp (Awp (Awp (Awp (Awp (Awp (Awp (Awp (Awp (Awp (Awp (Awp (Awp (Awp (Awp (Awp (Awp (Awp ?_ ?_) ?_) ?_) ?_) ?_) ?_) ?_) ?_) ?_) ?_) ?_) ?_) ?_) ?_) ?_) ?_) ?_) ?_) ?_) ?_) ?_) ?_) ?_) ?_) ?_) ?_) ?_) ?_) ?_) ?_) ?_)
  all_goals as_aux_lemma=>kernel_rfl
theorem Bd6{K:Nat}{a0:List Int}(h:Aym K a0=some true):Sp Tryz.prog 4 [.c (.row false 1 (a0.map Bu))] [] (.c (.bool true)) []:=(Bt2 K).1 a0 true h
set_option maxRecDepth 100000 in
theorem A78 (os:Os)(started:os.Started)(H:Type)(enc:TypeId×Value→H):
    ReturnsInHanded {} Tryz.checked os 4 .any (Rows.fnOwedSpec.pre6 enc Tryz.prog Tryz.f4 Rows.fnOwedRow.domain false) (Rows.fnOwedSpec.post enc Tryz.prog Tryz.f4 false true false false):=by
  refine Aj9 (C:=Tryz.checked) (b:=4) Bku started Bkv (by kernel_rfl) Tryz.func4
    (ChangeSpec.witness6 (enc:=enc) (C:=Tryz.checked) false ⟨#[],#[.slice none 0 0],[]⟩ 8 (by kernel_rfl) (by kernel_rfl) (by kernel_rfl) (by kernel_rfl))
    Aoo rfl (fun ds h=> ?_) rfl Tryz.underlying4 (by kernel_rfl) (by kernel_rfl) (fun xs h=> ?_)
  · match ds,h with
    |[d0],_=>rfl
  · match xs,h with
    |[x0],h=>
      obtain⟨a0,rfl,u0⟩:=Bt4 h.1
      obtain⟨K,hK⟩:=Bch a0 u0
      exact Bd6 hK
theorem fnOwed_holds:Rows.FnOwedSaid:=
  OpenClaim.holds_of_wide 4 Tryz.f4 rfl rfl rfl rfl rfl rfl rfl ⟨rfl,rfl,rfl,rfl,rfl⟩ rfl rfl rfl rfl rfl (by kernel_rfl) Tryz.func4 A77
    (of_decide_eq_true (by kernel_rfl)) (by unfold Func.isWrapper;first|(rw[if_pos (by decide+kernel)];kernel_rfl)|(rw[if_neg (by decide+kernel)];exact⟨rfl,rfl⟩))
    (fun os started H enc _=>A78 os started H enc)
#print axioms fnOwed_holds
end Go.Proofs.YtplfjgdlpbdojaaGreat
