/- The law FnTold answers true for all arguments: no condition. -/
import Derived.Test.YtplfjgdlpbdojaaGreatFFnToldP
import Derived.JoinedOf
set_option linter.unusedVariables false
set_option maxHeartbeats 100000000
namespace Go.Proofs.YtplfjgdlpbdojaaGreat
open Go.Eng Go.ChangeShapes Go.WideShapes Go.ChangeAt Go.RowKit
theorem Awh{a b:Bool}(h:a=true)(g:b=true):(a&&b)=true:=by rw[h,g];rfl
set_option maxRecDepth 100000 in
theorem A7n:joinedFacts Tryz.pinned.checked.prog 3 Tryz.f3 Rows.fnToldSpec Rows.fnToldRow=true:=by
  unfold joinedFacts
  refine(Awh (Awh (Awh (Awh (Awh (Awh (Awh (Awh (Awh (Awh (Awh (Awh (Awh (Awh (Awh (Awh (Awh (Awh (Awh (Awh (Awh (Awh (Awh (Awh (Awh (Awh (Awh (Awh (Awh (Awh (Awh ?_ ?_) ?_) ?_) ?_) ?_) ?_) ?_) ?_) ?_) ?_) ?_) ?_) ?_) ?_) ?_) ?_) ?_) ?_) ?_) ?_) ?_) ?_) ?_) ?_) ?_) ?_) ?_) ?_) ?_) ?_) ?_)
  all_goals as_aux_lemma=>kernel_rfl
theorem Bde{K:Nat}{a0:List Int}(h:Ayf K a0=some true):Sp Tryz.prog 3 [.c (.row false 1 (a0.map Bu))] [] (.c (.bool true)) []:=(Bsq K).1 a0 true h
set_option maxRecDepth 100000 in
theorem A7o (os:Os)(started:os.Started)(H:Type)(enc:TypeId×Value→H):
    ReturnsInHanded {} Tryz.checked os 3 .any (Rows.fnToldSpec.pre6 enc Tryz.prog Tryz.f3 Rows.fnToldRow.domain false) (Rows.fnToldSpec.post enc Tryz.prog Tryz.f3 false true false false):=by
  refine Aj9 (C:=Tryz.checked) (b:=4) Bjo started Bjp (by kernel_rfl) Tryz.func3
    (ChangeSpec.witness6 (enc:=enc) (C:=Tryz.checked) false ⟨#[],#[.slice none 0 0],[]⟩ 8 (by kernel_rfl) (by kernel_rfl) (by kernel_rfl) (by kernel_rfl))
    Aoo rfl (fun ds h=> ?_) rfl Tryz.underlying4 (by kernel_rfl) (by kernel_rfl) (fun xs h=> ?_)
  · match ds,h with
    |[d0],_=>rfl
  · match xs,h with
    |[x0],h=>
      obtain⟨a0,rfl,u0⟩:=Bss h.1
      obtain⟨K,hK⟩:=Bbw a0 u0
      exact Bde hK
theorem fnTold_holds:Rows.FnToldSaid:=
  OpenClaim.holds_of_wide 3 Tryz.f3 rfl rfl rfl rfl rfl rfl rfl ⟨rfl,rfl,rfl,rfl,rfl⟩ rfl rfl rfl rfl rfl (by kernel_rfl) Tryz.func3 A7n
    (of_decide_eq_true (by kernel_rfl)) (by unfold Func.isWrapper;first|(rw[if_pos (by decide+kernel)];kernel_rfl)|(rw[if_neg (by decide+kernel)];exact⟨rfl,rfl⟩))
    (fun os started H enc _=>A7o os started H enc)
#print axioms fnTold_holds
end Go.Proofs.YtplfjgdlpbdojaaGreat
