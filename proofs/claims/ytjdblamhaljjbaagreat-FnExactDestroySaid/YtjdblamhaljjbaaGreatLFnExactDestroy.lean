/- The program's Destroy returns what the reference's returns, for all arguments: no condition. -/
import Derived.Test.YtjdblamhaljjbaaGreatFDestroyP
import Derived.JoinedOf
set_option linter.unusedVariables false
set_option maxHeartbeats 100000000
namespace Go.Proofs.YtjdblamhaljjbaaGreat
open Go.Eng Go.ChangeShapes Go.WideShapes Go.ChangeAt Go.RowKit
theorem Au4{a b:Bool}(h:a=true)(g:b=true):(a&&b)=true:=by rw[h,g];rfl
set_option maxRecDepth 100000 in
theorem Azn:joinedFacts Tryz.pinned.checked.prog 9 Tryz.f9 Rows.fnExactDestroySpec Rows.fnExactDestroyRow=true:=by
  unfold joinedFacts
  refine(Au4 (Au4 (Au4 (Au4 (Au4 (Au4 (Au4 (Au4 (Au4 (Au4 (Au4 (Au4 (Au4 (Au4 (Au4 (Au4 (Au4 (Au4 (Au4 (Au4 (Au4 (Au4 (Au4 (Au4 (Au4 (Au4 (Au4 (Au4 (Au4 (Au4 (Au4 ?_ ?_) ?_) ?_) ?_) ?_) ?_) ?_) ?_) ?_) ?_) ?_) ?_) ?_) ?_) ?_) ?_) ?_) ?_) ?_) ?_) ?_) ?_) ?_) ?_) ?_) ?_) ?_) ?_) ?_) ?_) ?_)
  all_goals as_aux_lemma=>kernel_rfl
theorem A1f{K:Nat}{a0:Ec}{a1:Dn}(h:Aqv K a0 a1=some true):Sp Tryz.prog 9 [.g (B5 a0),.g (Bp a1)] [] (.c (.bool true)) []:=(Bx5 K).1 a0 a1 true h
set_option maxRecDepth 100000 in
theorem Azo (os:Os)(started:os.Started)(H:Type)(enc:TypeId×Value→H):
    ReturnsInHanded {} Tryz.checked os 9 .any (Rows.fnExactDestroySpec.pre6 enc Tryz.prog Tryz.f9 Rows.fnExactDestroyRow.domain false) (Rows.fnExactDestroySpec.post enc Tryz.prog Tryz.f9 false true false false):=by
  refine Ak6 (C:=Tryz.checked) (b:=4) Bmx started Bmy (by kernel_rfl) Tryz.func9
    (ChangeSpec.witness6 (enc:=enc) (C:=Tryz.checked) false ⟨#[],#[.agg #[.int .i64 0,.int .i64 0,.int .i64 0,.int .i64 0,.int .i64 0,.int .i64 0,.slice none 0 0,.slice none 0 0,.slice none 0 0,.slice none 0 0,.slice none 0 0,.slice none 0 0],.agg #[.int .i64 0,.int .i64 0]],[]⟩ 8 (by kernel_rfl) (by kernel_rfl) (by kernel_rfl) (by kernel_rfl))
    Apn rfl (fun ds h=> ?_) rfl Tryz.underlying4 (by kernel_rfl) (by kernel_rfl) (fun xs h=> ?_)
  · match ds,h with
    |[d0,d1],_=>rfl
  · match xs,h with
    |[x0,x1],h=>
      obtain⟨a0,rfl,u0⟩:=A7d h.1
      obtain⟨a1,rfl,u1⟩:=A6f h.2.1
      obtain⟨K,hK⟩:=A0q a0 a1 u0 u1
      exact A1f hK
theorem fnExactDestroy_holds:Rows.FnExactDestroySaid:=
  OpenClaim.holds_of_wide 9 Tryz.f9 rfl rfl rfl rfl rfl rfl rfl ⟨rfl,rfl,rfl,rfl,rfl⟩ rfl rfl rfl rfl rfl (by kernel_rfl) Tryz.func9 Azn
    (of_decide_eq_true (by kernel_rfl)) (by unfold Func.isWrapper;first|(rw[if_pos (by decide+kernel)];kernel_rfl)|(rw[if_neg (by decide+kernel)];exact⟨rfl,rfl⟩))
    (fun os started H enc _=>Azo os started H enc)
#print axioms fnExactDestroy_holds
end Go.Proofs.YtjdblamhaljjbaaGreat
