/- The program's OwedIf returns what the reference's returns, for all arguments: no condition. -/
import Derived.Test.YtjdblamhaljjbaaGreatFOwedIfP
import Derived.JoinedOf
set_option linter.unusedVariables false
set_option maxHeartbeats 100000000
namespace Go.Proofs.YtjdblamhaljjbaaGreat
open Go.Eng Go.ChangeShapes Go.WideShapes Go.ChangeAt Go.RowKit
theorem Auq{a b:Bool}(h:a=true)(g:b=true):(a&&b)=true:=by rw[h,g];rfl
set_option maxRecDepth 100000 in
theorem A0l:joinedFacts Tryz.pinned.checked.prog 4 Tryz.f4 Rows.fnExactOwedIfSpec Rows.fnExactOwedIfRow=true:=by
  unfold joinedFacts
  refine(Auq (Auq (Auq (Auq (Auq (Auq (Auq (Auq (Auq (Auq (Auq (Auq (Auq (Auq (Auq (Auq (Auq (Auq (Auq (Auq (Auq (Auq (Auq (Auq (Auq (Auq (Auq (Auq (Auq (Auq (Auq ?_ ?_) ?_) ?_) ?_) ?_) ?_) ?_) ?_) ?_) ?_) ?_) ?_) ?_) ?_) ?_) ?_) ?_) ?_) ?_) ?_) ?_) ?_) ?_) ?_) ?_) ?_) ?_) ?_) ?_) ?_) ?_)
  all_goals as_aux_lemma=>kernel_rfl
theorem A2c{K:Nat}{a0:Ec}{a1:Dn}(h:Aq5 K a0 a1=some true):Sp Tryz.prog 4 [.g (B5 a0),.g (Bp a1)] [] (.c (.bool true)) []:=(Bxm K).1 a0 a1 true h
set_option maxRecDepth 100000 in
theorem A0m (os:Os)(started:os.Started)(H:Type)(enc:TypeId×Value→H):
    ReturnsInHanded {} Tryz.checked os 4 .any (Rows.fnExactOwedIfSpec.pre6 enc Tryz.prog Tryz.f4 Rows.fnExactOwedIfRow.domain false) (Rows.fnExactOwedIfSpec.post enc Tryz.prog Tryz.f4 false true false false):=by
  refine Ak6 (C:=Tryz.checked) (b:=4) Bmj started Bmk (by kernel_rfl) Tryz.func4
    (ChangeSpec.witness6 (enc:=enc) (C:=Tryz.checked) false ⟨#[],#[.agg #[.int .i64 0,.int .i64 0,.int .i64 0,.int .i64 0,.int .i64 0,.int .i64 0,.slice none 0 0,.slice none 0 0,.slice none 0 0,.slice none 0 0,.slice none 0 0,.slice none 0 0],.agg #[.int .i64 0,.int .i64 0]],[]⟩ 8 (by kernel_rfl) (by kernel_rfl) (by kernel_rfl) (by kernel_rfl))
    Apn rfl (fun ds h=> ?_) rfl Tryz.underlying4 (by kernel_rfl) (by kernel_rfl) (fun xs h=> ?_)
  · match ds,h with
    |[d0,d1],_=>rfl
  · match xs,h with
    |[x0,x1],h=>
      obtain⟨a0,rfl,u0⟩:=A7e h.1
      obtain⟨a1,rfl,u1⟩:=A6g h.2.1
      obtain⟨K,hK⟩:=A1g a0 a1 u0 u1
      exact A2c hK
theorem fnExactOwedIf_holds:Rows.FnExactOwedIfSaid:=
  OpenClaim.holds_of_wide 4 Tryz.f4 rfl rfl rfl rfl rfl rfl rfl ⟨rfl,rfl,rfl,rfl,rfl⟩ rfl rfl rfl rfl rfl (by kernel_rfl) Tryz.func4 A0l
    (of_decide_eq_true (by kernel_rfl)) (by unfold Func.isWrapper;first|(rw[if_pos (by decide+kernel)];kernel_rfl)|(rw[if_neg (by decide+kernel)];exact⟨rfl,rfl⟩))
    (fun os started H enc _=>A0m os started H enc)
#print axioms fnExactOwedIf_holds
end Go.Proofs.YtjdblamhaljjbaaGreat
