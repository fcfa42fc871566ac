/- The program's Write returns what the reference's returns, for all arguments: no condition. -/
import Derived.Test.YtjdblamhaljjbaaGreatFWriteP
import Derived.JoinedOf
set_option linter.unusedVariables false
set_option maxHeartbeats 100000000
namespace Go.Proofs.YtjdblamhaljjbaaGreat
open Go.Eng Go.ChangeShapes Go.WideShapes Go.ChangeAt Go.RowKit
theorem Aum{a b:Bool}(h:a=true)(g:b=true):(a&&b)=true:=by rw[h,g];rfl
set_option maxRecDepth 100000 in
theorem Az2:joinedFacts Tryz.pinned.checked.prog 11 Tryz.f11 Rows.fnExactWriteSpec Rows.fnExactWriteRow=true:=by
  unfold joinedFacts
  refine(Aum (Aum (Aum (Aum (Aum (Aum (Aum (Aum (Aum (Aum (Aum (Aum (Aum (Aum (Aum (Aum (Aum (Aum (Aum (Aum (Aum (Aum (Aum (Aum (Aum (Aum (Aum (Aum (Aum (Aum (Aum ?_ ?_) ?_) ?_) ?_) ?_) ?_) ?_) ?_) ?_) ?_) ?_) ?_) ?_) ?_) ?_) ?_) ?_) ?_) ?_) ?_) ?_) ?_) ?_) ?_) ?_) ?_) ?_) ?_) ?_) ?_) ?_)
  all_goals as_aux_lemma=>kernel_rfl
theorem A2s{K:Nat}{a0:Ec}{a1:Ge}{a2:Int}{a3:List Int}(h:Ara K a0 a1 a2 a3=some true):Sp Tryz.prog 11 [.g (B5 a0),.g (C5 a1),.c (.int .i64 a2),.c (.row false 1 (a3.map B7))] [] (.c (.bool true)) []:=(Bvu K).1 a0 a1 a2 a3 true h
set_option maxRecDepth 100000 in
theorem Az3 (os:Os)(started:os.Started)(H:Type)(enc:TypeId×Value→H):
    ReturnsInHanded {} Tryz.checked os 11 .any (Rows.fnExactWriteSpec.pre6 enc Tryz.prog Tryz.f11 Rows.fnExactWriteRow.domain false) (Rows.fnExactWriteSpec.post enc Tryz.prog Tryz.f11 false true false false):=by
  refine Ak6 (C:=Tryz.checked) (b:=4) Bk8 started Bk9 (by kernel_rfl) Tryz.func11
    (ChangeSpec.witness6 (enc:=enc) (C:=Tryz.checked) false ⟨#[],#[.agg #[.int .i64 0,.int .i64 0,.int .i64 0,.int .i64 0,.int .i64 0,.int .i64 0,.slice none 0 0,.slice none 0 0,.slice none 0 0,.slice none 0 0,.slice none 0 0,.slice none 0 0],.agg #[.int .i64 0,.int .i64 0,.int .i64 0,.int .i64 0],.int .i64 0,.slice none 0 0],[]⟩ 8 (by kernel_rfl) (by kernel_rfl) (by kernel_rfl) (by kernel_rfl))
    Apn rfl (fun ds h=> ?_) rfl Tryz.underlying4 (by kernel_rfl) (by kernel_rfl) (fun xs h=> ?_)
  · match ds,h with
    |[d0,d1,d2,d3],_=>rfl
  · match xs,h with
    |[x0,x1,x2,x3],h=>
      obtain⟨a0,rfl,u0⟩:=A6s h.1
      obtain⟨a1,rfl,u1⟩:=Bak h.2.1
      obtain⟨a2,rfl,u2⟩:=Bvw h.2.2.1
      obtain⟨a3,rfl,u3⟩:=Bvx h.2.2.2.1
      obtain⟨K,hK⟩:=A1l a0 a1 a2 a3 u0 u1 u2 u3
      exact A2s hK
theorem fnExactWrite_holds:Rows.FnExactWriteSaid:=
  OpenClaim.holds_of_wide 11 Tryz.f11 rfl rfl rfl rfl rfl rfl rfl ⟨rfl,rfl,rfl,rfl,rfl⟩ rfl rfl rfl rfl rfl (by kernel_rfl) Tryz.func11 Az2
    (of_decide_eq_true (by kernel_rfl)) (by unfold Func.isWrapper;first|(rw[if_pos (by decide+kernel)];kernel_rfl)|(rw[if_neg (by decide+kernel)];exact⟨rfl,rfl⟩))
    (fun os started H enc _=>Az3 os started H enc)
#print axioms fnExactWrite_holds
end Go.Proofs.YtjdblamhaljjbaaGreat
