/- The law FnApartAll answers true for all arguments: no condition. -/
import Derived.Test.YtjdblamhaljjbaaGreatFFnApartAllP
import Derived.JoinedOf
set_option linter.unusedVariables false
set_option maxHeartbeats 100000000
namespace Go.Proofs.YtjdblamhaljjbaaGreat
open Go.Eng Go.ChangeShapes Go.WideShapes Go.ChangeAt Go.RowKit
theorem Av0{a b:Bool}(h:a=true)(g:b=true):(a&&b)=true:=by rw[h,g];rfl
set_option maxRecDepth 100000 in
theorem A3o:joinedFacts Tryz.pinned.checked.prog 3 Tryz.f3 Rows.fnApartAllSpec Rows.fnApartAllRow=true:=by
  unfold joinedFacts
  refine(Av0 (Av0 (Av0 (Av0 (Av0 (Av0 (Av0 (Av0 (Av0 (Av0 (Av0 (Av0 (Av0 (Av0 (Av0 (Av0 (Av0 (Av0 (Av0 (Av0 (Av0 (Av0 (Av0 (Av0 (Av0 (Av0 (Av0 (Av0 (Av0 (Av0 (Av0 ?_ ?_) ?_) ?_) ?_) ?_) ?_) ?_) ?_) ?_) ?_) ?_) ?_) ?_) ?_) ?_) ?_) ?_) ?_) ?_) ?_) ?_) ?_) ?_) ?_) ?_) ?_) ?_) ?_) ?_) ?_) ?_)
  all_goals as_aux_lemma=>kernel_rfl
theorem A8o{K:Nat}{a0:List Int}(h:Atx K a0=some true):Sp Tryz.prog 3 [.c (.row false 1 (a0.map Bb))] [] (.c (.bool true)) []:=(Bya K).1 a0 true h
set_option maxRecDepth 100000 in
theorem A3p (os:Os)(started:os.Started)(H:Type)(enc:TypeId×Value→H):
    ReturnsInHanded {} Tryz.checked os 3 .any (Rows.fnApartAllSpec.pre6 enc Tryz.prog Tryz.f3 Rows.fnApartAllRow.domain false) (Rows.fnApartAllSpec.post enc Tryz.prog Tryz.f3 false true false false):=by
  refine Am8 (C:=Tryz.checked) (b:=4) Bmq started Bmr (by kernel_rfl) Tryz.func3
    (ChangeSpec.witness6 (enc:=enc) (C:=Tryz.checked) false ⟨#[],#[.slice none 0 0],[]⟩ 8 (by kernel_rfl) (by kernel_rfl) (by kernel_rfl) (by kernel_rfl))
    Aro rfl (fun ds h=> ?_) rfl Tryz.underlying4 (by kernel_rfl) (by kernel_rfl) (fun xs h=> ?_)
  · match ds,h with
    |[d0],_=>rfl
  · match xs,h with
    |[x0],h=>
      obtain⟨a0,rfl,u0⟩:=Byc h.1
      obtain⟨K,hK⟩:=A5j a0 u0
      exact A8o hK
theorem fnApartAll_holds:Rows.FnApartAllSaid:=
  OpenClaim.holds_of_wide 3 Tryz.f3 rfl rfl rfl rfl rfl rfl rfl ⟨rfl,rfl,rfl,rfl,rfl⟩ rfl rfl rfl rfl rfl (by kernel_rfl) Tryz.func3 A3o
    (of_decide_eq_true (by kernel_rfl)) (by unfold Func.isWrapper;first|(rw[if_pos (by decide+kernel)];kernel_rfl)|(rw[if_neg (by decide+kernel)];exact⟨rfl,rfl⟩))
    (fun os started H enc _=>A3p os started H enc)
#print axioms fnApartAll_holds
end Go.Proofs.YtjdblamhaljjbaaGreat
