/- The contract of slices.Sort; no condition. -/
import Derived.Test.YtgcnddnmhllahaaGreatJUni
import Derived.Test.YtgcnddnmhllahaaGreatIc
import Derived.Test.YtgcnddnmhllahaaGreatShelf
set_option linter.all false
namespace Go.Proofs.YtgcnddnmhllahaaGreat
open Go.Eng
noncomputable def Aix (K:Nat)(a0:List Int):Option (List Int):=if a0.length<4611686018427387904 then some (a0.mergeSort fun x y=>decide (x<=y))else none
def Axp:Sig:=⟨[.w 25 true [(3,true)]],[],true⟩
noncomputable def Aiy (K:Nat):Bc tyU:=⟨Axp,Aix K⟩
theorem Aym (K:Nat):Bc.Ok tyU Tryz.prog 211 (Aiy K)/\Cg Tryz.prog 211:=by
 refine⟨fun l r hr=> ?_,_,Tryz.func211,by kernel_rfl,by kernel_rfl⟩;have h:l.length<4611686018427387904/\r=l.mergeSort fun x y=>decide (x<=y):=by
  simp only[Aiy,Aix]at hr;split at hr
  ·next h=>exact⟨h,(F0 hr).symm⟩
  ·cases hr
 obtain⟨hl,rfl⟩:=h;exact Ar8 (Any.slices_Sort_int Tryz.lays189) (Any.slices_Sort_int_none Tryz.lays189) l hl
end Go.Proofs.YtgcnddnmhllahaaGreat
