/- The contract of slices.Sort; no condition. -/
import Derived.Test.YtcdojenmonmcfaaGreatFUni
import Derived.Test.YtcdojenmonmcfaaGreatEc
import Derived.Test.YtcdojenmonmcfaaGreatShelf
set_option linter.all false
namespace Go.Proofs.YtcdojenmonmcfaaGreat
open Go.Eng
noncomputable def Eb (K:Nat)(a0:List Int):Option (List Int):=if a0.length<4611686018427387904 then some (a0.mergeSort fun x y=>decide (x≤y))else none
def Ga:Sig:=⟨[.w 26 true [(3,true)]],[],true⟩
noncomputable def Ec (K:Nat):Fg tyU:=⟨Ga,Eb K⟩
theorem Vq (K:Nat):Fg.Ok tyU Tryz.prog 168 (Ec K)∧Eh Tryz.prog 168:=by
 refine⟨fun l r hr=> ?_,_,Tryz.func168,by kernel_rfl,by kernel_rfl⟩
 have h:l.length<4611686018427387904∧r=l.mergeSort fun x y=>decide (x≤y):=by
  simp only[Ec,Eb]at hr;split at hr
  ·next h=>exact⟨h,(Z32 hr).symm⟩
  ·cases hr
 obtain⟨hl,rfl⟩:=h;exact Af2 (Any.slices_Sort_int Tryz.lays189) (Any.slices_Sort_int_none Tryz.lays189) l hl
end Go.Proofs.YtcdojenmonmcfaaGreat
