/- The contract of slices.Sort; no condition. -/
import Derived.Test.YtcdojenmonmcfaaGreatFUni
import Derived.Test.YtcdojenmonmcfaaGreatEc
import Derived.Test.YtcdojenmonmcfaaGreatShelf
set_option linter.all false
namespace Go.Proofs.YtcdojenmonmcfaaGreat
open Go.Eng
noncomputable def Ec (K:Nat)(a0:List Int):Option (List Int):=if a0.length<4611686018427387904 then some (a0.mergeSort fun x y=>decide (x≤y))else none
def Gc:Sig:=⟨[.w 26 true [(3,true)]],[],true⟩
noncomputable def Ed (K:Nat):Fh tyU:=⟨Gc,Ec K⟩
theorem Vs (K:Nat):Fh.Ok tyU Tryz.prog 168 (Ed K)∧Ei Tryz.prog 168:=by
 refine⟨fun l r hr=> ?_,_,Tryz.func168,by kernel_rfl,by kernel_rfl⟩
 have h:l.length<4611686018427387904∧r=l.mergeSort fun x y=>decide (x≤y):=by
  simp only[Ed,Ec]at hr;split at hr
  ·next h=>exact⟨h,(Z32 hr).symm⟩
  ·cases hr
 obtain⟨hl,rfl⟩:=h;exact Af4 (Any.slices_Sort_int Tryz.lays189) (Any.slices_Sort_int_none Tryz.lays189) l hl
end Go.Proofs.YtcdojenmonmcfaaGreat
