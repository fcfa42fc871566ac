/- The contract of slices.Sort; no condition. -/
import Derived.Test.YtcdojenmonmcfaaGreatFUni
import Derived.Test.YtcdojenmonmcfaaGreatEc
import Derived.Test.YtcdojenmonmcfaaGreatShelf
set_option linter.all false
namespace Go.Proofs.YtcdojenmonmcfaaGreat
open Go.Eng
noncomputable def Ed (K:Nat)(a0:List Int):Option (List Int):=if a0.length<4611686018427387904 then some (a0.mergeSort fun x y=>decide (x≤y))else none
def Gg:Sig:=⟨[.w 26 true [(3,true)]],[],true⟩
noncomputable def Ee (K:Nat):Fl tyU:=⟨Gg,Ed K⟩
theorem V5 (K:Nat):Fl.Ok tyU Tryz.prog 168 (Ee K)∧Ej Tryz.prog 168:=by
 refine⟨fun l r hr=> ?_,_,Tryz.func168,by kernel_rfl,by kernel_rfl⟩
 have h:l.length<4611686018427387904∧r=l.mergeSort fun x y=>decide (x≤y):=by
  simp only[Ee,Ed]at hr;split at hr
  ·next h=>exact⟨h,(Gi hr).symm⟩
  ·cases hr
 obtain⟨hl,rfl⟩:=h;exact Agj (Any.slices_Sort_int Tryz.lays189) (Any.slices_Sort_int_none Tryz.lays189) l hl
end Go.Proofs.YtcdojenmonmcfaaGreat
