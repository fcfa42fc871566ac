/- The contract of slices.Sort; no condition. -/
import Derived.Test.YtjdblamhaljjbaaGreatFUni
import Derived.Test.YtjdblamhaljjbaaGreatEc
import Derived.Test.YtjdblamhaljjbaaGreatShelf
set_option linter.all false
namespace Go.Proofs.YtjdblamhaljjbaaGreat
open Go.Eng
noncomputable def Fe (K:Nat)(a0:List Int):Option (List Int):=if a0.length<4611686018427387904 then some (a0.mergeSort fun x y=>decide (x≤y))else none
def Hn:Sig:=⟨[.w 26 true [(3,true)]],[],true⟩
noncomputable def Ff (K:Nat):Gu tyU:=⟨Hn,Fe K⟩
theorem Xv (K:Nat):Gu.Ok tyU Tryz.prog 228 (Ff K)∧Fo Tryz.prog 228:=by
 refine⟨fun l r hr=> ?_,_,Tryz.func228,by kernel_rfl,by kernel_rfl⟩
 have h:l.length<4611686018427387904∧r=l.mergeSort fun x y=>decide (x≤y):=by
  simp only[Ff,Fe]at hr;split at hr
  ·next h=>exact⟨h,(Hp hr).symm⟩
  ·cases hr
 obtain⟨hl,rfl⟩:=h;exact Aib (Any.slices_Sort_int Tryz.lays189) (Any.slices_Sort_int_none Tryz.lays189) l hl
end Go.Proofs.YtjdblamhaljjbaaGreat
