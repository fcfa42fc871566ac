/- The contract of slices.Sort; no condition. -/
import Derived.Test.YtplfjgdlpbdojaaGreatFUni
import Derived.Test.YtplfjgdlpbdojaaGreatEc
import Derived.Test.YtplfjgdlpbdojaaGreatShelf
set_option linter.all false
namespace Go.Proofs.YtplfjgdlpbdojaaGreat
open Go.Eng
noncomputable def D6 (K:Nat)(a0:List Int):Option (List Int):=if a0.length<4611686018427387904 then some (a0.mergeSort fun x y=>decide (x≤y))else none
def F7:Sig:=⟨[.w 26 true [(3,true)]],[],true⟩
noncomputable def D7 (K:Nat):Fe tyU:=⟨F7,D6 K⟩
theorem Vg (K:Nat):Fe.Ok tyU Tryz.prog 80 (D7 K)∧Ed Tryz.prog 80:=by
 refine⟨fun l r hr=> ?_,_,Tryz.func80,by kernel_rfl,by kernel_rfl⟩
 have h:l.length<4611686018427387904∧r=l.mergeSort fun x y=>decide (x≤y):=by
  simp only[D7,D6]at hr;split at hr
  ·next h=>exact⟨h,(F9 hr).symm⟩
  ·cases hr
 obtain⟨hl,rfl⟩:=h;exact Aft (Any.slices_Sort_int Tryz.lays189) (Any.slices_Sort_int_none Tryz.lays189) l hl
end Go.Proofs.YtplfjgdlpbdojaaGreat
