/- The contract of slices.Sort; no condition. -/
import Derived.Test.YtjdblamhaljjbaaGreatFUni
import Derived.Test.YtjdblamhaljjbaaGreatEc
import Derived.Test.YtjdblamhaljjbaaGreatShelf
set_option linter.all false
namespace Go.Proofs.YtjdblamhaljjbaaGreat
open Go.Eng
noncomputable def m_slices_Sort_int (K : Nat) (a0 : List Int) : Option (List Int) := if a0.length < 4611686018427387904 then some (a0.mergeSort fun x y => decide (x ≤ y)) else none
def s_slices_Sort_int : Sig := ⟨[.w 26 true [(3, true)]], [], true⟩
noncomputable def c_slices_Sort_int (K : Nat) : Ctr tyU := ⟨s_slices_Sort_int, m_slices_Sort_int K⟩
theorem sp_slices_Sort_int (K : Nat) : Ctr.Ok tyU Tryz.prog 228 (c_slices_Sort_int K) ∧ FnOk Tryz.prog 228 := by
 refine ⟨fun l r hr => ?_, _, Tryz.func228, by kernel_rfl, by kernel_rfl⟩
 have h : l.length < 4611686018427387904 ∧ r = l.mergeSort fun x y => decide (x ≤ y) := by
  simp only [c_slices_Sort_int, m_slices_Sort_int] at hr
  split at hr
  ·next h => exact ⟨h, (Z32 hr).symm⟩
  ·cases hr
 obtain ⟨hl, rfl⟩ := h
 exact sort_sp (Any.slices_Sort_int Tryz.lays189) (Any.slices_Sort_int_none Tryz.lays189) l hl
end Go.Proofs.YtjdblamhaljjbaaGreat
