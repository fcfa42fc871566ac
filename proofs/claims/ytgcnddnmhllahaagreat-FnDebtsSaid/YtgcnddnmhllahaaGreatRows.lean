/-
  No cell of these rows narrows 'for every input' (looked for: loops, veiled, ifaces, maps, wideKeys, modest, calm, conditions, laid).
  DERIVED. THE GIVEN ROWS OF THIS SEAT. 9 by the template 'for every input the law returns true; each argument reads behind the call as it read before'; 0 by the template 'total and deterministic' (their statements: YtgcnddnmhllahaaGreatTotals.lean).
  GIVEN WITH THE SEED: the statements are not yours to turn. If you find one false, say at which input.
  Laid BY PROGRAM, IN A SANDBOX (cutbox-rows.mjs): the forced cells as the released guide's own fill.sh prints them over the translation 3ff59d28b9090ea1… (all of the seat's roots in one cut). By AI agents, Wed Nov 11 2026. No macro, syntax, notation, axiom, sorry.
-/
import Derived.Test.YtgcnddnmhllahaaGreatChecked
import GoSem.Claim
import GoSem.ClaimJoined
import GoSem.ClaimMapViews
import Derived.JoinedTies
import Derived.KernelRfl
namespace Go.Proofs.YtgcnddnmhllahaaGreat
/- THE CELL 'sum', in the pinned program and in every row, IS THE sha256 OF THE DUMP (.gsa) THAT YtgcnddnmhllahaaGreatProg.lean LOADS. Nothing in Lean hashes anything: it is a label: what it is worth is what the hold of that sum in a sandbox is worth. -/
noncomputable def Tryz.pinned : Pinned := { name := "ytgcnddnmhllahaagreat", sum := "3ff59d28b9090ea1b1a2fbb2aa476fe425bb875627920645a8eb28d49671b3f9", checked := Tryz.checked }
namespace Rows
def none {H : Type} : Left H := { results := [], args := [] }

/-- 'laws.FnExactDrainAll': WHATEVER THE INPUT: true; the input reads as it did. -/
def fnExactDrainAllSpec : ChangeSpec := { name := "fnExactDrainAll", fn := fun _ => fun
  | [d] => { results := [.lit (.bool true)], args := [d] }
  | _ => none }
def fnExactDrainAllRow : OpenClaim := { program := "ytgcnddnmhllahaagreat", sum := "3ff59d28b9090ea1b1a2fbb2aa476fe425bb875627920645a8eb28d49671b3f9", func := "loop.example/g00499/laws.FnExactDrainAll", spec := "fnExactDrainAll", inPlace := ["slices.overlaps[loop.example/g00499/impl.Waste]"], unfollowed := true, recurses := true, apart := false }
def FnExactDrainAllSaid : Prop := fnExactDrainAllRow.holds Tryz.pinned (OpenSpec.ofChange fnExactDrainAllSpec)

/-- ITS FALSE NEIGHBOUR: 'it returns false'. Refute it at one input. -/
def fnExactDrainAllWrong : ChangeSpec := { name := "fnExactDrainAll", fn := fun _ => fun
  | [d] => { results := [.lit (.bool false)], args := [d] }
  | _ => none }
def FnExactDrainAllWrongFalsely : Prop := fnExactDrainAllRow.holds Tryz.pinned (OpenSpec.ofChange fnExactDrainAllWrong)

/-- 'laws.FnAlone': WHATEVER THE INPUT: true; the input reads as it did. -/
def fnAloneSpec : ChangeSpec := { name := "fnAlone", fn := fun _ => fun
  | [d] => { results := [.lit (.bool true)], args := [d] }
  | _ => none }
def fnAloneRow : OpenClaim := { program := "ytgcnddnmhllahaagreat", sum := "3ff59d28b9090ea1b1a2fbb2aa476fe425bb875627920645a8eb28d49671b3f9", func := "loop.example/g00499/laws.FnAlone", spec := "fnAlone", inPlace := ["slices.overlaps[loop.example/g00499/impl.Waste]"], unfollowed := true, recurses := true, apart := false }
def FnAloneSaid : Prop := fnAloneRow.holds Tryz.pinned (OpenSpec.ofChange fnAloneSpec)

/-- ITS FALSE NEIGHBOUR: 'it returns false'. Refute it at one input. -/
def fnAloneWrong : ChangeSpec := { name := "fnAlone", fn := fun _ => fun
  | [d] => { results := [.lit (.bool false)], args := [d] }
  | _ => none }
def FnAloneWrongFalsely : Prop := fnAloneRow.holds Tryz.pinned (OpenSpec.ofChange fnAloneWrong)

/-- 'laws.FnWorlds': WHATEVER THE INPUT: true; the input reads as it did. -/
def fnWorldsSpec : ChangeSpec := { name := "fnWorlds", fn := fun _ => fun
  | [d] => { results := [.lit (.bool true)], args := [d] }
  | _ => none }
def fnWorldsRow : OpenClaim := { program := "ytgcnddnmhllahaagreat", sum := "3ff59d28b9090ea1b1a2fbb2aa476fe425bb875627920645a8eb28d49671b3f9", func := "loop.example/g00499/laws.FnWorlds", spec := "fnWorlds", unfollowed := true, recurses := true, apart := false }
def FnWorldsSaid : Prop := fnWorldsRow.holds Tryz.pinned (OpenSpec.ofChange fnWorldsSpec)

/-- ITS FALSE NEIGHBOUR: 'it returns false'. Refute it at one input. -/
def fnWorldsWrong : ChangeSpec := { name := "fnWorlds", fn := fun _ => fun
  | [d] => { results := [.lit (.bool false)], args := [d] }
  | _ => none }
def FnWorldsWrongFalsely : Prop := fnWorldsRow.holds Tryz.pinned (OpenSpec.ofChange fnWorldsWrong)

/-- 'laws.FnDeeps': WHATEVER THE INPUT: true; the input reads as it did. -/
def fnDeepsSpec : ChangeSpec := { name := "fnDeeps", fn := fun _ => fun
  | [d] => { results := [.lit (.bool true)], args := [d] }
  | _ => none }
def fnDeepsRow : OpenClaim := { program := "ytgcnddnmhllahaagreat", sum := "3ff59d28b9090ea1b1a2fbb2aa476fe425bb875627920645a8eb28d49671b3f9", func := "loop.example/g00499/laws.FnDeeps", spec := "fnDeeps", inPlace := ["slices.overlaps[loop.example/g00499/impl.Waste]"], unfollowed := true, recurses := true, apart := false }
def FnDeepsSaid : Prop := fnDeepsRow.holds Tryz.pinned (OpenSpec.ofChange fnDeepsSpec)

/-- ITS FALSE NEIGHBOUR: 'it returns false'. Refute it at one input. -/
def fnDeepsWrong : ChangeSpec := { name := "fnDeeps", fn := fun _ => fun
  | [d] => { results := [.lit (.bool false)], args := [d] }
  | _ => none }
def FnDeepsWrongFalsely : Prop := fnDeepsRow.holds Tryz.pinned (OpenSpec.ofChange fnDeepsWrong)

/-- 'laws.FnClears': WHATEVER THE INPUT: true; the input reads as it did. -/
def fnClearsSpec : ChangeSpec := { name := "fnClears", fn := fun _ => fun
  | [d] => { results := [.lit (.bool true)], args := [d] }
  | _ => none }
def fnClearsRow : OpenClaim := { program := "ytgcnddnmhllahaagreat", sum := "3ff59d28b9090ea1b1a2fbb2aa476fe425bb875627920645a8eb28d49671b3f9", func := "loop.example/g00499/laws.FnClears", spec := "fnClears", inPlace := ["slices.overlaps[loop.example/g00499/impl.Waste]"], unfollowed := true, recurses := true, apart := false }
def FnClearsSaid : Prop := fnClearsRow.holds Tryz.pinned (OpenSpec.ofChange fnClearsSpec)

/-- ITS FALSE NEIGHBOUR: 'it returns false'. Refute it at one input. -/
def fnClearsWrong : ChangeSpec := { name := "fnClears", fn := fun _ => fun
  | [d] => { results := [.lit (.bool false)], args := [d] }
  | _ => none }
def FnClearsWrongFalsely : Prop := fnClearsRow.holds Tryz.pinned (OpenSpec.ofChange fnClearsWrong)

/-- 'laws.FnPendings': WHATEVER THE INPUT: true; the input reads as it did. -/
def fnPendingsSpec : ChangeSpec := { name := "fnPendings", fn := fun _ => fun
  | [d] => { results := [.lit (.bool true)], args := [d] }
  | _ => none }
def fnPendingsRow : OpenClaim := { program := "ytgcnddnmhllahaagreat", sum := "3ff59d28b9090ea1b1a2fbb2aa476fe425bb875627920645a8eb28d49671b3f9", func := "loop.example/g00499/laws.FnPendings", spec := "fnPendings", inPlace := ["slices.overlaps[loop.example/g00499/impl.Waste]"], unfollowed := true, recurses := true, apart := false }
def FnPendingsSaid : Prop := fnPendingsRow.holds Tryz.pinned (OpenSpec.ofChange fnPendingsSpec)

/-- ITS FALSE NEIGHBOUR: 'it returns false'. Refute it at one input. -/
def fnPendingsWrong : ChangeSpec := { name := "fnPendings", fn := fun _ => fun
  | [d] => { results := [.lit (.bool false)], args := [d] }
  | _ => none }
def FnPendingsWrongFalsely : Prop := fnPendingsRow.holds Tryz.pinned (OpenSpec.ofChange fnPendingsWrong)

/-- 'laws.FnClearsAll': WHATEVER THE INPUT: true; the input reads as it did. -/
def fnClearsAllSpec : ChangeSpec := { name := "fnClearsAll", fn := fun _ => fun
  | [d] => { results := [.lit (.bool true)], args := [d] }
  | _ => none }
def fnClearsAllRow : OpenClaim := { program := "ytgcnddnmhllahaagreat", sum := "3ff59d28b9090ea1b1a2fbb2aa476fe425bb875627920645a8eb28d49671b3f9", func := "loop.example/g00499/laws.FnClearsAll", spec := "fnClearsAll", inPlace := ["slices.overlaps[loop.example/g00499/impl.Waste]"], unfollowed := true, recurses := true, apart := false }
def FnClearsAllSaid : Prop := fnClearsAllRow.holds Tryz.pinned (OpenSpec.ofChange fnClearsAllSpec)

/-- ITS FALSE NEIGHBOUR: 'it returns false'. Refute it at one input. -/
def fnClearsAllWrong : ChangeSpec := { name := "fnClearsAll", fn := fun _ => fun
  | [d] => { results := [.lit (.bool false)], args := [d] }
  | _ => none }
def FnClearsAllWrongFalsely : Prop := fnClearsAllRow.holds Tryz.pinned (OpenSpec.ofChange fnClearsAllWrong)

/-- 'laws.FnDebts': WHATEVER THE INPUT: true; the input reads as it did. -/
def fnDebtsSpec : ChangeSpec := { name := "fnDebts", fn := fun _ => fun
  | [d] => { results := [.lit (.bool true)], args := [d] }
  | _ => none }
def fnDebtsRow : OpenClaim := { program := "ytgcnddnmhllahaagreat", sum := "3ff59d28b9090ea1b1a2fbb2aa476fe425bb875627920645a8eb28d49671b3f9", func := "loop.example/g00499/laws.FnDebts", spec := "fnDebts", inPlace := ["slices.overlaps[loop.example/g00499/impl.Waste]"], unfollowed := true, recurses := true, apart := false }
def FnDebtsSaid : Prop := fnDebtsRow.holds Tryz.pinned (OpenSpec.ofChange fnDebtsSpec)

/-- ITS FALSE NEIGHBOUR: 'it returns false'. Refute it at one input. -/
def fnDebtsWrong : ChangeSpec := { name := "fnDebts", fn := fun _ => fun
  | [d] => { results := [.lit (.bool false)], args := [d] }
  | _ => none }
def FnDebtsWrongFalsely : Prop := fnDebtsRow.holds Tryz.pinned (OpenSpec.ofChange fnDebtsWrong)

/-- 'laws.FnUsedUp': WHATEVER THE INPUT: true; the input reads as it did. -/
def fnUsedUpSpec : ChangeSpec := { name := "fnUsedUp", fn := fun _ => fun
  | [d] => { results := [.lit (.bool true)], args := [d] }
  | _ => none }
def fnUsedUpRow : OpenClaim := { program := "ytgcnddnmhllahaagreat", sum := "3ff59d28b9090ea1b1a2fbb2aa476fe425bb875627920645a8eb28d49671b3f9", func := "loop.example/g00499/laws.FnUsedUp", spec := "fnUsedUp", inPlace := ["slices.overlaps[loop.example/g00499/impl.Waste]"], unfollowed := true, recurses := true, apart := false }
def FnUsedUpSaid : Prop := fnUsedUpRow.holds Tryz.pinned (OpenSpec.ofChange fnUsedUpSpec)

/-- ITS FALSE NEIGHBOUR: 'it returns false'. Refute it at one input. -/
def fnUsedUpWrong : ChangeSpec := { name := "fnUsedUp", fn := fun _ => fun
  | [d] => { results := [.lit (.bool false)], args := [d] }
  | _ => none }
def FnUsedUpWrongFalsely : Prop := fnUsedUpRow.holds Tryz.pinned (OpenSpec.ofChange fnUsedUpWrong)

/- THE SECOND FORM. 'bulk': how many values and letters a reading holds, each counted each time it is reached (what is shared counts as often as it is met; a slice's spare places count too). A statement '..UptoSaid' is the law's where the arguments, and the package variables that the reading takes, are together of bulk at most 1048576: NARROWER than '..Said'. Prove '..Said' where nothing that the law and all that it calls make is longer than what came in: it says more and counts as full. Else prove '..UptoSaid'. A law counts once. -/
mutual
def uptoBulk {H : Type} : DataW H → Nat
  | .lit (.string bytes) => bytes.length + 1
  | .lit _ => 1
  | .nil => 1
  | .ptr d => uptoBulk d + 1
  | .slice elems spare => uptoBulkAll elems + uptoBulkAll spare + 1
  | .agg parts => uptoBulkAll parts + 1
  | .iface _ d => uptoBulk d + 1
  | .map entries => uptoBulkEntries entries + 1
  | .held _ => 1
def uptoBulkAll {H : Type} : List (DataW H) → Nat
  | [] => 0
  | d :: r => uptoBulk d + uptoBulkAll r
def uptoBulkEntries {H : Type} : List (Lit × DataW H) → Nat
  | [] => 0
  | x :: r => uptoBulkEntry x + uptoBulkEntries r
def uptoBulkEntry {H : Type} : Lit × DataW H → Nat
  | (.string bytes, d) => bytes.length + uptoBulk d + 1
  | (_, d) => uptoBulk d + 1
 end
def uptoSmall : (H : Type) → List (DataW H) → Bool := fun _ ds => decide (uptoBulkAll ds ≤ 1048576)
def OpenSpec.upto (s : _root_.Go.ChangeSpec) : _root_.Go.OpenSpec := { _root_.Go.OpenSpec.ofChange s with cond := some uptoSmall }

/-- 'laws.FnExactDrainAll', WHERE WHAT IT READS IS OF BULK AT MOST 1048576: true; the input reads as it did. -/
def fnExactDrainAllUptoRow : OpenClaim := { program := "ytgcnddnmhllahaagreat", sum := "3ff59d28b9090ea1b1a2fbb2aa476fe425bb875627920645a8eb28d49671b3f9", func := "loop.example/g00499/laws.FnExactDrainAll", spec := "fnExactDrainAll", inPlace := ["slices.overlaps[loop.example/g00499/impl.Waste]"], unfollowed := true, recurses := true, apart := false, narrowed := true }
def FnExactDrainAllUptoSaid : Prop := fnExactDrainAllUptoRow.holds Tryz.pinned (OpenSpec.upto fnExactDrainAllSpec)

/-- 'laws.FnAlone', WHERE WHAT IT READS IS OF BULK AT MOST 1048576: true; the input reads as it did. -/
def fnAloneUptoRow : OpenClaim := { program := "ytgcnddnmhllahaagreat", sum := "3ff59d28b9090ea1b1a2fbb2aa476fe425bb875627920645a8eb28d49671b3f9", func := "loop.example/g00499/laws.FnAlone", spec := "fnAlone", inPlace := ["slices.overlaps[loop.example/g00499/impl.Waste]"], unfollowed := true, recurses := true, apart := false, narrowed := true }
def FnAloneUptoSaid : Prop := fnAloneUptoRow.holds Tryz.pinned (OpenSpec.upto fnAloneSpec)

/-- 'laws.FnWorlds', WHERE WHAT IT READS IS OF BULK AT MOST 1048576: true; the input reads as it did. -/
def fnWorldsUptoRow : OpenClaim := { program := "ytgcnddnmhllahaagreat", sum := "3ff59d28b9090ea1b1a2fbb2aa476fe425bb875627920645a8eb28d49671b3f9", func := "loop.example/g00499/laws.FnWorlds", spec := "fnWorlds", unfollowed := true, recurses := true, apart := false, narrowed := true }
def FnWorldsUptoSaid : Prop := fnWorldsUptoRow.holds Tryz.pinned (OpenSpec.upto fnWorldsSpec)

/-- 'laws.FnDeeps', WHERE WHAT IT READS IS OF BULK AT MOST 1048576: true; the input reads as it did. -/
def fnDeepsUptoRow : OpenClaim := { program := "ytgcnddnmhllahaagreat", sum := "3ff59d28b9090ea1b1a2fbb2aa476fe425bb875627920645a8eb28d49671b3f9", func := "loop.example/g00499/laws.FnDeeps", spec := "fnDeeps", inPlace := ["slices.overlaps[loop.example/g00499/impl.Waste]"], unfollowed := true, recurses := true, apart := false, narrowed := true }
def FnDeepsUptoSaid : Prop := fnDeepsUptoRow.holds Tryz.pinned (OpenSpec.upto fnDeepsSpec)

/-- 'laws.FnClears', WHERE WHAT IT READS IS OF BULK AT MOST 1048576: true; the input reads as it did. -/
def fnClearsUptoRow : OpenClaim := { program := "ytgcnddnmhllahaagreat", sum := "3ff59d28b9090ea1b1a2fbb2aa476fe425bb875627920645a8eb28d49671b3f9", func := "loop.example/g00499/laws.FnClears", spec := "fnClears", inPlace := ["slices.overlaps[loop.example/g00499/impl.Waste]"], unfollowed := true, recurses := true, apart := false, narrowed := true }
def FnClearsUptoSaid : Prop := fnClearsUptoRow.holds Tryz.pinned (OpenSpec.upto fnClearsSpec)

/-- 'laws.FnPendings', WHERE WHAT IT READS IS OF BULK AT MOST 1048576: true; the input reads as it did. -/
def fnPendingsUptoRow : OpenClaim := { program := "ytgcnddnmhllahaagreat", sum := "3ff59d28b9090ea1b1a2fbb2aa476fe425bb875627920645a8eb28d49671b3f9", func := "loop.example/g00499/laws.FnPendings", spec := "fnPendings", inPlace := ["slices.overlaps[loop.example/g00499/impl.Waste]"], unfollowed := true, recurses := true, apart := false, narrowed := true }
def FnPendingsUptoSaid : Prop := fnPendingsUptoRow.holds Tryz.pinned (OpenSpec.upto fnPendingsSpec)

/-- 'laws.FnClearsAll', WHERE WHAT IT READS IS OF BULK AT MOST 1048576: true; the input reads as it did. -/
def fnClearsAllUptoRow : OpenClaim := { program := "ytgcnddnmhllahaagreat", sum := "3ff59d28b9090ea1b1a2fbb2aa476fe425bb875627920645a8eb28d49671b3f9", func := "loop.example/g00499/laws.FnClearsAll", spec := "fnClearsAll", inPlace := ["slices.overlaps[loop.example/g00499/impl.Waste]"], unfollowed := true, recurses := true, apart := false, narrowed := true }
def FnClearsAllUptoSaid : Prop := fnClearsAllUptoRow.holds Tryz.pinned (OpenSpec.upto fnClearsAllSpec)

/-- 'laws.FnDebts', WHERE WHAT IT READS IS OF BULK AT MOST 1048576: true; the input reads as it did. -/
def fnDebtsUptoRow : OpenClaim := { program := "ytgcnddnmhllahaagreat", sum := "3ff59d28b9090ea1b1a2fbb2aa476fe425bb875627920645a8eb28d49671b3f9", func := "loop.example/g00499/laws.FnDebts", spec := "fnDebts", inPlace := ["slices.overlaps[loop.example/g00499/impl.Waste]"], unfollowed := true, recurses := true, apart := false, narrowed := true }
def FnDebtsUptoSaid : Prop := fnDebtsUptoRow.holds Tryz.pinned (OpenSpec.upto fnDebtsSpec)

/-- 'laws.FnUsedUp', WHERE WHAT IT READS IS OF BULK AT MOST 1048576: true; the input reads as it did. -/
def fnUsedUpUptoRow : OpenClaim := { program := "ytgcnddnmhllahaagreat", sum := "3ff59d28b9090ea1b1a2fbb2aa476fe425bb875627920645a8eb28d49671b3f9", func := "loop.example/g00499/laws.FnUsedUp", spec := "fnUsedUp", inPlace := ["slices.overlaps[loop.example/g00499/impl.Waste]"], unfollowed := true, recurses := true, apart := false, narrowed := true }
def FnUsedUpUptoSaid : Prop := fnUsedUpUptoRow.holds Tryz.pinned (OpenSpec.upto fnUsedUpSpec)

end Rows
end Go.Proofs.YtgcnddnmhllahaaGreat
