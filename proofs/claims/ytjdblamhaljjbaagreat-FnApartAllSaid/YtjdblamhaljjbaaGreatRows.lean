/-
  No cell of these rows narrows 'for every input' (looked for: loops, veiled, ifaces, maps, wideKeys, modest, calm, conditions, laid).
  DERIVED. THE GIVEN ROWS OF THIS SEAT. 10 by the template 'for every input the law returns true; each argument reads behind the call as it read before'; 0 by the template 'total and deterministic' (their statements: YtjdblamhaljjbaaGreatTotals.lean).
  GIVEN WITH THE SEED: the statements are not yours to turn. If you find one false, say at which input.
  Laid BY PROGRAM, IN A SANDBOX (cutbox-rows.mjs): the forced cells as the released guide's own fill.sh prints them over the translation a990bbdafc8c950c… (all of the seat's roots in one cut). By AI agents, Wed Nov 11 2026. No macro, syntax, notation, axiom, sorry.
-/
import Derived.Test.YtjdblamhaljjbaaGreatChecked
import GoSem.Claim
import GoSem.ClaimJoined
import GoSem.ClaimMapViews
import Derived.JoinedTies
import Derived.KernelRfl
namespace Go.Proofs.YtjdblamhaljjbaaGreat
/- THE CELL 'sum', in the pinned program and in every row, IS THE sha256 OF THE DUMP (.gsa) THAT YtjdblamhaljjbaaGreatProg.lean LOADS. Nothing in Lean hashes anything: it is a label: what it is worth is what the hold of that sum in a sandbox is worth. -/
noncomputable def Tryz.pinned : Pinned := { name := "ytjdblamhaljjbaagreat", sum := "a990bbdafc8c950cbc13a7dc85891d108482e5ffed87ddb638c9ee5167229a80", checked := Tryz.checked }
namespace Rows
def none {H : Type} : Left H := { results := [], args := [] }

/-- 'laws.FnApartAll': WHATEVER THE INPUT: true; the input reads as it did. -/
def fnApartAllSpec : ChangeSpec := { name := "fnApartAll", fn := fun _ => fun
  | [d] => { results := [.lit (.bool true)], args := [d] }
  | _ => none }
def fnApartAllRow : OpenClaim := { program := "ytjdblamhaljjbaagreat", sum := "a990bbdafc8c950cbc13a7dc85891d108482e5ffed87ddb638c9ee5167229a80", func := "loop.example/g00499/laws.FnApartAll", spec := "fnApartAll", unfollowed := true, recurses := true, apart := false }
def FnApartAllSaid : Prop := fnApartAllRow.holds Tryz.pinned (OpenSpec.ofChange fnApartAllSpec)

/-- ITS FALSE NEIGHBOUR: 'it returns false'. Refute it at one input. -/
def fnApartAllWrong : ChangeSpec := { name := "fnApartAll", fn := fun _ => fun
  | [d] => { results := [.lit (.bool false)], args := [d] }
  | _ => none }
def FnApartAllWrongFalsely : Prop := fnApartAllRow.holds Tryz.pinned (OpenSpec.ofChange fnApartAllWrong)

/-- 'laws.FnExactOwedIf': WHATEVER THE INPUT: true; the input reads as it did. -/
def fnExactOwedIfSpec : ChangeSpec := { name := "fnExactOwedIf", fn := fun _ => fun
  | [d1, d2] => { results := [.lit (.bool true)], args := [d1, d2] }
  | _ => none }
def fnExactOwedIfRow : OpenClaim := { program := "ytjdblamhaljjbaagreat", sum := "a990bbdafc8c950cbc13a7dc85891d108482e5ffed87ddb638c9ee5167229a80", func := "loop.example/g00499/laws.FnExactOwedIf", spec := "fnExactOwedIf", unfollowed := true, recurses := true, apart := false }
def FnExactOwedIfSaid : Prop := fnExactOwedIfRow.holds Tryz.pinned (OpenSpec.ofChange fnExactOwedIfSpec)

/-- ITS FALSE NEIGHBOUR: 'it returns false'. Refute it at one input. -/
def fnExactOwedIfWrong : ChangeSpec := { name := "fnExactOwedIf", fn := fun _ => fun
  | [d1, d2] => { results := [.lit (.bool false)], args := [d1, d2] }
  | _ => none }
def FnExactOwedIfWrongFalsely : Prop := fnExactOwedIfRow.holds Tryz.pinned (OpenSpec.ofChange fnExactOwedIfWrong)

/-- 'laws.FnExactReadAll': WHATEVER THE INPUT: true; the input reads as it did. -/
def fnExactReadAllSpec : ChangeSpec := { name := "fnExactReadAll", fn := fun _ => fun
  | [d1, d2] => { results := [.lit (.bool true)], args := [d1, d2] }
  | _ => none }
def fnExactReadAllRow : OpenClaim := { program := "ytjdblamhaljjbaagreat", sum := "a990bbdafc8c950cbc13a7dc85891d108482e5ffed87ddb638c9ee5167229a80", func := "loop.example/g00499/laws.FnExactReadAll", spec := "fnExactReadAll", unfollowed := true, recurses := true, apart := false }
def FnExactReadAllSaid : Prop := fnExactReadAllRow.holds Tryz.pinned (OpenSpec.ofChange fnExactReadAllSpec)

/-- ITS FALSE NEIGHBOUR: 'it returns false'. Refute it at one input. -/
def fnExactReadAllWrong : ChangeSpec := { name := "fnExactReadAll", fn := fun _ => fun
  | [d1, d2] => { results := [.lit (.bool false)], args := [d1, d2] }
  | _ => none }
def FnExactReadAllWrongFalsely : Prop := fnExactReadAllRow.holds Tryz.pinned (OpenSpec.ofChange fnExactReadAllWrong)

/-- 'laws.FnExactTag': WHATEVER THE INPUT: true; the input reads as it did. -/
def fnExactTagSpec : ChangeSpec := { name := "fnExactTag", fn := fun _ => fun
  | [d1, d2, d3] => { results := [.lit (.bool true)], args := [d1, d2, d3] }
  | _ => none }
def fnExactTagRow : OpenClaim := { program := "ytjdblamhaljjbaagreat", sum := "a990bbdafc8c950cbc13a7dc85891d108482e5ffed87ddb638c9ee5167229a80", func := "loop.example/g00499/laws.FnExactTag", spec := "fnExactTag", unfollowed := true, recurses := true, apart := false }
def FnExactTagSaid : Prop := fnExactTagRow.holds Tryz.pinned (OpenSpec.ofChange fnExactTagSpec)

/-- ITS FALSE NEIGHBOUR: 'it returns false'. Refute it at one input. -/
def fnExactTagWrong : ChangeSpec := { name := "fnExactTag", fn := fun _ => fun
  | [d1, d2, d3] => { results := [.lit (.bool false)], args := [d1, d2, d3] }
  | _ => none }
def FnExactTagWrongFalsely : Prop := fnExactTagRow.holds Tryz.pinned (OpenSpec.ofChange fnExactTagWrong)

/-- 'laws.FnExactStats': WHATEVER THE INPUT: true; the input reads as it did. -/
def fnExactStatsSpec : ChangeSpec := { name := "fnExactStats", fn := fun _ => fun
  | [d1, d2] => { results := [.lit (.bool true)], args := [d1, d2] }
  | _ => none }
def fnExactStatsRow : OpenClaim := { program := "ytjdblamhaljjbaagreat", sum := "a990bbdafc8c950cbc13a7dc85891d108482e5ffed87ddb638c9ee5167229a80", func := "loop.example/g00499/laws.FnExactStats", spec := "fnExactStats", unfollowed := true, recurses := true, apart := false }
def FnExactStatsSaid : Prop := fnExactStatsRow.holds Tryz.pinned (OpenSpec.ofChange fnExactStatsSpec)

/-- ITS FALSE NEIGHBOUR: 'it returns false'. Refute it at one input. -/
def fnExactStatsWrong : ChangeSpec := { name := "fnExactStats", fn := fun _ => fun
  | [d1, d2] => { results := [.lit (.bool false)], args := [d1, d2] }
  | _ => none }
def FnExactStatsWrongFalsely : Prop := fnExactStatsRow.holds Tryz.pinned (OpenSpec.ofChange fnExactStatsWrong)

/-- 'laws.FnExactReset': WHATEVER THE INPUT: true; the input reads as it did. -/
def fnExactResetSpec : ChangeSpec := { name := "fnExactReset", fn := fun _ => fun
  | [d1, d2] => { results := [.lit (.bool true)], args := [d1, d2] }
  | _ => none }
def fnExactResetRow : OpenClaim := { program := "ytjdblamhaljjbaagreat", sum := "a990bbdafc8c950cbc13a7dc85891d108482e5ffed87ddb638c9ee5167229a80", func := "loop.example/g00499/laws.FnExactReset", spec := "fnExactReset", unfollowed := true, recurses := true, apart := false }
def FnExactResetSaid : Prop := fnExactResetRow.holds Tryz.pinned (OpenSpec.ofChange fnExactResetSpec)

/-- ITS FALSE NEIGHBOUR: 'it returns false'. Refute it at one input. -/
def fnExactResetWrong : ChangeSpec := { name := "fnExactReset", fn := fun _ => fun
  | [d1, d2] => { results := [.lit (.bool false)], args := [d1, d2] }
  | _ => none }
def FnExactResetWrongFalsely : Prop := fnExactResetRow.holds Tryz.pinned (OpenSpec.ofChange fnExactResetWrong)

/-- 'laws.FnExactDestroy': WHATEVER THE INPUT: true; the input reads as it did. -/
def fnExactDestroySpec : ChangeSpec := { name := "fnExactDestroy", fn := fun _ => fun
  | [d1, d2] => { results := [.lit (.bool true)], args := [d1, d2] }
  | _ => none }
def fnExactDestroyRow : OpenClaim := { program := "ytjdblamhaljjbaagreat", sum := "a990bbdafc8c950cbc13a7dc85891d108482e5ffed87ddb638c9ee5167229a80", func := "loop.example/g00499/laws.FnExactDestroy", spec := "fnExactDestroy", unfollowed := true, recurses := true, apart := false }
def FnExactDestroySaid : Prop := fnExactDestroyRow.holds Tryz.pinned (OpenSpec.ofChange fnExactDestroySpec)

/-- ITS FALSE NEIGHBOUR: 'it returns false'. Refute it at one input. -/
def fnExactDestroyWrong : ChangeSpec := { name := "fnExactDestroy", fn := fun _ => fun
  | [d1, d2] => { results := [.lit (.bool false)], args := [d1, d2] }
  | _ => none }
def FnExactDestroyWrongFalsely : Prop := fnExactDestroyRow.holds Tryz.pinned (OpenSpec.ofChange fnExactDestroyWrong)

/-- 'laws.FnExactRead': WHATEVER THE INPUT: true; the input reads as it did. -/
def fnExactReadSpec : ChangeSpec := { name := "fnExactRead", fn := fun _ => fun
  | [d1, d2, d3, d4] => { results := [.lit (.bool true)], args := [d1, d2, d3, d4] }
  | _ => none }
def fnExactReadRow : OpenClaim := { program := "ytjdblamhaljjbaagreat", sum := "a990bbdafc8c950cbc13a7dc85891d108482e5ffed87ddb638c9ee5167229a80", func := "loop.example/g00499/laws.FnExactRead", spec := "fnExactRead", unfollowed := true, recurses := true, apart := false }
def FnExactReadSaid : Prop := fnExactReadRow.holds Tryz.pinned (OpenSpec.ofChange fnExactReadSpec)

/-- ITS FALSE NEIGHBOUR: 'it returns false'. Refute it at one input. -/
def fnExactReadWrong : ChangeSpec := { name := "fnExactRead", fn := fun _ => fun
  | [d1, d2, d3, d4] => { results := [.lit (.bool false)], args := [d1, d2, d3, d4] }
  | _ => none }
def FnExactReadWrongFalsely : Prop := fnExactReadRow.holds Tryz.pinned (OpenSpec.ofChange fnExactReadWrong)

/-- 'laws.FnExactWrite': WHATEVER THE INPUT: true; the input reads as it did. -/
def fnExactWriteSpec : ChangeSpec := { name := "fnExactWrite", fn := fun _ => fun
  | [d1, d2, d3, d4] => { results := [.lit (.bool true)], args := [d1, d2, d3, d4] }
  | _ => none }
def fnExactWriteRow : OpenClaim := { program := "ytjdblamhaljjbaagreat", sum := "a990bbdafc8c950cbc13a7dc85891d108482e5ffed87ddb638c9ee5167229a80", func := "loop.example/g00499/laws.FnExactWrite", spec := "fnExactWrite", unfollowed := true, recurses := true, apart := false }
def FnExactWriteSaid : Prop := fnExactWriteRow.holds Tryz.pinned (OpenSpec.ofChange fnExactWriteSpec)

/-- ITS FALSE NEIGHBOUR: 'it returns false'. Refute it at one input. -/
def fnExactWriteWrong : ChangeSpec := { name := "fnExactWrite", fn := fun _ => fun
  | [d1, d2, d3, d4] => { results := [.lit (.bool false)], args := [d1, d2, d3, d4] }
  | _ => none }
def FnExactWriteWrongFalsely : Prop := fnExactWriteRow.holds Tryz.pinned (OpenSpec.ofChange fnExactWriteWrong)

/-- 'laws.FnExactDrainAll': WHATEVER THE INPUT: true; the input reads as it did. -/
def fnExactDrainAllSpec : ChangeSpec := { name := "fnExactDrainAll", fn := fun _ => fun
  | [d] => { results := [.lit (.bool true)], args := [d] }
  | _ => none }
def fnExactDrainAllRow : OpenClaim := { program := "ytjdblamhaljjbaagreat", sum := "a990bbdafc8c950cbc13a7dc85891d108482e5ffed87ddb638c9ee5167229a80", func := "loop.example/g00499/laws.FnExactDrainAll", spec := "fnExactDrainAll", inPlace := ["slices.overlaps[loop.example/g00499/impl.Waste]"], unfollowed := true, recurses := true, apart := false }
def FnExactDrainAllSaid : Prop := fnExactDrainAllRow.holds Tryz.pinned (OpenSpec.ofChange fnExactDrainAllSpec)

/-- ITS FALSE NEIGHBOUR: 'it returns false'. Refute it at one input. -/
def fnExactDrainAllWrong : ChangeSpec := { name := "fnExactDrainAll", fn := fun _ => fun
  | [d] => { results := [.lit (.bool false)], args := [d] }
  | _ => none }
def FnExactDrainAllWrongFalsely : Prop := fnExactDrainAllRow.holds Tryz.pinned (OpenSpec.ofChange fnExactDrainAllWrong)

/- THE SECOND FORM. 'bulk': how many values and letters a reading holds, each counted each time it is reached (what is shared counts as often as it is met; a slice's spare places count too). A statement '..UptoSaid' is the law's where the arguments, and the package variables that the reading takes, are together of bulk at most 1048576: NARROWER than '..Said'. Prove '..Said' where nothing that the law and all that it calls make is longer than what came in: it says more and counts as full. Else prove '..UptoSaid'. A law counts once. -/
mutual
def uptoBulk {H : Type} : DataW H → Nat
  | .lit (.string bytes) => bytes.length + 1
  | .lit _ => 1
  | .nil => 1
  | .ptr d => uptoBulk d + 1
  | .slice elems spare => uptoBulkAll elems + uptoBulkAll spare + 1
  | .agg parts => uptoBulkAll parts + 1
  | .iface _ d => uptoBulk d + 1
  | .map entries => uptoBulkEntries entries + 1
  | .held _ => 1
def uptoBulkAll {H : Type} : List (DataW H) → Nat
  | [] => 0
  | d :: r => uptoBulk d + uptoBulkAll r
def uptoBulkEntries {H : Type} : List (Lit × DataW H) → Nat
  | [] => 0
  | x :: r => uptoBulkEntry x + uptoBulkEntries r
def uptoBulkEntry {H : Type} : Lit × DataW H → Nat
  | (.string bytes, d) => bytes.length + uptoBulk d + 1
  | (_, d) => uptoBulk d + 1
 end
def uptoSmall : (H : Type) → List (DataW H) → Bool := fun _ ds => decide (uptoBulkAll ds ≤ 1048576)
def OpenSpec.upto (s : _root_.Go.ChangeSpec) : _root_.Go.OpenSpec := { _root_.Go.OpenSpec.ofChange s with cond := some uptoSmall }

/-- 'laws.FnApartAll', WHERE WHAT IT READS IS OF BULK AT MOST 1048576: true; the input reads as it did. -/
def fnApartAllUptoRow : OpenClaim := { program := "ytjdblamhaljjbaagreat", sum := "a990bbdafc8c950cbc13a7dc85891d108482e5ffed87ddb638c9ee5167229a80", func := "loop.example/g00499/laws.FnApartAll", spec := "fnApartAll", unfollowed := true, recurses := true, apart := false, narrowed := true }
def FnApartAllUptoSaid : Prop := fnApartAllUptoRow.holds Tryz.pinned (OpenSpec.upto fnApartAllSpec)

/-- 'laws.FnExactOwedIf', WHERE WHAT IT READS IS OF BULK AT MOST 1048576: true; the input reads as it did. -/
def fnExactOwedIfUptoRow : OpenClaim := { program := "ytjdblamhaljjbaagreat", sum := "a990bbdafc8c950cbc13a7dc85891d108482e5ffed87ddb638c9ee5167229a80", func := "loop.example/g00499/laws.FnExactOwedIf", spec := "fnExactOwedIf", unfollowed := true, recurses := true, apart := false, narrowed := true }
def FnExactOwedIfUptoSaid : Prop := fnExactOwedIfUptoRow.holds Tryz.pinned (OpenSpec.upto fnExactOwedIfSpec)

/-- 'laws.FnExactReadAll', WHERE WHAT IT READS IS OF BULK AT MOST 1048576: true; the input reads as it did. -/
def fnExactReadAllUptoRow : OpenClaim := { program := "ytjdblamhaljjbaagreat", sum := "a990bbdafc8c950cbc13a7dc85891d108482e5ffed87ddb638c9ee5167229a80", func := "loop.example/g00499/laws.FnExactReadAll", spec := "fnExactReadAll", unfollowed := true, recurses := true, apart := false, narrowed := true }
def FnExactReadAllUptoSaid : Prop := fnExactReadAllUptoRow.holds Tryz.pinned (OpenSpec.upto fnExactReadAllSpec)

/-- 'laws.FnExactTag', WHERE WHAT IT READS IS OF BULK AT MOST 1048576: true; the input reads as it did. -/
def fnExactTagUptoRow : OpenClaim := { program := "ytjdblamhaljjbaagreat", sum := "a990bbdafc8c950cbc13a7dc85891d108482e5ffed87ddb638c9ee5167229a80", func := "loop.example/g00499/laws.FnExactTag", spec := "fnExactTag", unfollowed := true, recurses := true, apart := false, narrowed := true }
def FnExactTagUptoSaid : Prop := fnExactTagUptoRow.holds Tryz.pinned (OpenSpec.upto fnExactTagSpec)

/-- 'laws.FnExactStats', WHERE WHAT IT READS IS OF BULK AT MOST 1048576: true; the input reads as it did. -/
def fnExactStatsUptoRow : OpenClaim := { program := "ytjdblamhaljjbaagreat", sum := "a990bbdafc8c950cbc13a7dc85891d108482e5ffed87ddb638c9ee5167229a80", func := "loop.example/g00499/laws.FnExactStats", spec := "fnExactStats", unfollowed := true, recurses := true, apart := false, narrowed := true }
def FnExactStatsUptoSaid : Prop := fnExactStatsUptoRow.holds Tryz.pinned (OpenSpec.upto fnExactStatsSpec)

/-- 'laws.FnExactReset', WHERE WHAT IT READS IS OF BULK AT MOST 1048576: true; the input reads as it did. -/
def fnExactResetUptoRow : OpenClaim := { program := "ytjdblamhaljjbaagreat", sum := "a990bbdafc8c950cbc13a7dc85891d108482e5ffed87ddb638c9ee5167229a80", func := "loop.example/g00499/laws.FnExactReset", spec := "fnExactReset", unfollowed := true, recurses := true, apart := false, narrowed := true }
def FnExactResetUptoSaid : Prop := fnExactResetUptoRow.holds Tryz.pinned (OpenSpec.upto fnExactResetSpec)

/-- 'laws.FnExactDestroy', WHERE WHAT IT READS IS OF BULK AT MOST 1048576: true; the input reads as it did. -/
def fnExactDestroyUptoRow : OpenClaim := { program := "ytjdblamhaljjbaagreat", sum := "a990bbdafc8c950cbc13a7dc85891d108482e5ffed87ddb638c9ee5167229a80", func := "loop.example/g00499/laws.FnExactDestroy", spec := "fnExactDestroy", unfollowed := true, recurses := true, apart := false, narrowed := true }
def FnExactDestroyUptoSaid : Prop := fnExactDestroyUptoRow.holds Tryz.pinned (OpenSpec.upto fnExactDestroySpec)

/-- 'laws.FnExactRead', WHERE WHAT IT READS IS OF BULK AT MOST 1048576: true; the input reads as it did. -/
def fnExactReadUptoRow : OpenClaim := { program := "ytjdblamhaljjbaagreat", sum := "a990bbdafc8c950cbc13a7dc85891d108482e5ffed87ddb638c9ee5167229a80", func := "loop.example/g00499/laws.FnExactRead", spec := "fnExactRead", unfollowed := true, recurses := true, apart := false, narrowed := true }
def FnExactReadUptoSaid : Prop := fnExactReadUptoRow.holds Tryz.pinned (OpenSpec.upto fnExactReadSpec)

/-- 'laws.FnExactWrite', WHERE WHAT IT READS IS OF BULK AT MOST 1048576: true; the input reads as it did. -/
def fnExactWriteUptoRow : OpenClaim := { program := "ytjdblamhaljjbaagreat", sum := "a990bbdafc8c950cbc13a7dc85891d108482e5ffed87ddb638c9ee5167229a80", func := "loop.example/g00499/laws.FnExactWrite", spec := "fnExactWrite", unfollowed := true, recurses := true, apart := false, narrowed := true }
def FnExactWriteUptoSaid : Prop := fnExactWriteUptoRow.holds Tryz.pinned (OpenSpec.upto fnExactWriteSpec)

/-- 'laws.FnExactDrainAll', WHERE WHAT IT READS IS OF BULK AT MOST 1048576: true; the input reads as it did. -/
def fnExactDrainAllUptoRow : OpenClaim := { program := "ytjdblamhaljjbaagreat", sum := "a990bbdafc8c950cbc13a7dc85891d108482e5ffed87ddb638c9ee5167229a80", func := "loop.example/g00499/laws.FnExactDrainAll", spec := "fnExactDrainAll", inPlace := ["slices.overlaps[loop.example/g00499/impl.Waste]"], unfollowed := true, recurses := true, apart := false, narrowed := true }
def FnExactDrainAllUptoSaid : Prop := fnExactDrainAllUptoRow.holds Tryz.pinned (OpenSpec.upto fnExactDrainAllSpec)

end Rows
end Go.Proofs.YtjdblamhaljjbaaGreat
