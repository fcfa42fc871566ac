/-
  No cell of these rows narrows 'for every input' (looked for: loops, veiled, ifaces, maps, wideKeys, modest, calm, conditions, laid).
  DERIVED. THE GIVEN ROWS OF THIS SEAT. 8 by the template 'for every input the law returns true; each argument reads behind the call as it read before'; 0 by the template 'total and deterministic' (their statements: YtemgbggfhohfeaaTotals.lean).
  GIVEN WITH THE SEED: the statements are not yours to turn. If you find one false, say at which input.
  Laid BY PROGRAM, IN A SANDBOX (cutbox-rows.mjs): the forced cells as the released guide's own fill.sh prints them over the translation 73db1a9732a77941… (all of the seat's roots in one cut). By AI agents, Wed Nov 11 2026. No macro, syntax, notation, axiom, sorry.
-/
import Derived.Test.YtemgbggfhohfeaaChecked
import GoSem.Claim
import GoSem.ClaimJoined
import GoSem.ClaimMapViews
import Derived.JoinedTies
import Derived.KernelRfl
namespace Go.Proofs.Ytemgbggfhohfeaa
/- THE CELL 'sum', in the pinned program and in every row, IS THE sha256 OF THE DUMP (.gsa) THAT YtemgbggfhohfeaaProg.lean LOADS. Nothing in Lean hashes anything: it is a label: what it is worth is what the hold of that sum in a sandbox is worth. -/
noncomputable def Try.pinned : Pinned := { name := "ytemgbggfhohfeaa", sum := "73db1a9732a77941cc5ad41a0cd525b20027baf905e1fdafef2a40c30d3cf80b", checked := Try.checked }
namespace Rows
def none {H : Type} : Left H := { results := [], args := [] }

/-- 'laws.FnExactCostOf': WHATEVER THE INPUT: true; the input reads as it did. -/
def fnExactCostOfSpec : ChangeSpec := { name := "fnExactCostOf", fn := fun _ => fun
  | [d1, d2] => { results := [.lit (.bool true)], args := [d1, d2] }
  | _ => none }
def fnExactCostOfRow : OpenClaim := { program := "ytemgbggfhohfeaa", sum := "73db1a9732a77941cc5ad41a0cd525b20027baf905e1fdafef2a40c30d3cf80b", func := "loop.example/g00499/laws.FnExactCostOf", spec := "fnExactCostOf", apart := false }
def FnExactCostOfSaid : Prop := fnExactCostOfRow.holds Try.pinned (OpenSpec.ofChange fnExactCostOfSpec)

/-- ITS FALSE NEIGHBOUR: 'it returns false'. Refute it at one input. -/
def fnExactCostOfWrong : ChangeSpec := { name := "fnExactCostOf", fn := fun _ => fun
  | [d1, d2] => { results := [.lit (.bool false)], args := [d1, d2] }
  | _ => none }
def FnExactCostOfWrongFalsely : Prop := fnExactCostOfRow.holds Try.pinned (OpenSpec.ofChange fnExactCostOfWrong)

/-- 'laws.FnExactIsGone': WHATEVER THE INPUT: true; the input reads as it did. -/
def fnExactIsGoneSpec : ChangeSpec := { name := "fnExactIsGone", fn := fun _ => fun
  | [d1, d2] => { results := [.lit (.bool true)], args := [d1, d2] }
  | _ => none }
def fnExactIsGoneRow : OpenClaim := { program := "ytemgbggfhohfeaa", sum := "73db1a9732a77941cc5ad41a0cd525b20027baf905e1fdafef2a40c30d3cf80b", func := "loop.example/g00499/laws.FnExactIsGone", spec := "fnExactIsGone", apart := false }
def FnExactIsGoneSaid : Prop := fnExactIsGoneRow.holds Try.pinned (OpenSpec.ofChange fnExactIsGoneSpec)

/-- ITS FALSE NEIGHBOUR: 'it returns false'. Refute it at one input. -/
def fnExactIsGoneWrong : ChangeSpec := { name := "fnExactIsGone", fn := fun _ => fun
  | [d1, d2] => { results := [.lit (.bool false)], args := [d1, d2] }
  | _ => none }
def FnExactIsGoneWrongFalsely : Prop := fnExactIsGoneRow.holds Try.pinned (OpenSpec.ofChange fnExactIsGoneWrong)

/-- 'laws.FnExactWithin': WHATEVER THE INPUT: true; the input reads as it did. -/
def fnExactWithinSpec : ChangeSpec := { name := "fnExactWithin", fn := fun _ => fun
  | [d1, d2, d3] => { results := [.lit (.bool true)], args := [d1, d2, d3] }
  | _ => none }
def fnExactWithinRow : OpenClaim := { program := "ytemgbggfhohfeaa", sum := "73db1a9732a77941cc5ad41a0cd525b20027baf905e1fdafef2a40c30d3cf80b", func := "loop.example/g00499/laws.FnExactWithin", spec := "fnExactWithin", apart := false }
def FnExactWithinSaid : Prop := fnExactWithinRow.holds Try.pinned (OpenSpec.ofChange fnExactWithinSpec)

/-- ITS FALSE NEIGHBOUR: 'it returns false'. Refute it at one input. -/
def fnExactWithinWrong : ChangeSpec := { name := "fnExactWithin", fn := fun _ => fun
  | [d1, d2, d3] => { results := [.lit (.bool false)], args := [d1, d2, d3] }
  | _ => none }
def FnExactWithinWrongFalsely : Prop := fnExactWithinRow.holds Try.pinned (OpenSpec.ofChange fnExactWithinWrong)

/-- 'laws.FnExactNewRef': WHATEVER THE INPUT: true; the input reads as it did. -/
def fnExactNewRefSpec : ChangeSpec := { name := "fnExactNewRef", fn := fun _ => fun
  | [d1, d2] => { results := [.lit (.bool true)], args := [d1, d2] }
  | _ => none }
def fnExactNewRefRow : OpenClaim := { program := "ytemgbggfhohfeaa", sum := "73db1a9732a77941cc5ad41a0cd525b20027baf905e1fdafef2a40c30d3cf80b", func := "loop.example/g00499/laws.FnExactNewRef", spec := "fnExactNewRef", apart := false }
def FnExactNewRefSaid : Prop := fnExactNewRefRow.holds Try.pinned (OpenSpec.ofChange fnExactNewRefSpec)

/-- ITS FALSE NEIGHBOUR: 'it returns false'. Refute it at one input. -/
def fnExactNewRefWrong : ChangeSpec := { name := "fnExactNewRef", fn := fun _ => fun
  | [d1, d2] => { results := [.lit (.bool false)], args := [d1, d2] }
  | _ => none }
def FnExactNewRefWrongFalsely : Prop := fnExactNewRefRow.holds Try.pinned (OpenSpec.ofChange fnExactNewRefWrong)

/-- 'laws.FnExactSizeOf': WHATEVER THE INPUT: true; the input reads as it did. -/
def fnExactSizeOfSpec : ChangeSpec := { name := "fnExactSizeOf", fn := fun _ => fun
  | [d1, d2] => { results := [.lit (.bool true)], args := [d1, d2] }
  | _ => none }
def fnExactSizeOfRow : OpenClaim := { program := "ytemgbggfhohfeaa", sum := "73db1a9732a77941cc5ad41a0cd525b20027baf905e1fdafef2a40c30d3cf80b", func := "loop.example/g00499/laws.FnExactSizeOf", spec := "fnExactSizeOf", apart := false }
def FnExactSizeOfSaid : Prop := fnExactSizeOfRow.holds Try.pinned (OpenSpec.ofChange fnExactSizeOfSpec)

/-- ITS FALSE NEIGHBOUR: 'it returns false'. Refute it at one input. -/
def fnExactSizeOfWrong : ChangeSpec := { name := "fnExactSizeOf", fn := fun _ => fun
  | [d1, d2] => { results := [.lit (.bool false)], args := [d1, d2] }
  | _ => none }
def FnExactSizeOfWrongFalsely : Prop := fnExactSizeOfRow.holds Try.pinned (OpenSpec.ofChange fnExactSizeOfWrong)

/-- 'laws.FnExactTagsIn': WHATEVER THE INPUT: true; the input reads as it did. -/
def fnExactTagsInSpec : ChangeSpec := { name := "fnExactTagsIn", fn := fun _ => fun
  | [d1, d2] => { results := [.lit (.bool true)], args := [d1, d2] }
  | _ => none }
def fnExactTagsInRow : OpenClaim := { program := "ytemgbggfhohfeaa", sum := "73db1a9732a77941cc5ad41a0cd525b20027baf905e1fdafef2a40c30d3cf80b", func := "loop.example/g00499/laws.FnExactTagsIn", spec := "fnExactTagsIn", apart := false }
def FnExactTagsInSaid : Prop := fnExactTagsInRow.holds Try.pinned (OpenSpec.ofChange fnExactTagsInSpec)

/-- ITS FALSE NEIGHBOUR: 'it returns false'. Refute it at one input. -/
def fnExactTagsInWrong : ChangeSpec := { name := "fnExactTagsIn", fn := fun _ => fun
  | [d1, d2] => { results := [.lit (.bool false)], args := [d1, d2] }
  | _ => none }
def FnExactTagsInWrongFalsely : Prop := fnExactTagsInRow.holds Try.pinned (OpenSpec.ofChange fnExactTagsInWrong)

/-- 'laws.FnExactFreshOf': WHATEVER THE INPUT: true; the input reads as it did. -/
def fnExactFreshOfSpec : ChangeSpec := { name := "fnExactFreshOf", fn := fun _ => fun
  | [d1, d2] => { results := [.lit (.bool true)], args := [d1, d2] }
  | _ => none }
def fnExactFreshOfRow : OpenClaim := { program := "ytemgbggfhohfeaa", sum := "73db1a9732a77941cc5ad41a0cd525b20027baf905e1fdafef2a40c30d3cf80b", func := "loop.example/g00499/laws.FnExactFreshOf", spec := "fnExactFreshOf", unfollowed := true, recurses := true, apart := false }
def FnExactFreshOfSaid : Prop := fnExactFreshOfRow.holds Try.pinned (OpenSpec.ofChange fnExactFreshOfSpec)

/-- ITS FALSE NEIGHBOUR: 'it returns false'. Refute it at one input. -/
def fnExactFreshOfWrong : ChangeSpec := { name := "fnExactFreshOf", fn := fun _ => fun
  | [d1, d2] => { results := [.lit (.bool false)], args := [d1, d2] }
  | _ => none }
def FnExactFreshOfWrongFalsely : Prop := fnExactFreshOfRow.holds Try.pinned (OpenSpec.ofChange fnExactFreshOfWrong)

/-- 'laws.FnExactKidsIn': WHATEVER THE INPUT: true; the input reads as it did. -/
def fnExactKidsInSpec : ChangeSpec := { name := "fnExactKidsIn", fn := fun _ => fun
  | [d1, d2] => { results := [.lit (.bool true)], args := [d1, d2] }
  | _ => none }
def fnExactKidsInRow : OpenClaim := { program := "ytemgbggfhohfeaa", sum := "73db1a9732a77941cc5ad41a0cd525b20027baf905e1fdafef2a40c30d3cf80b", func := "loop.example/g00499/laws.FnExactKidsIn", spec := "fnExactKidsIn", apart := false }
def FnExactKidsInSaid : Prop := fnExactKidsInRow.holds Try.pinned (OpenSpec.ofChange fnExactKidsInSpec)

/-- ITS FALSE NEIGHBOUR: 'it returns false'. Refute it at one input. -/
def fnExactKidsInWrong : ChangeSpec := { name := "fnExactKidsIn", fn := fun _ => fun
  | [d1, d2] => { results := [.lit (.bool false)], args := [d1, d2] }
  | _ => none }
def FnExactKidsInWrongFalsely : Prop := fnExactKidsInRow.holds Try.pinned (OpenSpec.ofChange fnExactKidsInWrong)

/- THE SECOND FORM. 'bulk': how many values and letters a reading holds, each counted each time it is reached (what is shared counts as often as it is met; a slice's spare places count too). A statement '..UptoSaid' is the law's where the arguments, and the package variables that the reading takes, are together of bulk at most 1048576: NARROWER than '..Said'. Prove '..Said' where nothing that the law and all that it calls make is longer than what came in: it says more and counts as full. Else prove '..UptoSaid'. A law counts once. -/
mutual
def uptoBulk {H : Type} : DataW H → Nat
  | .lit (.string bytes) => bytes.length + 1
  | .lit _ => 1
  | .nil => 1
  | .ptr d => uptoBulk d + 1
  | .slice elems spare => uptoBulkAll elems + uptoBulkAll spare + 1
  | .agg parts => uptoBulkAll parts + 1
  | .iface _ d => uptoBulk d + 1
  | .map entries => uptoBulkEntries entries + 1
  | .held _ => 1
def uptoBulkAll {H : Type} : List (DataW H) → Nat
  | [] => 0
  | d :: r => uptoBulk d + uptoBulkAll r
def uptoBulkEntries {H : Type} : List (Lit × DataW H) → Nat
  | [] => 0
  | x :: r => uptoBulkEntry x + uptoBulkEntries r
def uptoBulkEntry {H : Type} : Lit × DataW H → Nat
  | (.string bytes, d) => bytes.length + uptoBulk d + 1
  | (_, d) => uptoBulk d + 1
 end
def uptoSmall : (H : Type) → List (DataW H) → Bool := fun _ ds => decide (uptoBulkAll ds ≤ 1048576)
def OpenSpec.upto (s : _root_.Go.ChangeSpec) : _root_.Go.OpenSpec := { _root_.Go.OpenSpec.ofChange s with cond := some uptoSmall }

/-- 'laws.FnExactCostOf', WHERE WHAT IT READS IS OF BULK AT MOST 1048576: true; the input reads as it did. -/
def fnExactCostOfUptoRow : OpenClaim := { program := "ytemgbggfhohfeaa", sum := "73db1a9732a77941cc5ad41a0cd525b20027baf905e1fdafef2a40c30d3cf80b", func := "loop.example/g00499/laws.FnExactCostOf", spec := "fnExactCostOf", apart := false, narrowed := true }
def FnExactCostOfUptoSaid : Prop := fnExactCostOfUptoRow.holds Try.pinned (OpenSpec.upto fnExactCostOfSpec)

/-- 'laws.FnExactIsGone', WHERE WHAT IT READS IS OF BULK AT MOST 1048576: true; the input reads as it did. -/
def fnExactIsGoneUptoRow : OpenClaim := { program := "ytemgbggfhohfeaa", sum := "73db1a9732a77941cc5ad41a0cd525b20027baf905e1fdafef2a40c30d3cf80b", func := "loop.example/g00499/laws.FnExactIsGone", spec := "fnExactIsGone", apart := false, narrowed := true }
def FnExactIsGoneUptoSaid : Prop := fnExactIsGoneUptoRow.holds Try.pinned (OpenSpec.upto fnExactIsGoneSpec)

/-- 'laws.FnExactWithin', WHERE WHAT IT READS IS OF BULK AT MOST 1048576: true; the input reads as it did. -/
def fnExactWithinUptoRow : OpenClaim := { program := "ytemgbggfhohfeaa", sum := "73db1a9732a77941cc5ad41a0cd525b20027baf905e1fdafef2a40c30d3cf80b", func := "loop.example/g00499/laws.FnExactWithin", spec := "fnExactWithin", apart := false, narrowed := true }
def FnExactWithinUptoSaid : Prop := fnExactWithinUptoRow.holds Try.pinned (OpenSpec.upto fnExactWithinSpec)

/-- 'laws.FnExactNewRef', WHERE WHAT IT READS IS OF BULK AT MOST 1048576: true; the input reads as it did. -/
def fnExactNewRefUptoRow : OpenClaim := { program := "ytemgbggfhohfeaa", sum := "73db1a9732a77941cc5ad41a0cd525b20027baf905e1fdafef2a40c30d3cf80b", func := "loop.example/g00499/laws.FnExactNewRef", spec := "fnExactNewRef", apart := false, narrowed := true }
def FnExactNewRefUptoSaid : Prop := fnExactNewRefUptoRow.holds Try.pinned (OpenSpec.upto fnExactNewRefSpec)

/-- 'laws.FnExactSizeOf', WHERE WHAT IT READS IS OF BULK AT MOST 1048576: true; the input reads as it did. -/
def fnExactSizeOfUptoRow : OpenClaim := { program := "ytemgbggfhohfeaa", sum := "73db1a9732a77941cc5ad41a0cd525b20027baf905e1fdafef2a40c30d3cf80b", func := "loop.example/g00499/laws.FnExactSizeOf", spec := "fnExactSizeOf", apart := false, narrowed := true }
def FnExactSizeOfUptoSaid : Prop := fnExactSizeOfUptoRow.holds Try.pinned (OpenSpec.upto fnExactSizeOfSpec)

/-- 'laws.FnExactTagsIn', WHERE WHAT IT READS IS OF BULK AT MOST 1048576: true; the input reads as it did. -/
def fnExactTagsInUptoRow : OpenClaim := { program := "ytemgbggfhohfeaa", sum := "73db1a9732a77941cc5ad41a0cd525b20027baf905e1fdafef2a40c30d3cf80b", func := "loop.example/g00499/laws.FnExactTagsIn", spec := "fnExactTagsIn", apart := false, narrowed := true }
def FnExactTagsInUptoSaid : Prop := fnExactTagsInUptoRow.holds Try.pinned (OpenSpec.upto fnExactTagsInSpec)

/-- 'laws.FnExactFreshOf', WHERE WHAT IT READS IS OF BULK AT MOST 1048576: true; the input reads as it did. -/
def fnExactFreshOfUptoRow : OpenClaim := { program := "ytemgbggfhohfeaa", sum := "73db1a9732a77941cc5ad41a0cd525b20027baf905e1fdafef2a40c30d3cf80b", func := "loop.example/g00499/laws.FnExactFreshOf", spec := "fnExactFreshOf", unfollowed := true, recurses := true, apart := false, narrowed := true }
def FnExactFreshOfUptoSaid : Prop := fnExactFreshOfUptoRow.holds Try.pinned (OpenSpec.upto fnExactFreshOfSpec)

/-- 'laws.FnExactKidsIn', WHERE WHAT IT READS IS OF BULK AT MOST 1048576: true; the input reads as it did. -/
def fnExactKidsInUptoRow : OpenClaim := { program := "ytemgbggfhohfeaa", sum := "73db1a9732a77941cc5ad41a0cd525b20027baf905e1fdafef2a40c30d3cf80b", func := "loop.example/g00499/laws.FnExactKidsIn", spec := "fnExactKidsIn", apart := false, narrowed := true }
def FnExactKidsInUptoSaid : Prop := fnExactKidsInUptoRow.holds Try.pinned (OpenSpec.upto fnExactKidsInSpec)

end Rows
end Go.Proofs.Ytemgbggfhohfeaa
