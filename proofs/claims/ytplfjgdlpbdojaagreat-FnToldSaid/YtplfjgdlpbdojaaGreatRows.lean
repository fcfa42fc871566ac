/-
  No cell of these rows narrows 'for every input' (looked for: loops, veiled, ifaces, maps, wideKeys, modest, calm, conditions, laid).
  DERIVED. THE GIVEN ROWS OF THIS SEAT. 3 by the template 'for every input the law returns true; each argument reads behind the call as it read before'; 0 by the template 'total and deterministic' (their statements: YtplfjgdlpbdojaaGreatTotals.lean).
  GIVEN WITH THE SEED: the statements are not yours to turn. If you find one false, say at which input.
  Laid BY PROGRAM, IN A SANDBOX (cutbox-rows.mjs): the forced cells as the released guide's own fill.sh prints them over the translation ce3ac6d9e72b71ad… (all of the seat's roots in one cut). By AI agents, Wed Nov 11 2026. No macro, syntax, notation, axiom, sorry.
-/
import Derived.Test.YtplfjgdlpbdojaaGreatChecked
import GoSem.Claim
import GoSem.ClaimJoined
import GoSem.ClaimMapViews
import Derived.JoinedTies
import Derived.KernelRfl
namespace Go.Proofs.YtplfjgdlpbdojaaGreat
/- THE CELL 'sum', in the pinned program and in every row, IS THE sha256 OF THE DUMP (.gsa) THAT YtplfjgdlpbdojaaGreatProg.lean LOADS. Nothing in Lean hashes anything: it is a label: what it is worth is what the hold of that sum in a sandbox is worth. -/
noncomputable def Tryz.pinned : Pinned := { name := "ytplfjgdlpbdojaagreat", sum := "ce3ac6d9e72b71adc87fb864341effaf49f1dc82e2876136a574ca9c759cd745", checked := Tryz.checked }
namespace Rows
def none {H : Type} : Left H := { results := [], args := [] }

/-- 'laws.FnTold': WHATEVER THE INPUT: true; the input reads as it did. -/
def fnToldSpec : ChangeSpec := { name := "fnTold", fn := fun _ => fun
  | [d] => { results := [.lit (.bool true)], args := [d] }
  | _ => none }
def fnToldRow : OpenClaim := { program := "ytplfjgdlpbdojaagreat", sum := "ce3ac6d9e72b71adc87fb864341effaf49f1dc82e2876136a574ca9c759cd745", func := "loop.example/g00499/laws.FnTold", spec := "fnTold", unfollowed := true, recurses := true, apart := false }
def FnToldSaid : Prop := fnToldRow.holds Tryz.pinned (OpenSpec.ofChange fnToldSpec)

/-- ITS FALSE NEIGHBOUR: 'it returns false'. Refute it at one input. -/
def fnToldWrong : ChangeSpec := { name := "fnTold", fn := fun _ => fun
  | [d] => { results := [.lit (.bool false)], args := [d] }
  | _ => none }
def FnToldWrongFalsely : Prop := fnToldRow.holds Tryz.pinned (OpenSpec.ofChange fnToldWrong)

/-- 'laws.FnOwed': WHATEVER THE INPUT: true; the input reads as it did. -/
def fnOwedSpec : ChangeSpec := { name := "fnOwed", fn := fun _ => fun
  | [d] => { results := [.lit (.bool true)], args := [d] }
  | _ => none }
def fnOwedRow : OpenClaim := { program := "ytplfjgdlpbdojaagreat", sum := "ce3ac6d9e72b71adc87fb864341effaf49f1dc82e2876136a574ca9c759cd745", func := "loop.example/g00499/laws.FnOwed", spec := "fnOwed", unfollowed := true, recurses := true, apart := false }
def FnOwedSaid : Prop := fnOwedRow.holds Tryz.pinned (OpenSpec.ofChange fnOwedSpec)

/-- ITS FALSE NEIGHBOUR: 'it returns false'. Refute it at one input. -/
def fnOwedWrong : ChangeSpec := { name := "fnOwed", fn := fun _ => fun
  | [d] => { results := [.lit (.bool false)], args := [d] }
  | _ => none }
def FnOwedWrongFalsely : Prop := fnOwedRow.holds Tryz.pinned (OpenSpec.ofChange fnOwedWrong)

/-- 'laws.FnDeeps': WHATEVER THE INPUT: true; the input reads as it did. -/
def fnDeepsSpec : ChangeSpec := { name := "fnDeeps", fn := fun _ => fun
  | [d] => { results := [.lit (.bool true)], args := [d] }
  | _ => none }
def fnDeepsRow : OpenClaim := { program := "ytplfjgdlpbdojaagreat", sum := "ce3ac6d9e72b71adc87fb864341effaf49f1dc82e2876136a574ca9c759cd745", func := "loop.example/g00499/laws.FnDeeps", spec := "fnDeeps", inPlace := ["slices.overlaps[loop.example/g00499/impl.Waste]"], unfollowed := true, recurses := true, apart := false }
def FnDeepsSaid : Prop := fnDeepsRow.holds Tryz.pinned (OpenSpec.ofChange fnDeepsSpec)

/-- ITS FALSE NEIGHBOUR: 'it returns false'. Refute it at one input. -/
def fnDeepsWrong : ChangeSpec := { name := "fnDeeps", fn := fun _ => fun
  | [d] => { results := [.lit (.bool false)], args := [d] }
  | _ => none }
def FnDeepsWrongFalsely : Prop := fnDeepsRow.holds Tryz.pinned (OpenSpec.ofChange fnDeepsWrong)

/- THE SECOND FORM. 'bulk': how many values and letters a reading holds, each counted each time it is reached (what is shared counts as often as it is met; a slice's spare places count too). A statement '..UptoSaid' is the law's where the arguments, and the package variables that the reading takes, are together of bulk at most 1048576: NARROWER than '..Said'. Prove '..Said' where nothing that the law and all that it calls make is longer than what came in: it says more and counts as full. Else prove '..UptoSaid'. A law counts once. -/
mutual
def uptoBulk {H : Type} : DataW H → Nat
  | .lit (.string bytes) => bytes.length + 1
  | .lit _ => 1
  | .nil => 1
  | .ptr d => uptoBulk d + 1
  | .slice elems spare => uptoBulkAll elems + uptoBulkAll spare + 1
  | .agg parts => uptoBulkAll parts + 1
  | .iface _ d => uptoBulk d + 1
  | .map entries => uptoBulkEntries entries + 1
  | .held _ => 1
def uptoBulkAll {H : Type} : List (DataW H) → Nat
  | [] => 0
  | d :: r => uptoBulk d + uptoBulkAll r
def uptoBulkEntries {H : Type} : List (Lit × DataW H) → Nat
  | [] => 0
  | x :: r => uptoBulkEntry x + uptoBulkEntries r
def uptoBulkEntry {H : Type} : Lit × DataW H → Nat
  | (.string bytes, d) => bytes.length + uptoBulk d + 1
  | (_, d) => uptoBulk d + 1
 end
def uptoSmall : (H : Type) → List (DataW H) → Bool := fun _ ds => decide (uptoBulkAll ds ≤ 1048576)
def OpenSpec.upto (s : _root_.Go.ChangeSpec) : _root_.Go.OpenSpec := { _root_.Go.OpenSpec.ofChange s with cond := some uptoSmall }

/-- 'laws.FnTold', WHERE WHAT IT READS IS OF BULK AT MOST 1048576: true; the input reads as it did. -/
def fnToldUptoRow : OpenClaim := { program := "ytplfjgdlpbdojaagreat", sum := "ce3ac6d9e72b71adc87fb864341effaf49f1dc82e2876136a574ca9c759cd745", func := "loop.example/g00499/laws.FnTold", spec := "fnTold", unfollowed := true, recurses := true, apart := false, narrowed := true }
def FnToldUptoSaid : Prop := fnToldUptoRow.holds Tryz.pinned (OpenSpec.upto fnToldSpec)

/-- 'laws.FnOwed', WHERE WHAT IT READS IS OF BULK AT MOST 1048576: true; the input reads as it did. -/
def fnOwedUptoRow : OpenClaim := { program := "ytplfjgdlpbdojaagreat", sum := "ce3ac6d9e72b71adc87fb864341effaf49f1dc82e2876136a574ca9c759cd745", func := "loop.example/g00499/laws.FnOwed", spec := "fnOwed", unfollowed := true, recurses := true, apart := false, narrowed := true }
def FnOwedUptoSaid : Prop := fnOwedUptoRow.holds Tryz.pinned (OpenSpec.upto fnOwedSpec)

/-- 'laws.FnDeeps', WHERE WHAT IT READS IS OF BULK AT MOST 1048576: true; the input reads as it did. -/
def fnDeepsUptoRow : OpenClaim := { program := "ytplfjgdlpbdojaagreat", sum := "ce3ac6d9e72b71adc87fb864341effaf49f1dc82e2876136a574ca9c759cd745", func := "loop.example/g00499/laws.FnDeeps", spec := "fnDeeps", inPlace := ["slices.overlaps[loop.example/g00499/impl.Waste]"], unfollowed := true, recurses := true, apart := false, narrowed := true }
def FnDeepsUptoSaid : Prop := fnDeepsUptoRow.holds Tryz.pinned (OpenSpec.upto fnDeepsSpec)

end Rows
end Go.Proofs.YtplfjgdlpbdojaaGreat
