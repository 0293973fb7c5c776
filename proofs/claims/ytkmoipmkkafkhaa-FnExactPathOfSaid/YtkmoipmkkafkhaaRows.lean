/-
  No cell of these rows narrows 'for every input' (looked for: loops, veiled, ifaces, maps, wideKeys, modest, calm, conditions, laid).
  DERIVED. THE GIVEN ROWS OF THIS SEAT. 6 by the template 'for every input the law returns true; each argument reads behind the call as it read before'; 0 by the template 'total and deterministic' (their statements: YtkmoipmkkafkhaaTotals.lean).
  GIVEN WITH THE SEED: the statements are not yours to turn. If you find one false, say at which input.
  Laid BY PROGRAM, IN A SANDBOX (cutbox-rows.mjs): the forced cells as the released guide's own fill.sh prints them over the translation 82cfcee5de5675ea… (all of the seat's roots in one cut). By AI agents, Wed Nov 11 2026. No macro, syntax, notation, axiom, sorry.
-/
import Derived.Test.YtkmoipmkkafkhaaChecked
import GoSem.Claim
import GoSem.ClaimJoined
import GoSem.ClaimMapViews
import Derived.JoinedTies
import Derived.KernelRfl
namespace Go.Proofs.Ytkmoipmkkafkhaa
/- THE CELL 'sum', in the pinned program and in every row, IS THE sha256 OF THE DUMP (.gsa) THAT YtkmoipmkkafkhaaProg.lean LOADS. Nothing in Lean hashes anything: it is a label: what it is worth is what the hold of that sum in a sandbox is worth. -/
noncomputable def Try.pinned : Pinned := { name := "ytkmoipmkkafkhaa", sum := "82cfcee5de5675eadbf8ad68d0c9b3ef1c13abe30744dc256090a99a07940e2d", checked := Try.checked }
namespace Rows
def none {H : Type} : Left H := { results := [], args := [] }

/-- 'laws.FnExactIsPattern': WHATEVER THE INPUT: true; the input reads as it did. -/
def fnExactIsPatternSpec : ChangeSpec := { name := "fnExactIsPattern", fn := fun _ => fun
  | [d] => { results := [.lit (.bool true)], args := [d] }
  | _ => none }
def fnExactIsPatternRow : OpenClaim := { program := "ytkmoipmkkafkhaa", sum := "82cfcee5de5675eadbf8ad68d0c9b3ef1c13abe30744dc256090a99a07940e2d", func := "loop.example/g01371/laws.FnExactIsPattern", spec := "fnExactIsPattern", unfollowed := true, recurses := true, apart := false }
def FnExactIsPatternSaid : Prop := fnExactIsPatternRow.holds Try.pinned (OpenSpec.ofChange fnExactIsPatternSpec)

/-- ITS FALSE NEIGHBOUR: 'it returns false'. Refute it at one input. -/
def fnExactIsPatternWrong : ChangeSpec := { name := "fnExactIsPattern", fn := fun _ => fun
  | [d] => { results := [.lit (.bool false)], args := [d] }
  | _ => none }
def FnExactIsPatternWrongFalsely : Prop := fnExactIsPatternRow.holds Try.pinned (OpenSpec.ofChange fnExactIsPatternWrong)

/-- 'laws.FnExactZiminWord': WHATEVER THE INPUT: true; the input reads as it did. -/
def fnExactZiminWordSpec : ChangeSpec := { name := "fnExactZiminWord", fn := fun _ => fun
  | [d] => { results := [.lit (.bool true)], args := [d] }
  | _ => none }
def fnExactZiminWordRow : OpenClaim := { program := "ytkmoipmkkafkhaa", sum := "82cfcee5de5675eadbf8ad68d0c9b3ef1c13abe30744dc256090a99a07940e2d", func := "loop.example/g01371/laws.FnExactZiminWord", spec := "fnExactZiminWord", recurses := true, apart := false }
def FnExactZiminWordSaid : Prop := fnExactZiminWordRow.holds Try.pinned (OpenSpec.ofChange fnExactZiminWordSpec)

/-- ITS FALSE NEIGHBOUR: 'it returns false'. Refute it at one input. -/
def fnExactZiminWordWrong : ChangeSpec := { name := "fnExactZiminWord", fn := fun _ => fun
  | [d] => { results := [.lit (.bool false)], args := [d] }
  | _ => none }
def FnExactZiminWordWrongFalsely : Prop := fnExactZiminWordRow.holds Try.pinned (OpenSpec.ofChange fnExactZiminWordWrong)

/-- 'laws.FnExactSteppedWord': WHATEVER THE INPUT: true; the input reads as it did. -/
def fnExactSteppedWordSpec : ChangeSpec := { name := "fnExactSteppedWord", fn := fun _ => fun
  | [d1, d2, d3, d4] => { results := [.lit (.bool true)], args := [d1, d2, d3, d4] }
  | _ => none }
def fnExactSteppedWordRow : OpenClaim := { program := "ytkmoipmkkafkhaa", sum := "82cfcee5de5675eadbf8ad68d0c9b3ef1c13abe30744dc256090a99a07940e2d", func := "loop.example/g01371/laws.FnExactSteppedWord", spec := "fnExactSteppedWord", apart := false }
def FnExactSteppedWordSaid : Prop := fnExactSteppedWordRow.holds Try.pinned (OpenSpec.ofChange fnExactSteppedWordSpec)

/-- ITS FALSE NEIGHBOUR: 'it returns false'. Refute it at one input. -/
def fnExactSteppedWordWrong : ChangeSpec := { name := "fnExactSteppedWord", fn := fun _ => fun
  | [d1, d2, d3, d4] => { results := [.lit (.bool false)], args := [d1, d2, d3, d4] }
  | _ => none }
def FnExactSteppedWordWrongFalsely : Prop := fnExactSteppedWordRow.holds Try.pinned (OpenSpec.ofChange fnExactSteppedWordWrong)

/-- 'laws.FnExactCountBalanced': WHATEVER THE INPUT: true; the input reads as it did. -/
def fnExactCountBalancedSpec : ChangeSpec := { name := "fnExactCountBalanced", fn := fun _ => fun
  | [d] => { results := [.lit (.bool true)], args := [d] }
  | _ => none }
def fnExactCountBalancedRow : OpenClaim := { program := "ytkmoipmkkafkhaa", sum := "82cfcee5de5675eadbf8ad68d0c9b3ef1c13abe30744dc256090a99a07940e2d", func := "loop.example/g01371/laws.FnExactCountBalanced", spec := "fnExactCountBalanced", apart := false }
def FnExactCountBalancedSaid : Prop := fnExactCountBalancedRow.holds Try.pinned (OpenSpec.ofChange fnExactCountBalancedSpec)

/-- ITS FALSE NEIGHBOUR: 'it returns false'. Refute it at one input. -/
def fnExactCountBalancedWrong : ChangeSpec := { name := "fnExactCountBalanced", fn := fun _ => fun
  | [d] => { results := [.lit (.bool false)], args := [d] }
  | _ => none }
def FnExactCountBalancedWrongFalsely : Prop := fnExactCountBalancedRow.holds Try.pinned (OpenSpec.ofChange fnExactCountBalancedWrong)

/-- 'laws.FnExactPathOf': WHATEVER THE INPUT: true; the input reads as it did. -/
def fnExactPathOfSpec : ChangeSpec := { name := "fnExactPathOf", fn := fun _ => fun
  | [d1, d2] => { results := [.lit (.bool true)], args := [d1, d2] }
  | _ => none }
def fnExactPathOfRow : OpenClaim := { program := "ytkmoipmkkafkhaa", sum := "82cfcee5de5675eadbf8ad68d0c9b3ef1c13abe30744dc256090a99a07940e2d", func := "loop.example/g01371/laws.FnExactPathOf", spec := "fnExactPathOf", apart := false }
def FnExactPathOfSaid : Prop := fnExactPathOfRow.holds Try.pinned (OpenSpec.ofChange fnExactPathOfSpec)

/-- ITS FALSE NEIGHBOUR: 'it returns false'. Refute it at one input. -/
def fnExactPathOfWrong : ChangeSpec := { name := "fnExactPathOf", fn := fun _ => fun
  | [d1, d2] => { results := [.lit (.bool false)], args := [d1, d2] }
  | _ => none }
def FnExactPathOfWrongFalsely : Prop := fnExactPathOfRow.holds Try.pinned (OpenSpec.ofChange fnExactPathOfWrong)

/-- 'laws.FnExactCentralWord': WHATEVER THE INPUT: true; the input reads as it did. -/
def fnExactCentralWordSpec : ChangeSpec := { name := "fnExactCentralWord", fn := fun _ => fun
  | [d1, d2] => { results := [.lit (.bool true)], args := [d1, d2] }
  | _ => none }
def fnExactCentralWordRow : OpenClaim := { program := "ytkmoipmkkafkhaa", sum := "82cfcee5de5675eadbf8ad68d0c9b3ef1c13abe30744dc256090a99a07940e2d", func := "loop.example/g01371/laws.FnExactCentralWord", spec := "fnExactCentralWord", apart := false }
def FnExactCentralWordSaid : Prop := fnExactCentralWordRow.holds Try.pinned (OpenSpec.ofChange fnExactCentralWordSpec)

/-- ITS FALSE NEIGHBOUR: 'it returns false'. Refute it at one input. -/
def fnExactCentralWordWrong : ChangeSpec := { name := "fnExactCentralWord", fn := fun _ => fun
  | [d1, d2] => { results := [.lit (.bool false)], args := [d1, d2] }
  | _ => none }
def FnExactCentralWordWrongFalsely : Prop := fnExactCentralWordRow.holds Try.pinned (OpenSpec.ofChange fnExactCentralWordWrong)

/- THE SECOND FORM. 'bulk': how many values and letters a reading holds, each counted each time it is reached (what is shared counts as often as it is met; a slice's spare places count too). A statement '..UptoSaid' is the law's where the arguments, and the package variables that the reading takes, are together of bulk at most 1048576: NARROWER than '..Said'. Prove '..Said' where nothing that the law and all that it calls make is longer than what came in: it says more and counts as full. Else prove '..UptoSaid'. A law counts once. -/
mutual
def uptoBulk {H : Type} : DataW H → Nat
  | .lit (.string bytes) => bytes.length + 1
  | .lit _ => 1
  | .nil => 1
  | .ptr d => uptoBulk d + 1
  | .slice elems spare => uptoBulkAll elems + uptoBulkAll spare + 1
  | .agg parts => uptoBulkAll parts + 1
  | .iface _ d => uptoBulk d + 1
  | .map entries => uptoBulkEntries entries + 1
  | .held _ => 1
def uptoBulkAll {H : Type} : List (DataW H) → Nat
  | [] => 0
  | d :: r => uptoBulk d + uptoBulkAll r
def uptoBulkEntries {H : Type} : List (Lit × DataW H) → Nat
  | [] => 0
  | x :: r => uptoBulkEntry x + uptoBulkEntries r
def uptoBulkEntry {H : Type} : Lit × DataW H → Nat
  | (.string bytes, d) => bytes.length + uptoBulk d + 1
  | (_, d) => uptoBulk d + 1
 end
def uptoSmall : (H : Type) → List (DataW H) → Bool := fun _ ds => decide (uptoBulkAll ds ≤ 1048576)
def OpenSpec.upto (s : _root_.Go.ChangeSpec) : _root_.Go.OpenSpec := { _root_.Go.OpenSpec.ofChange s with cond := some uptoSmall }

/-- 'laws.FnExactIsPattern', WHERE WHAT IT READS IS OF BULK AT MOST 1048576: true; the input reads as it did. -/
def fnExactIsPatternUptoRow : OpenClaim := { program := "ytkmoipmkkafkhaa", sum := "82cfcee5de5675eadbf8ad68d0c9b3ef1c13abe30744dc256090a99a07940e2d", func := "loop.example/g01371/laws.FnExactIsPattern", spec := "fnExactIsPattern", unfollowed := true, recurses := true, apart := false, narrowed := true }
def FnExactIsPatternUptoSaid : Prop := fnExactIsPatternUptoRow.holds Try.pinned (OpenSpec.upto fnExactIsPatternSpec)

/-- 'laws.FnExactZiminWord', WHERE WHAT IT READS IS OF BULK AT MOST 1048576: true; the input reads as it did. -/
def fnExactZiminWordUptoRow : OpenClaim := { program := "ytkmoipmkkafkhaa", sum := "82cfcee5de5675eadbf8ad68d0c9b3ef1c13abe30744dc256090a99a07940e2d", func := "loop.example/g01371/laws.FnExactZiminWord", spec := "fnExactZiminWord", recurses := true, apart := false, narrowed := true }
def FnExactZiminWordUptoSaid : Prop := fnExactZiminWordUptoRow.holds Try.pinned (OpenSpec.upto fnExactZiminWordSpec)

/-- 'laws.FnExactSteppedWord', WHERE WHAT IT READS IS OF BULK AT MOST 1048576: true; the input reads as it did. -/
def fnExactSteppedWordUptoRow : OpenClaim := { program := "ytkmoipmkkafkhaa", sum := "82cfcee5de5675eadbf8ad68d0c9b3ef1c13abe30744dc256090a99a07940e2d", func := "loop.example/g01371/laws.FnExactSteppedWord", spec := "fnExactSteppedWord", apart := false, narrowed := true }
def FnExactSteppedWordUptoSaid : Prop := fnExactSteppedWordUptoRow.holds Try.pinned (OpenSpec.upto fnExactSteppedWordSpec)

/-- 'laws.FnExactCountBalanced', WHERE WHAT IT READS IS OF BULK AT MOST 1048576: true; the input reads as it did. -/
def fnExactCountBalancedUptoRow : OpenClaim := { program := "ytkmoipmkkafkhaa", sum := "82cfcee5de5675eadbf8ad68d0c9b3ef1c13abe30744dc256090a99a07940e2d", func := "loop.example/g01371/laws.FnExactCountBalanced", spec := "fnExactCountBalanced", apart := false, narrowed := true }
def FnExactCountBalancedUptoSaid : Prop := fnExactCountBalancedUptoRow.holds Try.pinned (OpenSpec.upto fnExactCountBalancedSpec)

/-- 'laws.FnExactPathOf', WHERE WHAT IT READS IS OF BULK AT MOST 1048576: true; the input reads as it did. -/
def fnExactPathOfUptoRow : OpenClaim := { program := "ytkmoipmkkafkhaa", sum := "82cfcee5de5675eadbf8ad68d0c9b3ef1c13abe30744dc256090a99a07940e2d", func := "loop.example/g01371/laws.FnExactPathOf", spec := "fnExactPathOf", apart := false, narrowed := true }
def FnExactPathOfUptoSaid : Prop := fnExactPathOfUptoRow.holds Try.pinned (OpenSpec.upto fnExactPathOfSpec)

/-- 'laws.FnExactCentralWord', WHERE WHAT IT READS IS OF BULK AT MOST 1048576: true; the input reads as it did. -/
def fnExactCentralWordUptoRow : OpenClaim := { program := "ytkmoipmkkafkhaa", sum := "82cfcee5de5675eadbf8ad68d0c9b3ef1c13abe30744dc256090a99a07940e2d", func := "loop.example/g01371/laws.FnExactCentralWord", spec := "fnExactCentralWord", apart := false, narrowed := true }
def FnExactCentralWordUptoSaid : Prop := fnExactCentralWordUptoRow.holds Try.pinned (OpenSpec.upto fnExactCentralWordSpec)

end Rows
end Go.Proofs.Ytkmoipmkkafkhaa
