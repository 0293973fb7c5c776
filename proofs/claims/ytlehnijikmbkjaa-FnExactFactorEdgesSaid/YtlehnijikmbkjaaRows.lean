/-
  No cell of these rows narrows 'for every input' (looked for: loops, veiled, ifaces, maps, wideKeys, modest, calm, conditions, laid).
  DERIVED. THE GIVEN ROWS OF THIS SEAT. 3 by the template 'for every input the law returns true; each argument reads behind the call as it read before'; 0 by the template 'total and deterministic' (their statements: YtlehnijikmbkjaaTotals.lean).
  GIVEN WITH THE SEED: the statements are not yours to turn. If you find one false, say at which input.
  Laid BY PROGRAM, IN A SANDBOX (cutbox-rows.mjs): the forced cells as the released guide's own fill.sh prints them over the translation cc9a182f791ccf55… (all of the seat's roots in one cut). By AI agents, Wed Nov 11 2026. No macro, syntax, notation, axiom, sorry.
-/
import Derived.Test.YtlehnijikmbkjaaChecked
import GoSem.Claim
import GoSem.ClaimJoined
import GoSem.ClaimMapViews
import Derived.JoinedTies
import Derived.KernelRfl
namespace Go.Proofs.Ytlehnijikmbkjaa
/- THE CELL 'sum', in the pinned program and in every row, IS THE sha256 OF THE DUMP (.gsa) THAT YtlehnijikmbkjaaProg.lean LOADS. Nothing in Lean hashes anything: it is a label: what it is worth is what the hold of that sum in a sandbox is worth. -/
noncomputable def Try.pinned : Pinned := { name := "ytlehnijikmbkjaa", sum := "cc9a182f791ccf555b5a787729085654b3252f3ddfc908ead8a48f829358a937", checked := Try.checked }
namespace Rows
def none {H : Type} : Left H := { results := [], args := [] }

/-- 'laws.FnExactFactorEdges': WHATEVER THE INPUT: true; the input reads as it did. -/
def fnExactFactorEdgesSpec : ChangeSpec := { name := "fnExactFactorEdges", fn := fun _ => fun
  | [d1, d2] => { results := [.lit (.bool true)], args := [d1, d2] }
  | _ => none }
def fnExactFactorEdgesRow : OpenClaim := { program := "ytlehnijikmbkjaa", sum := "cc9a182f791ccf555b5a787729085654b3252f3ddfc908ead8a48f829358a937", func := "loop.example/g01371/laws.FnExactFactorEdges", spec := "fnExactFactorEdges", unfollowed := true, recurses := true, apart := false }
def FnExactFactorEdgesSaid : Prop := fnExactFactorEdgesRow.holds Try.pinned (OpenSpec.ofChange fnExactFactorEdgesSpec)

/-- ITS FALSE NEIGHBOUR: 'it returns false'. Refute it at one input. -/
def fnExactFactorEdgesWrong : ChangeSpec := { name := "fnExactFactorEdges", fn := fun _ => fun
  | [d1, d2] => { results := [.lit (.bool false)], args := [d1, d2] }
  | _ => none }
def FnExactFactorEdgesWrongFalsely : Prop := fnExactFactorEdgesRow.holds Try.pinned (OpenSpec.ofChange fnExactFactorEdgesWrong)

/-- 'laws.FnExactLongestCommonFactor': WHATEVER THE INPUT: true; the input reads as it did. -/
def fnExactLongestCommonFactorSpec : ChangeSpec := { name := "fnExactLongestCommonFactor", fn := fun _ => fun
  | [d1, d2] => { results := [.lit (.bool true)], args := [d1, d2] }
  | _ => none }
def fnExactLongestCommonFactorRow : OpenClaim := { program := "ytlehnijikmbkjaa", sum := "cc9a182f791ccf555b5a787729085654b3252f3ddfc908ead8a48f829358a937", func := "loop.example/g01371/laws.FnExactLongestCommonFactor", spec := "fnExactLongestCommonFactor", inPlace := ["internal/bytealg.IndexByteString", "internal/bytealg.IndexString"], unfollowed := true, recurses := true, named := ["internal/bytealg.MaxLen"], apart := false }
def FnExactLongestCommonFactorSaid : Prop := fnExactLongestCommonFactorRow.holds Try.pinned (OpenSpec.ofChange fnExactLongestCommonFactorSpec)

/-- ITS FALSE NEIGHBOUR: 'it returns false'. Refute it at one input. -/
def fnExactLongestCommonFactorWrong : ChangeSpec := { name := "fnExactLongestCommonFactor", fn := fun _ => fun
  | [d1, d2] => { results := [.lit (.bool false)], args := [d1, d2] }
  | _ => none }
def FnExactLongestCommonFactorWrongFalsely : Prop := fnExactLongestCommonFactorRow.holds Try.pinned (OpenSpec.ofChange fnExactLongestCommonFactorWrong)

/-- 'laws.FnExactWindowOf': WHATEVER THE INPUT: true; the input reads as it did. -/
def fnExactWindowOfSpec : ChangeSpec := { name := "fnExactWindowOf", fn := fun _ => fun
  | [d1, d2] => { results := [.lit (.bool true)], args := [d1, d2] }
  | _ => none }
def fnExactWindowOfRow : OpenClaim := { program := "ytlehnijikmbkjaa", sum := "cc9a182f791ccf555b5a787729085654b3252f3ddfc908ead8a48f829358a937", func := "loop.example/g01371/laws.FnExactWindowOf", spec := "fnExactWindowOf", inPlace := ["internal/bytealg.IndexByteString", "internal/bytealg.IndexString"], unfollowed := true, recurses := true, named := ["internal/bytealg.MaxLen"], apart := false }
def FnExactWindowOfSaid : Prop := fnExactWindowOfRow.holds Try.pinned (OpenSpec.ofChange fnExactWindowOfSpec)

/-- ITS FALSE NEIGHBOUR: 'it returns false'. Refute it at one input. -/
def fnExactWindowOfWrong : ChangeSpec := { name := "fnExactWindowOf", fn := fun _ => fun
  | [d1, d2] => { results := [.lit (.bool false)], args := [d1, d2] }
  | _ => none }
def FnExactWindowOfWrongFalsely : Prop := fnExactWindowOfRow.holds Try.pinned (OpenSpec.ofChange fnExactWindowOfWrong)

/- THE SECOND FORM. 'bulk': how many values and letters a reading holds, each counted each time it is reached (what is shared counts as often as it is met; a slice's spare places count too). A statement '..UptoSaid' is the law's where the arguments, and the package variables that the reading takes, are together of bulk at most 1048576: NARROWER than '..Said'. Prove '..Said' where nothing that the law and all that it calls make is longer than what came in: it says more and counts as full. Else prove '..UptoSaid'. A law counts once. -/
mutual
def uptoBulk {H : Type} : DataW H → Nat
  | .lit (.string bytes) => bytes.length + 1
  | .lit _ => 1
  | .nil => 1
  | .ptr d => uptoBulk d + 1
  | .slice elems spare => uptoBulkAll elems + uptoBulkAll spare + 1
  | .agg parts => uptoBulkAll parts + 1
  | .iface _ d => uptoBulk d + 1
  | .map entries => uptoBulkEntries entries + 1
  | .held _ => 1
def uptoBulkAll {H : Type} : List (DataW H) → Nat
  | [] => 0
  | d :: r => uptoBulk d + uptoBulkAll r
def uptoBulkEntries {H : Type} : List (Lit × DataW H) → Nat
  | [] => 0
  | x :: r => uptoBulkEntry x + uptoBulkEntries r
def uptoBulkEntry {H : Type} : Lit × DataW H → Nat
  | (.string bytes, d) => bytes.length + uptoBulk d + 1
  | (_, d) => uptoBulk d + 1
 end
def uptoSmall : (H : Type) → List (DataW H) → Bool := fun _ ds => decide (uptoBulkAll ds ≤ 1048576)
def OpenSpec.upto (s : _root_.Go.ChangeSpec) : _root_.Go.OpenSpec := { _root_.Go.OpenSpec.ofChange s with cond := some uptoSmall }

/-- 'laws.FnExactFactorEdges', WHERE WHAT IT READS IS OF BULK AT MOST 1048576: true; the input reads as it did. -/
def fnExactFactorEdgesUptoRow : OpenClaim := { program := "ytlehnijikmbkjaa", sum := "cc9a182f791ccf555b5a787729085654b3252f3ddfc908ead8a48f829358a937", func := "loop.example/g01371/laws.FnExactFactorEdges", spec := "fnExactFactorEdges", unfollowed := true, recurses := true, apart := false, narrowed := true }
def FnExactFactorEdgesUptoSaid : Prop := fnExactFactorEdgesUptoRow.holds Try.pinned (OpenSpec.upto fnExactFactorEdgesSpec)

/-- 'laws.FnExactLongestCommonFactor', WHERE WHAT IT READS IS OF BULK AT MOST 1048576: true; the input reads as it did. -/
def fnExactLongestCommonFactorUptoRow : OpenClaim := { program := "ytlehnijikmbkjaa", sum := "cc9a182f791ccf555b5a787729085654b3252f3ddfc908ead8a48f829358a937", func := "loop.example/g01371/laws.FnExactLongestCommonFactor", spec := "fnExactLongestCommonFactor", inPlace := ["internal/bytealg.IndexByteString", "internal/bytealg.IndexString"], unfollowed := true, recurses := true, named := ["internal/bytealg.MaxLen"], apart := false, narrowed := true }
def FnExactLongestCommonFactorUptoSaid : Prop := fnExactLongestCommonFactorUptoRow.holds Try.pinned (OpenSpec.upto fnExactLongestCommonFactorSpec)

/-- 'laws.FnExactWindowOf', WHERE WHAT IT READS IS OF BULK AT MOST 1048576: true; the input reads as it did. -/
def fnExactWindowOfUptoRow : OpenClaim := { program := "ytlehnijikmbkjaa", sum := "cc9a182f791ccf555b5a787729085654b3252f3ddfc908ead8a48f829358a937", func := "loop.example/g01371/laws.FnExactWindowOf", spec := "fnExactWindowOf", inPlace := ["internal/bytealg.IndexByteString", "internal/bytealg.IndexString"], unfollowed := true, recurses := true, named := ["internal/bytealg.MaxLen"], apart := false, narrowed := true }
def FnExactWindowOfUptoSaid : Prop := fnExactWindowOfUptoRow.holds Try.pinned (OpenSpec.upto fnExactWindowOfSpec)

end Rows
end Go.Proofs.Ytlehnijikmbkjaa
