/-
  No cell of these rows narrows 'for every input' (looked for: loops, veiled, ifaces, maps, wideKeys, modest, calm, conditions, laid).
  DERIVED. THE GIVEN ROWS OF THIS SEAT. 5 by the template 'for every input the law returns true; each argument reads behind the call as it read before'; 0 by the template 'total and deterministic' (their statements: YtgoccddcbooabaaTotals.lean).
  GIVEN WITH THE SEED: the statements are not yours to turn. If you find one false, say at which input.
  Laid BY PROGRAM, IN A SANDBOX (cutbox-rows.mjs): the forced cells as the released guide's own fill.sh prints them over the translation d99d846b25b8db6b… (all of the seat's roots in one cut). By AI agents, Wed Nov 11 2026. No macro, syntax, notation, axiom, sorry.
-/
import Derived.Test.YtgoccddcbooabaaChecked
import GoSem.Claim
import GoSem.ClaimJoined
import GoSem.ClaimMapViews
import Derived.JoinedTies
import Derived.KernelRfl
namespace Go.Proofs.Ytgoccddcbooabaa
/- THE CELL 'sum', in the pinned program and in every row, IS THE sha256 OF THE DUMP (.gsa) THAT YtgoccddcbooabaaProg.lean LOADS. Nothing in Lean hashes anything: it is a label: what it is worth is what the hold of that sum in a sandbox is worth. -/
noncomputable def Try.pinned : Pinned := { name := "ytgoccddcbooabaa", sum := "d99d846b25b8db6b123e7576ab3ed92be5b426bffb910bb4e2e3d80397a2f7a6", checked := Try.checked }
namespace Rows
def none {H : Type} : Left H := { results := [], args := [] }

/-- 'laws.FnExactIsPattern': WHATEVER THE INPUT: true; the input reads as it did. -/
def fnExactIsPatternSpec : ChangeSpec := { name := "fnExactIsPattern", fn := fun _ => fun
  | [d] => { results := [.lit (.bool true)], args := [d] }
  | _ => none }
def fnExactIsPatternRow : OpenClaim := { program := "ytgoccddcbooabaa", sum := "d99d846b25b8db6b123e7576ab3ed92be5b426bffb910bb4e2e3d80397a2f7a6", func := "loop.example/g01371/laws.FnExactIsPattern", spec := "fnExactIsPattern", unfollowed := true, recurses := true, apart := false }
def FnExactIsPatternSaid : Prop := fnExactIsPatternRow.holds Try.pinned (OpenSpec.ofChange fnExactIsPatternSpec)

/-- ITS FALSE NEIGHBOUR: 'it returns false'. Refute it at one input. -/
def fnExactIsPatternWrong : ChangeSpec := { name := "fnExactIsPattern", fn := fun _ => fun
  | [d] => { results := [.lit (.bool false)], args := [d] }
  | _ => none }
def FnExactIsPatternWrongFalsely : Prop := fnExactIsPatternRow.holds Try.pinned (OpenSpec.ofChange fnExactIsPatternWrong)

/-- 'laws.FnExactFitsPattern': WHATEVER THE INPUT: true; the input reads as it did. -/
def fnExactFitsPatternSpec : ChangeSpec := { name := "fnExactFitsPattern", fn := fun _ => fun
  | [d1, d2] => { results := [.lit (.bool true)], args := [d1, d2] }
  | _ => none }
def fnExactFitsPatternRow : OpenClaim := { program := "ytgoccddcbooabaa", sum := "d99d846b25b8db6b123e7576ab3ed92be5b426bffb910bb4e2e3d80397a2f7a6", func := "loop.example/g01371/laws.FnExactFitsPattern", spec := "fnExactFitsPattern", unfollowed := true, recurses := true, apart := false }
def FnExactFitsPatternSaid : Prop := fnExactFitsPatternRow.holds Try.pinned (OpenSpec.ofChange fnExactFitsPatternSpec)

/-- ITS FALSE NEIGHBOUR: 'it returns false'. Refute it at one input. -/
def fnExactFitsPatternWrong : ChangeSpec := { name := "fnExactFitsPattern", fn := fun _ => fun
  | [d1, d2] => { results := [.lit (.bool false)], args := [d1, d2] }
  | _ => none }
def FnExactFitsPatternWrongFalsely : Prop := fnExactFitsPatternRow.holds Try.pinned (OpenSpec.ofChange fnExactFitsPatternWrong)

/-- 'laws.FnExactHasPattern': WHATEVER THE INPUT: true; the input reads as it did. -/
def fnExactHasPatternSpec : ChangeSpec := { name := "fnExactHasPattern", fn := fun _ => fun
  | [d1, d2] => { results := [.lit (.bool true)], args := [d1, d2] }
  | _ => none }
def fnExactHasPatternRow : OpenClaim := { program := "ytgoccddcbooabaa", sum := "d99d846b25b8db6b123e7576ab3ed92be5b426bffb910bb4e2e3d80397a2f7a6", func := "loop.example/g01371/laws.FnExactHasPattern", spec := "fnExactHasPattern", unfollowed := true, recurses := true, apart := false }
def FnExactHasPatternSaid : Prop := fnExactHasPatternRow.holds Try.pinned (OpenSpec.ofChange fnExactHasPatternSpec)

/-- ITS FALSE NEIGHBOUR: 'it returns false'. Refute it at one input. -/
def fnExactHasPatternWrong : ChangeSpec := { name := "fnExactHasPattern", fn := fun _ => fun
  | [d1, d2] => { results := [.lit (.bool false)], args := [d1, d2] }
  | _ => none }
def FnExactHasPatternWrongFalsely : Prop := fnExactHasPatternRow.holds Try.pinned (OpenSpec.ofChange fnExactHasPatternWrong)

/-- 'laws.FnExactCountAvoiding': WHATEVER THE INPUT: true; the input reads as it did. -/
def fnExactCountAvoidingSpec : ChangeSpec := { name := "fnExactCountAvoiding", fn := fun _ => fun
  | [d1, d2, d3] => { results := [.lit (.bool true)], args := [d1, d2, d3] }
  | _ => none }
def fnExactCountAvoidingRow : OpenClaim := { program := "ytgoccddcbooabaa", sum := "d99d846b25b8db6b123e7576ab3ed92be5b426bffb910bb4e2e3d80397a2f7a6", func := "loop.example/g01371/laws.FnExactCountAvoiding", spec := "fnExactCountAvoiding", unfollowed := true, recurses := true, apart := false }
def FnExactCountAvoidingSaid : Prop := fnExactCountAvoidingRow.holds Try.pinned (OpenSpec.ofChange fnExactCountAvoidingSpec)

/-- ITS FALSE NEIGHBOUR: 'it returns false'. Refute it at one input. -/
def fnExactCountAvoidingWrong : ChangeSpec := { name := "fnExactCountAvoiding", fn := fun _ => fun
  | [d1, d2, d3] => { results := [.lit (.bool false)], args := [d1, d2, d3] }
  | _ => none }
def FnExactCountAvoidingWrongFalsely : Prop := fnExactCountAvoidingRow.holds Try.pinned (OpenSpec.ofChange fnExactCountAvoidingWrong)

/-- 'laws.FnExactFirstAvoiding': WHATEVER THE INPUT: true; the input reads as it did. -/
def fnExactFirstAvoidingSpec : ChangeSpec := { name := "fnExactFirstAvoiding", fn := fun _ => fun
  | [d1, d2, d3] => { results := [.lit (.bool true)], args := [d1, d2, d3] }
  | _ => none }
def fnExactFirstAvoidingRow : OpenClaim := { program := "ytgoccddcbooabaa", sum := "d99d846b25b8db6b123e7576ab3ed92be5b426bffb910bb4e2e3d80397a2f7a6", func := "loop.example/g01371/laws.FnExactFirstAvoiding", spec := "fnExactFirstAvoiding", unfollowed := true, recurses := true, apart := false }
def FnExactFirstAvoidingSaid : Prop := fnExactFirstAvoidingRow.holds Try.pinned (OpenSpec.ofChange fnExactFirstAvoidingSpec)

/-- ITS FALSE NEIGHBOUR: 'it returns false'. Refute it at one input. -/
def fnExactFirstAvoidingWrong : ChangeSpec := { name := "fnExactFirstAvoiding", fn := fun _ => fun
  | [d1, d2, d3] => { results := [.lit (.bool false)], args := [d1, d2, d3] }
  | _ => none }
def FnExactFirstAvoidingWrongFalsely : Prop := fnExactFirstAvoidingRow.holds Try.pinned (OpenSpec.ofChange fnExactFirstAvoidingWrong)

/- THE SECOND FORM. 'bulk': how many values and letters a reading holds, each counted each time it is reached (what is shared counts as often as it is met; a slice's spare places count too). A statement '..UptoSaid' is the law's where the arguments, and the package variables that the reading takes, are together of bulk at most 1048576: NARROWER than '..Said'. Prove '..Said' where nothing that the law and all that it calls make is longer than what came in: it says more and counts as full. Else prove '..UptoSaid'. A law counts once. -/
mutual
def uptoBulk {H : Type} : DataW H → Nat
  | .lit (.string bytes) => bytes.length + 1
  | .lit _ => 1
  | .nil => 1
  | .ptr d => uptoBulk d + 1
  | .slice elems spare => uptoBulkAll elems + uptoBulkAll spare + 1
  | .agg parts => uptoBulkAll parts + 1
  | .iface _ d => uptoBulk d + 1
  | .map entries => uptoBulkEntries entries + 1
  | .held _ => 1
def uptoBulkAll {H : Type} : List (DataW H) → Nat
  | [] => 0
  | d :: r => uptoBulk d + uptoBulkAll r
def uptoBulkEntries {H : Type} : List (Lit × DataW H) → Nat
  | [] => 0
  | x :: r => uptoBulkEntry x + uptoBulkEntries r
def uptoBulkEntry {H : Type} : Lit × DataW H → Nat
  | (.string bytes, d) => bytes.length + uptoBulk d + 1
  | (_, d) => uptoBulk d + 1
 end
def uptoSmall : (H : Type) → List (DataW H) → Bool := fun _ ds => decide (uptoBulkAll ds ≤ 1048576)
def OpenSpec.upto (s : _root_.Go.ChangeSpec) : _root_.Go.OpenSpec := { _root_.Go.OpenSpec.ofChange s with cond := some uptoSmall }

/-- 'laws.FnExactIsPattern', WHERE WHAT IT READS IS OF BULK AT MOST 1048576: true; the input reads as it did. -/
def fnExactIsPatternUptoRow : OpenClaim := { program := "ytgoccddcbooabaa", sum := "d99d846b25b8db6b123e7576ab3ed92be5b426bffb910bb4e2e3d80397a2f7a6", func := "loop.example/g01371/laws.FnExactIsPattern", spec := "fnExactIsPattern", unfollowed := true, recurses := true, apart := false, narrowed := true }
def FnExactIsPatternUptoSaid : Prop := fnExactIsPatternUptoRow.holds Try.pinned (OpenSpec.upto fnExactIsPatternSpec)

/-- 'laws.FnExactFitsPattern', WHERE WHAT IT READS IS OF BULK AT MOST 1048576: true; the input reads as it did. -/
def fnExactFitsPatternUptoRow : OpenClaim := { program := "ytgoccddcbooabaa", sum := "d99d846b25b8db6b123e7576ab3ed92be5b426bffb910bb4e2e3d80397a2f7a6", func := "loop.example/g01371/laws.FnExactFitsPattern", spec := "fnExactFitsPattern", unfollowed := true, recurses := true, apart := false, narrowed := true }
def FnExactFitsPatternUptoSaid : Prop := fnExactFitsPatternUptoRow.holds Try.pinned (OpenSpec.upto fnExactFitsPatternSpec)

/-- 'laws.FnExactHasPattern', WHERE WHAT IT READS IS OF BULK AT MOST 1048576: true; the input reads as it did. -/
def fnExactHasPatternUptoRow : OpenClaim := { program := "ytgoccddcbooabaa", sum := "d99d846b25b8db6b123e7576ab3ed92be5b426bffb910bb4e2e3d80397a2f7a6", func := "loop.example/g01371/laws.FnExactHasPattern", spec := "fnExactHasPattern", unfollowed := true, recurses := true, apart := false, narrowed := true }
def FnExactHasPatternUptoSaid : Prop := fnExactHasPatternUptoRow.holds Try.pinned (OpenSpec.upto fnExactHasPatternSpec)

/-- 'laws.FnExactCountAvoiding', WHERE WHAT IT READS IS OF BULK AT MOST 1048576: true; the input reads as it did. -/
def fnExactCountAvoidingUptoRow : OpenClaim := { program := "ytgoccddcbooabaa", sum := "d99d846b25b8db6b123e7576ab3ed92be5b426bffb910bb4e2e3d80397a2f7a6", func := "loop.example/g01371/laws.FnExactCountAvoiding", spec := "fnExactCountAvoiding", unfollowed := true, recurses := true, apart := false, narrowed := true }
def FnExactCountAvoidingUptoSaid : Prop := fnExactCountAvoidingUptoRow.holds Try.pinned (OpenSpec.upto fnExactCountAvoidingSpec)

/-- 'laws.FnExactFirstAvoiding', WHERE WHAT IT READS IS OF BULK AT MOST 1048576: true; the input reads as it did. -/
def fnExactFirstAvoidingUptoRow : OpenClaim := { program := "ytgoccddcbooabaa", sum := "d99d846b25b8db6b123e7576ab3ed92be5b426bffb910bb4e2e3d80397a2f7a6", func := "loop.example/g01371/laws.FnExactFirstAvoiding", spec := "fnExactFirstAvoiding", unfollowed := true, recurses := true, apart := false, narrowed := true }
def FnExactFirstAvoidingUptoSaid : Prop := fnExactFirstAvoidingUptoRow.holds Try.pinned (OpenSpec.upto fnExactFirstAvoidingSpec)

end Rows
end Go.Proofs.Ytgoccddcbooabaa
