/-
  No cell of these rows narrows 'for every input' (looked for: loops, veiled, ifaces, maps, wideKeys, modest, calm, conditions, laid).
  DERIVED. THE GIVEN ROWS OF THIS SEAT. 5 by the template 'for every input the law returns true; each argument reads behind the call as it read before'; 0 by the template 'total and deterministic' (their statements: YtippkbjdifmdnaaTotals.lean).
  GIVEN WITH THE SEED: the statements are not yours to turn. If you find one false, say at which input.
  Laid BY PROGRAM, IN A SANDBOX (cutbox-rows.mjs): the forced cells as the released guide's own fill.sh prints them over the translation 80225e7abba2bf0a… (all of the seat's roots in one cut). By AI agents, Wed Nov 11 2026. No macro, syntax, notation, axiom, sorry.
-/
import Derived.Test.YtippkbjdifmdnaaChecked
import GoSem.Claim
import GoSem.ClaimJoined
import GoSem.ClaimMapViews
import Derived.JoinedTies
import Derived.KernelRfl
namespace Go.Proofs.Ytippkbjdifmdnaa
/- THE CELL 'sum', in the pinned program and in every row, IS THE sha256 OF THE DUMP (.gsa) THAT YtippkbjdifmdnaaProg.lean LOADS. Nothing in Lean hashes anything: it is a label: what it is worth is what the hold of that sum in a sandbox is worth. -/
noncomputable def Try.pinned : Pinned := { name := "ytippkbjdifmdnaa", sum := "80225e7abba2bf0a4a6b23729fc7ed7fef023212cce732d075c3edda0f32b073", checked := Try.checked }
namespace Rows
def none {H : Type} : Left H := { results := [], args := [] }

/-- 'laws.FnExactWordOfSlope': WHATEVER THE INPUT: true; the input reads as it did. -/
def fnExactWordOfSlopeSpec : ChangeSpec := { name := "fnExactWordOfSlope", fn := fun _ => fun
  | [d1, d2] => { results := [.lit (.bool true)], args := [d1, d2] }
  | _ => none }
def fnExactWordOfSlopeRow : OpenClaim := { program := "ytippkbjdifmdnaa", sum := "80225e7abba2bf0a4a6b23729fc7ed7fef023212cce732d075c3edda0f32b073", func := "loop.example/g01371/laws.FnExactWordOfSlope", spec := "fnExactWordOfSlope", apart := false }
def FnExactWordOfSlopeSaid : Prop := fnExactWordOfSlopeRow.holds Try.pinned (OpenSpec.ofChange fnExactWordOfSlopeSpec)

/-- ITS FALSE NEIGHBOUR: 'it returns false'. Refute it at one input. -/
def fnExactWordOfSlopeWrong : ChangeSpec := { name := "fnExactWordOfSlope", fn := fun _ => fun
  | [d1, d2] => { results := [.lit (.bool false)], args := [d1, d2] }
  | _ => none }
def FnExactWordOfSlopeWrongFalsely : Prop := fnExactWordOfSlopeRow.holds Try.pinned (OpenSpec.ofChange fnExactWordOfSlopeWrong)

/-- 'laws.FnExactStandardWord': WHATEVER THE INPUT: true; the input reads as it did. -/
def fnExactStandardWordSpec : ChangeSpec := { name := "fnExactStandardWord", fn := fun _ => fun
  | [d] => { results := [.lit (.bool true)], args := [d] }
  | _ => none }
def fnExactStandardWordRow : OpenClaim := { program := "ytippkbjdifmdnaa", sum := "80225e7abba2bf0a4a6b23729fc7ed7fef023212cce732d075c3edda0f32b073", func := "loop.example/g01371/laws.FnExactStandardWord", spec := "fnExactStandardWord", inPlace := ["internal/abi.NoEscape", "internal/bytealg.MakeNoZero"], apart := false }
def FnExactStandardWordSaid : Prop := fnExactStandardWordRow.holds Try.pinned (OpenSpec.ofChange fnExactStandardWordSpec)

/-- ITS FALSE NEIGHBOUR: 'it returns false'. Refute it at one input. -/
def fnExactStandardWordWrong : ChangeSpec := { name := "fnExactStandardWord", fn := fun _ => fun
  | [d] => { results := [.lit (.bool false)], args := [d] }
  | _ => none }
def FnExactStandardWordWrongFalsely : Prop := fnExactStandardWordRow.holds Try.pinned (OpenSpec.ofChange fnExactStandardWordWrong)

/-- 'laws.FnExactWordsWith': WHATEVER THE INPUT: true; the input reads as it did. -/
def fnExactWordsWithSpec : ChangeSpec := { name := "fnExactWordsWith", fn := fun _ => fun
  | [d] => { results := [.lit (.bool true)], args := [d] }
  | _ => none }
def fnExactWordsWithRow : OpenClaim := { program := "ytippkbjdifmdnaa", sum := "80225e7abba2bf0a4a6b23729fc7ed7fef023212cce732d075c3edda0f32b073", func := "loop.example/g01371/laws.FnExactWordsWith", spec := "fnExactWordsWith", unfollowed := true, recurses := true, apart := false }
def FnExactWordsWithSaid : Prop := fnExactWordsWithRow.holds Try.pinned (OpenSpec.ofChange fnExactWordsWithSpec)

/-- ITS FALSE NEIGHBOUR: 'it returns false'. Refute it at one input. -/
def fnExactWordsWithWrong : ChangeSpec := { name := "fnExactWordsWith", fn := fun _ => fun
  | [d] => { results := [.lit (.bool false)], args := [d] }
  | _ => none }
def FnExactWordsWithWrongFalsely : Prop := fnExactWordsWithRow.holds Try.pinned (OpenSpec.ofChange fnExactWordsWithWrong)

/-- 'laws.FnExactSortedWord': WHATEVER THE INPUT: true; the input reads as it did. -/
def fnExactSortedWordSpec : ChangeSpec := { name := "fnExactSortedWord", fn := fun _ => fun
  | [d] => { results := [.lit (.bool true)], args := [d] }
  | _ => none }
def fnExactSortedWordRow : OpenClaim := { program := "ytippkbjdifmdnaa", sum := "80225e7abba2bf0a4a6b23729fc7ed7fef023212cce732d075c3edda0f32b073", func := "loop.example/g01371/laws.FnExactSortedWord", spec := "fnExactSortedWord", unfollowed := true, recurses := true, apart := false }
def FnExactSortedWordSaid : Prop := fnExactSortedWordRow.holds Try.pinned (OpenSpec.ofChange fnExactSortedWordSpec)

/-- ITS FALSE NEIGHBOUR: 'it returns false'. Refute it at one input. -/
def fnExactSortedWordWrong : ChangeSpec := { name := "fnExactSortedWord", fn := fun _ => fun
  | [d] => { results := [.lit (.bool false)], args := [d] }
  | _ => none }
def FnExactSortedWordWrongFalsely : Prop := fnExactSortedWordRow.holds Try.pinned (OpenSpec.ofChange fnExactSortedWordWrong)

/-- 'laws.FnExactAbelianComplexity': WHATEVER THE INPUT: true; the input reads as it did. -/
def fnExactAbelianComplexitySpec : ChangeSpec := { name := "fnExactAbelianComplexity", fn := fun _ => fun
  | [d] => { results := [.lit (.bool true)], args := [d] }
  | _ => none }
def fnExactAbelianComplexityRow : OpenClaim := { program := "ytippkbjdifmdnaa", sum := "80225e7abba2bf0a4a6b23729fc7ed7fef023212cce732d075c3edda0f32b073", func := "loop.example/g01371/laws.FnExactAbelianComplexity", spec := "fnExactAbelianComplexity", unfollowed := true, recurses := true, apart := false }
def FnExactAbelianComplexitySaid : Prop := fnExactAbelianComplexityRow.holds Try.pinned (OpenSpec.ofChange fnExactAbelianComplexitySpec)

/-- ITS FALSE NEIGHBOUR: 'it returns false'. Refute it at one input. -/
def fnExactAbelianComplexityWrong : ChangeSpec := { name := "fnExactAbelianComplexity", fn := fun _ => fun
  | [d] => { results := [.lit (.bool false)], args := [d] }
  | _ => none }
def FnExactAbelianComplexityWrongFalsely : Prop := fnExactAbelianComplexityRow.holds Try.pinned (OpenSpec.ofChange fnExactAbelianComplexityWrong)

/- THE SECOND FORM. 'bulk': how many values and letters a reading holds, each counted each time it is reached (what is shared counts as often as it is met; a slice's spare places count too). A statement '..UptoSaid' is the law's where the arguments, and the package variables that the reading takes, are together of bulk at most 1048576: NARROWER than '..Said'. Prove '..Said' where nothing that the law and all that it calls make is longer than what came in: it says more and counts as full. Else prove '..UptoSaid'. A law counts once. -/
mutual
def uptoBulk {H : Type} : DataW H → Nat
  | .lit (.string bytes) => bytes.length + 1
  | .lit _ => 1
  | .nil => 1
  | .ptr d => uptoBulk d + 1
  | .slice elems spare => uptoBulkAll elems + uptoBulkAll spare + 1
  | .agg parts => uptoBulkAll parts + 1
  | .iface _ d => uptoBulk d + 1
  | .map entries => uptoBulkEntries entries + 1
  | .held _ => 1
def uptoBulkAll {H : Type} : List (DataW H) → Nat
  | [] => 0
  | d :: r => uptoBulk d + uptoBulkAll r
def uptoBulkEntries {H : Type} : List (Lit × DataW H) → Nat
  | [] => 0
  | x :: r => uptoBulkEntry x + uptoBulkEntries r
def uptoBulkEntry {H : Type} : Lit × DataW H → Nat
  | (.string bytes, d) => bytes.length + uptoBulk d + 1
  | (_, d) => uptoBulk d + 1
 end
def uptoSmall : (H : Type) → List (DataW H) → Bool := fun _ ds => decide (uptoBulkAll ds ≤ 1048576)
def OpenSpec.upto (s : _root_.Go.ChangeSpec) : _root_.Go.OpenSpec := { _root_.Go.OpenSpec.ofChange s with cond := some uptoSmall }

/-- 'laws.FnExactWordOfSlope', WHERE WHAT IT READS IS OF BULK AT MOST 1048576: true; the input reads as it did. -/
def fnExactWordOfSlopeUptoRow : OpenClaim := { program := "ytippkbjdifmdnaa", sum := "80225e7abba2bf0a4a6b23729fc7ed7fef023212cce732d075c3edda0f32b073", func := "loop.example/g01371/laws.FnExactWordOfSlope", spec := "fnExactWordOfSlope", apart := false, narrowed := true }
def FnExactWordOfSlopeUptoSaid : Prop := fnExactWordOfSlopeUptoRow.holds Try.pinned (OpenSpec.upto fnExactWordOfSlopeSpec)

/-- 'laws.FnExactStandardWord', WHERE WHAT IT READS IS OF BULK AT MOST 1048576: true; the input reads as it did. -/
def fnExactStandardWordUptoRow : OpenClaim := { program := "ytippkbjdifmdnaa", sum := "80225e7abba2bf0a4a6b23729fc7ed7fef023212cce732d075c3edda0f32b073", func := "loop.example/g01371/laws.FnExactStandardWord", spec := "fnExactStandardWord", inPlace := ["internal/abi.NoEscape", "internal/bytealg.MakeNoZero"], apart := false, narrowed := true }
def FnExactStandardWordUptoSaid : Prop := fnExactStandardWordUptoRow.holds Try.pinned (OpenSpec.upto fnExactStandardWordSpec)

/-- 'laws.FnExactWordsWith', WHERE WHAT IT READS IS OF BULK AT MOST 1048576: true; the input reads as it did. -/
def fnExactWordsWithUptoRow : OpenClaim := { program := "ytippkbjdifmdnaa", sum := "80225e7abba2bf0a4a6b23729fc7ed7fef023212cce732d075c3edda0f32b073", func := "loop.example/g01371/laws.FnExactWordsWith", spec := "fnExactWordsWith", unfollowed := true, recurses := true, apart := false, narrowed := true }
def FnExactWordsWithUptoSaid : Prop := fnExactWordsWithUptoRow.holds Try.pinned (OpenSpec.upto fnExactWordsWithSpec)

/-- 'laws.FnExactSortedWord', WHERE WHAT IT READS IS OF BULK AT MOST 1048576: true; the input reads as it did. -/
def fnExactSortedWordUptoRow : OpenClaim := { program := "ytippkbjdifmdnaa", sum := "80225e7abba2bf0a4a6b23729fc7ed7fef023212cce732d075c3edda0f32b073", func := "loop.example/g01371/laws.FnExactSortedWord", spec := "fnExactSortedWord", unfollowed := true, recurses := true, apart := false, narrowed := true }
def FnExactSortedWordUptoSaid : Prop := fnExactSortedWordUptoRow.holds Try.pinned (OpenSpec.upto fnExactSortedWordSpec)

/-- 'laws.FnExactAbelianComplexity', WHERE WHAT IT READS IS OF BULK AT MOST 1048576: true; the input reads as it did. -/
def fnExactAbelianComplexityUptoRow : OpenClaim := { program := "ytippkbjdifmdnaa", sum := "80225e7abba2bf0a4a6b23729fc7ed7fef023212cce732d075c3edda0f32b073", func := "loop.example/g01371/laws.FnExactAbelianComplexity", spec := "fnExactAbelianComplexity", unfollowed := true, recurses := true, apart := false, narrowed := true }
def FnExactAbelianComplexityUptoSaid : Prop := fnExactAbelianComplexityUptoRow.holds Try.pinned (OpenSpec.upto fnExactAbelianComplexitySpec)

end Rows
end Go.Proofs.Ytippkbjdifmdnaa
