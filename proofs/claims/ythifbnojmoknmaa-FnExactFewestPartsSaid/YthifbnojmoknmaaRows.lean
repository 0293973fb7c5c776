/-
  No cell of these rows narrows 'for every input' (looked for: loops, veiled, ifaces, maps, wideKeys, modest, calm, conditions, laid).
  DERIVED. THE GIVEN ROWS OF THIS SEAT. 7 by the template 'for every input the law returns true; each argument reads behind the call as it read before'; 0 by the template 'total and deterministic' (their statements: YthifbnojmoknmaaTotals.lean).
  GIVEN WITH THE SEED: the statements are not yours to turn. If you find one false, say at which input.
  Laid BY PROGRAM, IN A SANDBOX (cutbox-rows.mjs): the forced cells as the released guide's own fill.sh prints them over the translation 7036751c1f715a21… (all of the seat's roots in one cut). By AI agents, Wed Nov 11 2026. No macro, syntax, notation, axiom, sorry.
-/
import Derived.Test.YthifbnojmoknmaaChecked
import GoSem.Claim
import GoSem.ClaimJoined
import GoSem.ClaimMapViews
import Derived.JoinedTies
import Derived.KernelRfl
namespace Go.Proofs.Ythifbnojmoknmaa
/- THE CELL 'sum', in the pinned program and in every row, IS THE sha256 OF THE DUMP (.gsa) THAT YthifbnojmoknmaaProg.lean LOADS. Nothing in Lean hashes anything: it is a label: what it is worth is what the hold of that sum in a sandbox is worth. -/
noncomputable def Try.pinned : Pinned := { name := "ythifbnojmoknmaa", sum := "7036751c1f715a21f1dd20e2bd6c2f0f584d397fdf0e5f4c82f39b8c259442a5", checked := Try.checked }
namespace Rows
def none {H : Type} : Left H := { results := [], args := [] }

/-- 'laws.FnExactFewestParts': WHATEVER THE INPUT: true; the input reads as it did. -/
def fnExactFewestPartsSpec : ChangeSpec := { name := "fnExactFewestParts", fn := fun _ => fun
  | [d] => { results := [.lit (.bool true)], args := [d] }
  | _ => none }
def fnExactFewestPartsRow : OpenClaim := { program := "ythifbnojmoknmaa", sum := "7036751c1f715a21f1dd20e2bd6c2f0f584d397fdf0e5f4c82f39b8c259442a5", func := "loop.example/g01371/laws.FnExactFewestParts", spec := "fnExactFewestParts", unfollowed := true, recurses := true, apart := false }
def FnExactFewestPartsSaid : Prop := fnExactFewestPartsRow.holds Try.pinned (OpenSpec.ofChange fnExactFewestPartsSpec)

/-- ITS FALSE NEIGHBOUR: 'it returns false'. Refute it at one input. -/
def fnExactFewestPartsWrong : ChangeSpec := { name := "fnExactFewestParts", fn := fun _ => fun
  | [d] => { results := [.lit (.bool false)], args := [d] }
  | _ => none }
def FnExactFewestPartsWrongFalsely : Prop := fnExactFewestPartsRow.holds Try.pinned (OpenSpec.ofChange fnExactFewestPartsWrong)

/-- 'laws.FnExactDefectOf': WHATEVER THE INPUT: true; the input reads as it did. -/
def fnExactDefectOfSpec : ChangeSpec := { name := "fnExactDefectOf", fn := fun _ => fun
  | [d] => { results := [.lit (.bool true)], args := [d] }
  | _ => none }
def fnExactDefectOfRow : OpenClaim := { program := "ythifbnojmoknmaa", sum := "7036751c1f715a21f1dd20e2bd6c2f0f584d397fdf0e5f4c82f39b8c259442a5", func := "loop.example/g01371/laws.FnExactDefectOf", spec := "fnExactDefectOf", unfollowed := true, recurses := true, apart := false }
def FnExactDefectOfSaid : Prop := fnExactDefectOfRow.holds Try.pinned (OpenSpec.ofChange fnExactDefectOfSpec)

/-- ITS FALSE NEIGHBOUR: 'it returns false'. Refute it at one input. -/
def fnExactDefectOfWrong : ChangeSpec := { name := "fnExactDefectOf", fn := fun _ => fun
  | [d] => { results := [.lit (.bool false)], args := [d] }
  | _ => none }
def FnExactDefectOfWrongFalsely : Prop := fnExactDefectOfRow.holds Try.pinned (OpenSpec.ofChange fnExactDefectOfWrong)

/-- 'laws.FnExactCountClosed': WHATEVER THE INPUT: true; the input reads as it did. -/
def fnExactCountClosedSpec : ChangeSpec := { name := "fnExactCountClosed", fn := fun _ => fun
  | [d] => { results := [.lit (.bool true)], args := [d] }
  | _ => none }
def fnExactCountClosedRow : OpenClaim := { program := "ythifbnojmoknmaa", sum := "7036751c1f715a21f1dd20e2bd6c2f0f584d397fdf0e5f4c82f39b8c259442a5", func := "loop.example/g01371/laws.FnExactCountClosed", spec := "fnExactCountClosed", unfollowed := true, recurses := true, apart := false }
def FnExactCountClosedSaid : Prop := fnExactCountClosedRow.holds Try.pinned (OpenSpec.ofChange fnExactCountClosedSpec)

/-- ITS FALSE NEIGHBOUR: 'it returns false'. Refute it at one input. -/
def fnExactCountClosedWrong : ChangeSpec := { name := "fnExactCountClosed", fn := fun _ => fun
  | [d] => { results := [.lit (.bool false)], args := [d] }
  | _ => none }
def FnExactCountClosedWrongFalsely : Prop := fnExactCountClosedRow.holds Try.pinned (OpenSpec.ofChange fnExactCountClosedWrong)

/-- 'laws.FnExactPalindromesOf': WHATEVER THE INPUT: true; the input reads as it did. -/
def fnExactPalindromesOfSpec : ChangeSpec := { name := "fnExactPalindromesOf", fn := fun _ => fun
  | [d] => { results := [.lit (.bool true)], args := [d] }
  | _ => none }
def fnExactPalindromesOfRow : OpenClaim := { program := "ythifbnojmoknmaa", sum := "7036751c1f715a21f1dd20e2bd6c2f0f584d397fdf0e5f4c82f39b8c259442a5", func := "loop.example/g01371/laws.FnExactPalindromesOf", spec := "fnExactPalindromesOf", unfollowed := true, recurses := true, apart := false }
def FnExactPalindromesOfSaid : Prop := fnExactPalindromesOfRow.holds Try.pinned (OpenSpec.ofChange fnExactPalindromesOfSpec)

/-- ITS FALSE NEIGHBOUR: 'it returns false'. Refute it at one input. -/
def fnExactPalindromesOfWrong : ChangeSpec := { name := "fnExactPalindromesOf", fn := fun _ => fun
  | [d] => { results := [.lit (.bool false)], args := [d] }
  | _ => none }
def FnExactPalindromesOfWrongFalsely : Prop := fnExactPalindromesOfRow.holds Try.pinned (OpenSpec.ofChange fnExactPalindromesOfWrong)

/-- 'laws.FnPromiseOfAll': WHATEVER THE INPUT: true; the input reads as it did. -/
def fnPromiseOfAllSpec : ChangeSpec := { name := "fnPromiseOfAll", fn := fun _ => fun
  | [d1, d2] => { results := [.lit (.bool true)], args := [d1, d2] }
  | _ => none }
def fnPromiseOfAllRow : OpenClaim := { program := "ythifbnojmoknmaa", sum := "7036751c1f715a21f1dd20e2bd6c2f0f584d397fdf0e5f4c82f39b8c259442a5", func := "loop.example/g01371/laws.FnPromiseOfAll", spec := "fnPromiseOfAll", inPlace := ["internal/abi.NoEscape", "internal/bytealg.MakeNoZero"], unfollowed := true, recurses := true, apart := false }
def FnPromiseOfAllSaid : Prop := fnPromiseOfAllRow.holds Try.pinned (OpenSpec.ofChange fnPromiseOfAllSpec)

/-- ITS FALSE NEIGHBOUR: 'it returns false'. Refute it at one input. -/
def fnPromiseOfAllWrong : ChangeSpec := { name := "fnPromiseOfAll", fn := fun _ => fun
  | [d1, d2] => { results := [.lit (.bool false)], args := [d1, d2] }
  | _ => none }
def FnPromiseOfAllWrongFalsely : Prop := fnPromiseOfAllRow.holds Try.pinned (OpenSpec.ofChange fnPromiseOfAllWrong)

/-- 'laws.FnPalindromes': WHATEVER THE INPUT: true; the input reads as it did. -/
def fnPalindromesSpec : ChangeSpec := { name := "fnPalindromes", fn := fun _ => fun
  | [d] => { results := [.lit (.bool true)], args := [d] }
  | _ => none }
def fnPalindromesRow : OpenClaim := { program := "ythifbnojmoknmaa", sum := "7036751c1f715a21f1dd20e2bd6c2f0f584d397fdf0e5f4c82f39b8c259442a5", func := "loop.example/g01371/laws.FnPalindromes", spec := "fnPalindromes", unfollowed := true, recurses := true, apart := false }
def FnPalindromesSaid : Prop := fnPalindromesRow.holds Try.pinned (OpenSpec.ofChange fnPalindromesSpec)

/-- ITS FALSE NEIGHBOUR: 'it returns false'. Refute it at one input. -/
def fnPalindromesWrong : ChangeSpec := { name := "fnPalindromes", fn := fun _ => fun
  | [d] => { results := [.lit (.bool false)], args := [d] }
  | _ => none }
def FnPalindromesWrongFalsely : Prop := fnPalindromesRow.holds Try.pinned (OpenSpec.ofChange fnPalindromesWrong)

/-- 'laws.FnClosures': WHATEVER THE INPUT: true; the input reads as it did. -/
def fnClosuresSpec : ChangeSpec := { name := "fnClosures", fn := fun _ => fun
  | [d] => { results := [.lit (.bool true)], args := [d] }
  | _ => none }
def fnClosuresRow : OpenClaim := { program := "ythifbnojmoknmaa", sum := "7036751c1f715a21f1dd20e2bd6c2f0f584d397fdf0e5f4c82f39b8c259442a5", func := "loop.example/g01371/laws.FnClosures", spec := "fnClosures", unfollowed := true, recurses := true, apart := false }
def FnClosuresSaid : Prop := fnClosuresRow.holds Try.pinned (OpenSpec.ofChange fnClosuresSpec)

/-- ITS FALSE NEIGHBOUR: 'it returns false'. Refute it at one input. -/
def fnClosuresWrong : ChangeSpec := { name := "fnClosures", fn := fun _ => fun
  | [d] => { results := [.lit (.bool false)], args := [d] }
  | _ => none }
def FnClosuresWrongFalsely : Prop := fnClosuresRow.holds Try.pinned (OpenSpec.ofChange fnClosuresWrong)

/- THE SECOND FORM. 'bulk': how many values and letters a reading holds, each counted each time it is reached (what is shared counts as often as it is met; a slice's spare places count too). A statement '..UptoSaid' is the law's where the arguments, and the package variables that the reading takes, are together of bulk at most 1048576: NARROWER than '..Said'. Prove '..Said' where nothing that the law and all that it calls make is longer than what came in: it says more and counts as full. Else prove '..UptoSaid'. A law counts once. -/
mutual
def uptoBulk {H : Type} : DataW H → Nat
  | .lit (.string bytes) => bytes.length + 1
  | .lit _ => 1
  | .nil => 1
  | .ptr d => uptoBulk d + 1
  | .slice elems spare => uptoBulkAll elems + uptoBulkAll spare + 1
  | .agg parts => uptoBulkAll parts + 1
  | .iface _ d => uptoBulk d + 1
  | .map entries => uptoBulkEntries entries + 1
  | .held _ => 1
def uptoBulkAll {H : Type} : List (DataW H) → Nat
  | [] => 0
  | d :: r => uptoBulk d + uptoBulkAll r
def uptoBulkEntries {H : Type} : List (Lit × DataW H) → Nat
  | [] => 0
  | x :: r => uptoBulkEntry x + uptoBulkEntries r
def uptoBulkEntry {H : Type} : Lit × DataW H → Nat
  | (.string bytes, d) => bytes.length + uptoBulk d + 1
  | (_, d) => uptoBulk d + 1
 end
def uptoSmall : (H : Type) → List (DataW H) → Bool := fun _ ds => decide (uptoBulkAll ds ≤ 1048576)
def OpenSpec.upto (s : _root_.Go.ChangeSpec) : _root_.Go.OpenSpec := { _root_.Go.OpenSpec.ofChange s with cond := some uptoSmall }

/-- 'laws.FnExactFewestParts', WHERE WHAT IT READS IS OF BULK AT MOST 1048576: true; the input reads as it did. -/
def fnExactFewestPartsUptoRow : OpenClaim := { program := "ythifbnojmoknmaa", sum := "7036751c1f715a21f1dd20e2bd6c2f0f584d397fdf0e5f4c82f39b8c259442a5", func := "loop.example/g01371/laws.FnExactFewestParts", spec := "fnExactFewestParts", unfollowed := true, recurses := true, apart := false, narrowed := true }
def FnExactFewestPartsUptoSaid : Prop := fnExactFewestPartsUptoRow.holds Try.pinned (OpenSpec.upto fnExactFewestPartsSpec)

/-- 'laws.FnExactDefectOf', WHERE WHAT IT READS IS OF BULK AT MOST 1048576: true; the input reads as it did. -/
def fnExactDefectOfUptoRow : OpenClaim := { program := "ythifbnojmoknmaa", sum := "7036751c1f715a21f1dd20e2bd6c2f0f584d397fdf0e5f4c82f39b8c259442a5", func := "loop.example/g01371/laws.FnExactDefectOf", spec := "fnExactDefectOf", unfollowed := true, recurses := true, apart := false, narrowed := true }
def FnExactDefectOfUptoSaid : Prop := fnExactDefectOfUptoRow.holds Try.pinned (OpenSpec.upto fnExactDefectOfSpec)

/-- 'laws.FnExactCountClosed', WHERE WHAT IT READS IS OF BULK AT MOST 1048576: true; the input reads as it did. -/
def fnExactCountClosedUptoRow : OpenClaim := { program := "ythifbnojmoknmaa", sum := "7036751c1f715a21f1dd20e2bd6c2f0f584d397fdf0e5f4c82f39b8c259442a5", func := "loop.example/g01371/laws.FnExactCountClosed", spec := "fnExactCountClosed", unfollowed := true, recurses := true, apart := false, narrowed := true }
def FnExactCountClosedUptoSaid : Prop := fnExactCountClosedUptoRow.holds Try.pinned (OpenSpec.upto fnExactCountClosedSpec)

/-- 'laws.FnExactPalindromesOf', WHERE WHAT IT READS IS OF BULK AT MOST 1048576: true; the input reads as it did. -/
def fnExactPalindromesOfUptoRow : OpenClaim := { program := "ythifbnojmoknmaa", sum := "7036751c1f715a21f1dd20e2bd6c2f0f584d397fdf0e5f4c82f39b8c259442a5", func := "loop.example/g01371/laws.FnExactPalindromesOf", spec := "fnExactPalindromesOf", unfollowed := true, recurses := true, apart := false, narrowed := true }
def FnExactPalindromesOfUptoSaid : Prop := fnExactPalindromesOfUptoRow.holds Try.pinned (OpenSpec.upto fnExactPalindromesOfSpec)

/-- 'laws.FnPromiseOfAll', WHERE WHAT IT READS IS OF BULK AT MOST 1048576: true; the input reads as it did. -/
def fnPromiseOfAllUptoRow : OpenClaim := { program := "ythifbnojmoknmaa", sum := "7036751c1f715a21f1dd20e2bd6c2f0f584d397fdf0e5f4c82f39b8c259442a5", func := "loop.example/g01371/laws.FnPromiseOfAll", spec := "fnPromiseOfAll", inPlace := ["internal/abi.NoEscape", "internal/bytealg.MakeNoZero"], unfollowed := true, recurses := true, apart := false, narrowed := true }
def FnPromiseOfAllUptoSaid : Prop := fnPromiseOfAllUptoRow.holds Try.pinned (OpenSpec.upto fnPromiseOfAllSpec)

/-- 'laws.FnPalindromes', WHERE WHAT IT READS IS OF BULK AT MOST 1048576: true; the input reads as it did. -/
def fnPalindromesUptoRow : OpenClaim := { program := "ythifbnojmoknmaa", sum := "7036751c1f715a21f1dd20e2bd6c2f0f584d397fdf0e5f4c82f39b8c259442a5", func := "loop.example/g01371/laws.FnPalindromes", spec := "fnPalindromes", unfollowed := true, recurses := true, apart := false, narrowed := true }
def FnPalindromesUptoSaid : Prop := fnPalindromesUptoRow.holds Try.pinned (OpenSpec.upto fnPalindromesSpec)

/-- 'laws.FnClosures', WHERE WHAT IT READS IS OF BULK AT MOST 1048576: true; the input reads as it did. -/
def fnClosuresUptoRow : OpenClaim := { program := "ythifbnojmoknmaa", sum := "7036751c1f715a21f1dd20e2bd6c2f0f584d397fdf0e5f4c82f39b8c259442a5", func := "loop.example/g01371/laws.FnClosures", spec := "fnClosures", unfollowed := true, recurses := true, apart := false, narrowed := true }
def FnClosuresUptoSaid : Prop := fnClosuresUptoRow.holds Try.pinned (OpenSpec.upto fnClosuresSpec)

end Rows
end Go.Proofs.Ythifbnojmoknmaa
