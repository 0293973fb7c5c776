/-
  No cell of these rows narrows 'for every input' (looked for: loops, veiled, ifaces, maps, wideKeys, modest, calm, conditions, laid).
  DERIVED. THE GIVEN ROWS OF THIS SEAT. 13 by the template 'for every input the law returns true; each argument reads behind the call as it read before'; 0 by the template 'total and deterministic' (their statements: YtbhhnjlnlmemmaaTotals.lean).
  GIVEN WITH THE SEED: the statements are not yours to turn. If you find one false, say at which input.
  Laid BY PROGRAM, IN A SANDBOX (cutbox-rows.mjs): the forced cells as the released guide's own fill.sh prints them over the translation 6e507a71e10b35d6… (all of the seat's roots in one cut). By AI agents, Wed Nov 11 2026. No macro, syntax, notation, axiom, sorry.
-/
import Derived.Test.YtbhhnjlnlmemmaaChecked
import GoSem.Claim
import GoSem.ClaimJoined
import GoSem.ClaimMapViews
import Derived.JoinedTies
import Derived.KernelRfl
namespace Go.Proofs.Ytbhhnjlnlmemmaa
/- THE CELL 'sum', in the pinned program and in every row, IS THE sha256 OF THE DUMP (.gsa) THAT YtbhhnjlnlmemmaaProg.lean LOADS. Nothing in Lean hashes anything: it is a label: what it is worth is what the hold of that sum in a sandbox is worth. -/
noncomputable def Try.pinned : Pinned := { name := "ytbhhnjlnlmemmaa", sum := "6e507a71e10b35d66ddb129f8d7049b6bd967b231d79786b433266dc05a679d6", checked := Try.checked }
namespace Rows
def none {H : Type} : Left H := { results := [], args := [] }

/-- 'laws.FnExactGapsOf': WHATEVER THE INPUT: true; the input reads as it did. -/
def fnExactGapsOfSpec : ChangeSpec := { name := "fnExactGapsOf", fn := fun _ => fun
  | [d1, d2] => { results := [.lit (.bool true)], args := [d1, d2] }
  | _ => none }
def fnExactGapsOfRow : OpenClaim := { program := "ytbhhnjlnlmemmaa", sum := "6e507a71e10b35d66ddb129f8d7049b6bd967b231d79786b433266dc05a679d6", func := "loop.example/g01371/laws.FnExactGapsOf", spec := "fnExactGapsOf", unfollowed := true, recurses := true, apart := false }
def FnExactGapsOfSaid : Prop := fnExactGapsOfRow.holds Try.pinned (OpenSpec.ofChange fnExactGapsOfSpec)

/-- ITS FALSE NEIGHBOUR: 'it returns false'. Refute it at one input. -/
def fnExactGapsOfWrong : ChangeSpec := { name := "fnExactGapsOf", fn := fun _ => fun
  | [d1, d2] => { results := [.lit (.bool false)], args := [d1, d2] }
  | _ => none }
def FnExactGapsOfWrongFalsely : Prop := fnExactGapsOfRow.holds Try.pinned (OpenSpec.ofChange fnExactGapsOfWrong)

/-- 'laws.FnExactLongestAntipower': WHATEVER THE INPUT: true; the input reads as it did. -/
def fnExactLongestAntipowerSpec : ChangeSpec := { name := "fnExactLongestAntipower", fn := fun _ => fun
  | [d1, d2] => { results := [.lit (.bool true)], args := [d1, d2] }
  | _ => none }
def fnExactLongestAntipowerRow : OpenClaim := { program := "ytbhhnjlnlmemmaa", sum := "6e507a71e10b35d66ddb129f8d7049b6bd967b231d79786b433266dc05a679d6", func := "loop.example/g01371/laws.FnExactLongestAntipower", spec := "fnExactLongestAntipower", unfollowed := true, recurses := true, apart := false }
def FnExactLongestAntipowerSaid : Prop := fnExactLongestAntipowerRow.holds Try.pinned (OpenSpec.ofChange fnExactLongestAntipowerSpec)

/-- ITS FALSE NEIGHBOUR: 'it returns false'. Refute it at one input. -/
def fnExactLongestAntipowerWrong : ChangeSpec := { name := "fnExactLongestAntipower", fn := fun _ => fun
  | [d1, d2] => { results := [.lit (.bool false)], args := [d1, d2] }
  | _ => none }
def FnExactLongestAntipowerWrongFalsely : Prop := fnExactLongestAntipowerRow.holds Try.pinned (OpenSpec.ofChange fnExactLongestAntipowerWrong)

/-- 'laws.FnExactCountCycles': WHATEVER THE INPUT: true; the input reads as it did. -/
def fnExactCountCyclesSpec : ChangeSpec := { name := "fnExactCountCycles", fn := fun _ => fun
  | [d1, d2] => { results := [.lit (.bool true)], args := [d1, d2] }
  | _ => none }
def fnExactCountCyclesRow : OpenClaim := { program := "ytbhhnjlnlmemmaa", sum := "6e507a71e10b35d66ddb129f8d7049b6bd967b231d79786b433266dc05a679d6", func := "loop.example/g01371/laws.FnExactCountCycles", spec := "fnExactCountCycles", unfollowed := true, recurses := true, apart := false }
def FnExactCountCyclesSaid : Prop := fnExactCountCyclesRow.holds Try.pinned (OpenSpec.ofChange fnExactCountCyclesSpec)

/-- ITS FALSE NEIGHBOUR: 'it returns false'. Refute it at one input. -/
def fnExactCountCyclesWrong : ChangeSpec := { name := "fnExactCountCycles", fn := fun _ => fun
  | [d1, d2] => { results := [.lit (.bool false)], args := [d1, d2] }
  | _ => none }
def FnExactCountCyclesWrongFalsely : Prop := fnExactCountCyclesRow.holds Try.pinned (OpenSpec.ofChange fnExactCountCyclesWrong)

/-- 'laws.FnExactCountFactors': WHATEVER THE INPUT: true; the input reads as it did. -/
def fnExactCountFactorsSpec : ChangeSpec := { name := "fnExactCountFactors", fn := fun _ => fun
  | [d] => { results := [.lit (.bool true)], args := [d] }
  | _ => none }
def fnExactCountFactorsRow : OpenClaim := { program := "ytbhhnjlnlmemmaa", sum := "6e507a71e10b35d66ddb129f8d7049b6bd967b231d79786b433266dc05a679d6", func := "loop.example/g01371/laws.FnExactCountFactors", spec := "fnExactCountFactors", unfollowed := true, recurses := true, apart := false }
def FnExactCountFactorsSaid : Prop := fnExactCountFactorsRow.holds Try.pinned (OpenSpec.ofChange fnExactCountFactorsSpec)

/-- ITS FALSE NEIGHBOUR: 'it returns false'. Refute it at one input. -/
def fnExactCountFactorsWrong : ChangeSpec := { name := "fnExactCountFactors", fn := fun _ => fun
  | [d] => { results := [.lit (.bool false)], args := [d] }
  | _ => none }
def FnExactCountFactorsWrongFalsely : Prop := fnExactCountFactorsRow.holds Try.pinned (OpenSpec.ofChange fnExactCountFactorsWrong)

/-- 'laws.FnExactHaveEqualFactors': WHATEVER THE INPUT: true; the input reads as it did. -/
def fnExactHaveEqualFactorsSpec : ChangeSpec := { name := "fnExactHaveEqualFactors", fn := fun _ => fun
  | [d1, d2, d3] => { results := [.lit (.bool true)], args := [d1, d2, d3] }
  | _ => none }
def fnExactHaveEqualFactorsRow : OpenClaim := { program := "ytbhhnjlnlmemmaa", sum := "6e507a71e10b35d66ddb129f8d7049b6bd967b231d79786b433266dc05a679d6", func := "loop.example/g01371/laws.FnExactHaveEqualFactors", spec := "fnExactHaveEqualFactors", unfollowed := true, recurses := true, apart := false }
def FnExactHaveEqualFactorsSaid : Prop := fnExactHaveEqualFactorsRow.holds Try.pinned (OpenSpec.ofChange fnExactHaveEqualFactorsSpec)

/-- ITS FALSE NEIGHBOUR: 'it returns false'. Refute it at one input. -/
def fnExactHaveEqualFactorsWrong : ChangeSpec := { name := "fnExactHaveEqualFactors", fn := fun _ => fun
  | [d1, d2, d3] => { results := [.lit (.bool false)], args := [d1, d2, d3] }
  | _ => none }
def FnExactHaveEqualFactorsWrongFalsely : Prop := fnExactHaveEqualFactorsRow.holds Try.pinned (OpenSpec.ofChange fnExactHaveEqualFactorsWrong)

/-- 'laws.FnExactComplexityOf': WHATEVER THE INPUT: true; the input reads as it did. -/
def fnExactComplexityOfSpec : ChangeSpec := { name := "fnExactComplexityOf", fn := fun _ => fun
  | [d] => { results := [.lit (.bool true)], args := [d] }
  | _ => none }
def fnExactComplexityOfRow : OpenClaim := { program := "ytbhhnjlnlmemmaa", sum := "6e507a71e10b35d66ddb129f8d7049b6bd967b231d79786b433266dc05a679d6", func := "loop.example/g01371/laws.FnExactComplexityOf", spec := "fnExactComplexityOf", unfollowed := true, recurses := true, apart := false }
def FnExactComplexityOfSaid : Prop := fnExactComplexityOfRow.holds Try.pinned (OpenSpec.ofChange fnExactComplexityOfSpec)

/-- ITS FALSE NEIGHBOUR: 'it returns false'. Refute it at one input. -/
def fnExactComplexityOfWrong : ChangeSpec := { name := "fnExactComplexityOf", fn := fun _ => fun
  | [d] => { results := [.lit (.bool false)], args := [d] }
  | _ => none }
def FnExactComplexityOfWrongFalsely : Prop := fnExactComplexityOfRow.holds Try.pinned (OpenSpec.ofChange fnExactComplexityOfWrong)

/-- 'laws.FnExactReturnWords': WHATEVER THE INPUT: true; the input reads as it did. -/
def fnExactReturnWordsSpec : ChangeSpec := { name := "fnExactReturnWords", fn := fun _ => fun
  | [d1, d2] => { results := [.lit (.bool true)], args := [d1, d2] }
  | _ => none }
def fnExactReturnWordsRow : OpenClaim := { program := "ytbhhnjlnlmemmaa", sum := "6e507a71e10b35d66ddb129f8d7049b6bd967b231d79786b433266dc05a679d6", func := "loop.example/g01371/laws.FnExactReturnWords", spec := "fnExactReturnWords", unfollowed := true, recurses := true, apart := false }
def FnExactReturnWordsSaid : Prop := fnExactReturnWordsRow.holds Try.pinned (OpenSpec.ofChange fnExactReturnWordsSpec)

/-- ITS FALSE NEIGHBOUR: 'it returns false'. Refute it at one input. -/
def fnExactReturnWordsWrong : ChangeSpec := { name := "fnExactReturnWords", fn := fun _ => fun
  | [d1, d2] => { results := [.lit (.bool false)], args := [d1, d2] }
  | _ => none }
def FnExactReturnWordsWrongFalsely : Prop := fnExactReturnWordsRow.holds Try.pinned (OpenSpec.ofChange fnExactReturnWordsWrong)

/-- 'laws.FnExactLeftSpecial': WHATEVER THE INPUT: true; the input reads as it did. -/
def fnExactLeftSpecialSpec : ChangeSpec := { name := "fnExactLeftSpecial", fn := fun _ => fun
  | [d1, d2] => { results := [.lit (.bool true)], args := [d1, d2] }
  | _ => none }
def fnExactLeftSpecialRow : OpenClaim := { program := "ytbhhnjlnlmemmaa", sum := "6e507a71e10b35d66ddb129f8d7049b6bd967b231d79786b433266dc05a679d6", func := "loop.example/g01371/laws.FnExactLeftSpecial", spec := "fnExactLeftSpecial", unfollowed := true, recurses := true, apart := false }
def FnExactLeftSpecialSaid : Prop := fnExactLeftSpecialRow.holds Try.pinned (OpenSpec.ofChange fnExactLeftSpecialSpec)

/-- ITS FALSE NEIGHBOUR: 'it returns false'. Refute it at one input. -/
def fnExactLeftSpecialWrong : ChangeSpec := { name := "fnExactLeftSpecial", fn := fun _ => fun
  | [d1, d2] => { results := [.lit (.bool false)], args := [d1, d2] }
  | _ => none }
def FnExactLeftSpecialWrongFalsely : Prop := fnExactLeftSpecialRow.holds Try.pinned (OpenSpec.ofChange fnExactLeftSpecialWrong)

/-- 'laws.FnExactRightSpecial': WHATEVER THE INPUT: true; the input reads as it did. -/
def fnExactRightSpecialSpec : ChangeSpec := { name := "fnExactRightSpecial", fn := fun _ => fun
  | [d1, d2] => { results := [.lit (.bool true)], args := [d1, d2] }
  | _ => none }
def fnExactRightSpecialRow : OpenClaim := { program := "ytbhhnjlnlmemmaa", sum := "6e507a71e10b35d66ddb129f8d7049b6bd967b231d79786b433266dc05a679d6", func := "loop.example/g01371/laws.FnExactRightSpecial", spec := "fnExactRightSpecial", unfollowed := true, recurses := true, apart := false }
def FnExactRightSpecialSaid : Prop := fnExactRightSpecialRow.holds Try.pinned (OpenSpec.ofChange fnExactRightSpecialSpec)

/-- ITS FALSE NEIGHBOUR: 'it returns false'. Refute it at one input. -/
def fnExactRightSpecialWrong : ChangeSpec := { name := "fnExactRightSpecial", fn := fun _ => fun
  | [d1, d2] => { results := [.lit (.bool false)], args := [d1, d2] }
  | _ => none }
def FnExactRightSpecialWrongFalsely : Prop := fnExactRightSpecialRow.holds Try.pinned (OpenSpec.ofChange fnExactRightSpecialWrong)

/-- 'laws.FnExactFactorEdges': WHATEVER THE INPUT: true; the input reads as it did. -/
def fnExactFactorEdgesSpec : ChangeSpec := { name := "fnExactFactorEdges", fn := fun _ => fun
  | [d1, d2] => { results := [.lit (.bool true)], args := [d1, d2] }
  | _ => none }
def fnExactFactorEdgesRow : OpenClaim := { program := "ytbhhnjlnlmemmaa", sum := "6e507a71e10b35d66ddb129f8d7049b6bd967b231d79786b433266dc05a679d6", func := "loop.example/g01371/laws.FnExactFactorEdges", spec := "fnExactFactorEdges", unfollowed := true, recurses := true, apart := false }
def FnExactFactorEdgesSaid : Prop := fnExactFactorEdgesRow.holds Try.pinned (OpenSpec.ofChange fnExactFactorEdgesSpec)

/-- ITS FALSE NEIGHBOUR: 'it returns false'. Refute it at one input. -/
def fnExactFactorEdgesWrong : ChangeSpec := { name := "fnExactFactorEdges", fn := fun _ => fun
  | [d1, d2] => { results := [.lit (.bool false)], args := [d1, d2] }
  | _ => none }
def FnExactFactorEdgesWrongFalsely : Prop := fnExactFactorEdgesRow.holds Try.pinned (OpenSpec.ofChange fnExactFactorEdgesWrong)

/-- 'laws.FnExactLongestCommonFactor': WHATEVER THE INPUT: true; the input reads as it did. -/
def fnExactLongestCommonFactorSpec : ChangeSpec := { name := "fnExactLongestCommonFactor", fn := fun _ => fun
  | [d1, d2] => { results := [.lit (.bool true)], args := [d1, d2] }
  | _ => none }
def fnExactLongestCommonFactorRow : OpenClaim := { program := "ytbhhnjlnlmemmaa", sum := "6e507a71e10b35d66ddb129f8d7049b6bd967b231d79786b433266dc05a679d6", func := "loop.example/g01371/laws.FnExactLongestCommonFactor", spec := "fnExactLongestCommonFactor", inPlace := ["internal/bytealg.IndexByteString", "internal/bytealg.IndexString"], unfollowed := true, recurses := true, named := ["internal/bytealg.MaxLen"], apart := false }
def FnExactLongestCommonFactorSaid : Prop := fnExactLongestCommonFactorRow.holds Try.pinned (OpenSpec.ofChange fnExactLongestCommonFactorSpec)

/-- ITS FALSE NEIGHBOUR: 'it returns false'. Refute it at one input. -/
def fnExactLongestCommonFactorWrong : ChangeSpec := { name := "fnExactLongestCommonFactor", fn := fun _ => fun
  | [d1, d2] => { results := [.lit (.bool false)], args := [d1, d2] }
  | _ => none }
def FnExactLongestCommonFactorWrongFalsely : Prop := fnExactLongestCommonFactorRow.holds Try.pinned (OpenSpec.ofChange fnExactLongestCommonFactorWrong)

/-- 'laws.FnExactBispecial': WHATEVER THE INPUT: true; the input reads as it did. -/
def fnExactBispecialSpec : ChangeSpec := { name := "fnExactBispecial", fn := fun _ => fun
  | [d1, d2] => { results := [.lit (.bool true)], args := [d1, d2] }
  | _ => none }
def fnExactBispecialRow : OpenClaim := { program := "ytbhhnjlnlmemmaa", sum := "6e507a71e10b35d66ddb129f8d7049b6bd967b231d79786b433266dc05a679d6", func := "loop.example/g01371/laws.FnExactBispecial", spec := "fnExactBispecial", unfollowed := true, recurses := true, apart := false }
def FnExactBispecialSaid : Prop := fnExactBispecialRow.holds Try.pinned (OpenSpec.ofChange fnExactBispecialSpec)

/-- ITS FALSE NEIGHBOUR: 'it returns false'. Refute it at one input. -/
def fnExactBispecialWrong : ChangeSpec := { name := "fnExactBispecial", fn := fun _ => fun
  | [d1, d2] => { results := [.lit (.bool false)], args := [d1, d2] }
  | _ => none }
def FnExactBispecialWrongFalsely : Prop := fnExactBispecialRow.holds Try.pinned (OpenSpec.ofChange fnExactBispecialWrong)

/-- 'laws.FnExactWindowOf': WHATEVER THE INPUT: true; the input reads as it did. -/
def fnExactWindowOfSpec : ChangeSpec := { name := "fnExactWindowOf", fn := fun _ => fun
  | [d1, d2] => { results := [.lit (.bool true)], args := [d1, d2] }
  | _ => none }
def fnExactWindowOfRow : OpenClaim := { program := "ytbhhnjlnlmemmaa", sum := "6e507a71e10b35d66ddb129f8d7049b6bd967b231d79786b433266dc05a679d6", func := "loop.example/g01371/laws.FnExactWindowOf", spec := "fnExactWindowOf", inPlace := ["internal/bytealg.IndexByteString", "internal/bytealg.IndexString"], unfollowed := true, recurses := true, named := ["internal/bytealg.MaxLen"], apart := false }
def FnExactWindowOfSaid : Prop := fnExactWindowOfRow.holds Try.pinned (OpenSpec.ofChange fnExactWindowOfSpec)

/-- ITS FALSE NEIGHBOUR: 'it returns false'. Refute it at one input. -/
def fnExactWindowOfWrong : ChangeSpec := { name := "fnExactWindowOf", fn := fun _ => fun
  | [d1, d2] => { results := [.lit (.bool false)], args := [d1, d2] }
  | _ => none }
def FnExactWindowOfWrongFalsely : Prop := fnExactWindowOfRow.holds Try.pinned (OpenSpec.ofChange fnExactWindowOfWrong)

/- THE SECOND FORM. 'bulk': how many values and letters a reading holds, each counted each time it is reached (what is shared counts as often as it is met; a slice's spare places count too). A statement '..UptoSaid' is the law's where the arguments, and the package variables that the reading takes, are together of bulk at most 1048576: NARROWER than '..Said'. Prove '..Said' where nothing that the law and all that it calls make is longer than what came in: it says more and counts as full. Else prove '..UptoSaid'. A law counts once. -/
mutual
def uptoBulk {H : Type} : DataW H → Nat
  | .lit (.string bytes) => bytes.length + 1
  | .lit _ => 1
  | .nil => 1
  | .ptr d => uptoBulk d + 1
  | .slice elems spare => uptoBulkAll elems + uptoBulkAll spare + 1
  | .agg parts => uptoBulkAll parts + 1
  | .iface _ d => uptoBulk d + 1
  | .map entries => uptoBulkEntries entries + 1
  | .held _ => 1
def uptoBulkAll {H : Type} : List (DataW H) → Nat
  | [] => 0
  | d :: r => uptoBulk d + uptoBulkAll r
def uptoBulkEntries {H : Type} : List (Lit × DataW H) → Nat
  | [] => 0
  | x :: r => uptoBulkEntry x + uptoBulkEntries r
def uptoBulkEntry {H : Type} : Lit × DataW H → Nat
  | (.string bytes, d) => bytes.length + uptoBulk d + 1
  | (_, d) => uptoBulk d + 1
 end
def uptoSmall : (H : Type) → List (DataW H) → Bool := fun _ ds => decide (uptoBulkAll ds ≤ 1048576)
def OpenSpec.upto (s : _root_.Go.ChangeSpec) : _root_.Go.OpenSpec := { _root_.Go.OpenSpec.ofChange s with cond := some uptoSmall }

/-- 'laws.FnExactGapsOf', WHERE WHAT IT READS IS OF BULK AT MOST 1048576: true; the input reads as it did. -/
def fnExactGapsOfUptoRow : OpenClaim := { program := "ytbhhnjlnlmemmaa", sum := "6e507a71e10b35d66ddb129f8d7049b6bd967b231d79786b433266dc05a679d6", func := "loop.example/g01371/laws.FnExactGapsOf", spec := "fnExactGapsOf", unfollowed := true, recurses := true, apart := false, narrowed := true }
def FnExactGapsOfUptoSaid : Prop := fnExactGapsOfUptoRow.holds Try.pinned (OpenSpec.upto fnExactGapsOfSpec)

/-- 'laws.FnExactLongestAntipower', WHERE WHAT IT READS IS OF BULK AT MOST 1048576: true; the input reads as it did. -/
def fnExactLongestAntipowerUptoRow : OpenClaim := { program := "ytbhhnjlnlmemmaa", sum := "6e507a71e10b35d66ddb129f8d7049b6bd967b231d79786b433266dc05a679d6", func := "loop.example/g01371/laws.FnExactLongestAntipower", spec := "fnExactLongestAntipower", unfollowed := true, recurses := true, apart := false, narrowed := true }
def FnExactLongestAntipowerUptoSaid : Prop := fnExactLongestAntipowerUptoRow.holds Try.pinned (OpenSpec.upto fnExactLongestAntipowerSpec)

/-- 'laws.FnExactCountCycles', WHERE WHAT IT READS IS OF BULK AT MOST 1048576: true; the input reads as it did. -/
def fnExactCountCyclesUptoRow : OpenClaim := { program := "ytbhhnjlnlmemmaa", sum := "6e507a71e10b35d66ddb129f8d7049b6bd967b231d79786b433266dc05a679d6", func := "loop.example/g01371/laws.FnExactCountCycles", spec := "fnExactCountCycles", unfollowed := true, recurses := true, apart := false, narrowed := true }
def FnExactCountCyclesUptoSaid : Prop := fnExactCountCyclesUptoRow.holds Try.pinned (OpenSpec.upto fnExactCountCyclesSpec)

/-- 'laws.FnExactCountFactors', WHERE WHAT IT READS IS OF BULK AT MOST 1048576: true; the input reads as it did. -/
def fnExactCountFactorsUptoRow : OpenClaim := { program := "ytbhhnjlnlmemmaa", sum := "6e507a71e10b35d66ddb129f8d7049b6bd967b231d79786b433266dc05a679d6", func := "loop.example/g01371/laws.FnExactCountFactors", spec := "fnExactCountFactors", unfollowed := true, recurses := true, apart := false, narrowed := true }
def FnExactCountFactorsUptoSaid : Prop := fnExactCountFactorsUptoRow.holds Try.pinned (OpenSpec.upto fnExactCountFactorsSpec)

/-- 'laws.FnExactHaveEqualFactors', WHERE WHAT IT READS IS OF BULK AT MOST 1048576: true; the input reads as it did. -/
def fnExactHaveEqualFactorsUptoRow : OpenClaim := { program := "ytbhhnjlnlmemmaa", sum := "6e507a71e10b35d66ddb129f8d7049b6bd967b231d79786b433266dc05a679d6", func := "loop.example/g01371/laws.FnExactHaveEqualFactors", spec := "fnExactHaveEqualFactors", unfollowed := true, recurses := true, apart := false, narrowed := true }
def FnExactHaveEqualFactorsUptoSaid : Prop := fnExactHaveEqualFactorsUptoRow.holds Try.pinned (OpenSpec.upto fnExactHaveEqualFactorsSpec)

/-- 'laws.FnExactComplexityOf', WHERE WHAT IT READS IS OF BULK AT MOST 1048576: true; the input reads as it did. -/
def fnExactComplexityOfUptoRow : OpenClaim := { program := "ytbhhnjlnlmemmaa", sum := "6e507a71e10b35d66ddb129f8d7049b6bd967b231d79786b433266dc05a679d6", func := "loop.example/g01371/laws.FnExactComplexityOf", spec := "fnExactComplexityOf", unfollowed := true, recurses := true, apart := false, narrowed := true }
def FnExactComplexityOfUptoSaid : Prop := fnExactComplexityOfUptoRow.holds Try.pinned (OpenSpec.upto fnExactComplexityOfSpec)

/-- 'laws.FnExactReturnWords', WHERE WHAT IT READS IS OF BULK AT MOST 1048576: true; the input reads as it did. -/
def fnExactReturnWordsUptoRow : OpenClaim := { program := "ytbhhnjlnlmemmaa", sum := "6e507a71e10b35d66ddb129f8d7049b6bd967b231d79786b433266dc05a679d6", func := "loop.example/g01371/laws.FnExactReturnWords", spec := "fnExactReturnWords", unfollowed := true, recurses := true, apart := false, narrowed := true }
def FnExactReturnWordsUptoSaid : Prop := fnExactReturnWordsUptoRow.holds Try.pinned (OpenSpec.upto fnExactReturnWordsSpec)

/-- 'laws.FnExactLeftSpecial', WHERE WHAT IT READS IS OF BULK AT MOST 1048576: true; the input reads as it did. -/
def fnExactLeftSpecialUptoRow : OpenClaim := { program := "ytbhhnjlnlmemmaa", sum := "6e507a71e10b35d66ddb129f8d7049b6bd967b231d79786b433266dc05a679d6", func := "loop.example/g01371/laws.FnExactLeftSpecial", spec := "fnExactLeftSpecial", unfollowed := true, recurses := true, apart := false, narrowed := true }
def FnExactLeftSpecialUptoSaid : Prop := fnExactLeftSpecialUptoRow.holds Try.pinned (OpenSpec.upto fnExactLeftSpecialSpec)

/-- 'laws.FnExactRightSpecial', WHERE WHAT IT READS IS OF BULK AT MOST 1048576: true; the input reads as it did. -/
def fnExactRightSpecialUptoRow : OpenClaim := { program := "ytbhhnjlnlmemmaa", sum := "6e507a71e10b35d66ddb129f8d7049b6bd967b231d79786b433266dc05a679d6", func := "loop.example/g01371/laws.FnExactRightSpecial", spec := "fnExactRightSpecial", unfollowed := true, recurses := true, apart := false, narrowed := true }
def FnExactRightSpecialUptoSaid : Prop := fnExactRightSpecialUptoRow.holds Try.pinned (OpenSpec.upto fnExactRightSpecialSpec)

/-- 'laws.FnExactFactorEdges', WHERE WHAT IT READS IS OF BULK AT MOST 1048576: true; the input reads as it did. -/
def fnExactFactorEdgesUptoRow : OpenClaim := { program := "ytbhhnjlnlmemmaa", sum := "6e507a71e10b35d66ddb129f8d7049b6bd967b231d79786b433266dc05a679d6", func := "loop.example/g01371/laws.FnExactFactorEdges", spec := "fnExactFactorEdges", unfollowed := true, recurses := true, apart := false, narrowed := true }
def FnExactFactorEdgesUptoSaid : Prop := fnExactFactorEdgesUptoRow.holds Try.pinned (OpenSpec.upto fnExactFactorEdgesSpec)

/-- 'laws.FnExactLongestCommonFactor', WHERE WHAT IT READS IS OF BULK AT MOST 1048576: true; the input reads as it did. -/
def fnExactLongestCommonFactorUptoRow : OpenClaim := { program := "ytbhhnjlnlmemmaa", sum := "6e507a71e10b35d66ddb129f8d7049b6bd967b231d79786b433266dc05a679d6", func := "loop.example/g01371/laws.FnExactLongestCommonFactor", spec := "fnExactLongestCommonFactor", inPlace := ["internal/bytealg.IndexByteString", "internal/bytealg.IndexString"], unfollowed := true, recurses := true, named := ["internal/bytealg.MaxLen"], apart := false, narrowed := true }
def FnExactLongestCommonFactorUptoSaid : Prop := fnExactLongestCommonFactorUptoRow.holds Try.pinned (OpenSpec.upto fnExactLongestCommonFactorSpec)

/-- 'laws.FnExactBispecial', WHERE WHAT IT READS IS OF BULK AT MOST 1048576: true; the input reads as it did. -/
def fnExactBispecialUptoRow : OpenClaim := { program := "ytbhhnjlnlmemmaa", sum := "6e507a71e10b35d66ddb129f8d7049b6bd967b231d79786b433266dc05a679d6", func := "loop.example/g01371/laws.FnExactBispecial", spec := "fnExactBispecial", unfollowed := true, recurses := true, apart := false, narrowed := true }
def FnExactBispecialUptoSaid : Prop := fnExactBispecialUptoRow.holds Try.pinned (OpenSpec.upto fnExactBispecialSpec)

/-- 'laws.FnExactWindowOf', WHERE WHAT IT READS IS OF BULK AT MOST 1048576: true; the input reads as it did. -/
def fnExactWindowOfUptoRow : OpenClaim := { program := "ytbhhnjlnlmemmaa", sum := "6e507a71e10b35d66ddb129f8d7049b6bd967b231d79786b433266dc05a679d6", func := "loop.example/g01371/laws.FnExactWindowOf", spec := "fnExactWindowOf", inPlace := ["internal/bytealg.IndexByteString", "internal/bytealg.IndexString"], unfollowed := true, recurses := true, named := ["internal/bytealg.MaxLen"], apart := false, narrowed := true }
def FnExactWindowOfUptoSaid : Prop := fnExactWindowOfUptoRow.holds Try.pinned (OpenSpec.upto fnExactWindowOfSpec)

end Rows
end Go.Proofs.Ytbhhnjlnlmemmaa
