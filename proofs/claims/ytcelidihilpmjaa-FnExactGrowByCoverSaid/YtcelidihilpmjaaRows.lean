/-
  No cell of these rows narrows 'for every input' (looked for: loops, veiled, ifaces, maps, wideKeys, modest, calm, conditions, laid).
  DERIVED. THE GIVEN ROWS OF THIS SEAT. 14 by the template 'for every input the law returns true; each argument reads behind the call as it read before'; 0 by the template 'total and deterministic' (their statements: YtcelidihilpmjaaTotals.lean).
  GIVEN WITH THE SEED: the statements are not yours to turn. If you find one false, say at which input.
  Laid BY PROGRAM, IN A SANDBOX (cutbox-rows.mjs): the forced cells as the released guide's own fill.sh prints them over the translation 62c01f787c6cc12d… (all of the seat's roots in one cut). By AI agents, Wed Nov 11 2026. No macro, syntax, notation, axiom, sorry.
-/
import Derived.Test.YtcelidihilpmjaaChecked
import GoSem.Claim
import GoSem.ClaimJoined
import GoSem.ClaimMapViews
import Derived.JoinedTies
import Derived.KernelRfl
namespace Go.Proofs.Ytcelidihilpmjaa
/- THE CELL 'sum', in the pinned program and in every row, IS THE sha256 OF THE DUMP (.gsa) THAT YtcelidihilpmjaaProg.lean LOADS. Nothing in Lean hashes anything: it is a label: what it is worth is what the hold of that sum in a sandbox is worth. -/
noncomputable def Try.pinned : Pinned := { name := "ytcelidihilpmjaa", sum := "62c01f787c6cc12de859e4c20cd45ae8dd21f75f7c0b17d12dc95438ce02488d", checked := Try.checked }
namespace Rows
def none {H : Type} : Left H := { results := [], args := [] }

/-- 'laws.FnExactIsSuperprimitive': WHATEVER THE INPUT: true; the input reads as it did. -/
def fnExactIsSuperprimitiveSpec : ChangeSpec := { name := "fnExactIsSuperprimitive", fn := fun _ => fun
  | [d] => { results := [.lit (.bool true)], args := [d] }
  | _ => none }
def fnExactIsSuperprimitiveRow : OpenClaim := { program := "ytcelidihilpmjaa", sum := "62c01f787c6cc12de859e4c20cd45ae8dd21f75f7c0b17d12dc95438ce02488d", func := "loop.example/g01371/laws.FnExactIsSuperprimitive", spec := "fnExactIsSuperprimitive", unfollowed := true, recurses := true, apart := false }
def FnExactIsSuperprimitiveSaid : Prop := fnExactIsSuperprimitiveRow.holds Try.pinned (OpenSpec.ofChange fnExactIsSuperprimitiveSpec)

/-- ITS FALSE NEIGHBOUR: 'it returns false'. Refute it at one input. -/
def fnExactIsSuperprimitiveWrong : ChangeSpec := { name := "fnExactIsSuperprimitive", fn := fun _ => fun
  | [d] => { results := [.lit (.bool false)], args := [d] }
  | _ => none }
def FnExactIsSuperprimitiveWrongFalsely : Prop := fnExactIsSuperprimitiveRow.holds Try.pinned (OpenSpec.ofChange fnExactIsSuperprimitiveWrong)

/-- 'laws.FnExactCoveredByTwo': WHATEVER THE INPUT: true; the input reads as it did. -/
def fnExactCoveredByTwoSpec : ChangeSpec := { name := "fnExactCoveredByTwo", fn := fun _ => fun
  | [d1, d2, d3] => { results := [.lit (.bool true)], args := [d1, d2, d3] }
  | _ => none }
def fnExactCoveredByTwoRow : OpenClaim := { program := "ytcelidihilpmjaa", sum := "62c01f787c6cc12de859e4c20cd45ae8dd21f75f7c0b17d12dc95438ce02488d", func := "loop.example/g01371/laws.FnExactCoveredByTwo", spec := "fnExactCoveredByTwo", unfollowed := true, recurses := true, apart := false }
def FnExactCoveredByTwoSaid : Prop := fnExactCoveredByTwoRow.holds Try.pinned (OpenSpec.ofChange fnExactCoveredByTwoSpec)

/-- ITS FALSE NEIGHBOUR: 'it returns false'. Refute it at one input. -/
def fnExactCoveredByTwoWrong : ChangeSpec := { name := "fnExactCoveredByTwo", fn := fun _ => fun
  | [d1, d2, d3] => { results := [.lit (.bool false)], args := [d1, d2, d3] }
  | _ => none }
def FnExactCoveredByTwoWrongFalsely : Prop := fnExactCoveredByTwoRow.holds Try.pinned (OpenSpec.ofChange fnExactCoveredByTwoWrong)

/-- 'laws.FnExactIsCover': WHATEVER THE INPUT: true; the input reads as it did. -/
def fnExactIsCoverSpec : ChangeSpec := { name := "fnExactIsCover", fn := fun _ => fun
  | [d1, d2] => { results := [.lit (.bool true)], args := [d1, d2] }
  | _ => none }
def fnExactIsCoverRow : OpenClaim := { program := "ytcelidihilpmjaa", sum := "62c01f787c6cc12de859e4c20cd45ae8dd21f75f7c0b17d12dc95438ce02488d", func := "loop.example/g01371/laws.FnExactIsCover", spec := "fnExactIsCover", unfollowed := true, recurses := true, apart := false }
def FnExactIsCoverSaid : Prop := fnExactIsCoverRow.holds Try.pinned (OpenSpec.ofChange fnExactIsCoverSpec)

/-- ITS FALSE NEIGHBOUR: 'it returns false'. Refute it at one input. -/
def fnExactIsCoverWrong : ChangeSpec := { name := "fnExactIsCover", fn := fun _ => fun
  | [d1, d2] => { results := [.lit (.bool false)], args := [d1, d2] }
  | _ => none }
def FnExactIsCoverWrongFalsely : Prop := fnExactIsCoverRow.holds Try.pinned (OpenSpec.ofChange fnExactIsCoverWrong)

/-- 'laws.FnExactBestBorder': WHATEVER THE INPUT: true; the input reads as it did. -/
def fnExactBestBorderSpec : ChangeSpec := { name := "fnExactBestBorder", fn := fun _ => fun
  | [d] => { results := [.lit (.bool true)], args := [d] }
  | _ => none }
def fnExactBestBorderRow : OpenClaim := { program := "ytcelidihilpmjaa", sum := "62c01f787c6cc12de859e4c20cd45ae8dd21f75f7c0b17d12dc95438ce02488d", func := "loop.example/g01371/laws.FnExactBestBorder", spec := "fnExactBestBorder", unfollowed := true, recurses := true, apart := false }
def FnExactBestBorderSaid : Prop := fnExactBestBorderRow.holds Try.pinned (OpenSpec.ofChange fnExactBestBorderSpec)

/-- ITS FALSE NEIGHBOUR: 'it returns false'. Refute it at one input. -/
def fnExactBestBorderWrong : ChangeSpec := { name := "fnExactBestBorder", fn := fun _ => fun
  | [d] => { results := [.lit (.bool false)], args := [d] }
  | _ => none }
def FnExactBestBorderWrongFalsely : Prop := fnExactBestBorderRow.holds Try.pinned (OpenSpec.ofChange fnExactBestBorderWrong)

/-- 'laws.FnExactLeastCover': WHATEVER THE INPUT: true; the input reads as it did. -/
def fnExactLeastCoverSpec : ChangeSpec := { name := "fnExactLeastCover", fn := fun _ => fun
  | [d] => { results := [.lit (.bool true)], args := [d] }
  | _ => none }
def fnExactLeastCoverRow : OpenClaim := { program := "ytcelidihilpmjaa", sum := "62c01f787c6cc12de859e4c20cd45ae8dd21f75f7c0b17d12dc95438ce02488d", func := "loop.example/g01371/laws.FnExactLeastCover", spec := "fnExactLeastCover", unfollowed := true, recurses := true, apart := false }
def FnExactLeastCoverSaid : Prop := fnExactLeastCoverRow.holds Try.pinned (OpenSpec.ofChange fnExactLeastCoverSpec)

/-- ITS FALSE NEIGHBOUR: 'it returns false'. Refute it at one input. -/
def fnExactLeastCoverWrong : ChangeSpec := { name := "fnExactLeastCover", fn := fun _ => fun
  | [d] => { results := [.lit (.bool false)], args := [d] }
  | _ => none }
def FnExactLeastCoverWrongFalsely : Prop := fnExactLeastCoverRow.holds Try.pinned (OpenSpec.ofChange fnExactLeastCoverWrong)

/-- 'laws.FnExactUncoveredPlaces': WHATEVER THE INPUT: true; the input reads as it did. -/
def fnExactUncoveredPlacesSpec : ChangeSpec := { name := "fnExactUncoveredPlaces", fn := fun _ => fun
  | [d1, d2] => { results := [.lit (.bool true)], args := [d1, d2] }
  | _ => none }
def fnExactUncoveredPlacesRow : OpenClaim := { program := "ytcelidihilpmjaa", sum := "62c01f787c6cc12de859e4c20cd45ae8dd21f75f7c0b17d12dc95438ce02488d", func := "loop.example/g01371/laws.FnExactUncoveredPlaces", spec := "fnExactUncoveredPlaces", unfollowed := true, recurses := true, apart := false }
def FnExactUncoveredPlacesSaid : Prop := fnExactUncoveredPlacesRow.holds Try.pinned (OpenSpec.ofChange fnExactUncoveredPlacesSpec)

/-- ITS FALSE NEIGHBOUR: 'it returns false'. Refute it at one input. -/
def fnExactUncoveredPlacesWrong : ChangeSpec := { name := "fnExactUncoveredPlaces", fn := fun _ => fun
  | [d1, d2] => { results := [.lit (.bool false)], args := [d1, d2] }
  | _ => none }
def FnExactUncoveredPlacesWrongFalsely : Prop := fnExactUncoveredPlacesRow.holds Try.pinned (OpenSpec.ofChange fnExactUncoveredPlacesWrong)

/-- 'laws.FnExactCoverLengths': WHATEVER THE INPUT: true; the input reads as it did. -/
def fnExactCoverLengthsSpec : ChangeSpec := { name := "fnExactCoverLengths", fn := fun _ => fun
  | [d] => { results := [.lit (.bool true)], args := [d] }
  | _ => none }
def fnExactCoverLengthsRow : OpenClaim := { program := "ytcelidihilpmjaa", sum := "62c01f787c6cc12de859e4c20cd45ae8dd21f75f7c0b17d12dc95438ce02488d", func := "loop.example/g01371/laws.FnExactCoverLengths", spec := "fnExactCoverLengths", unfollowed := true, recurses := true, apart := false }
def FnExactCoverLengthsSaid : Prop := fnExactCoverLengthsRow.holds Try.pinned (OpenSpec.ofChange fnExactCoverLengthsSpec)

/-- ITS FALSE NEIGHBOUR: 'it returns false'. Refute it at one input. -/
def fnExactCoverLengthsWrong : ChangeSpec := { name := "fnExactCoverLengths", fn := fun _ => fun
  | [d] => { results := [.lit (.bool false)], args := [d] }
  | _ => none }
def FnExactCoverLengthsWrongFalsely : Prop := fnExactCoverLengthsRow.holds Try.pinned (OpenSpec.ofChange fnExactCoverLengthsWrong)

/-- 'laws.FnExactCoversOf': WHATEVER THE INPUT: true; the input reads as it did. -/
def fnExactCoversOfSpec : ChangeSpec := { name := "fnExactCoversOf", fn := fun _ => fun
  | [d] => { results := [.lit (.bool true)], args := [d] }
  | _ => none }
def fnExactCoversOfRow : OpenClaim := { program := "ytcelidihilpmjaa", sum := "62c01f787c6cc12de859e4c20cd45ae8dd21f75f7c0b17d12dc95438ce02488d", func := "loop.example/g01371/laws.FnExactCoversOf", spec := "fnExactCoversOf", unfollowed := true, recurses := true, apart := false }
def FnExactCoversOfSaid : Prop := fnExactCoversOfRow.holds Try.pinned (OpenSpec.ofChange fnExactCoversOfSpec)

/-- ITS FALSE NEIGHBOUR: 'it returns false'. Refute it at one input. -/
def fnExactCoversOfWrong : ChangeSpec := { name := "fnExactCoversOf", fn := fun _ => fun
  | [d] => { results := [.lit (.bool false)], args := [d] }
  | _ => none }
def FnExactCoversOfWrongFalsely : Prop := fnExactCoversOfRow.holds Try.pinned (OpenSpec.ofChange fnExactCoversOfWrong)

/-- 'laws.FnExactIsSeed': WHATEVER THE INPUT: true; the input reads as it did. -/
def fnExactIsSeedSpec : ChangeSpec := { name := "fnExactIsSeed", fn := fun _ => fun
  | [d1, d2] => { results := [.lit (.bool true)], args := [d1, d2] }
  | _ => none }
def fnExactIsSeedRow : OpenClaim := { program := "ytcelidihilpmjaa", sum := "62c01f787c6cc12de859e4c20cd45ae8dd21f75f7c0b17d12dc95438ce02488d", func := "loop.example/g01371/laws.FnExactIsSeed", spec := "fnExactIsSeed", unfollowed := true, recurses := true, apart := false }
def FnExactIsSeedSaid : Prop := fnExactIsSeedRow.holds Try.pinned (OpenSpec.ofChange fnExactIsSeedSpec)

/-- ITS FALSE NEIGHBOUR: 'it returns false'. Refute it at one input. -/
def fnExactIsSeedWrong : ChangeSpec := { name := "fnExactIsSeed", fn := fun _ => fun
  | [d1, d2] => { results := [.lit (.bool false)], args := [d1, d2] }
  | _ => none }
def FnExactIsSeedWrongFalsely : Prop := fnExactIsSeedRow.holds Try.pinned (OpenSpec.ofChange fnExactIsSeedWrong)

/-- 'laws.FnExactGrowByCover': WHATEVER THE INPUT: true; the input reads as it did. -/
def fnExactGrowByCoverSpec : ChangeSpec := { name := "fnExactGrowByCover", fn := fun _ => fun
  | [d1, d2] => { results := [.lit (.bool true)], args := [d1, d2] }
  | _ => none }
def fnExactGrowByCoverRow : OpenClaim := { program := "ytcelidihilpmjaa", sum := "62c01f787c6cc12de859e4c20cd45ae8dd21f75f7c0b17d12dc95438ce02488d", func := "loop.example/g01371/laws.FnExactGrowByCover", spec := "fnExactGrowByCover", unfollowed := true, recurses := true, apart := false }
def FnExactGrowByCoverSaid : Prop := fnExactGrowByCoverRow.holds Try.pinned (OpenSpec.ofChange fnExactGrowByCoverSpec)

/-- ITS FALSE NEIGHBOUR: 'it returns false'. Refute it at one input. -/
def fnExactGrowByCoverWrong : ChangeSpec := { name := "fnExactGrowByCover", fn := fun _ => fun
  | [d1, d2] => { results := [.lit (.bool false)], args := [d1, d2] }
  | _ => none }
def FnExactGrowByCoverWrongFalsely : Prop := fnExactGrowByCoverRow.holds Try.pinned (OpenSpec.ofChange fnExactGrowByCoverWrong)

/-- 'laws.FnExactFirstTwo': WHATEVER THE INPUT: true; the input reads as it did. -/
def fnExactFirstTwoSpec : ChangeSpec := { name := "fnExactFirstTwo", fn := fun _ => fun
  | [d1, d2] => { results := [.lit (.bool true)], args := [d1, d2] }
  | _ => none }
def fnExactFirstTwoRow : OpenClaim := { program := "ytcelidihilpmjaa", sum := "62c01f787c6cc12de859e4c20cd45ae8dd21f75f7c0b17d12dc95438ce02488d", func := "loop.example/g01371/laws.FnExactFirstTwo", spec := "fnExactFirstTwo", unfollowed := true, recurses := true, apart := false }
def FnExactFirstTwoSaid : Prop := fnExactFirstTwoRow.holds Try.pinned (OpenSpec.ofChange fnExactFirstTwoSpec)

/-- ITS FALSE NEIGHBOUR: 'it returns false'. Refute it at one input. -/
def fnExactFirstTwoWrong : ChangeSpec := { name := "fnExactFirstTwo", fn := fun _ => fun
  | [d1, d2] => { results := [.lit (.bool false)], args := [d1, d2] }
  | _ => none }
def FnExactFirstTwoWrongFalsely : Prop := fnExactFirstTwoRow.holds Try.pinned (OpenSpec.ofChange fnExactFirstTwoWrong)

/-- 'laws.FnExactLeastSeed': WHATEVER THE INPUT: true; the input reads as it did. -/
def fnExactLeastSeedSpec : ChangeSpec := { name := "fnExactLeastSeed", fn := fun _ => fun
  | [d] => { results := [.lit (.bool true)], args := [d] }
  | _ => none }
def fnExactLeastSeedRow : OpenClaim := { program := "ytcelidihilpmjaa", sum := "62c01f787c6cc12de859e4c20cd45ae8dd21f75f7c0b17d12dc95438ce02488d", func := "loop.example/g01371/laws.FnExactLeastSeed", spec := "fnExactLeastSeed", unfollowed := true, recurses := true, apart := false }
def FnExactLeastSeedSaid : Prop := fnExactLeastSeedRow.holds Try.pinned (OpenSpec.ofChange fnExactLeastSeedSpec)

/-- ITS FALSE NEIGHBOUR: 'it returns false'. Refute it at one input. -/
def fnExactLeastSeedWrong : ChangeSpec := { name := "fnExactLeastSeed", fn := fun _ => fun
  | [d] => { results := [.lit (.bool false)], args := [d] }
  | _ => none }
def FnExactLeastSeedWrongFalsely : Prop := fnExactLeastSeedRow.holds Try.pinned (OpenSpec.ofChange fnExactLeastSeedWrong)

/-- 'laws.FnExactSeedsOf': WHATEVER THE INPUT: true; the input reads as it did. -/
def fnExactSeedsOfSpec : ChangeSpec := { name := "fnExactSeedsOf", fn := fun _ => fun
  | [d1, d2] => { results := [.lit (.bool true)], args := [d1, d2] }
  | _ => none }
def fnExactSeedsOfRow : OpenClaim := { program := "ytcelidihilpmjaa", sum := "62c01f787c6cc12de859e4c20cd45ae8dd21f75f7c0b17d12dc95438ce02488d", func := "loop.example/g01371/laws.FnExactSeedsOf", spec := "fnExactSeedsOf", unfollowed := true, recurses := true, apart := false }
def FnExactSeedsOfSaid : Prop := fnExactSeedsOfRow.holds Try.pinned (OpenSpec.ofChange fnExactSeedsOfSpec)

/-- ITS FALSE NEIGHBOUR: 'it returns false'. Refute it at one input. -/
def fnExactSeedsOfWrong : ChangeSpec := { name := "fnExactSeedsOf", fn := fun _ => fun
  | [d1, d2] => { results := [.lit (.bool false)], args := [d1, d2] }
  | _ => none }
def FnExactSeedsOfWrongFalsely : Prop := fnExactSeedsOfRow.holds Try.pinned (OpenSpec.ofChange fnExactSeedsOfWrong)

/-- 'laws.FnCovers': WHATEVER THE INPUT: true; the input reads as it did. -/
def fnCoversSpec : ChangeSpec := { name := "fnCovers", fn := fun _ => fun
  | [d] => { results := [.lit (.bool true)], args := [d] }
  | _ => none }
def fnCoversRow : OpenClaim := { program := "ytcelidihilpmjaa", sum := "62c01f787c6cc12de859e4c20cd45ae8dd21f75f7c0b17d12dc95438ce02488d", func := "loop.example/g01371/laws.FnCovers", spec := "fnCovers", unfollowed := true, recurses := true, apart := false }
def FnCoversSaid : Prop := fnCoversRow.holds Try.pinned (OpenSpec.ofChange fnCoversSpec)

/-- ITS FALSE NEIGHBOUR: 'it returns false'. Refute it at one input. -/
def fnCoversWrong : ChangeSpec := { name := "fnCovers", fn := fun _ => fun
  | [d] => { results := [.lit (.bool false)], args := [d] }
  | _ => none }
def FnCoversWrongFalsely : Prop := fnCoversRow.holds Try.pinned (OpenSpec.ofChange fnCoversWrong)

/- THE SECOND FORM. 'bulk': how many values and letters a reading holds, each counted each time it is reached (what is shared counts as often as it is met; a slice's spare places count too). A statement '..UptoSaid' is the law's where the arguments, and the package variables that the reading takes, are together of bulk at most 1048576: NARROWER than '..Said'. Prove '..Said' where nothing that the law and all that it calls make is longer than what came in: it says more and counts as full. Else prove '..UptoSaid'. A law counts once. -/
mutual
def uptoBulk {H : Type} : DataW H → Nat
  | .lit (.string bytes) => bytes.length + 1
  | .lit _ => 1
  | .nil => 1
  | .ptr d => uptoBulk d + 1
  | .slice elems spare => uptoBulkAll elems + uptoBulkAll spare + 1
  | .agg parts => uptoBulkAll parts + 1
  | .iface _ d => uptoBulk d + 1
  | .map entries => uptoBulkEntries entries + 1
  | .held _ => 1
def uptoBulkAll {H : Type} : List (DataW H) → Nat
  | [] => 0
  | d :: r => uptoBulk d + uptoBulkAll r
def uptoBulkEntries {H : Type} : List (Lit × DataW H) → Nat
  | [] => 0
  | x :: r => uptoBulkEntry x + uptoBulkEntries r
def uptoBulkEntry {H : Type} : Lit × DataW H → Nat
  | (.string bytes, d) => bytes.length + uptoBulk d + 1
  | (_, d) => uptoBulk d + 1
 end
def uptoSmall : (H : Type) → List (DataW H) → Bool := fun _ ds => decide (uptoBulkAll ds ≤ 1048576)
def OpenSpec.upto (s : _root_.Go.ChangeSpec) : _root_.Go.OpenSpec := { _root_.Go.OpenSpec.ofChange s with cond := some uptoSmall }

/-- 'laws.FnExactIsSuperprimitive', WHERE WHAT IT READS IS OF BULK AT MOST 1048576: true; the input reads as it did. -/
def fnExactIsSuperprimitiveUptoRow : OpenClaim := { program := "ytcelidihilpmjaa", sum := "62c01f787c6cc12de859e4c20cd45ae8dd21f75f7c0b17d12dc95438ce02488d", func := "loop.example/g01371/laws.FnExactIsSuperprimitive", spec := "fnExactIsSuperprimitive", unfollowed := true, recurses := true, apart := false, narrowed := true }
def FnExactIsSuperprimitiveUptoSaid : Prop := fnExactIsSuperprimitiveUptoRow.holds Try.pinned (OpenSpec.upto fnExactIsSuperprimitiveSpec)

/-- 'laws.FnExactCoveredByTwo', WHERE WHAT IT READS IS OF BULK AT MOST 1048576: true; the input reads as it did. -/
def fnExactCoveredByTwoUptoRow : OpenClaim := { program := "ytcelidihilpmjaa", sum := "62c01f787c6cc12de859e4c20cd45ae8dd21f75f7c0b17d12dc95438ce02488d", func := "loop.example/g01371/laws.FnExactCoveredByTwo", spec := "fnExactCoveredByTwo", unfollowed := true, recurses := true, apart := false, narrowed := true }
def FnExactCoveredByTwoUptoSaid : Prop := fnExactCoveredByTwoUptoRow.holds Try.pinned (OpenSpec.upto fnExactCoveredByTwoSpec)

/-- 'laws.FnExactIsCover', WHERE WHAT IT READS IS OF BULK AT MOST 1048576: true; the input reads as it did. -/
def fnExactIsCoverUptoRow : OpenClaim := { program := "ytcelidihilpmjaa", sum := "62c01f787c6cc12de859e4c20cd45ae8dd21f75f7c0b17d12dc95438ce02488d", func := "loop.example/g01371/laws.FnExactIsCover", spec := "fnExactIsCover", unfollowed := true, recurses := true, apart := false, narrowed := true }
def FnExactIsCoverUptoSaid : Prop := fnExactIsCoverUptoRow.holds Try.pinned (OpenSpec.upto fnExactIsCoverSpec)

/-- 'laws.FnExactBestBorder', WHERE WHAT IT READS IS OF BULK AT MOST 1048576: true; the input reads as it did. -/
def fnExactBestBorderUptoRow : OpenClaim := { program := "ytcelidihilpmjaa", sum := "62c01f787c6cc12de859e4c20cd45ae8dd21f75f7c0b17d12dc95438ce02488d", func := "loop.example/g01371/laws.FnExactBestBorder", spec := "fnExactBestBorder", unfollowed := true, recurses := true, apart := false, narrowed := true }
def FnExactBestBorderUptoSaid : Prop := fnExactBestBorderUptoRow.holds Try.pinned (OpenSpec.upto fnExactBestBorderSpec)

/-- 'laws.FnExactLeastCover', WHERE WHAT IT READS IS OF BULK AT MOST 1048576: true; the input reads as it did. -/
def fnExactLeastCoverUptoRow : OpenClaim := { program := "ytcelidihilpmjaa", sum := "62c01f787c6cc12de859e4c20cd45ae8dd21f75f7c0b17d12dc95438ce02488d", func := "loop.example/g01371/laws.FnExactLeastCover", spec := "fnExactLeastCover", unfollowed := true, recurses := true, apart := false, narrowed := true }
def FnExactLeastCoverUptoSaid : Prop := fnExactLeastCoverUptoRow.holds Try.pinned (OpenSpec.upto fnExactLeastCoverSpec)

/-- 'laws.FnExactUncoveredPlaces', WHERE WHAT IT READS IS OF BULK AT MOST 1048576: true; the input reads as it did. -/
def fnExactUncoveredPlacesUptoRow : OpenClaim := { program := "ytcelidihilpmjaa", sum := "62c01f787c6cc12de859e4c20cd45ae8dd21f75f7c0b17d12dc95438ce02488d", func := "loop.example/g01371/laws.FnExactUncoveredPlaces", spec := "fnExactUncoveredPlaces", unfollowed := true, recurses := true, apart := false, narrowed := true }
def FnExactUncoveredPlacesUptoSaid : Prop := fnExactUncoveredPlacesUptoRow.holds Try.pinned (OpenSpec.upto fnExactUncoveredPlacesSpec)

/-- 'laws.FnExactCoverLengths', WHERE WHAT IT READS IS OF BULK AT MOST 1048576: true; the input reads as it did. -/
def fnExactCoverLengthsUptoRow : OpenClaim := { program := "ytcelidihilpmjaa", sum := "62c01f787c6cc12de859e4c20cd45ae8dd21f75f7c0b17d12dc95438ce02488d", func := "loop.example/g01371/laws.FnExactCoverLengths", spec := "fnExactCoverLengths", unfollowed := true, recurses := true, apart := false, narrowed := true }
def FnExactCoverLengthsUptoSaid : Prop := fnExactCoverLengthsUptoRow.holds Try.pinned (OpenSpec.upto fnExactCoverLengthsSpec)

/-- 'laws.FnExactCoversOf', WHERE WHAT IT READS IS OF BULK AT MOST 1048576: true; the input reads as it did. -/
def fnExactCoversOfUptoRow : OpenClaim := { program := "ytcelidihilpmjaa", sum := "62c01f787c6cc12de859e4c20cd45ae8dd21f75f7c0b17d12dc95438ce02488d", func := "loop.example/g01371/laws.FnExactCoversOf", spec := "fnExactCoversOf", unfollowed := true, recurses := true, apart := false, narrowed := true }
def FnExactCoversOfUptoSaid : Prop := fnExactCoversOfUptoRow.holds Try.pinned (OpenSpec.upto fnExactCoversOfSpec)

/-- 'laws.FnExactIsSeed', WHERE WHAT IT READS IS OF BULK AT MOST 1048576: true; the input reads as it did. -/
def fnExactIsSeedUptoRow : OpenClaim := { program := "ytcelidihilpmjaa", sum := "62c01f787c6cc12de859e4c20cd45ae8dd21f75f7c0b17d12dc95438ce02488d", func := "loop.example/g01371/laws.FnExactIsSeed", spec := "fnExactIsSeed", unfollowed := true, recurses := true, apart := false, narrowed := true }
def FnExactIsSeedUptoSaid : Prop := fnExactIsSeedUptoRow.holds Try.pinned (OpenSpec.upto fnExactIsSeedSpec)

/-- 'laws.FnExactGrowByCover', WHERE WHAT IT READS IS OF BULK AT MOST 1048576: true; the input reads as it did. -/
def fnExactGrowByCoverUptoRow : OpenClaim := { program := "ytcelidihilpmjaa", sum := "62c01f787c6cc12de859e4c20cd45ae8dd21f75f7c0b17d12dc95438ce02488d", func := "loop.example/g01371/laws.FnExactGrowByCover", spec := "fnExactGrowByCover", unfollowed := true, recurses := true, apart := false, narrowed := true }
def FnExactGrowByCoverUptoSaid : Prop := fnExactGrowByCoverUptoRow.holds Try.pinned (OpenSpec.upto fnExactGrowByCoverSpec)

/-- 'laws.FnExactFirstTwo', WHERE WHAT IT READS IS OF BULK AT MOST 1048576: true; the input reads as it did. -/
def fnExactFirstTwoUptoRow : OpenClaim := { program := "ytcelidihilpmjaa", sum := "62c01f787c6cc12de859e4c20cd45ae8dd21f75f7c0b17d12dc95438ce02488d", func := "loop.example/g01371/laws.FnExactFirstTwo", spec := "fnExactFirstTwo", unfollowed := true, recurses := true, apart := false, narrowed := true }
def FnExactFirstTwoUptoSaid : Prop := fnExactFirstTwoUptoRow.holds Try.pinned (OpenSpec.upto fnExactFirstTwoSpec)

/-- 'laws.FnExactLeastSeed', WHERE WHAT IT READS IS OF BULK AT MOST 1048576: true; the input reads as it did. -/
def fnExactLeastSeedUptoRow : OpenClaim := { program := "ytcelidihilpmjaa", sum := "62c01f787c6cc12de859e4c20cd45ae8dd21f75f7c0b17d12dc95438ce02488d", func := "loop.example/g01371/laws.FnExactLeastSeed", spec := "fnExactLeastSeed", unfollowed := true, recurses := true, apart := false, narrowed := true }
def FnExactLeastSeedUptoSaid : Prop := fnExactLeastSeedUptoRow.holds Try.pinned (OpenSpec.upto fnExactLeastSeedSpec)

/-- 'laws.FnExactSeedsOf', WHERE WHAT IT READS IS OF BULK AT MOST 1048576: true; the input reads as it did. -/
def fnExactSeedsOfUptoRow : OpenClaim := { program := "ytcelidihilpmjaa", sum := "62c01f787c6cc12de859e4c20cd45ae8dd21f75f7c0b17d12dc95438ce02488d", func := "loop.example/g01371/laws.FnExactSeedsOf", spec := "fnExactSeedsOf", unfollowed := true, recurses := true, apart := false, narrowed := true }
def FnExactSeedsOfUptoSaid : Prop := fnExactSeedsOfUptoRow.holds Try.pinned (OpenSpec.upto fnExactSeedsOfSpec)

/-- 'laws.FnCovers', WHERE WHAT IT READS IS OF BULK AT MOST 1048576: true; the input reads as it did. -/
def fnCoversUptoRow : OpenClaim := { program := "ytcelidihilpmjaa", sum := "62c01f787c6cc12de859e4c20cd45ae8dd21f75f7c0b17d12dc95438ce02488d", func := "loop.example/g01371/laws.FnCovers", spec := "fnCovers", unfollowed := true, recurses := true, apart := false, narrowed := true }
def FnCoversUptoSaid : Prop := fnCoversUptoRow.holds Try.pinned (OpenSpec.upto fnCoversSpec)

end Rows
end Go.Proofs.Ytcelidihilpmjaa
