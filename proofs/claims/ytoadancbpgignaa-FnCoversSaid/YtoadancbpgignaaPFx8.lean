-- an own text, written by a program of this place (wip/tools)
import Derived.Test.YtoadancbpgignaaPFx0
import Derived.Test.YtoadancbpgignaaPFx1
import Derived.Test.YtoadancbpgignaaPFx4
import Derived.Test.YtoadancbpgignaaPFx2
import Derived.Test.YtoadancbpgignaaPFx5
import Derived.Test.YtoadancbpgignaaPFx3
import Derived.Test.YtoadancbpgignaaPFx7
import Derived.Test.YtoadancbpgignaaPFGivW
namespace Go.Proofs.Ytoadancbpgignaa.PF
open Go.RowKit Go.Proofs.YtoadancbpgignaaW.PrintWords Go.Proofs.YtoadancbpgignaaW.PrintLast Go.Proofs.YtoadancbpgignaaW.PrintMore
attribute [local go_sem] max2_int min2_int max_two min_two max_three min_three max_four min_four   -- for this text's walks alone
set_option linter.unusedVariables false
set_option linter.unusedSimpArgs false

/-! ### laws_FnCovers: function 3 -/
mutual
def laws_FnCovers.j0 : Nat → List Int → ByteArray → List ByteArray → Int → ByteArray → Int → List Int → Bool → Bool → Option (Bool)
 | 0, _, _, _, _, _, _, _, _, _ => none
 | k + 1, x0, x3, x4, x5, x8, x9, x12, x16, x132 => if x132 = true then (some false) else (if x5 = 0 then (laws_FnCovers.j1 k x0 x3 x4 x8 x9 x12 x16 (decide ((x3.size : Int) > 0))) else (laws_FnCovers.j1 k x0 x3 x4 x8 x9 x12 x16 false))
def laws_FnCovers.j1 : Nat → List Int → ByteArray → List ByteArray → ByteArray → Int → List Int → Bool → Bool → Option (Bool)
 | 0, _, _, _, _, _, _, _, _ => none
 | k + 1, x0, x3, x4, x8, x9, x12, x16, x139 => if x139 = true then ((impl_IsSuperprimitive.f k x8).bind fun bt634 => (if bt634.2 = 0 then (if x9 = 0 then (if bt634.1 = true then (if (x4.length : Int) < 1 then (laws_FnCovers.j2 k x0 x3 x4 true) else (if 0 < (x4.length : Int) then (if (rdOf ByteArray.empty x4 0).toList = x8.toList then (if 0 ≤ (wrap64 ((x4.length : Int) - 1)) then (if (wrap64 ((x4.length : Int) - 1)) < (x4.length : Int) then (if (rdOf ByteArray.empty x4 (wrap64 ((x4.length : Int) - 1))).toList = x3.toList then (if (x16 != (x8.toList == x3.toList)) = true then (laws_FnCovers.j2 k x0 x3 x4 true) else (if 0 ≤ (wrap64 ((x3.size : Int) - 1)) then (if (wrap64 ((x3.size : Int) - 1)) < (x12.length : Int) then (laws_FnCovers.j2 k x0 x3 x4 ((rd x12 (wrap64 ((x3.size : Int) - 1))) != (x8.size : Int))) else (none)) else (none))) else (laws_FnCovers.j2 k x0 x3 x4 true)) else (none)) else (none)) else (laws_FnCovers.j2 k x0 x3 x4 true)) else (none))) else (laws_FnCovers.j2 k x0 x3 x4 true)) else (laws_FnCovers.j2 k x0 x3 x4 true)) else (laws_FnCovers.j2 k x0 x3 x4 true))) else (laws_FnCovers.j5 k x0)
def laws_FnCovers.j5 : Nat → List Int → Option (Bool)
 | 0, _ => none
 | k + 1, x0 => (spec_DrawGrowByCover.f k x0).bind fun bt657 => ((impl_GrowByCover.f k bt657.1 bt657.2).bind fun bt661 => ((spec_GrowByCover.f k bt657.1 bt657.2).bind fun bt663 => (if bt661.2 = bt663.2 then (laws_FnCovers.j6 k x0 bt657.1 bt661.1 bt661.2 (bt661.1.toList != bt663.1.toList)) else (laws_FnCovers.j6 k x0 bt657.1 bt661.1 bt661.2 true))))
def laws_FnCovers.j6 : Nat → List Int → ByteArray → ByteArray → Int → Bool → Option (Bool)
 | 0, _, _, _, _, _ => none
 | k + 1, x0, x31, x33, x34, x300 => if x300 = true then (some false) else (if x34 = 0 then ((impl_IsCover.f k x33 x31).bind fun bt665 => (if bt665.2 = 0 then (if bt665.1 = true then (laws_FnCovers.j7 k x0) else (some false)) else (some false))) else (laws_FnCovers.j7 k x0))
def laws_FnCovers.j7 : Nat → List Int → Option (Bool)
 | 0, _ => none
 | k + 1, x0 => (spec_DrawIsCover.f k x0).bind fun bt667 => ((impl_IsCover.f k bt667.1 bt667.2).bind fun bt669 => ((spec_IsCover.f k bt667.1 bt667.2).bind fun bt671 => ((impl_UncoveredPlaces.f k bt667.1 bt667.2).bind fun bt673 => ((spec_UncoveredPlaces.f k bt667.1 bt667.2).bind fun bt677 => (if bt669.2 = bt671.2 then (if (bt669.1 == bt671.1) = true then (if bt673.2 = bt677.2 then ((laws_likeInts.f k bt673.1 bt677.1).bind fun t681 => (if t681 = true then (if bt669.2 = 0 then (some (bt669.1 == ((bt673.1.length : Int) == 0))) else (some true)) else (some false))) else (some false)) else (some false)) else (some false))))))
def laws_FnCovers.j2 : Nat → List Int → ByteArray → List ByteArray → Bool → Option (Bool)
 | 0, _, _, _, _ => none
 | k + 1, x0, x3, x4, x194 => if x194 = true then (some false) else (laws_FnCovers.l0 k x0 x3 x4 0)
def laws_FnCovers.l0 : Nat → List Int → ByteArray → List ByteArray → Int → Option (Bool)
 | 0, _, _, _, _ => none
 | k + 1, x0, x3, x4, x22 => if x22 < (x4.length : Int) then (if 0 ≤ x22 then ((impl_IsCover.f k x3 (rdOf ByteArray.empty x4 x22)).bind fun bt640 => ((impl_UncoveredPlaces.f k x3 (rdOf ByteArray.empty x4 x22)).bind fun bt643 => ((impl_IsSeed.f k x3 (rdOf ByteArray.empty x4 x22)).bind fun bt648 => (if bt640.2 = 0 then (if bt643.2 = 0 then (if bt648.2 = 0 then (if bt640.1 = true then (if (bt643.1.length : Int) = 0 then (laws_FnCovers.j4 k x0 x3 x4 x22 (!bt648.1)) else (laws_FnCovers.j4 k x0 x3 x4 x22 true)) else (laws_FnCovers.j4 k x0 x3 x4 x22 true)) else (laws_FnCovers.j4 k x0 x3 x4 x22 true)) else (laws_FnCovers.j4 k x0 x3 x4 x22 true)) else (laws_FnCovers.j4 k x0 x3 x4 x22 true))))) else (none)) else (laws_FnCovers.j5 k x0)
def laws_FnCovers.j4 : Nat → List Int → ByteArray → List ByteArray → Int → Bool → Option (Bool)
 | 0, _, _, _, _, _ => none
 | k + 1, x0, x3, x4, x22, x250 => if x250 = true then (some false) else ((impl_BordersOf.f k x3).bind fun bt650 => (if bt650.2 = 0 then (if 0 ≤ x22 then (if x22 < (x4.length : Int) then (if (rdOf ByteArray.empty x4 x22).toList = x3.toList then (laws_FnCovers.l0 k x0 x3 x4 (wrap64 (x22 + 1))) else ((laws_hasInt.f k bt650.1 ((rdOf ByteArray.empty x4 x22).size : Int)).bind fun t656 => (if t656 = true then (laws_FnCovers.l0 k x0 x3 x4 (wrap64 (x22 + 1))) else (some false)))) else (none)) else (none)) else (some false)))
end
def laws_FnCovers.f (k : Nat) (l0 : List Int) : Option (Bool) := (laws_big.f l0).bind fun t606 => (if t606 = true then (some true) else ((spec_DrawCoversOf.f k l0).bind fun t607 => ((impl_CoversOf.f k t607).bind fun bt608 => ((spec_CoversOf.f k t607).bind fun bt612 => ((impl_LeastCover.f k t607).bind fun bt616 => ((spec_LeastCover.f k t607).bind fun bt618 => ((impl_CoverLengths.f k t607).bind fun bt620 => ((spec_CoverLengths.f k t607).bind fun bt624 => ((impl_IsSuperprimitive.f k t607).bind fun bt628 => ((spec_IsSuperprimitive.f k t607).bind fun bt630 => (if bt608.2 = bt612.2 then ((laws_words5.f k bt608.1 bt612.1).bind fun t632 => (if t632 = true then (if bt616.2 = bt618.2 then (if bt616.1.toList = bt618.1.toList then (if bt620.2 = bt624.2 then ((laws_likeInts.f k bt620.1 bt624.1).bind fun t633 => (if t633 = true then (if bt628.2 = bt630.2 then (laws_FnCovers.j0 k l0 t607 bt608.1 bt608.2 bt616.1 bt616.2 bt620.1 bt628.1 (bt628.1 != bt630.1)) else (laws_FnCovers.j0 k l0 t607 bt608.1 bt608.2 bt616.1 bt616.2 bt620.1 bt628.1 true)) else (laws_FnCovers.j0 k l0 t607 bt608.1 bt608.2 bt616.1 bt616.2 bt620.1 bt628.1 true))) else (laws_FnCovers.j0 k l0 t607 bt608.1 bt608.2 bt616.1 bt616.2 bt620.1 bt628.1 true)) else (laws_FnCovers.j0 k l0 t607 bt608.1 bt608.2 bt616.1 bt616.2 bt620.1 bt628.1 true)) else (laws_FnCovers.j0 k l0 t607 bt608.1 bt608.2 bt616.1 bt616.2 bt620.1 bt628.1 true)) else (laws_FnCovers.j0 k l0 t607 bt608.1 bt608.2 bt616.1 bt616.2 bt620.1 bt628.1 true))) else (laws_FnCovers.j0 k l0 t607 bt608.1 bt608.2 bt616.1 bt616.2 bt620.1 bt628.1 true))))))))))))
theorem laws_FnCovers.mono_l : ∀ k, (∀ y0 y1 y2 y3 y4 y5 y6 y7 y8, LeO (laws_FnCovers.j0 k y0 y1 y2 y3 y4 y5 y6 y7 y8) (laws_FnCovers.j0 (k + 1) y0 y1 y2 y3 y4 y5 y6 y7 y8)) ∧ (∀ y0 y1 y2 y3 y4 y5 y6 y7, LeO (laws_FnCovers.j1 k y0 y1 y2 y3 y4 y5 y6 y7) (laws_FnCovers.j1 (k + 1) y0 y1 y2 y3 y4 y5 y6 y7)) ∧ (∀ y0, LeO (laws_FnCovers.j5 k y0) (laws_FnCovers.j5 (k + 1) y0)) ∧ (∀ y0 y1 y2 y3 y4, LeO (laws_FnCovers.j6 k y0 y1 y2 y3 y4) (laws_FnCovers.j6 (k + 1) y0 y1 y2 y3 y4)) ∧ (∀ y0, LeO (laws_FnCovers.j7 k y0) (laws_FnCovers.j7 (k + 1) y0)) ∧ (∀ y0 y1 y2 y3, LeO (laws_FnCovers.j2 k y0 y1 y2 y3) (laws_FnCovers.j2 (k + 1) y0 y1 y2 y3)) ∧ (∀ y0 y1 y2 y3, LeO (laws_FnCovers.l0 k y0 y1 y2 y3) (laws_FnCovers.l0 (k + 1) y0 y1 y2 y3)) ∧ (∀ y0 y1 y2 y3 y4, LeO (laws_FnCovers.j4 k y0 y1 y2 y3 y4) (laws_FnCovers.j4 (k + 1) y0 y1 y2 y3 y4))
 | 0 => ⟨fun _ _ _ _ _ _ _ _ _ r h => by simp [laws_FnCovers.j0] at h, fun _ _ _ _ _ _ _ _ r h => by simp [laws_FnCovers.j1] at h, fun _ r h => by simp [laws_FnCovers.j5] at h, fun _ _ _ _ _ r h => by simp [laws_FnCovers.j6] at h, fun _ r h => by simp [laws_FnCovers.j7] at h, fun _ _ _ _ r h => by simp [laws_FnCovers.j2] at h, fun _ _ _ _ r h => by simp [laws_FnCovers.l0] at h, fun _ _ _ _ _ r h => by simp [laws_FnCovers.j4] at h⟩
 | k + 1 => by
  obtain ⟨ih0, ih1, ih2, ih3, ih4, ih5, ih6, ih7⟩ := laws_FnCovers.mono_l k
  refine ⟨?_, ?_, ?_, ?_, ?_, ?_, ?_, ?_⟩
  ·
   intro y0 y1 y2 y3 y4 y5 y6 y7 y8
   unfold laws_FnCovers.j0
   repeat' first
   | (with_reducible exact ih0 _ _ _ _ _ _ _ _ _)
   | (with_reducible exact ih1 _ _ _ _ _ _ _ _)
   | (with_reducible exact ih2 _)
   | (with_reducible exact ih3 _ _ _ _ _)
   | (with_reducible exact ih4 _)
   | (with_reducible exact ih5 _ _ _ _)
   | (with_reducible exact ih6 _ _ _ _)
   | (with_reducible exact ih7 _ _ _ _ _)
   | (with_reducible exact impl_BordersOf.mono _ _)
   | (with_reducible exact impl_CoverLengths.mono _ _)
   | (with_reducible exact impl_CoversOf.mono _ _)
   | (with_reducible exact impl_GrowByCover.mono _ _ _)
   | (with_reducible exact impl_IsCover.mono _ _ _)
   | (with_reducible exact impl_IsSeed.mono _ _ _)
   | (with_reducible exact impl_IsSuperprimitive.mono _ _)
   | (with_reducible exact impl_LeastCover.mono _ _)
   | (with_reducible exact impl_UncoveredPlaces.mono _ _ _)
   | (with_reducible exact laws_hasInt.mono _ _ _)
   | (with_reducible exact laws_likeInts.mono _ _ _)
   | (with_reducible exact laws_words5.mono _ _ _)
   | (with_reducible exact spec_CoverLengths.mono _ _)
   | (with_reducible exact spec_CoversOf.mono _ _)
   | (with_reducible exact spec_DrawCoversOf.mono _ _)
   | (with_reducible exact spec_DrawGrowByCover.mono _ _)
   | (with_reducible exact spec_DrawIsCover.mono _ _)
   | (with_reducible exact spec_GrowByCover.mono _ _ _)
   | (with_reducible exact spec_IsCover.mono _ _ _)
   | (with_reducible exact spec_IsSuperprimitive.mono _ _)
   | (with_reducible exact spec_LeastCover.mono _ _)
   | (with_reducible exact spec_UncoveredPlaces.mono _ _ _)
   | (with_reducible exact LeO.refl _)
   | (with_reducible exact LeO.none _)
   | (with_reducible refine LeO.ite ?_ ?_)
   | (with_reducible refine LeO.bind ?_ (fun _ => ?_))
  ·
   intro y0 y1 y2 y3 y4 y5 y6 y7
   unfold laws_FnCovers.j1
   repeat' first
   | (with_reducible exact ih0 _ _ _ _ _ _ _ _ _)
   | (with_reducible exact ih1 _ _ _ _ _ _ _ _)
   | (with_reducible exact ih2 _)
   | (with_reducible exact ih3 _ _ _ _ _)
   | (with_reducible exact ih4 _)
   | (with_reducible exact ih5 _ _ _ _)
   | (with_reducible exact ih6 _ _ _ _)
   | (with_reducible exact ih7 _ _ _ _ _)
   | (with_reducible exact impl_BordersOf.mono _ _)
   | (with_reducible exact impl_CoverLengths.mono _ _)
   | (with_reducible exact impl_CoversOf.mono _ _)
   | (with_reducible exact impl_GrowByCover.mono _ _ _)
   | (with_reducible exact impl_IsCover.mono _ _ _)
   | (with_reducible exact impl_IsSeed.mono _ _ _)
   | (with_reducible exact impl_IsSuperprimitive.mono _ _)
   | (with_reducible exact impl_LeastCover.mono _ _)
   | (with_reducible exact impl_UncoveredPlaces.mono _ _ _)
   | (with_reducible exact laws_hasInt.mono _ _ _)
   | (with_reducible exact laws_likeInts.mono _ _ _)
   | (with_reducible exact laws_words5.mono _ _ _)
   | (with_reducible exact spec_CoverLengths.mono _ _)
   | (with_reducible exact spec_CoversOf.mono _ _)
   | (with_reducible exact spec_DrawCoversOf.mono _ _)
   | (with_reducible exact spec_DrawGrowByCover.mono _ _)
   | (with_reducible exact spec_DrawIsCover.mono _ _)
   | (with_reducible exact spec_GrowByCover.mono _ _ _)
   | (with_reducible exact spec_IsCover.mono _ _ _)
   | (with_reducible exact spec_IsSuperprimitive.mono _ _)
   | (with_reducible exact spec_LeastCover.mono _ _)
   | (with_reducible exact spec_UncoveredPlaces.mono _ _ _)
   | (with_reducible exact LeO.refl _)
   | (with_reducible exact LeO.none _)
   | (with_reducible refine LeO.ite ?_ ?_)
   | (with_reducible refine LeO.bind ?_ (fun _ => ?_))
  ·
   intro y0
   unfold laws_FnCovers.j5
   repeat' first
   | (with_reducible exact ih0 _ _ _ _ _ _ _ _ _)
   | (with_reducible exact ih1 _ _ _ _ _ _ _ _)
   | (with_reducible exact ih2 _)
   | (with_reducible exact ih3 _ _ _ _ _)
   | (with_reducible exact ih4 _)
   | (with_reducible exact ih5 _ _ _ _)
   | (with_reducible exact ih6 _ _ _ _)
   | (with_reducible exact ih7 _ _ _ _ _)
   | (with_reducible exact impl_BordersOf.mono _ _)
   | (with_reducible exact impl_CoverLengths.mono _ _)
   | (with_reducible exact impl_CoversOf.mono _ _)
   | (with_reducible exact impl_GrowByCover.mono _ _ _)
   | (with_reducible exact impl_IsCover.mono _ _ _)
   | (with_reducible exact impl_IsSeed.mono _ _ _)
   | (with_reducible exact impl_IsSuperprimitive.mono _ _)
   | (with_reducible exact impl_LeastCover.mono _ _)
   | (with_reducible exact impl_UncoveredPlaces.mono _ _ _)
   | (with_reducible exact laws_hasInt.mono _ _ _)
   | (with_reducible exact laws_likeInts.mono _ _ _)
   | (with_reducible exact laws_words5.mono _ _ _)
   | (with_reducible exact spec_CoverLengths.mono _ _)
   | (with_reducible exact spec_CoversOf.mono _ _)
   | (with_reducible exact spec_DrawCoversOf.mono _ _)
   | (with_reducible exact spec_DrawGrowByCover.mono _ _)
   | (with_reducible exact spec_DrawIsCover.mono _ _)
   | (with_reducible exact spec_GrowByCover.mono _ _ _)
   | (with_reducible exact spec_IsCover.mono _ _ _)
   | (with_reducible exact spec_IsSuperprimitive.mono _ _)
   | (with_reducible exact spec_LeastCover.mono _ _)
   | (with_reducible exact spec_UncoveredPlaces.mono _ _ _)
   | (with_reducible exact LeO.refl _)
   | (with_reducible exact LeO.none _)
   | (with_reducible refine LeO.ite ?_ ?_)
   | (with_reducible refine LeO.bind ?_ (fun _ => ?_))
  ·
   intro y0 y1 y2 y3 y4
   unfold laws_FnCovers.j6
   repeat' first
   | (with_reducible exact ih0 _ _ _ _ _ _ _ _ _)
   | (with_reducible exact ih1 _ _ _ _ _ _ _ _)
   | (with_reducible exact ih2 _)
   | (with_reducible exact ih3 _ _ _ _ _)
   | (with_reducible exact ih4 _)
   | (with_reducible exact ih5 _ _ _ _)
   | (with_reducible exact ih6 _ _ _ _)
   | (with_reducible exact ih7 _ _ _ _ _)
   | (with_reducible exact impl_BordersOf.mono _ _)
   | (with_reducible exact impl_CoverLengths.mono _ _)
   | (with_reducible exact impl_CoversOf.mono _ _)
   | (with_reducible exact impl_GrowByCover.mono _ _ _)
   | (with_reducible exact impl_IsCover.mono _ _ _)
   | (with_reducible exact impl_IsSeed.mono _ _ _)
   | (with_reducible exact impl_IsSuperprimitive.mono _ _)
   | (with_reducible exact impl_LeastCover.mono _ _)
   | (with_reducible exact impl_UncoveredPlaces.mono _ _ _)
   | (with_reducible exact laws_hasInt.mono _ _ _)
   | (with_reducible exact laws_likeInts.mono _ _ _)
   | (with_reducible exact laws_words5.mono _ _ _)
   | (with_reducible exact spec_CoverLengths.mono _ _)
   | (with_reducible exact spec_CoversOf.mono _ _)
   | (with_reducible exact spec_DrawCoversOf.mono _ _)
   | (with_reducible exact spec_DrawGrowByCover.mono _ _)
   | (with_reducible exact spec_DrawIsCover.mono _ _)
   | (with_reducible exact spec_GrowByCover.mono _ _ _)
   | (with_reducible exact spec_IsCover.mono _ _ _)
   | (with_reducible exact spec_IsSuperprimitive.mono _ _)
   | (with_reducible exact spec_LeastCover.mono _ _)
   | (with_reducible exact spec_UncoveredPlaces.mono _ _ _)
   | (with_reducible exact LeO.refl _)
   | (with_reducible exact LeO.none _)
   | (with_reducible refine LeO.ite ?_ ?_)
   | (with_reducible refine LeO.bind ?_ (fun _ => ?_))
  ·
   intro y0
   unfold laws_FnCovers.j7
   repeat' first
   | (with_reducible exact ih0 _ _ _ _ _ _ _ _ _)
   | (with_reducible exact ih1 _ _ _ _ _ _ _ _)
   | (with_reducible exact ih2 _)
   | (with_reducible exact ih3 _ _ _ _ _)
   | (with_reducible exact ih4 _)
   | (with_reducible exact ih5 _ _ _ _)
   | (with_reducible exact ih6 _ _ _ _)
   | (with_reducible exact ih7 _ _ _ _ _)
   | (with_reducible exact impl_BordersOf.mono _ _)
   | (with_reducible exact impl_CoverLengths.mono _ _)
   | (with_reducible exact impl_CoversOf.mono _ _)
   | (with_reducible exact impl_GrowByCover.mono _ _ _)
   | (with_reducible exact impl_IsCover.mono _ _ _)
   | (with_reducible exact impl_IsSeed.mono _ _ _)
   | (with_reducible exact impl_IsSuperprimitive.mono _ _)
   | (with_reducible exact impl_LeastCover.mono _ _)
   | (with_reducible exact impl_UncoveredPlaces.mono _ _ _)
   | (with_reducible exact laws_hasInt.mono _ _ _)
   | (with_reducible exact laws_likeInts.mono _ _ _)
   | (with_reducible exact laws_words5.mono _ _ _)
   | (with_reducible exact spec_CoverLengths.mono _ _)
   | (with_reducible exact spec_CoversOf.mono _ _)
   | (with_reducible exact spec_DrawCoversOf.mono _ _)
   | (with_reducible exact spec_DrawGrowByCover.mono _ _)
   | (with_reducible exact spec_DrawIsCover.mono _ _)
   | (with_reducible exact spec_GrowByCover.mono _ _ _)
   | (with_reducible exact spec_IsCover.mono _ _ _)
   | (with_reducible exact spec_IsSuperprimitive.mono _ _)
   | (with_reducible exact spec_LeastCover.mono _ _)
   | (with_reducible exact spec_UncoveredPlaces.mono _ _ _)
   | (with_reducible exact LeO.refl _)
   | (with_reducible exact LeO.none _)
   | (with_reducible refine LeO.ite ?_ ?_)
   | (with_reducible refine LeO.bind ?_ (fun _ => ?_))
  ·
   intro y0 y1 y2 y3
   unfold laws_FnCovers.j2
   repeat' first
   | (with_reducible exact ih0 _ _ _ _ _ _ _ _ _)
   | (with_reducible exact ih1 _ _ _ _ _ _ _ _)
   | (with_reducible exact ih2 _)
   | (with_reducible exact ih3 _ _ _ _ _)
   | (with_reducible exact ih4 _)
   | (with_reducible exact ih5 _ _ _ _)
   | (with_reducible exact ih6 _ _ _ _)
   | (with_reducible exact ih7 _ _ _ _ _)
   | (with_reducible exact impl_BordersOf.mono _ _)
   | (with_reducible exact impl_CoverLengths.mono _ _)
   | (with_reducible exact impl_CoversOf.mono _ _)
   | (with_reducible exact impl_GrowByCover.mono _ _ _)
   | (with_reducible exact impl_IsCover.mono _ _ _)
   | (with_reducible exact impl_IsSeed.mono _ _ _)
   | (with_reducible exact impl_IsSuperprimitive.mono _ _)
   | (with_reducible exact impl_LeastCover.mono _ _)
   | (with_reducible exact impl_UncoveredPlaces.mono _ _ _)
   | (with_reducible exact laws_hasInt.mono _ _ _)
   | (with_reducible exact laws_likeInts.mono _ _ _)
   | (with_reducible exact laws_words5.mono _ _ _)
   | (with_reducible exact spec_CoverLengths.mono _ _)
   | (with_reducible exact spec_CoversOf.mono _ _)
   | (with_reducible exact spec_DrawCoversOf.mono _ _)
   | (with_reducible exact spec_DrawGrowByCover.mono _ _)
   | (with_reducible exact spec_DrawIsCover.mono _ _)
   | (with_reducible exact spec_GrowByCover.mono _ _ _)
   | (with_reducible exact spec_IsCover.mono _ _ _)
   | (with_reducible exact spec_IsSuperprimitive.mono _ _)
   | (with_reducible exact spec_LeastCover.mono _ _)
   | (with_reducible exact spec_UncoveredPlaces.mono _ _ _)
   | (with_reducible exact LeO.refl _)
   | (with_reducible exact LeO.none _)
   | (with_reducible refine LeO.ite ?_ ?_)
   | (with_reducible refine LeO.bind ?_ (fun _ => ?_))
  ·
   intro y0 y1 y2 y3
   unfold laws_FnCovers.l0
   repeat' first
   | (with_reducible exact ih0 _ _ _ _ _ _ _ _ _)
   | (with_reducible exact ih1 _ _ _ _ _ _ _ _)
   | (with_reducible exact ih2 _)
   | (with_reducible exact ih3 _ _ _ _ _)
   | (with_reducible exact ih4 _)
   | (with_reducible exact ih5 _ _ _ _)
   | (with_reducible exact ih6 _ _ _ _)
   | (with_reducible exact ih7 _ _ _ _ _)
   | (with_reducible exact impl_BordersOf.mono _ _)
   | (with_reducible exact impl_CoverLengths.mono _ _)
   | (with_reducible exact impl_CoversOf.mono _ _)
   | (with_reducible exact impl_GrowByCover.mono _ _ _)
   | (with_reducible exact impl_IsCover.mono _ _ _)
   | (with_reducible exact impl_IsSeed.mono _ _ _)
   | (with_reducible exact impl_IsSuperprimitive.mono _ _)
   | (with_reducible exact impl_LeastCover.mono _ _)
   | (with_reducible exact impl_UncoveredPlaces.mono _ _ _)
   | (with_reducible exact laws_hasInt.mono _ _ _)
   | (with_reducible exact laws_likeInts.mono _ _ _)
   | (with_reducible exact laws_words5.mono _ _ _)
   | (with_reducible exact spec_CoverLengths.mono _ _)
   | (with_reducible exact spec_CoversOf.mono _ _)
   | (with_reducible exact spec_DrawCoversOf.mono _ _)
   | (with_reducible exact spec_DrawGrowByCover.mono _ _)
   | (with_reducible exact spec_DrawIsCover.mono _ _)
   | (with_reducible exact spec_GrowByCover.mono _ _ _)
   | (with_reducible exact spec_IsCover.mono _ _ _)
   | (with_reducible exact spec_IsSuperprimitive.mono _ _)
   | (with_reducible exact spec_LeastCover.mono _ _)
   | (with_reducible exact spec_UncoveredPlaces.mono _ _ _)
   | (with_reducible exact LeO.refl _)
   | (with_reducible exact LeO.none _)
   | (with_reducible refine LeO.ite ?_ ?_)
   | (with_reducible refine LeO.bind ?_ (fun _ => ?_))
  ·
   intro y0 y1 y2 y3 y4
   unfold laws_FnCovers.j4
   repeat' first
   | (with_reducible exact ih0 _ _ _ _ _ _ _ _ _)
   | (with_reducible exact ih1 _ _ _ _ _ _ _ _)
   | (with_reducible exact ih2 _)
   | (with_reducible exact ih3 _ _ _ _ _)
   | (with_reducible exact ih4 _)
   | (with_reducible exact ih5 _ _ _ _)
   | (with_reducible exact ih6 _ _ _ _)
   | (with_reducible exact ih7 _ _ _ _ _)
   | (with_reducible exact impl_BordersOf.mono _ _)
   | (with_reducible exact impl_CoverLengths.mono _ _)
   | (with_reducible exact impl_CoversOf.mono _ _)
   | (with_reducible exact impl_GrowByCover.mono _ _ _)
   | (with_reducible exact impl_IsCover.mono _ _ _)
   | (with_reducible exact impl_IsSeed.mono _ _ _)
   | (with_reducible exact impl_IsSuperprimitive.mono _ _)
   | (with_reducible exact impl_LeastCover.mono _ _)
   | (with_reducible exact impl_UncoveredPlaces.mono _ _ _)
   | (with_reducible exact laws_hasInt.mono _ _ _)
   | (with_reducible exact laws_likeInts.mono _ _ _)
   | (with_reducible exact laws_words5.mono _ _ _)
   | (with_reducible exact spec_CoverLengths.mono _ _)
   | (with_reducible exact spec_CoversOf.mono _ _)
   | (with_reducible exact spec_DrawCoversOf.mono _ _)
   | (with_reducible exact spec_DrawGrowByCover.mono _ _)
   | (with_reducible exact spec_DrawIsCover.mono _ _)
   | (with_reducible exact spec_GrowByCover.mono _ _ _)
   | (with_reducible exact spec_IsCover.mono _ _ _)
   | (with_reducible exact spec_IsSuperprimitive.mono _ _)
   | (with_reducible exact spec_LeastCover.mono _ _)
   | (with_reducible exact spec_UncoveredPlaces.mono _ _ _)
   | (with_reducible exact LeO.refl _)
   | (with_reducible exact LeO.none _)
   | (with_reducible refine LeO.ite ?_ ?_)
   | (with_reducible refine LeO.bind ?_ (fun _ => ?_))
theorem laws_FnCovers.mono : ∀ a0 k, LeO (laws_FnCovers.f k a0) (laws_FnCovers.f (k + 1) a0) := by
 intro a0 k
 obtain ⟨ih0, ih1, ih2, ih3, ih4, ih5, ih6, ih7⟩ := laws_FnCovers.mono_l k
 unfold laws_FnCovers.f
 repeat' first
   | (with_reducible exact ih0 _ _ _ _ _ _ _ _ _)
   | (with_reducible exact ih1 _ _ _ _ _ _ _ _)
   | (with_reducible exact ih2 _)
   | (with_reducible exact ih3 _ _ _ _ _)
   | (with_reducible exact ih4 _)
   | (with_reducible exact ih5 _ _ _ _)
   | (with_reducible exact ih6 _ _ _ _)
   | (with_reducible exact ih7 _ _ _ _ _)
   | (with_reducible exact impl_BordersOf.mono _ _)
   | (with_reducible exact impl_CoverLengths.mono _ _)
   | (with_reducible exact impl_CoversOf.mono _ _)
   | (with_reducible exact impl_GrowByCover.mono _ _ _)
   | (with_reducible exact impl_IsCover.mono _ _ _)
   | (with_reducible exact impl_IsSeed.mono _ _ _)
   | (with_reducible exact impl_IsSuperprimitive.mono _ _)
   | (with_reducible exact impl_LeastCover.mono _ _)
   | (with_reducible exact impl_UncoveredPlaces.mono _ _ _)
   | (with_reducible exact laws_hasInt.mono _ _ _)
   | (with_reducible exact laws_likeInts.mono _ _ _)
   | (with_reducible exact laws_words5.mono _ _ _)
   | (with_reducible exact spec_CoverLengths.mono _ _)
   | (with_reducible exact spec_CoversOf.mono _ _)
   | (with_reducible exact spec_DrawCoversOf.mono _ _)
   | (with_reducible exact spec_DrawGrowByCover.mono _ _)
   | (with_reducible exact spec_DrawIsCover.mono _ _)
   | (with_reducible exact spec_GrowByCover.mono _ _ _)
   | (with_reducible exact spec_IsCover.mono _ _ _)
   | (with_reducible exact spec_IsSuperprimitive.mono _ _)
   | (with_reducible exact spec_LeastCover.mono _ _)
   | (with_reducible exact spec_UncoveredPlaces.mono _ _ _)
   | (with_reducible exact LeO.refl _)
   | (with_reducible exact LeO.none _)
   | (with_reducible refine LeO.ite ?_ ?_)
   | (with_reducible refine LeO.bind ?_ (fun _ => ?_))
set_option maxHeartbeats 8000000 in
set_option maxRecDepth 100000 in
theorem laws_FnCovers.calls (k : Nat) (A0 : Option Addr) (c0 : Nat) (l0 : List Int) (r : Bool) (w : World) (hr0 : Kd.C (Kd.int .u8) w A0 l0.length l0) (hc0 : l0.length ≤ c0) (h : laws_FnCovers.f k l0 = some r) :
  Calls Try.prog 3 #[.slice A0 l0.length c0] w fun e w' => e = .returned (.bool r) ∧ Below w.heap.size w w' := by
 have HR0 := Aside0.mk hr0
 have HC0 := Aside0.mk hc0
 clear hr0 hc0
 have HB := Aside0.mk (Below.refl w.heap.size w)
 have H : ((laws_big.f l0).bind fun t606 => (if t606 = true then (some true) else ((spec_DrawCoversOf.f k l0).bind fun t607 => ((impl_CoversOf.f k t607).bind fun bt608 => ((spec_CoversOf.f k t607).bind fun bt612 => ((impl_LeastCover.f k t607).bind fun bt616 => ((spec_LeastCover.f k t607).bind fun bt618 => ((impl_CoverLengths.f k t607).bind fun bt620 => ((spec_CoverLengths.f k t607).bind fun bt624 => ((impl_IsSuperprimitive.f k t607).bind fun bt628 => ((spec_IsSuperprimitive.f k t607).bind fun bt630 => (if bt608.2 = bt612.2 then ((laws_words5.f k bt608.1 bt612.1).bind fun t632 => (if t632 = true then (if bt616.2 = bt618.2 then (if bt616.1.toList = bt618.1.toList then (if bt620.2 = bt624.2 then ((laws_likeInts.f k bt620.1 bt624.1).bind fun t633 => (if t633 = true then (if bt628.2 = bt630.2 then (laws_FnCovers.j0 k l0 t607 bt608.1 bt608.2 bt616.1 bt616.2 bt620.1 bt628.1 (bt628.1 != bt630.1)) else (laws_FnCovers.j0 k l0 t607 bt608.1 bt608.2 bt616.1 bt616.2 bt620.1 bt628.1 true)) else (laws_FnCovers.j0 k l0 t607 bt608.1 bt608.2 bt616.1 bt616.2 bt620.1 bt628.1 true))) else (laws_FnCovers.j0 k l0 t607 bt608.1 bt608.2 bt616.1 bt616.2 bt620.1 bt628.1 true)) else (laws_FnCovers.j0 k l0 t607 bt608.1 bt608.2 bt616.1 bt616.2 bt620.1 bt628.1 true)) else (laws_FnCovers.j0 k l0 t607 bt608.1 bt608.2 bt616.1 bt616.2 bt620.1 bt628.1 true)) else (laws_FnCovers.j0 k l0 t607 bt608.1 bt608.2 bt616.1 bt616.2 bt620.1 bt628.1 true))) else (laws_FnCovers.j0 k l0 t607 bt608.1 bt608.2 bt616.1 bt616.2 bt620.1 bt628.1 true))))))))))))) = some r := h
 clear h
 replace H := Option.bind_eq_some_iff.mp H
 obtain ⟨t606, A20, H⟩ := H
 replace H : (if t606 = true then (some true) else ((spec_DrawCoversOf.f k l0).bind fun t607 => ((impl_CoversOf.f k t607).bind fun bt608 => ((spec_CoversOf.f k t607).bind fun bt612 => ((impl_LeastCover.f k t607).bind fun bt616 => ((spec_LeastCover.f k t607).bind fun bt618 => ((impl_CoverLengths.f k t607).bind fun bt620 => ((spec_CoverLengths.f k t607).bind fun bt624 => ((impl_IsSuperprimitive.f k t607).bind fun bt628 => ((spec_IsSuperprimitive.f k t607).bind fun bt630 => (if bt608.2 = bt612.2 then ((laws_words5.f k bt608.1 bt612.1).bind fun t632 => (if t632 = true then (if bt616.2 = bt618.2 then (if bt616.1.toList = bt618.1.toList then (if bt620.2 = bt624.2 then ((laws_likeInts.f k bt620.1 bt624.1).bind fun t633 => (if t633 = true then (if bt628.2 = bt630.2 then (laws_FnCovers.j0 k l0 t607 bt608.1 bt608.2 bt616.1 bt616.2 bt620.1 bt628.1 (bt628.1 != bt630.1)) else (laws_FnCovers.j0 k l0 t607 bt608.1 bt608.2 bt616.1 bt616.2 bt620.1 bt628.1 true)) else (laws_FnCovers.j0 k l0 t607 bt608.1 bt608.2 bt616.1 bt616.2 bt620.1 bt628.1 true))) else (laws_FnCovers.j0 k l0 t607 bt608.1 bt608.2 bt616.1 bt616.2 bt620.1 bt628.1 true)) else (laws_FnCovers.j0 k l0 t607 bt608.1 bt608.2 bt616.1 bt616.2 bt620.1 bt628.1 true)) else (laws_FnCovers.j0 k l0 t607 bt608.1 bt608.2 bt616.1 bt616.2 bt620.1 bt628.1 true)) else (laws_FnCovers.j0 k l0 t607 bt608.1 bt608.2 bt616.1 bt616.2 bt620.1 bt628.1 true))) else (laws_FnCovers.j0 k l0 t607 bt608.1 bt608.2 bt616.1 bt616.2 bt620.1 bt628.1 true)))))))))))) = some r := H
 have A2 := Aside0.mk A20
 clear A20
 by_cases c3 : t606 = true
 ·
  subst c3
  have H1 : (some true) = some r := by rw [if_pos rfl] at H; exact H
  clear H
  have H := H1
  clear H1
  obtain rfl := Option.some.inj H
  go_enter Try.func3, Try.ntmps3
  as_aux_lemma =>
   go_wp2_with (first | ((with_reducible refine gate_callee (f := 4) rfl ?_); refine goesL_ (some 50) rfl rfl Try.func4 (by kernel_rfl) rfl #[.slice A0 l0.length c0] rfl qV ?_; (with_reducible refine (laws_big.calls _ _ l0 true _ ?side1 ?side2 A2.out).mono ?_); (case side1 => exact qC HR0.out); (case side2 => exact HC0.out); rintro e w' ⟨rfl, ⟨nd, rfl⟩⟩; refine ⟨_, rfl, ?_⟩))
   go_ret
   exact ⟨qE, qB HB.out⟩
 ·
  replace c3 := Bool.eq_false_iff.mpr c3
  subst c3
  have H1 : ((spec_DrawCoversOf.f k l0).bind fun t607 => ((impl_CoversOf.f k t607).bind fun bt608 => ((spec_CoversOf.f k t607).bind fun bt612 => ((impl_LeastCover.f k t607).bind fun bt616 => ((spec_LeastCover.f k t607).bind fun bt618 => ((impl_CoverLengths.f k t607).bind fun bt620 => ((spec_CoverLengths.f k t607).bind fun bt624 => ((impl_IsSuperprimitive.f k t607).bind fun bt628 => ((spec_IsSuperprimitive.f k t607).bind fun bt630 => (if bt608.2 = bt612.2 then ((laws_words5.f k bt608.1 bt612.1).bind fun t632 => (if t632 = true then (if bt616.2 = bt618.2 then (if bt616.1.toList = bt618.1.toList then (if bt620.2 = bt624.2 then ((laws_likeInts.f k bt620.1 bt624.1).bind fun t633 => (if t633 = true then (if bt628.2 = bt630.2 then (laws_FnCovers.j0 k l0 t607 bt608.1 bt608.2 bt616.1 bt616.2 bt620.1 bt628.1 (bt628.1 != bt630.1)) else (laws_FnCovers.j0 k l0 t607 bt608.1 bt608.2 bt616.1 bt616.2 bt620.1 bt628.1 true)) else (laws_FnCovers.j0 k l0 t607 bt608.1 bt608.2 bt616.1 bt616.2 bt620.1 bt628.1 true))) else (laws_FnCovers.j0 k l0 t607 bt608.1 bt608.2 bt616.1 bt616.2 bt620.1 bt628.1 true)) else (laws_FnCovers.j0 k l0 t607 bt608.1 bt608.2 bt616.1 bt616.2 bt620.1 bt628.1 true)) else (laws_FnCovers.j0 k l0 t607 bt608.1 bt608.2 bt616.1 bt616.2 bt620.1 bt628.1 true)) else (laws_FnCovers.j0 k l0 t607 bt608.1 bt608.2 bt616.1 bt616.2 bt620.1 bt628.1 true))) else (laws_FnCovers.j0 k l0 t607 bt608.1 bt608.2 bt616.1 bt616.2 bt620.1 bt628.1 true))))))))))) = some r := by rw [if_neg (show ¬ (false = true) by decide)] at H; exact H
  clear H
  have H := H1
  clear H1
  replace H := Option.bind_eq_some_iff.mp H
  obtain ⟨t607, A40, H⟩ := H
  replace H : ((impl_CoversOf.f k t607).bind fun bt608 => ((spec_CoversOf.f k t607).bind fun bt612 => ((impl_LeastCover.f k t607).bind fun bt616 => ((spec_LeastCover.f k t607).bind fun bt618 => ((impl_CoverLengths.f k t607).bind fun bt620 => ((spec_CoverLengths.f k t607).bind fun bt624 => ((impl_IsSuperprimitive.f k t607).bind fun bt628 => ((spec_IsSuperprimitive.f k t607).bind fun bt630 => (if bt608.2 = bt612.2 then ((laws_words5.f k bt608.1 bt612.1).bind fun t632 => (if t632 = true then (if bt616.2 = bt618.2 then (if bt616.1.toList = bt618.1.toList then (if bt620.2 = bt624.2 then ((laws_likeInts.f k bt620.1 bt624.1).bind fun t633 => (if t633 = true then (if bt628.2 = bt630.2 then (laws_FnCovers.j0 k l0 t607 bt608.1 bt608.2 bt616.1 bt616.2 bt620.1 bt628.1 (bt628.1 != bt630.1)) else (laws_FnCovers.j0 k l0 t607 bt608.1 bt608.2 bt616.1 bt616.2 bt620.1 bt628.1 true)) else (laws_FnCovers.j0 k l0 t607 bt608.1 bt608.2 bt616.1 bt616.2 bt620.1 bt628.1 true))) else (laws_FnCovers.j0 k l0 t607 bt608.1 bt608.2 bt616.1 bt616.2 bt620.1 bt628.1 true)) else (laws_FnCovers.j0 k l0 t607 bt608.1 bt608.2 bt616.1 bt616.2 bt620.1 bt628.1 true)) else (laws_FnCovers.j0 k l0 t607 bt608.1 bt608.2 bt616.1 bt616.2 bt620.1 bt628.1 true)) else (laws_FnCovers.j0 k l0 t607 bt608.1 bt608.2 bt616.1 bt616.2 bt620.1 bt628.1 true))) else (laws_FnCovers.j0 k l0 t607 bt608.1 bt608.2 bt616.1 bt616.2 bt620.1 bt628.1 true)))))))))) = some r := H
  have A4 := Aside0.mk A40
  clear A40
  replace H := Option.bind_eq_some_iff.mp H
  obtain ⟨⟨t608, t609⟩, A50, H⟩ := H
  replace H : ((spec_CoversOf.f k t607).bind fun bt612 => ((impl_LeastCover.f k t607).bind fun bt616 => ((spec_LeastCover.f k t607).bind fun bt618 => ((impl_CoverLengths.f k t607).bind fun bt620 => ((spec_CoverLengths.f k t607).bind fun bt624 => ((impl_IsSuperprimitive.f k t607).bind fun bt628 => ((spec_IsSuperprimitive.f k t607).bind fun bt630 => (if t609 = bt612.2 then ((laws_words5.f k t608 bt612.1).bind fun t632 => (if t632 = true then (if bt616.2 = bt618.2 then (if bt616.1.toList = bt618.1.toList then (if bt620.2 = bt624.2 then ((laws_likeInts.f k bt620.1 bt624.1).bind fun t633 => (if t633 = true then (if bt628.2 = bt630.2 then (laws_FnCovers.j0 k l0 t607 t608 t609 bt616.1 bt616.2 bt620.1 bt628.1 (bt628.1 != bt630.1)) else (laws_FnCovers.j0 k l0 t607 t608 t609 bt616.1 bt616.2 bt620.1 bt628.1 true)) else (laws_FnCovers.j0 k l0 t607 t608 t609 bt616.1 bt616.2 bt620.1 bt628.1 true))) else (laws_FnCovers.j0 k l0 t607 t608 t609 bt616.1 bt616.2 bt620.1 bt628.1 true)) else (laws_FnCovers.j0 k l0 t607 t608 t609 bt616.1 bt616.2 bt620.1 bt628.1 true)) else (laws_FnCovers.j0 k l0 t607 t608 t609 bt616.1 bt616.2 bt620.1 bt628.1 true)) else (laws_FnCovers.j0 k l0 t607 t608 t609 bt616.1 bt616.2 bt620.1 bt628.1 true))) else (laws_FnCovers.j0 k l0 t607 t608 t609 bt616.1 bt616.2 bt620.1 bt628.1 true))))))))) = some r := H
  have A5 := Aside0.mk A50
  clear A50
  replace H := Option.bind_eq_some_iff.mp H
  obtain ⟨⟨t612, t613⟩, A60, H⟩ := H
  replace H : ((impl_LeastCover.f k t607).bind fun bt616 => ((spec_LeastCover.f k t607).bind fun bt618 => ((impl_CoverLengths.f k t607).bind fun bt620 => ((spec_CoverLengths.f k t607).bind fun bt624 => ((impl_IsSuperprimitive.f k t607).bind fun bt628 => ((spec_IsSuperprimitive.f k t607).bind fun bt630 => (if t609 = t613 then ((laws_words5.f k t608 t612).bind fun t632 => (if t632 = true then (if bt616.2 = bt618.2 then (if bt616.1.toList = bt618.1.toList then (if bt620.2 = bt624.2 then ((laws_likeInts.f k bt620.1 bt624.1).bind fun t633 => (if t633 = true then (if bt628.2 = bt630.2 then (laws_FnCovers.j0 k l0 t607 t608 t609 bt616.1 bt616.2 bt620.1 bt628.1 (bt628.1 != bt630.1)) else (laws_FnCovers.j0 k l0 t607 t608 t609 bt616.1 bt616.2 bt620.1 bt628.1 true)) else (laws_FnCovers.j0 k l0 t607 t608 t609 bt616.1 bt616.2 bt620.1 bt628.1 true))) else (laws_FnCovers.j0 k l0 t607 t608 t609 bt616.1 bt616.2 bt620.1 bt628.1 true)) else (laws_FnCovers.j0 k l0 t607 t608 t609 bt616.1 bt616.2 bt620.1 bt628.1 true)) else (laws_FnCovers.j0 k l0 t607 t608 t609 bt616.1 bt616.2 bt620.1 bt628.1 true)) else (laws_FnCovers.j0 k l0 t607 t608 t609 bt616.1 bt616.2 bt620.1 bt628.1 true))) else (laws_FnCovers.j0 k l0 t607 t608 t609 bt616.1 bt616.2 bt620.1 bt628.1 true)))))))) = some r := H
  have A6 := Aside0.mk A60
  clear A60
  replace H := Option.bind_eq_some_iff.mp H
  obtain ⟨⟨t616, t617⟩, A70, H⟩ := H
  replace H : ((spec_LeastCover.f k t607).bind fun bt618 => ((impl_CoverLengths.f k t607).bind fun bt620 => ((spec_CoverLengths.f k t607).bind fun bt624 => ((impl_IsSuperprimitive.f k t607).bind fun bt628 => ((spec_IsSuperprimitive.f k t607).bind fun bt630 => (if t609 = t613 then ((laws_words5.f k t608 t612).bind fun t632 => (if t632 = true then (if t617 = bt618.2 then (if t616.toList = bt618.1.toList then (if bt620.2 = bt624.2 then ((laws_likeInts.f k bt620.1 bt624.1).bind fun t633 => (if t633 = true then (if bt628.2 = bt630.2 then (laws_FnCovers.j0 k l0 t607 t608 t609 t616 t617 bt620.1 bt628.1 (bt628.1 != bt630.1)) else (laws_FnCovers.j0 k l0 t607 t608 t609 t616 t617 bt620.1 bt628.1 true)) else (laws_FnCovers.j0 k l0 t607 t608 t609 t616 t617 bt620.1 bt628.1 true))) else (laws_FnCovers.j0 k l0 t607 t608 t609 t616 t617 bt620.1 bt628.1 true)) else (laws_FnCovers.j0 k l0 t607 t608 t609 t616 t617 bt620.1 bt628.1 true)) else (laws_FnCovers.j0 k l0 t607 t608 t609 t616 t617 bt620.1 bt628.1 true)) else (laws_FnCovers.j0 k l0 t607 t608 t609 t616 t617 bt620.1 bt628.1 true))) else (laws_FnCovers.j0 k l0 t607 t608 t609 t616 t617 bt620.1 bt628.1 true))))))) = some r := H
  have A7 := Aside0.mk A70
  clear A70
  replace H := Option.bind_eq_some_iff.mp H
  obtain ⟨⟨t618, t619⟩, A80, H⟩ := H
  replace H : ((impl_CoverLengths.f k t607).bind fun bt620 => ((spec_CoverLengths.f k t607).bind fun bt624 => ((impl_IsSuperprimitive.f k t607).bind fun bt628 => ((spec_IsSuperprimitive.f k t607).bind fun bt630 => (if t609 = t613 then ((laws_words5.f k t608 t612).bind fun t632 => (if t632 = true then (if t617 = t619 then (if t616.toList = t618.toList then (if bt620.2 = bt624.2 then ((laws_likeInts.f k bt620.1 bt624.1).bind fun t633 => (if t633 = true then (if bt628.2 = bt630.2 then (laws_FnCovers.j0 k l0 t607 t608 t609 t616 t617 bt620.1 bt628.1 (bt628.1 != bt630.1)) else (laws_FnCovers.j0 k l0 t607 t608 t609 t616 t617 bt620.1 bt628.1 true)) else (laws_FnCovers.j0 k l0 t607 t608 t609 t616 t617 bt620.1 bt628.1 true))) else (laws_FnCovers.j0 k l0 t607 t608 t609 t616 t617 bt620.1 bt628.1 true)) else (laws_FnCovers.j0 k l0 t607 t608 t609 t616 t617 bt620.1 bt628.1 true)) else (laws_FnCovers.j0 k l0 t607 t608 t609 t616 t617 bt620.1 bt628.1 true)) else (laws_FnCovers.j0 k l0 t607 t608 t609 t616 t617 bt620.1 bt628.1 true))) else (laws_FnCovers.j0 k l0 t607 t608 t609 t616 t617 bt620.1 bt628.1 true)))))) = some r := H
  have A8 := Aside0.mk A80
  clear A80
  replace H := Option.bind_eq_some_iff.mp H
  obtain ⟨⟨t620, t621⟩, A90, H⟩ := H
  replace H : ((spec_CoverLengths.f k t607).bind fun bt624 => ((impl_IsSuperprimitive.f k t607).bind fun bt628 => ((spec_IsSuperprimitive.f k t607).bind fun bt630 => (if t609 = t613 then ((laws_words5.f k t608 t612).bind fun t632 => (if t632 = true then (if t617 = t619 then (if t616.toList = t618.toList then (if t621 = bt624.2 then ((laws_likeInts.f k t620 bt624.1).bind fun t633 => (if t633 = true then (if bt628.2 = bt630.2 then (laws_FnCovers.j0 k l0 t607 t608 t609 t616 t617 t620 bt628.1 (bt628.1 != bt630.1)) else (laws_FnCovers.j0 k l0 t607 t608 t609 t616 t617 t620 bt628.1 true)) else (laws_FnCovers.j0 k l0 t607 t608 t609 t616 t617 t620 bt628.1 true))) else (laws_FnCovers.j0 k l0 t607 t608 t609 t616 t617 t620 bt628.1 true)) else (laws_FnCovers.j0 k l0 t607 t608 t609 t616 t617 t620 bt628.1 true)) else (laws_FnCovers.j0 k l0 t607 t608 t609 t616 t617 t620 bt628.1 true)) else (laws_FnCovers.j0 k l0 t607 t608 t609 t616 t617 t620 bt628.1 true))) else (laws_FnCovers.j0 k l0 t607 t608 t609 t616 t617 t620 bt628.1 true))))) = some r := H
  have A9 := Aside0.mk A90
  clear A90
  replace H := Option.bind_eq_some_iff.mp H
  obtain ⟨⟨t624, t625⟩, A100, H⟩ := H
  replace H : ((impl_IsSuperprimitive.f k t607).bind fun bt628 => ((spec_IsSuperprimitive.f k t607).bind fun bt630 => (if t609 = t613 then ((laws_words5.f k t608 t612).bind fun t632 => (if t632 = true then (if t617 = t619 then (if t616.toList = t618.toList then (if t621 = t625 then ((laws_likeInts.f k t620 t624).bind fun t633 => (if t633 = true then (if bt628.2 = bt630.2 then (laws_FnCovers.j0 k l0 t607 t608 t609 t616 t617 t620 bt628.1 (bt628.1 != bt630.1)) else (laws_FnCovers.j0 k l0 t607 t608 t609 t616 t617 t620 bt628.1 true)) else (laws_FnCovers.j0 k l0 t607 t608 t609 t616 t617 t620 bt628.1 true))) else (laws_FnCovers.j0 k l0 t607 t608 t609 t616 t617 t620 bt628.1 true)) else (laws_FnCovers.j0 k l0 t607 t608 t609 t616 t617 t620 bt628.1 true)) else (laws_FnCovers.j0 k l0 t607 t608 t609 t616 t617 t620 bt628.1 true)) else (laws_FnCovers.j0 k l0 t607 t608 t609 t616 t617 t620 bt628.1 true))) else (laws_FnCovers.j0 k l0 t607 t608 t609 t616 t617 t620 bt628.1 true)))) = some r := H
  have A10 := Aside0.mk A100
  clear A100
  replace H := Option.bind_eq_some_iff.mp H
  obtain ⟨⟨t628, t629⟩, A110, H⟩ := H
  replace H : ((spec_IsSuperprimitive.f k t607).bind fun bt630 => (if t609 = t613 then ((laws_words5.f k t608 t612).bind fun t632 => (if t632 = true then (if t617 = t619 then (if t616.toList = t618.toList then (if t621 = t625 then ((laws_likeInts.f k t620 t624).bind fun t633 => (if t633 = true then (if t629 = bt630.2 then (laws_FnCovers.j0 k l0 t607 t608 t609 t616 t617 t620 t628 (t628 != bt630.1)) else (laws_FnCovers.j0 k l0 t607 t608 t609 t616 t617 t620 t628 true)) else (laws_FnCovers.j0 k l0 t607 t608 t609 t616 t617 t620 t628 true))) else (laws_FnCovers.j0 k l0 t607 t608 t609 t616 t617 t620 t628 true)) else (laws_FnCovers.j0 k l0 t607 t608 t609 t616 t617 t620 t628 true)) else (laws_FnCovers.j0 k l0 t607 t608 t609 t616 t617 t620 t628 true)) else (laws_FnCovers.j0 k l0 t607 t608 t609 t616 t617 t620 t628 true))) else (laws_FnCovers.j0 k l0 t607 t608 t609 t616 t617 t620 t628 true))) = some r := H
  have A11 := Aside0.mk A110
  clear A110
  replace H := Option.bind_eq_some_iff.mp H
  obtain ⟨⟨t630, t631⟩, A120, H⟩ := H
  replace H : (if t609 = t613 then ((laws_words5.f k t608 t612).bind fun t632 => (if t632 = true then (if t617 = t619 then (if t616.toList = t618.toList then (if t621 = t625 then ((laws_likeInts.f k t620 t624).bind fun t633 => (if t633 = true then (if t629 = t631 then (laws_FnCovers.j0 k l0 t607 t608 t609 t616 t617 t620 t628 (t628 != t630)) else (laws_FnCovers.j0 k l0 t607 t608 t609 t616 t617 t620 t628 true)) else (laws_FnCovers.j0 k l0 t607 t608 t609 t616 t617 t620 t628 true))) else (laws_FnCovers.j0 k l0 t607 t608 t609 t616 t617 t620 t628 true)) else (laws_FnCovers.j0 k l0 t607 t608 t609 t616 t617 t620 t628 true)) else (laws_FnCovers.j0 k l0 t607 t608 t609 t616 t617 t620 t628 true)) else (laws_FnCovers.j0 k l0 t607 t608 t609 t616 t617 t620 t628 true))) else (laws_FnCovers.j0 k l0 t607 t608 t609 t616 t617 t620 t628 true)) = some r := H
  have A12 := Aside0.mk A120
  clear A120
  have HC13 := Aside0.mk H
  clear H
  go_enter Try.func3, Try.ntmps3
  go_upto_region 12 with (first | ((with_reducible refine gate_callee (f := 4) rfl ?_); refine goesL_ (some 50) rfl rfl Try.func4 (by kernel_rfl) rfl #[.slice A0 l0.length c0] rfl qV ?_; (with_reducible refine (laws_big.calls _ _ l0 false _ ?side1 ?side2 A2.out).mono ?_); (case side1 => exact qC HR0.out); (case side2 => exact HC0.out); rintro e w' ⟨rfl, ⟨nd, rfl⟩⟩; refine ⟨_, rfl, ?_⟩) | ((with_reducible refine gate_callee (f := 5) rfl ?_); refine goesL_ (some 52) rfl rfl Try.func5 (by kernel_rfl) rfl #[.slice A0 l0.length c0] rfl qV ?_; (with_reducible refine (spec_DrawCoversOf.calls k _ _ l0 t607 _ ?side1 ?side2 A4.out).mono ?_); (case side1 => exact qC HR0.out); (case side2 => exact HC0.out); rintro e w14 ⟨rfl, hb⟩; refine ⟨_, rfl, ?_⟩; have n0_ := Aside0.mk (below_step (qB HB.out) hb); clear HB; have HB := n0_; clear n0_) | ((with_reducible refine gate_callee (f := 6) rfl ?_); refine goesL_ (some 55) rfl rfl Try.func6 (by kernel_rfl) rfl #[.string t607] rfl qV ?_; (with_reducible refine (impl_CoversOf.calls k t607 t608 t609 _ A5.out).mono ?_); rintro e w15 ⟨v610, rfl, ho0, hb⟩; refine ⟨_, rfl, ?_⟩; have n0_ := Aside0.mk (Kd.R_lower ho0 (below_size (qB HB.out))); have n1_ := Aside0.mk (below_step (qB HB.out) hb); clear HB; have HO611 := n0_; have HB := n1_; clear n0_ n1_) | ((with_reducible refine gate_callee (f := 7) rfl ?_); refine goesL_ (some 60) rfl rfl Try.func7 (by kernel_rfl) rfl #[.string t607] rfl qV ?_; (with_reducible refine (spec_CoversOf.calls k t607 t612 t613 _ A6.out).mono ?_); rintro e w16 ⟨v614, rfl, ho0, hb⟩; refine ⟨_, rfl, ?_⟩; have n0_ := Aside0.mk (Kd.R_elder' (qR HO611.out) (Kd.R_base ho0) hb); have n1_ := Aside0.mk (Kd.R_lower (Kd.R_new' ho0 (Kd.R_lt (qR HO611.out))) (below_size (qB HB.out))); have n2_ := Aside0.mk (below_step (qB HB.out) hb); clear HO611; clear HB; have HO611 := n0_; have HO615 := n1_; have HB := n2_; clear n0_ n1_ n2_) | ((with_reducible refine gate_callee (f := 8) rfl ?_); refine goesL_ (some 65) rfl rfl Try.func8 (by kernel_rfl) rfl #[.string t607] rfl qV ?_; (with_reducible refine (impl_LeastCover.calls k t607 t616 t617 _ A7.out).mono ?_); rintro e w17 ⟨rfl, hb⟩; refine ⟨_, rfl, ?_⟩; have n0_ := Aside0.mk (Kd.R_below (qR HO611.out) hb); have n1_ := Aside0.mk (Kd.R_below (qR HO615.out) hb); have n2_ := Aside0.mk (below_step (qB HB.out) hb); clear HO611; clear HO615; clear HB; have HO611 := n0_; have HO615 := n1_; have HB := n2_; clear n0_ n1_ n2_) | ((with_reducible refine gate_callee (f := 9) rfl ?_); refine goesL_ (some 70) rfl rfl Try.func9 (by kernel_rfl) rfl #[.string t607] rfl qV ?_; (with_reducible refine (spec_LeastCover.calls k t607 t618 t619 _ A8.out).mono ?_); rintro e w18 ⟨rfl, hb⟩; refine ⟨_, rfl, ?_⟩; have n0_ := Aside0.mk (Kd.R_below (qR HO611.out) hb); have n1_ := Aside0.mk (Kd.R_below (qR HO615.out) hb); have n2_ := Aside0.mk (below_step (qB HB.out) hb); clear HO611; clear HO615; clear HB; have HO611 := n0_; have HO615 := n1_; have HB := n2_; clear n0_ n1_ n2_) | ((with_reducible refine gate_callee (f := 10) rfl ?_); refine goesL_ (some 75) rfl rfl Try.func10 (by kernel_rfl) rfl #[.string t607] rfl qV ?_; (with_reducible refine (impl_CoverLengths.calls k t607 t620 t621 _ A9.out).mono ?_); rintro e w19 ⟨v622, rfl, ho0, hb⟩; refine ⟨_, rfl, ?_⟩; have n0_ := Aside0.mk (Kd.R_below (qR HO611.out) hb); have n1_ := Aside0.mk (Kd.R_below (qR HO615.out) hb); have n2_ := Aside0.mk (Kd.R_lower ho0 (below_size (qB HB.out))); have n3_ := Aside0.mk (below_step (qB HB.out) hb); clear HO611; clear HO615; clear HB; have HO611 := n0_; have HO615 := n1_; have HO623 := n2_; have HB := n3_; clear n0_ n1_ n2_ n3_) | ((with_reducible refine gate_callee (f := 11) rfl ?_); refine goesL_ (some 80) rfl rfl Try.func11 (by kernel_rfl) rfl #[.string t607] rfl qV ?_; (with_reducible refine (spec_CoverLengths.calls k t607 t624 t625 _ A10.out).mono ?_); rintro e w20 ⟨v626, rfl, ho0, hb⟩; refine ⟨_, rfl, ?_⟩; have n0_ := Aside0.mk (Kd.R_below (qR HO611.out) hb); have n1_ := Aside0.mk (Kd.R_below (qR HO615.out) hb); have n2_ := Aside0.mk (Kd.R_elder' (qR HO623.out) (Kd.R_base ho0) hb); have n3_ := Aside0.mk (Kd.R_lower (Kd.R_new' ho0 (Kd.R_lt (qR HO623.out))) (below_size (qB HB.out))); have n4_ := Aside0.mk (below_step (qB HB.out) hb); clear HO611; clear HO615; clear HO623; clear HB; have HO611 := n0_; have HO615 := n1_; have HO623 := n2_; have HO627 := n3_; have HB := n4_; clear n0_ n1_ n2_ n3_ n4_) | ((with_reducible refine gate_callee (f := 12) rfl ?_); refine goesL_ (some 85) rfl rfl Try.func12 (by kernel_rfl) rfl #[.string t607] rfl qV ?_; (with_reducible refine (impl_IsSuperprimitive.calls k t607 t628 t629 _ A11.out).mono ?_); rintro e w21 ⟨rfl, hb⟩; refine ⟨_, rfl, ?_⟩; have n0_ := Aside0.mk (Kd.R_below (qR HO611.out) hb); have n1_ := Aside0.mk (Kd.R_below (qR HO615.out) hb); have n2_ := Aside0.mk (Kd.R_below (qR HO623.out) hb); have n3_ := Aside0.mk (Kd.R_below (qR HO627.out) hb); have n4_ := Aside0.mk (below_step (qB HB.out) hb); clear HO611; clear HO615; clear HO623; clear HO627; clear HB; have HO611 := n0_; have HO615 := n1_; have HO623 := n2_; have HO627 := n3_; have HB := n4_; clear n0_ n1_ n2_ n3_ n4_) | ((with_reducible refine gate_callee (f := 13) rfl ?_); refine goesL_ (some 90) rfl rfl Try.func13 (by kernel_rfl) rfl #[.string t607] rfl qV ?_; (with_reducible refine (spec_IsSuperprimitive.calls k t607 t630 t631 _ A12.out).mono ?_); rintro e w22 ⟨rfl, hb⟩; refine ⟨_, rfl, ?_⟩; have n0_ := Aside0.mk (Kd.R_below (qR HO611.out) hb); have n1_ := Aside0.mk (Kd.R_below (qR HO615.out) hb); have n2_ := Aside0.mk (Kd.R_below (qR HO623.out) hb); have n3_ := Aside0.mk (Kd.R_below (qR HO627.out) hb); have n4_ := Aside0.mk (below_step (qB HB.out) hb); clear HO611; clear HO615; clear HO623; clear HO627; clear HB; have HO611 := n0_; have HO615 := n1_; have HO623 := n2_; have HO627 := n3_; have HB := n4_; clear n0_ n1_ n2_ n3_ n4_))
  (try simp only [Act.put, List.setIfInBounds_toArray, List.set_cons_zero, List.set_cons_succ])
  go_cut [132] (fun v132 wc => ∃ (kq : Nat) (x132_12 : Bool), v132 = .bool x132_12 ∧ Aside0 (laws_FnCovers.j0 kq l0 t607 t608 t609 t616 t617 t620 t628 x132_12 = some r) ∧ Aside0 (kq ≤ k) ∧ Aside0 (Kd.R Kd.string 9 wc w.heap.size (fun _ => True) v610 t608) ∧ Aside0 (Kd.R (Kd.int .i64) 2 wc w.heap.size (fun _ => True) v622 t620) ∧ Aside0 (Below w.heap.size w wc))
  case first => as_aux_lemma =>
   have H := HC13.out
   clear HC13
   by_cases c23 : t609 = t613
   ·
    rw [if_pos c23] at H
    have c23b0 : (t609 == t613) = true := beq_iff_eq.mpr c23
    have c23b1 : (t609 != t613) = false := bne_eq_false_iff_eq.mpr c23
    clear c23
    (first | rw [c23b0] | (simp only [i64_w, i32_w]; rw [c23b0]) | skip)
    replace H := Option.bind_eq_some_iff.mp H
    obtain ⟨t632, A240, H⟩ := H
    replace H : (if t632 = true then (if t617 = t619 then (if t616.toList = t618.toList then (if t621 = t625 then ((laws_likeInts.f k t620 t624).bind fun t633 => (if t633 = true then (if t629 = t631 then (laws_FnCovers.j0 k l0 t607 t608 t609 t616 t617 t620 t628 (t628 != t630)) else (laws_FnCovers.j0 k l0 t607 t608 t609 t616 t617 t620 t628 true)) else (laws_FnCovers.j0 k l0 t607 t608 t609 t616 t617 t620 t628 true))) else (laws_FnCovers.j0 k l0 t607 t608 t609 t616 t617 t620 t628 true)) else (laws_FnCovers.j0 k l0 t607 t608 t609 t616 t617 t620 t628 true)) else (laws_FnCovers.j0 k l0 t607 t608 t609 t616 t617 t620 t628 true)) else (laws_FnCovers.j0 k l0 t607 t608 t609 t616 t617 t620 t628 true)) = some r := H
    have A24 := Aside0.mk A240
    clear A240
    by_cases c25 : t632 = true
    ·
     subst c25
     have H1 : (if t617 = t619 then (if t616.toList = t618.toList then (if t621 = t625 then ((laws_likeInts.f k t620 t624).bind fun t633 => (if t633 = true then (if t629 = t631 then (laws_FnCovers.j0 k l0 t607 t608 t609 t616 t617 t620 t628 (t628 != t630)) else (laws_FnCovers.j0 k l0 t607 t608 t609 t616 t617 t620 t628 true)) else (laws_FnCovers.j0 k l0 t607 t608 t609 t616 t617 t620 t628 true))) else (laws_FnCovers.j0 k l0 t607 t608 t609 t616 t617 t620 t628 true)) else (laws_FnCovers.j0 k l0 t607 t608 t609 t616 t617 t620 t628 true)) else (laws_FnCovers.j0 k l0 t607 t608 t609 t616 t617 t620 t628 true)) = some r := by rw [if_pos rfl] at H; exact H
     clear H
     have H := H1
     clear H1
     by_cases c26 : t617 = t619
     ·
      rw [if_pos c26] at H
      have c26b0 : (t617 == t619) = true := beq_iff_eq.mpr c26
      have c26b1 : (t617 != t619) = false := bne_eq_false_iff_eq.mpr c26
      clear c26
      by_cases c27 : t616.toList = t618.toList
      ·
       rw [if_pos c27] at H
       have c27b0 : (t616.toList == t618.toList) = true := beq_iff_eq.mpr c27
       have c27b1 : (t616.toList != t618.toList) = false := bne_eq_false_iff_eq.mpr c27
       clear c27
       by_cases c28 : t621 = t625
       ·
        rw [if_pos c28] at H
        have c28b0 : (t621 == t625) = true := beq_iff_eq.mpr c28
        have c28b1 : (t621 != t625) = false := bne_eq_false_iff_eq.mpr c28
        clear c28
        replace H := Option.bind_eq_some_iff.mp H
        obtain ⟨t633, A290, H⟩ := H
        replace H : (if t633 = true then (if t629 = t631 then (laws_FnCovers.j0 k l0 t607 t608 t609 t616 t617 t620 t628 (t628 != t630)) else (laws_FnCovers.j0 k l0 t607 t608 t609 t616 t617 t620 t628 true)) else (laws_FnCovers.j0 k l0 t607 t608 t609 t616 t617 t620 t628 true)) = some r := H
        have A29 := Aside0.mk A290
        clear A290
        by_cases c30 : t633 = true
        ·
         subst c30
         have H1 : (if t629 = t631 then (laws_FnCovers.j0 k l0 t607 t608 t609 t616 t617 t620 t628 (t628 != t630)) else (laws_FnCovers.j0 k l0 t607 t608 t609 t616 t617 t620 t628 true)) = some r := by rw [if_pos rfl] at H; exact H
         clear H
         have H := H1
         clear H1
         by_cases c31 : t629 = t631
         ·
          rw [if_pos c31] at H
          have c31b0 : (t629 == t631) = true := beq_iff_eq.mpr c31
          have c31b1 : (t629 != t631) = false := bne_eq_false_iff_eq.mpr c31
          clear c31
          have H' := Aside0.mk H
          clear H
          obtain ⟨Ao32, co32, eo32⟩ := Kd.R_slice HO611.out
          subst eo32
          obtain ⟨Ao33, co33, eo33⟩ := Kd.R_slice HO615.out
          subst eo33
          as_aux_lemma =>
           go_wp2_with (first | (go_at_call 14; (with_reducible refine (laws_words5.calls k _ _ t608 _ _ t612 true _ ?side1 ?side2 ?side3 ?side4 A24.out).mono ?_); (case side1 => exact qC (Kd.R_reads' HO611.out).2.2); (case side2 => exact (Kd.R_reads' HO611.out).2.1); (case side3 => exact qC (Kd.R_reads' HO615.out).2.2); (case side4 => exact (Kd.R_reads' HO615.out).2.1); rintro e w' ⟨rfl, ⟨nd, rfl⟩⟩; obtain ⟨Ao34, co34, eo34⟩ := Kd.R_slice HO623.out; subst eo34; obtain ⟨Ao35, co35, eo35⟩ := Kd.R_slice HO627.out; subst eo35) | (go_at_call 15; (with_reducible refine (laws_likeInts.calls k _ _ t620 _ _ t624 true _ ?side1 ?side2 ?side3 ?side4 A29.out).mono ?_); (case side1 => exact qC (Kd.R_reads' HO623.out).2.2); (case side2 => exact (Kd.R_reads' HO623.out).2.1); (case side3 => exact qC (Kd.R_reads' HO627.out).2.2); (case side4 => exact (Kd.R_reads' HO627.out).2.1); rintro e w' ⟨rfl, ⟨nd, rfl⟩⟩))
           go_meet
           case rel => exact ⟨_, ((t628 != t630)), qF, H', ⟨by first | omega | exact Nat.le_refl _⟩, ⟨by (with_reducible repeat (first | apply Kd.R_alloc | apply Kd.R_drewN | apply Kd.R_drew)); exact Kd.R_mono HO611.out (fun _ hk => trivial)⟩, ⟨by (with_reducible repeat (first | apply Kd.R_alloc | apply Kd.R_drewN | apply Kd.R_drew)); exact Kd.R_mono HO623.out (fun _ hk => trivial)⟩, ⟨qB HB.out⟩⟩
         ·
          rw [if_neg c31] at H
          have c31b0 : (t629 == t631) = false := beq_eq_false_iff_ne.mpr c31
          have c31b1 : (t629 != t631) = true := bne_iff_ne.mpr c31
          have H' := Aside0.mk H
          clear H
          obtain ⟨Ao36, co36, eo36⟩ := Kd.R_slice HO611.out
          subst eo36
          obtain ⟨Ao37, co37, eo37⟩ := Kd.R_slice HO615.out
          subst eo37
          as_aux_lemma =>
           go_wp2_with (first | (go_at_call 14; (with_reducible refine (laws_words5.calls k _ _ t608 _ _ t612 true _ ?side1 ?side2 ?side3 ?side4 A24.out).mono ?_); (case side1 => exact qC (Kd.R_reads' HO611.out).2.2); (case side2 => exact (Kd.R_reads' HO611.out).2.1); (case side3 => exact qC (Kd.R_reads' HO615.out).2.2); (case side4 => exact (Kd.R_reads' HO615.out).2.1); rintro e w' ⟨rfl, ⟨nd, rfl⟩⟩; obtain ⟨Ao38, co38, eo38⟩ := Kd.R_slice HO623.out; subst eo38; obtain ⟨Ao39, co39, eo39⟩ := Kd.R_slice HO627.out; subst eo39) | (go_at_call 15; (with_reducible refine (laws_likeInts.calls k _ _ t620 _ _ t624 true _ ?side1 ?side2 ?side3 ?side4 A29.out).mono ?_); (case side1 => exact qC (Kd.R_reads' HO623.out).2.2); (case side2 => exact (Kd.R_reads' HO623.out).2.1); (case side3 => exact qC (Kd.R_reads' HO627.out).2.2); (case side4 => exact (Kd.R_reads' HO627.out).2.1); rintro e w' ⟨rfl, ⟨nd, rfl⟩⟩))
           go_meet
           case rel => exact ⟨_, (true), qF, H', ⟨by first | omega | exact Nat.le_refl _⟩, ⟨by (with_reducible repeat (first | apply Kd.R_alloc | apply Kd.R_drewN | apply Kd.R_drew)); exact Kd.R_mono HO611.out (fun _ hk => trivial)⟩, ⟨by (with_reducible repeat (first | apply Kd.R_alloc | apply Kd.R_drewN | apply Kd.R_drew)); exact Kd.R_mono HO623.out (fun _ hk => trivial)⟩, ⟨qB HB.out⟩⟩
        ·
         replace c30 := Bool.eq_false_iff.mpr c30
         subst c30
         have H1 : (laws_FnCovers.j0 k l0 t607 t608 t609 t616 t617 t620 t628 true) = some r := by rw [if_neg (show ¬ (false = true) by decide)] at H; exact H
         clear H
         have H := H1
         clear H1
         have H' := Aside0.mk H
         clear H
         obtain ⟨Ao40, co40, eo40⟩ := Kd.R_slice HO611.out
         subst eo40
         obtain ⟨Ao41, co41, eo41⟩ := Kd.R_slice HO615.out
         subst eo41
         as_aux_lemma =>
          go_wp2_with (first | (go_at_call 14; (with_reducible refine (laws_words5.calls k _ _ t608 _ _ t612 true _ ?side1 ?side2 ?side3 ?side4 A24.out).mono ?_); (case side1 => exact qC (Kd.R_reads' HO611.out).2.2); (case side2 => exact (Kd.R_reads' HO611.out).2.1); (case side3 => exact qC (Kd.R_reads' HO615.out).2.2); (case side4 => exact (Kd.R_reads' HO615.out).2.1); rintro e w' ⟨rfl, ⟨nd, rfl⟩⟩; obtain ⟨Ao42, co42, eo42⟩ := Kd.R_slice HO623.out; subst eo42; obtain ⟨Ao43, co43, eo43⟩ := Kd.R_slice HO627.out; subst eo43) | (go_at_call 15; (with_reducible refine (laws_likeInts.calls k _ _ t620 _ _ t624 false _ ?side1 ?side2 ?side3 ?side4 A29.out).mono ?_); (case side1 => exact qC (Kd.R_reads' HO623.out).2.2); (case side2 => exact (Kd.R_reads' HO623.out).2.1); (case side3 => exact qC (Kd.R_reads' HO627.out).2.2); (case side4 => exact (Kd.R_reads' HO627.out).2.1); rintro e w' ⟨rfl, ⟨nd, rfl⟩⟩))
          go_meet
          case rel => exact ⟨_, (true), qF, H', ⟨by first | omega | exact Nat.le_refl _⟩, ⟨by (with_reducible repeat (first | apply Kd.R_alloc | apply Kd.R_drewN | apply Kd.R_drew)); exact Kd.R_mono HO611.out (fun _ hk => trivial)⟩, ⟨by (with_reducible repeat (first | apply Kd.R_alloc | apply Kd.R_drewN | apply Kd.R_drew)); exact Kd.R_mono HO623.out (fun _ hk => trivial)⟩, ⟨qB HB.out⟩⟩
       ·
        rw [if_neg c28] at H
        have c28b0 : (t621 == t625) = false := beq_eq_false_iff_ne.mpr c28
        have c28b1 : (t621 != t625) = true := bne_iff_ne.mpr c28
        have H' := Aside0.mk H
        clear H
        obtain ⟨Ao44, co44, eo44⟩ := Kd.R_slice HO611.out
        subst eo44
        obtain ⟨Ao45, co45, eo45⟩ := Kd.R_slice HO615.out
        subst eo45
        as_aux_lemma =>
         go_wp2_with (first | (go_at_call 14; (with_reducible refine (laws_words5.calls k _ _ t608 _ _ t612 true _ ?side1 ?side2 ?side3 ?side4 A24.out).mono ?_); (case side1 => exact qC (Kd.R_reads' HO611.out).2.2); (case side2 => exact (Kd.R_reads' HO611.out).2.1); (case side3 => exact qC (Kd.R_reads' HO615.out).2.2); (case side4 => exact (Kd.R_reads' HO615.out).2.1); rintro e w' ⟨rfl, ⟨nd, rfl⟩⟩))
         go_meet
         case rel => exact ⟨_, (true), qF, H', ⟨by first | omega | exact Nat.le_refl _⟩, ⟨by (with_reducible repeat (first | apply Kd.R_alloc | apply Kd.R_drewN | apply Kd.R_drew)); exact Kd.R_mono HO611.out (fun _ hk => trivial)⟩, ⟨by (with_reducible repeat (first | apply Kd.R_alloc | apply Kd.R_drewN | apply Kd.R_drew)); exact Kd.R_mono HO623.out (fun _ hk => trivial)⟩, ⟨qB HB.out⟩⟩
      ·
       rw [if_neg c27] at H
       have c27b0 : (t616.toList == t618.toList) = false := beq_eq_false_iff_ne.mpr c27
       have c27b1 : (t616.toList != t618.toList) = true := bne_iff_ne.mpr c27
       have H' := Aside0.mk H
       clear H
       obtain ⟨Ao46, co46, eo46⟩ := Kd.R_slice HO611.out
       subst eo46
       obtain ⟨Ao47, co47, eo47⟩ := Kd.R_slice HO615.out
       subst eo47
       as_aux_lemma =>
        go_wp2_with (first | (go_at_call 14; (with_reducible refine (laws_words5.calls k _ _ t608 _ _ t612 true _ ?side1 ?side2 ?side3 ?side4 A24.out).mono ?_); (case side1 => exact qC (Kd.R_reads' HO611.out).2.2); (case side2 => exact (Kd.R_reads' HO611.out).2.1); (case side3 => exact qC (Kd.R_reads' HO615.out).2.2); (case side4 => exact (Kd.R_reads' HO615.out).2.1); rintro e w' ⟨rfl, ⟨nd, rfl⟩⟩))
        go_meet
        case rel => exact ⟨_, (true), qF, H', ⟨by first | omega | exact Nat.le_refl _⟩, ⟨by (with_reducible repeat (first | apply Kd.R_alloc | apply Kd.R_drewN | apply Kd.R_drew)); exact Kd.R_mono HO611.out (fun _ hk => trivial)⟩, ⟨by (with_reducible repeat (first | apply Kd.R_alloc | apply Kd.R_drewN | apply Kd.R_drew)); exact Kd.R_mono HO623.out (fun _ hk => trivial)⟩, ⟨qB HB.out⟩⟩
     ·
      rw [if_neg c26] at H
      have c26b0 : (t617 == t619) = false := beq_eq_false_iff_ne.mpr c26
      have c26b1 : (t617 != t619) = true := bne_iff_ne.mpr c26
      have H' := Aside0.mk H
      clear H
      obtain ⟨Ao48, co48, eo48⟩ := Kd.R_slice HO611.out
      subst eo48
      obtain ⟨Ao49, co49, eo49⟩ := Kd.R_slice HO615.out
      subst eo49
      as_aux_lemma =>
       go_wp2_with (first | (go_at_call 14; (with_reducible refine (laws_words5.calls k _ _ t608 _ _ t612 true _ ?side1 ?side2 ?side3 ?side4 A24.out).mono ?_); (case side1 => exact qC (Kd.R_reads' HO611.out).2.2); (case side2 => exact (Kd.R_reads' HO611.out).2.1); (case side3 => exact qC (Kd.R_reads' HO615.out).2.2); (case side4 => exact (Kd.R_reads' HO615.out).2.1); rintro e w' ⟨rfl, ⟨nd, rfl⟩⟩))
       go_meet
       case rel => exact ⟨_, (true), qF, H', ⟨by first | omega | exact Nat.le_refl _⟩, ⟨by (with_reducible repeat (first | apply Kd.R_alloc | apply Kd.R_drewN | apply Kd.R_drew)); exact Kd.R_mono HO611.out (fun _ hk => trivial)⟩, ⟨by (with_reducible repeat (first | apply Kd.R_alloc | apply Kd.R_drewN | apply Kd.R_drew)); exact Kd.R_mono HO623.out (fun _ hk => trivial)⟩, ⟨qB HB.out⟩⟩
    ·
     replace c25 := Bool.eq_false_iff.mpr c25
     subst c25
     have H1 : (laws_FnCovers.j0 k l0 t607 t608 t609 t616 t617 t620 t628 true) = some r := by rw [if_neg (show ¬ (false = true) by decide)] at H; exact H
     clear H
     have H := H1
     clear H1
     have H' := Aside0.mk H
     clear H
     obtain ⟨Ao50, co50, eo50⟩ := Kd.R_slice HO611.out
     subst eo50
     obtain ⟨Ao51, co51, eo51⟩ := Kd.R_slice HO615.out
     subst eo51
     as_aux_lemma =>
      go_wp2_with (first | (go_at_call 14; (with_reducible refine (laws_words5.calls k _ _ t608 _ _ t612 false _ ?side1 ?side2 ?side3 ?side4 A24.out).mono ?_); (case side1 => exact qC (Kd.R_reads' HO611.out).2.2); (case side2 => exact (Kd.R_reads' HO611.out).2.1); (case side3 => exact qC (Kd.R_reads' HO615.out).2.2); (case side4 => exact (Kd.R_reads' HO615.out).2.1); rintro e w' ⟨rfl, ⟨nd, rfl⟩⟩))
      go_meet
      case rel => exact ⟨_, (true), qF, H', ⟨by first | omega | exact Nat.le_refl _⟩, ⟨by (with_reducible repeat (first | apply Kd.R_alloc | apply Kd.R_drewN | apply Kd.R_drew)); exact Kd.R_mono HO611.out (fun _ hk => trivial)⟩, ⟨by (with_reducible repeat (first | apply Kd.R_alloc | apply Kd.R_drewN | apply Kd.R_drew)); exact Kd.R_mono HO623.out (fun _ hk => trivial)⟩, ⟨qB HB.out⟩⟩
   ·
    rw [if_neg c23] at H
    have c23b0 : (t609 == t613) = false := beq_eq_false_iff_ne.mpr c23
    have c23b1 : (t609 != t613) = true := bne_iff_ne.mpr c23
    (first | rw [c23b0] | (simp only [i64_w, i32_w]; rw [c23b0]) | skip)
    have H' := Aside0.mk H
    clear H
    as_aux_lemma =>
     go_wp2
     go_meet
     case rel => exact ⟨_, (true), qF, H', ⟨by first | omega | exact Nat.le_refl _⟩, ⟨by (with_reducible repeat (first | apply Kd.R_alloc | apply Kd.R_drewN | apply Kd.R_drew)); exact Kd.R_mono HO611.out (fun _ hk => trivial)⟩, ⟨by (with_reducible repeat (first | apply Kd.R_alloc | apply Kd.R_drewN | apply Kd.R_drew)); exact Kd.R_mono HO623.out (fun _ hk => trivial)⟩, ⟨qB HB.out⟩⟩
  case rest => as_aux_lemma =>
   clear HC13
   obtain ⟨kq, x132_12, rfl, HA, HJ12, HO_4, HO_12, HB⟩ := hcut
   cases kq with
   | zero => exact absurd HA.out (by simp [laws_FnCovers.j0])
   | succ kj12 =>
    have H := HA.out
    clear HA
    simp only [laws_FnCovers.j0] at H
    by_cases c52 : x132_12 = true
    ·
     subst c52
     have H1 : (some false) = some r := by rw [if_pos rfl] at H; exact H
     clear H
     have H := H1
     clear H1
     obtain rfl := Option.some.inj H
     as_aux_lemma =>
      go_wp2
      go_ret
      exact ⟨qE, qB HB.out⟩
    ·
     replace c52 := Bool.eq_false_iff.mpr c52
     subst c52
     have H1 : (if t609 = 0 then (laws_FnCovers.j1 kj12 l0 t607 t608 t616 t617 t620 t628 (decide ((t607.size : Int) > 0))) else (laws_FnCovers.j1 kj12 l0 t607 t608 t616 t617 t620 t628 false)) = some r := by rw [if_neg (show ¬ (false = true) by decide)] at H; exact H
     clear H
     have H := H1
     clear H1
     have HC53 := Aside0.mk H
     clear H
     go_upto_region 14 with (fail)
     go_cut [139] (fun v139 wc => ∃ (kq : Nat) (x139_52 : Bool), v139 = .bool x139_52 ∧ Aside0 (laws_FnCovers.j1 kq l0 t607 t608 t616 t617 t620 t628 x139_52 = some r) ∧ Aside0 (kq ≤ kj12) ∧ Aside0 (Kd.R Kd.string 9 wc w.heap.size (fun _ => True) v610 t608) ∧ Aside0 (Kd.R (Kd.int .i64) 2 wc w.heap.size (fun _ => True) v622 t620) ∧ Aside0 (Below w.heap.size w wc))
     case first => as_aux_lemma =>
      have H := HC53.out
      clear HC53
      by_cases c54 : t609 = 0
      ·
       rw [if_pos c54] at H
       have c54b0 : (t609 == 0) = true := beq_iff_eq.mpr c54
       have c54b1 : (t609 != 0) = false := bne_eq_false_iff_eq.mpr c54
       clear c54
       (first | rw [c54b0] | (simp only [i64_w, i32_w]; rw [c54b0]) | skip)
       have H' := Aside0.mk H
       clear H
       as_aux_lemma =>
        go_wp2
        go_meet
        case rel => exact ⟨_, (decide ((t607.size : Int) > 0)), qF, H', ⟨by have := HJ12.out; first | omega | exact Nat.le_refl _⟩, ⟨qR HO_4.out⟩, ⟨qR HO_12.out⟩, ⟨qB HB.out⟩⟩
      ·
       rw [if_neg c54] at H
       have c54b0 : (t609 == 0) = false := beq_eq_false_iff_ne.mpr c54
       have c54b1 : (t609 != 0) = true := bne_iff_ne.mpr c54
       (first | rw [c54b0] | (simp only [i64_w, i32_w]; rw [c54b0]) | skip)
       have H' := Aside0.mk H
       clear H
       as_aux_lemma =>
        go_wp2
        go_meet
        case rel => exact ⟨_, (false), qF, H', ⟨by have := HJ12.out; first | omega | exact Nat.le_refl _⟩, ⟨qR HO_4.out⟩, ⟨qR HO_12.out⟩, ⟨qB HB.out⟩⟩
     case rest => as_aux_lemma =>
      clear HC53
      obtain ⟨kq, x139_52, rfl, HA, HJ52, HO_4, HO_12, HB⟩ := hcut
      cases kq with
      | zero => exact absurd HA.out (by simp [laws_FnCovers.j1])
      | succ kj52 =>
       have H := HA.out
       clear HA
       simp only [laws_FnCovers.j1] at H
       have HC55 := Aside0.mk H
       clear H
       go_upto_if 139 with (fail)
       go_cut [] (fun wc => ∃ (kq : Nat), Aside0 (laws_FnCovers.j5 kq l0 = some r) ∧ Aside0 (kq ≤ kj52) ∧ Aside0 (Below w.heap.size w wc))
       case first => as_aux_lemma =>
        have H := HC55.out
        clear HC55
        by_cases c56 : x139_52 = true
        ·
         subst c56
         have H1 : ((impl_IsSuperprimitive.f kj52 t616).bind fun bt634 => (if bt634.2 = 0 then (if t617 = 0 then (if bt634.1 = true then (if (t608.length : Int) < 1 then (laws_FnCovers.j2 kj52 l0 t607 t608 true) else (if 0 < (t608.length : Int) then (if (rdOf ByteArray.empty t608 0).toList = t616.toList then (if 0 ≤ (wrap64 ((t608.length : Int) - 1)) then (if (wrap64 ((t608.length : Int) - 1)) < (t608.length : Int) then (if (rdOf ByteArray.empty t608 (wrap64 ((t608.length : Int) - 1))).toList = t607.toList then (if (t628 != (t616.toList == t607.toList)) = true then (laws_FnCovers.j2 kj52 l0 t607 t608 true) else (if 0 ≤ (wrap64 ((t607.size : Int) - 1)) then (if (wrap64 ((t607.size : Int) - 1)) < (t620.length : Int) then (laws_FnCovers.j2 kj52 l0 t607 t608 ((rd t620 (wrap64 ((t607.size : Int) - 1))) != (t616.size : Int))) else (none)) else (none))) else (laws_FnCovers.j2 kj52 l0 t607 t608 true)) else (none)) else (none)) else (laws_FnCovers.j2 kj52 l0 t607 t608 true)) else (none))) else (laws_FnCovers.j2 kj52 l0 t607 t608 true)) else (laws_FnCovers.j2 kj52 l0 t607 t608 true)) else (laws_FnCovers.j2 kj52 l0 t607 t608 true))) = some r := by rw [if_pos rfl] at H; exact H
         clear H
         have H := H1
         clear H1
         replace H := Option.bind_eq_some_iff.mp H
         obtain ⟨⟨t634, t635⟩, A570, H⟩ := H
         replace H : (if t635 = 0 then (if t617 = 0 then (if t634 = true then (if (t608.length : Int) < 1 then (laws_FnCovers.j2 kj52 l0 t607 t608 true) else (if 0 < (t608.length : Int) then (if (rdOf ByteArray.empty t608 0).toList = t616.toList then (if 0 ≤ (wrap64 ((t608.length : Int) - 1)) then (if (wrap64 ((t608.length : Int) - 1)) < (t608.length : Int) then (if (rdOf ByteArray.empty t608 (wrap64 ((t608.length : Int) - 1))).toList = t607.toList then (if (t628 != (t616.toList == t607.toList)) = true then (laws_FnCovers.j2 kj52 l0 t607 t608 true) else (if 0 ≤ (wrap64 ((t607.size : Int) - 1)) then (if (wrap64 ((t607.size : Int) - 1)) < (t620.length : Int) then (laws_FnCovers.j2 kj52 l0 t607 t608 ((rd t620 (wrap64 ((t607.size : Int) - 1))) != (t616.size : Int))) else (none)) else (none))) else (laws_FnCovers.j2 kj52 l0 t607 t608 true)) else (none)) else (none)) else (laws_FnCovers.j2 kj52 l0 t607 t608 true)) else (none))) else (laws_FnCovers.j2 kj52 l0 t607 t608 true)) else (laws_FnCovers.j2 kj52 l0 t607 t608 true)) else (laws_FnCovers.j2 kj52 l0 t607 t608 true)) = some r := H
         have A57 := Aside0.mk A570
         clear A570
         have HC58 := Aside0.mk H
         clear H
         go_upto_region 16 with (first | ((with_reducible refine gate_callee (f := 12) rfl ?_); refine goesL_ (some 142) rfl rfl Try.func12 (by kernel_rfl) rfl #[.string t616] rfl qV ?_; (with_reducible refine (impl_IsSuperprimitive.calls kj52 t616 t634 t635 _ A57.out).mono ?_); rintro e w59 ⟨rfl, hb⟩; refine ⟨_, rfl, ?_⟩; have n0_ := Aside0.mk (Kd.R_below (qR HO_4.out) hb); have n1_ := Aside0.mk (Kd.R_below (qR HO_12.out) hb); have n2_ := Aside0.mk (below_step (qB HB.out) hb); clear HO_4; clear HO_12; clear HB; have HO_4 := n0_; have HO_12 := n1_; have HB := n2_; clear n0_ n1_ n2_))
         (try simp only [Act.put, List.setIfInBounds_toArray, List.set_cons_zero, List.set_cons_succ])
         go_cut [194] (fun v194 wc => ∃ (kq : Nat) (x194_57 : Bool), v194 = .bool x194_57 ∧ Aside0 (laws_FnCovers.j2 kq l0 t607 t608 x194_57 = some r) ∧ Aside0 (kq ≤ kj52) ∧ Aside0 (Kd.R Kd.string 9 wc w.heap.size (fun _ => True) v610 t608) ∧ Aside0 (Below w.heap.size w wc))
         case first => as_aux_lemma =>
          have H := HC58.out
          clear HC58
          by_cases c60 : t635 = 0
          ·
           rw [if_pos c60] at H
           have c60b0 : (t635 == 0) = true := beq_iff_eq.mpr c60
           have c60b1 : (t635 != 0) = false := bne_eq_false_iff_eq.mpr c60
           clear c60
           (first | rw [c60b0] | (simp only [i64_w, i32_w]; rw [c60b0]) | skip)
           by_cases c61 : t617 = 0
           ·
            rw [if_pos c61] at H
            have c61b0 : (t617 == 0) = true := beq_iff_eq.mpr c61
            have c61b1 : (t617 != 0) = false := bne_eq_false_iff_eq.mpr c61
            clear c61
            by_cases c62 : t634 = true
            ·
             subst c62
             have H1 : (if (t608.length : Int) < 1 then (laws_FnCovers.j2 kj52 l0 t607 t608 true) else (if 0 < (t608.length : Int) then (if (rdOf ByteArray.empty t608 0).toList = t616.toList then (if 0 ≤ (wrap64 ((t608.length : Int) - 1)) then (if (wrap64 ((t608.length : Int) - 1)) < (t608.length : Int) then (if (rdOf ByteArray.empty t608 (wrap64 ((t608.length : Int) - 1))).toList = t607.toList then (if (t628 != (t616.toList == t607.toList)) = true then (laws_FnCovers.j2 kj52 l0 t607 t608 true) else (if 0 ≤ (wrap64 ((t607.size : Int) - 1)) then (if (wrap64 ((t607.size : Int) - 1)) < (t620.length : Int) then (laws_FnCovers.j2 kj52 l0 t607 t608 ((rd t620 (wrap64 ((t607.size : Int) - 1))) != (t616.size : Int))) else (none)) else (none))) else (laws_FnCovers.j2 kj52 l0 t607 t608 true)) else (none)) else (none)) else (laws_FnCovers.j2 kj52 l0 t607 t608 true)) else (none))) = some r := by rw [if_pos rfl] at H; exact H
             clear H
             have H := H1
             clear H1
             by_cases c63 : (t608.length : Int) < 1
             ·
              rw [if_pos c63] at H
              have c63b0 : decide ((t608.length : Int) < 1) = true := decide_eq_true c63
              have c63b1 : decide (t608.length < 1) = true := decide_eq_true (by omega)
              clear c63
              have H' := Aside0.mk H
              clear H
              obtain ⟨Ao64, co64, eo64⟩ := Kd.R_slice HO_4.out
              subst eo64
              as_aux_lemma =>
               go_wp2
               go_meet
               case rel => exact ⟨_, (true), qF, H', ⟨by have := HJ12.out; have := HJ52.out; first | omega | exact Nat.le_refl _⟩, ⟨qR HO_4.out⟩, ⟨qB HB.out⟩⟩
             ·
              rw [if_neg c63] at H
              have c63b0 : decide ((t608.length : Int) < 1) = false := decide_eq_false c63
              have c63b1 : decide (t608.length < 1) = false := decide_eq_false (by omega)
              clear c63
              by_cases c65 : 0 < (t608.length : Int)
              ·
               rw [if_pos c65] at H
               have c65b0 : decide (0 < (t608.length : Int)) = true := decide_eq_true c65
               have c65b1 : decide (0 < t608.length) = true := decide_eq_true (by omega)
               clear c65
               by_cases c66 : (rdOf ByteArray.empty t608 0).toList = t616.toList
               ·
                rw [if_pos c66] at H
                have c66b0 : ((rdOf ByteArray.empty t608 0).toList == t616.toList) = true := beq_iff_eq.mpr c66
                have c66b1 : ((rdOf ByteArray.empty t608 0).toList != t616.toList) = false := bne_eq_false_iff_eq.mpr c66
                clear c66
                obtain ⟨ji67, hji67⟩ : ∃ j_ : Int, (wrap64 ((t608.length : Int) - 1)) = j_ := ⟨_, rfl⟩
                replace H : (if 0 ≤ (ji67) then (if (ji67) < (t608.length : Int) then (if (rdOf ByteArray.empty t608 (ji67)).toList = t607.toList then (if (t628 != (t616.toList == t607.toList)) = true then (laws_FnCovers.j2 kj52 l0 t607 t608 true) else (if 0 ≤ (wrap64 ((t607.size : Int) - 1)) then (if (wrap64 ((t607.size : Int) - 1)) < (t620.length : Int) then (laws_FnCovers.j2 kj52 l0 t607 t608 ((rd t620 (wrap64 ((t607.size : Int) - 1))) != (t616.size : Int))) else (none)) else (none))) else (laws_FnCovers.j2 kj52 l0 t607 t608 true)) else (none)) else (none)) = some r := by first | (rw [hji67] at H; exact H) | (simp only [hji67] at H ⊢; exact H)
                have hji67w : (IntKind.i64.wrap ((t608.length : Int) - 1)) = ji67 := (i64_w _).trans hji67
                by_cases c68 : 0 ≤ (ji67)
                ·
                 rw [if_pos c68] at H
                 have c68b0 : decide (0 ≤ (ji67)) = true := decide_eq_true c68
                 clear c68
                 by_cases c69 : (ji67) < (t608.length : Int)
                 ·
                  rw [if_pos c69] at H
                  have c69b0 : decide ((ji67) < (t608.length : Int)) = true := decide_eq_true c69
                  clear c69
                  by_cases c70 : (rdOf ByteArray.empty t608 (ji67)).toList = t607.toList
                  ·
                   rw [if_pos c70] at H
                   have c70b0 : ((rdOf ByteArray.empty t608 (ji67)).toList == t607.toList) = true := beq_iff_eq.mpr c70
                   have c70b1 : ((rdOf ByteArray.empty t608 (ji67)).toList != t607.toList) = false := bne_eq_false_iff_eq.mpr c70
                   clear c70
                   by_cases c71 : (t628 != (t616.toList == t607.toList)) = true
                   ·
                    rw [if_pos c71] at H
                    have c71b0 : (t628 != (t616.toList == t607.toList)) = true := c71
                    (try (have c71b1 : decide (t628 = (t616.toList == t607.toList)) = false := by simpa using c71))
                    (try (have c71b2 : (t628 == (t616.toList == t607.toList)) = false := by simpa using c71))
                    (try (have c71b3 : ¬ (t628 = (t616.toList == t607.toList)) := by simpa using c71))
                    clear c71
                    have H' := Aside0.mk H
                    clear H
                    obtain ⟨Ao72, co72, eo72⟩ := Kd.R_slice HO_4.out
                    subst eo72
                    have p636 : 0 ≤ (0 : Int) := (by omega)
                    have q636 : 0 < (t608.length : Int) := of_decide_eq_true (by first | (with_reducible assumption) | assumption)
                    obtain ⟨ad636, e636, hx636_0⟩ := Kd.at_string (Kd.R_reads' HO_4.out).2.2 0 p636 q636
                    cases e636
                    have qi636 : (0 < t608.length) = True := eq_true (by omega)
                    (try rw [show ((0 : Int)).toNat = 0 from rfl] at hx636_0)
                    (try rw [Addr.add_zero'] at hx636_0)
                    replace p636 := eq_true p636
                    replace q636 := eq_true q636
                    have p637 : 0 ≤ ((ji67) : Int) := of_decide_eq_true (by first | (with_reducible assumption) | assumption)
                    have q637 : (ji67) < (t608.length : Int) := of_decide_eq_true (by first | (with_reducible assumption) | assumption)
                    obtain ⟨ad637, e637, hx637_0⟩ := Kd.at_string (Kd.R_reads' HO_4.out).2.2 (ji67) p637 q637
                    obtain rfl : ad636 = ad637 := (by injection e637)
                    replace p637 := eq_true p637
                    replace q637 := eq_true q637
                    as_aux_lemma =>
                     go_wp2
                     go_meet
                     case rel => exact ⟨_, (true), qF, H', ⟨by have := HJ12.out; have := HJ52.out; first | omega | exact Nat.le_refl _⟩, ⟨qR HO_4.out⟩, ⟨qB HB.out⟩⟩
                   ·
                    rw [if_neg c71] at H
                    have c71b0 : (t628 != (t616.toList == t607.toList)) = false := by simpa using c71
                    (try (have c71b1 : decide (t628 = (t616.toList == t607.toList)) = true := by simpa using c71))
                    (try (have c71b2 : (t628 == (t616.toList == t607.toList)) = true := by simpa using c71))
                    clear c71
                    obtain ⟨ji73, hji73⟩ : ∃ j_ : Int, (wrap64 ((t607.size : Int) - 1)) = j_ := ⟨_, rfl⟩
                    replace H : (if 0 ≤ (ji73) then (if (ji73) < (t620.length : Int) then (laws_FnCovers.j2 kj52 l0 t607 t608 ((rd t620 (ji73)) != (t616.size : Int))) else (none)) else (none)) = some r := by first | (rw [hji73] at H; exact H) | (simp only [hji73] at H ⊢; exact H)
                    have hji73w : (IntKind.i64.wrap ((t607.size : Int) - 1)) = ji73 := (i64_w _).trans hji73
                    by_cases c74 : 0 ≤ (ji73)
                    ·
                     rw [if_pos c74] at H
                     have c74b0 : decide (0 ≤ (ji73)) = true := decide_eq_true c74
                     clear c74
                     by_cases c75 : (ji73) < (t620.length : Int)
                     ·
                      rw [if_pos c75] at H
                      have c75b0 : decide ((ji73) < (t620.length : Int)) = true := decide_eq_true c75
                      clear c75
                      have H' := Aside0.mk H
                      clear H
                      obtain ⟨Ao76, co76, eo76⟩ := Kd.R_slice HO_4.out
                      subst eo76
                      have p636 : 0 ≤ (0 : Int) := (by omega)
                      have q636 : 0 < (t608.length : Int) := of_decide_eq_true (by first | (with_reducible assumption) | assumption)
                      obtain ⟨ad636, e636, hx636_0⟩ := Kd.at_string (Kd.R_reads' HO_4.out).2.2 0 p636 q636
                      cases e636
                      have qi636 : (0 < t608.length) = True := eq_true (by omega)
                      (try rw [show ((0 : Int)).toNat = 0 from rfl] at hx636_0)
                      (try rw [Addr.add_zero'] at hx636_0)
                      replace p636 := eq_true p636
                      replace q636 := eq_true q636
                      have p637 : 0 ≤ ((ji67) : Int) := of_decide_eq_true (by first | (with_reducible assumption) | assumption)
                      have q637 : (ji67) < (t608.length : Int) := of_decide_eq_true (by first | (with_reducible assumption) | assumption)
                      obtain ⟨ad637, e637, hx637_0⟩ := Kd.at_string (Kd.R_reads' HO_4.out).2.2 (ji67) p637 q637
                      obtain rfl : ad636 = ad637 := (by injection e637)
                      replace p637 := eq_true p637
                      replace q637 := eq_true q637
                      obtain ⟨Ao77, co77, eo77⟩ := Kd.R_slice HO_12.out
                      subst eo77
                      have p638 : 0 ≤ ((ji73) : Int) := of_decide_eq_true (by first | (with_reducible assumption) | assumption)
                      have q638 : (ji73) < (t620.length : Int) := of_decide_eq_true (by first | (with_reducible assumption) | assumption)
                      obtain ⟨ad638, e638, hx638_0⟩ := Kd.at_int (Kd.R_reads' HO_12.out).2.2 (ji73) p638 q638
                      cases e638
                      replace p638 := eq_true p638
                      replace q638 := eq_true q638
                      as_aux_lemma =>
                       go_wp2
                       go_meet
                       case rel => exact ⟨_, (((rd t620 (ji73)) != (t616.size : Int))), (by first | rfl | (simp; done) | (simp only [← hji73] <;> (first | rfl | simp)) | (simp [*]; done)), H', ⟨by have := HJ12.out; have := HJ52.out; first | omega | exact Nat.le_refl _⟩, ⟨qR HO_4.out⟩, ⟨qB HB.out⟩⟩
                     ·
                      rw [if_neg c75] at H
                      exact absurd H (by simp)
                    ·
                     rw [if_neg c74] at H
                     exact absurd H (by simp)
                  ·
                   rw [if_neg c70] at H
                   have c70b0 : ((rdOf ByteArray.empty t608 (ji67)).toList == t607.toList) = false := beq_eq_false_iff_ne.mpr c70
                   have c70b1 : ((rdOf ByteArray.empty t608 (ji67)).toList != t607.toList) = true := bne_iff_ne.mpr c70
                   have H' := Aside0.mk H
                   clear H
                   obtain ⟨Ao78, co78, eo78⟩ := Kd.R_slice HO_4.out
                   subst eo78
                   have p636 : 0 ≤ (0 : Int) := (by omega)
                   have q636 : 0 < (t608.length : Int) := of_decide_eq_true (by first | (with_reducible assumption) | assumption)
                   obtain ⟨ad636, e636, hx636_0⟩ := Kd.at_string (Kd.R_reads' HO_4.out).2.2 0 p636 q636
                   cases e636
                   have qi636 : (0 < t608.length) = True := eq_true (by omega)
                   (try rw [show ((0 : Int)).toNat = 0 from rfl] at hx636_0)
                   (try rw [Addr.add_zero'] at hx636_0)
                   replace p636 := eq_true p636
                   replace q636 := eq_true q636
                   have p637 : 0 ≤ ((ji67) : Int) := of_decide_eq_true (by first | (with_reducible assumption) | assumption)
                   have q637 : (ji67) < (t608.length : Int) := of_decide_eq_true (by first | (with_reducible assumption) | assumption)
                   obtain ⟨ad637, e637, hx637_0⟩ := Kd.at_string (Kd.R_reads' HO_4.out).2.2 (ji67) p637 q637
                   obtain rfl : ad636 = ad637 := (by injection e637)
                   replace p637 := eq_true p637
                   replace q637 := eq_true q637
                   as_aux_lemma =>
                    go_wp2
                    go_meet
                    case rel => exact ⟨_, (true), qF, H', ⟨by have := HJ12.out; have := HJ52.out; first | omega | exact Nat.le_refl _⟩, ⟨qR HO_4.out⟩, ⟨qB HB.out⟩⟩
                 ·
                  rw [if_neg c69] at H
                  exact absurd H (by simp)
                ·
                 rw [if_neg c68] at H
                 exact absurd H (by simp)
               ·
                rw [if_neg c66] at H
                have c66b0 : ((rdOf ByteArray.empty t608 0).toList == t616.toList) = false := beq_eq_false_iff_ne.mpr c66
                have c66b1 : ((rdOf ByteArray.empty t608 0).toList != t616.toList) = true := bne_iff_ne.mpr c66
                have H' := Aside0.mk H
                clear H
                obtain ⟨Ao79, co79, eo79⟩ := Kd.R_slice HO_4.out
                subst eo79
                have p636 : 0 ≤ (0 : Int) := (by omega)
                have q636 : 0 < (t608.length : Int) := of_decide_eq_true (by first | (with_reducible assumption) | assumption)
                obtain ⟨ad636, e636, hx636_0⟩ := Kd.at_string (Kd.R_reads' HO_4.out).2.2 0 p636 q636
                cases e636
                have qi636 : (0 < t608.length) = True := eq_true (by omega)
                (try rw [show ((0 : Int)).toNat = 0 from rfl] at hx636_0)
                (try rw [Addr.add_zero'] at hx636_0)
                replace p636 := eq_true p636
                replace q636 := eq_true q636
                as_aux_lemma =>
                 go_wp2
                 go_meet
                 case rel => exact ⟨_, (true), qF, H', ⟨by have := HJ12.out; have := HJ52.out; first | omega | exact Nat.le_refl _⟩, ⟨qR HO_4.out⟩, ⟨qB HB.out⟩⟩
              ·
               rw [if_neg c65] at H
               exact absurd H (by simp)
            ·
             replace c62 := Bool.eq_false_iff.mpr c62
             subst c62
             have H1 : (laws_FnCovers.j2 kj52 l0 t607 t608 true) = some r := by rw [if_neg (show ¬ (false = true) by decide)] at H; exact H
             clear H
             have H := H1
             clear H1
             have H' := Aside0.mk H
             clear H
             as_aux_lemma =>
              go_wp2
              go_meet
              case rel => exact ⟨_, (true), qF, H', ⟨by have := HJ12.out; have := HJ52.out; first | omega | exact Nat.le_refl _⟩, ⟨qR HO_4.out⟩, ⟨qB HB.out⟩⟩
           ·
            rw [if_neg c61] at H
            have c61b0 : (t617 == 0) = false := beq_eq_false_iff_ne.mpr c61
            have c61b1 : (t617 != 0) = true := bne_iff_ne.mpr c61
            have H' := Aside0.mk H
            clear H
            as_aux_lemma =>
             go_wp2
             go_meet
             case rel => exact ⟨_, (true), qF, H', ⟨by have := HJ12.out; have := HJ52.out; first | omega | exact Nat.le_refl _⟩, ⟨qR HO_4.out⟩, ⟨qB HB.out⟩⟩
          ·
           rw [if_neg c60] at H
           have c60b0 : (t635 == 0) = false := beq_eq_false_iff_ne.mpr c60
           have c60b1 : (t635 != 0) = true := bne_iff_ne.mpr c60
           (first | rw [c60b0] | (simp only [i64_w, i32_w]; rw [c60b0]) | skip)
           have H' := Aside0.mk H
           clear H
           as_aux_lemma =>
            go_wp2
            go_meet
            case rel => exact ⟨_, (true), qF, H', ⟨by have := HJ12.out; have := HJ52.out; first | omega | exact Nat.le_refl _⟩, ⟨qR HO_4.out⟩, ⟨qB HB.out⟩⟩
         case rest => as_aux_lemma =>
          clear HC58
          obtain ⟨kq, x194_57, rfl, HA, HJ57, HO_4, HB⟩ := hcut
          cases kq with
          | zero => exact absurd HA.out (by simp [laws_FnCovers.j2])
          | succ kj57 =>
           have H := HA.out
           clear HA
           simp only [laws_FnCovers.j2] at H
           by_cases c80 : x194_57 = true
           ·
            subst c80
            have H1 : (some false) = some r := by rw [if_pos rfl] at H; exact H
            clear H
            have H := H1
            clear H1
            obtain rfl := Option.some.inj H
            as_aux_lemma =>
             go_wp2
             go_ret
             exact ⟨qE, qB HB.out⟩
           ·
            replace c80 := Bool.eq_false_iff.mpr c80
            subst c80
            have H1 : (laws_FnCovers.l0 kj57 l0 t607 t608 0) = some r := by rw [if_neg (show ¬ (false = true) by decide)] at H; exact H
            clear H
            have H := H1
            clear H1
            have H' := Aside0.mk H
            clear H
            go_wp2
            go_loopg [22] kj57 (fun kq v22 w' => ∃ (x22_4 : Int), v22 = .int .i64 x22_4 ∧ Aside0 (laws_FnCovers.l0 kq l0 t607 t608 x22_4 = some r) ∧ Aside0 (kq ≤ kj57) ∧ Aside0 (Kd.R Kd.string 9 w' w.heap.size (fun _ => True) v610 t608) ∧ Aside0 (Below w.heap.size w w'))
            case atStart => exact ⟨(0), qF, H', ⟨Nat.le_refl _⟩, ⟨qR HO_4.out⟩, ⟨qB HB.out⟩⟩
            case round =>
             clear H'
             obtain ⟨x22_4, rfl, HA, HK4, HO_4, HB⟩ := hrel
             cases gk with
             | zero => exact absurd HA.out (by simp [laws_FnCovers.l0])
             | succ k4 =>
              have H := HA.out
              clear HA
              simp only [laws_FnCovers.l0] at H
              by_cases c81 : x22_4 < (t608.length : Int)
              ·
               rw [if_pos c81] at H
               have c81b0 : decide (x22_4 < (t608.length : Int)) = true := decide_eq_true c81
               clear c81
               by_cases c82 : 0 ≤ x22_4
               ·
                rw [if_pos c82] at H
                have c82b0 : decide (0 ≤ x22_4) = true := decide_eq_true c82
                clear c82
                replace H := Option.bind_eq_some_iff.mp H
                obtain ⟨⟨t640, t641⟩, A830, H⟩ := H
                replace H : ((impl_UncoveredPlaces.f k4 t607 (rdOf ByteArray.empty t608 x22_4)).bind fun bt643 => ((impl_IsSeed.f k4 t607 (rdOf ByteArray.empty t608 x22_4)).bind fun bt648 => (if t641 = 0 then (if bt643.2 = 0 then (if bt648.2 = 0 then (if t640 = true then (if (bt643.1.length : Int) = 0 then (laws_FnCovers.j4 k4 l0 t607 t608 x22_4 (!bt648.1)) else (laws_FnCovers.j4 k4 l0 t607 t608 x22_4 true)) else (laws_FnCovers.j4 k4 l0 t607 t608 x22_4 true)) else (laws_FnCovers.j4 k4 l0 t607 t608 x22_4 true)) else (laws_FnCovers.j4 k4 l0 t607 t608 x22_4 true)) else (laws_FnCovers.j4 k4 l0 t607 t608 x22_4 true)))) = some r := H
                have A83 := Aside0.mk A830
                clear A830
                replace H := Option.bind_eq_some_iff.mp H
                obtain ⟨⟨t643, t644⟩, A840, H⟩ := H
                replace H : ((impl_IsSeed.f k4 t607 (rdOf ByteArray.empty t608 x22_4)).bind fun bt648 => (if t641 = 0 then (if t644 = 0 then (if bt648.2 = 0 then (if t640 = true then (if (t643.length : Int) = 0 then (laws_FnCovers.j4 k4 l0 t607 t608 x22_4 (!bt648.1)) else (laws_FnCovers.j4 k4 l0 t607 t608 x22_4 true)) else (laws_FnCovers.j4 k4 l0 t607 t608 x22_4 true)) else (laws_FnCovers.j4 k4 l0 t607 t608 x22_4 true)) else (laws_FnCovers.j4 k4 l0 t607 t608 x22_4 true)) else (laws_FnCovers.j4 k4 l0 t607 t608 x22_4 true))) = some r := H
                have A84 := Aside0.mk A840
                clear A840
                replace H := Option.bind_eq_some_iff.mp H
                obtain ⟨⟨t648, t649⟩, A850, H⟩ := H
                replace H : (if t641 = 0 then (if t644 = 0 then (if t649 = 0 then (if t640 = true then (if (t643.length : Int) = 0 then (laws_FnCovers.j4 k4 l0 t607 t608 x22_4 (!t648)) else (laws_FnCovers.j4 k4 l0 t607 t608 x22_4 true)) else (laws_FnCovers.j4 k4 l0 t607 t608 x22_4 true)) else (laws_FnCovers.j4 k4 l0 t607 t608 x22_4 true)) else (laws_FnCovers.j4 k4 l0 t607 t608 x22_4 true)) else (laws_FnCovers.j4 k4 l0 t607 t608 x22_4 true)) = some r := H
                have A85 := Aside0.mk A850
                clear A850
                have HC86 := Aside0.mk H
                clear H
                obtain ⟨Ao87, co87, eo87⟩ := Kd.R_slice HO_4.out
                subst eo87
                have p639 : 0 ≤ (x22_4 : Int) := of_decide_eq_true (by first | (with_reducible assumption) | assumption)
                have q639 : x22_4 < (t608.length : Int) := of_decide_eq_true (by first | (with_reducible assumption) | assumption)
                obtain ⟨ad639, e639, hx639_0⟩ := Kd.at_string (Kd.R_reads' HO_4.out).2.2 x22_4 p639 q639
                cases e639
                replace p639 := eq_true p639
                replace q639 := eq_true q639
                go_upto_region 24 with (first | ((with_reducible refine gate_callee (f := 16) rfl ?_); refine goesL_ (some 207) rfl rfl Try.func16 (by kernel_rfl) rfl #[.string t607, .string (rdOf ByteArray.empty t608 x22_4)] rfl qV ?_; (with_reducible refine (impl_IsCover.calls k4 t607 (rdOf ByteArray.empty t608 x22_4) t640 t641 _ A83.out).mono ?_); rintro e w88 ⟨rfl, hb⟩; refine ⟨_, rfl, ?_⟩; have n0_ := Aside0.mk (Kd.R_below (qR HO_4.out) hb); have n1_ := Aside0.mk (below_step (qB HB.out) hb); clear HO_4; clear HB; have HO_4 := n0_; have HB := n1_; clear n0_ n1_; have p642 : 0 ≤ (x22_4 : Int) := of_decide_eq_true (by first | (with_reducible assumption) | assumption); have q642 : x22_4 < (t608.length : Int) := of_decide_eq_true (by first | (with_reducible assumption) | assumption); obtain ⟨ad642, e642, hx642_0⟩ := Kd.at_string (Kd.R_reads' HO_4.out).2.2 x22_4 p642 q642; obtain rfl : ad639 = ad642 := (by injection e642); replace p642 := eq_true p642; replace q642 := eq_true q642) | ((with_reducible refine gate_callee (f := 17) rfl ?_); refine goesL_ (some 216) rfl rfl Try.func17 (by kernel_rfl) rfl #[.string t607, .string (rdOf ByteArray.empty t608 x22_4)] rfl qV ?_; (with_reducible refine (impl_UncoveredPlaces.calls k4 t607 (rdOf ByteArray.empty t608 x22_4) t643 t644 _ A84.out).mono ?_); rintro e w89 ⟨v645, rfl, ho0, hb⟩; refine ⟨_, rfl, ?_⟩; have n0_ := Aside0.mk (Kd.R_below (qR HO_4.out) hb); have n1_ := Aside0.mk (Kd.R_lower ho0 (below_size (qB HB.out))); have n2_ := Aside0.mk (below_step (qB HB.out) hb); clear HO_4; clear HB; have HO_4 := n0_; have HO646 := n1_; have HB := n2_; clear n0_ n1_ n2_; have p647 : 0 ≤ (x22_4 : Int) := of_decide_eq_true (by first | (with_reducible assumption) | assumption); have q647 : x22_4 < (t608.length : Int) := of_decide_eq_true (by first | (with_reducible assumption) | assumption); obtain ⟨ad647, e647, hx647_0⟩ := Kd.at_string (Kd.R_reads' HO_4.out).2.2 x22_4 p647 q647; obtain rfl : ad639 = ad647 := (by injection e647); replace p647 := eq_true p647; replace q647 := eq_true q647) | ((with_reducible refine gate_callee (f := 18) rfl ?_); refine goesL_ (some 225) rfl rfl Try.func18 (by kernel_rfl) rfl #[.string t607, .string (rdOf ByteArray.empty t608 x22_4)] rfl qV ?_; (with_reducible refine (impl_IsSeed.calls k4 t607 (rdOf ByteArray.empty t608 x22_4) t648 t649 _ A85.out).mono ?_); rintro e w90 ⟨rfl, hb⟩; refine ⟨_, rfl, ?_⟩; have n0_ := Aside0.mk (Kd.R_below (qR HO_4.out) hb); have n1_ := Aside0.mk (Kd.R_below (qR HO646.out) hb); have n2_ := Aside0.mk (below_step (qB HB.out) hb); clear HO_4; clear HO646; clear HB; have HO_4 := n0_; have HO646 := n1_; have HB := n2_; clear n0_ n1_ n2_))
                (try simp only [Act.put, List.setIfInBounds_toArray, List.set_cons_zero, List.set_cons_succ])
                go_cut [250] (fun v250 wc => ∃ (kq : Nat) (x250_85 : Bool), v250 = .bool x250_85 ∧ Aside0 (laws_FnCovers.j4 kq l0 t607 t608 x22_4 x250_85 = some r) ∧ Aside0 (kq ≤ k4) ∧ Aside0 (Kd.R Kd.string 9 wc w.heap.size (fun _ => True) (.slice (some ad639) t608.length co87) t608) ∧ Aside0 (Below w.heap.size w wc))
                case first => as_aux_lemma =>
                 have H := HC86.out
                 clear HC86
                 by_cases c91 : t641 = 0
                 ·
                  rw [if_pos c91] at H
                  have c91b0 : (t641 == 0) = true := beq_iff_eq.mpr c91
                  have c91b1 : (t641 != 0) = false := bne_eq_false_iff_eq.mpr c91
                  clear c91
                  (first | rw [c91b0] | (simp only [i64_w, i32_w]; rw [c91b0]) | skip)
                  by_cases c92 : t644 = 0
                  ·
                   rw [if_pos c92] at H
                   have c92b0 : (t644 == 0) = true := beq_iff_eq.mpr c92
                   have c92b1 : (t644 != 0) = false := bne_eq_false_iff_eq.mpr c92
                   clear c92
                   by_cases c93 : t649 = 0
                   ·
                    rw [if_pos c93] at H
                    have c93b0 : (t649 == 0) = true := beq_iff_eq.mpr c93
                    have c93b1 : (t649 != 0) = false := bne_eq_false_iff_eq.mpr c93
                    clear c93
                    by_cases c94 : t640 = true
                    ·
                     subst c94
                     have H1 : (if (t643.length : Int) = 0 then (laws_FnCovers.j4 k4 l0 t607 t608 x22_4 (!t648)) else (laws_FnCovers.j4 k4 l0 t607 t608 x22_4 true)) = some r := by rw [if_pos rfl] at H; exact H
                     clear H
                     have H := H1
                     clear H1
                     by_cases c95 : (t643.length : Int) = 0
                     ·
                      rw [if_pos c95] at H
                      have c95b0 : ((t643.length : Int) == 0) = true := beq_iff_eq.mpr c95
                      have c95b1 : ((t643.length : Int) != 0) = false := bne_eq_false_iff_eq.mpr c95
                      clear c95
                      have H' := Aside0.mk H
                      clear H
                      obtain ⟨Ao96, co96, eo96⟩ := Kd.R_slice HO646.out
                      subst eo96
                      as_aux_lemma =>
                       go_wp2
                       go_meet
                       case rel => exact ⟨_, (!t648), qF, H', ⟨by have := HJ12.out; have := HJ52.out; have := HJ57.out; have := HK4.out; first | omega | exact Nat.le_refl _⟩, ⟨qR HO_4.out⟩, ⟨qB HB.out⟩⟩
                     ·
                      rw [if_neg c95] at H
                      have c95b0 : ((t643.length : Int) == 0) = false := beq_eq_false_iff_ne.mpr c95
                      have c95b1 : ((t643.length : Int) != 0) = true := bne_iff_ne.mpr c95
                      have c95b2 : ¬ (t643 = []) := fun h_ => c95 (by rw [h_]; rfl)
                      have H' := Aside0.mk H
                      clear H
                      obtain ⟨Ao97, co97, eo97⟩ := Kd.R_slice HO646.out
                      subst eo97
                      as_aux_lemma =>
                       go_wp2
                       go_meet
                       case rel => exact ⟨_, (true), qF, H', ⟨by have := HJ12.out; have := HJ52.out; have := HJ57.out; have := HK4.out; first | omega | exact Nat.le_refl _⟩, ⟨qR HO_4.out⟩, ⟨qB HB.out⟩⟩
                    ·
                     replace c94 := Bool.eq_false_iff.mpr c94
                     subst c94
                     have H1 : (laws_FnCovers.j4 k4 l0 t607 t608 x22_4 true) = some r := by rw [if_neg (show ¬ (false = true) by decide)] at H; exact H
                     clear H
                     have H := H1
                     clear H1
                     have H' := Aside0.mk H
                     clear H
                     as_aux_lemma =>
                      go_wp2
                      go_meet
                      case rel => exact ⟨_, (true), qF, H', ⟨by have := HJ12.out; have := HJ52.out; have := HJ57.out; have := HK4.out; first | omega | exact Nat.le_refl _⟩, ⟨qR HO_4.out⟩, ⟨qB HB.out⟩⟩
                   ·
                    rw [if_neg c93] at H
                    have c93b0 : (t649 == 0) = false := beq_eq_false_iff_ne.mpr c93
                    have c93b1 : (t649 != 0) = true := bne_iff_ne.mpr c93
                    have H' := Aside0.mk H
                    clear H
                    as_aux_lemma =>
                     go_wp2
                     go_meet
                     case rel => exact ⟨_, (true), qF, H', ⟨by have := HJ12.out; have := HJ52.out; have := HJ57.out; have := HK4.out; first | omega | exact Nat.le_refl _⟩, ⟨qR HO_4.out⟩, ⟨qB HB.out⟩⟩
                  ·
                   rw [if_neg c92] at H
                   have c92b0 : (t644 == 0) = false := beq_eq_false_iff_ne.mpr c92
                   have c92b1 : (t644 != 0) = true := bne_iff_ne.mpr c92
                   have H' := Aside0.mk H
                   clear H
                   as_aux_lemma =>
                    go_wp2
                    go_meet
                    case rel => exact ⟨_, (true), qF, H', ⟨by have := HJ12.out; have := HJ52.out; have := HJ57.out; have := HK4.out; first | omega | exact Nat.le_refl _⟩, ⟨qR HO_4.out⟩, ⟨qB HB.out⟩⟩
                 ·
                  rw [if_neg c91] at H
                  have c91b0 : (t641 == 0) = false := beq_eq_false_iff_ne.mpr c91
                  have c91b1 : (t641 != 0) = true := bne_iff_ne.mpr c91
                  (first | rw [c91b0] | (simp only [i64_w, i32_w]; rw [c91b0]) | skip)
                  have H' := Aside0.mk H
                  clear H
                  as_aux_lemma =>
                   go_wp2
                   go_meet
                   case rel => exact ⟨_, (true), qF, H', ⟨by have := HJ12.out; have := HJ52.out; have := HJ57.out; have := HK4.out; first | omega | exact Nat.le_refl _⟩, ⟨qR HO_4.out⟩, ⟨qB HB.out⟩⟩
                case rest => as_aux_lemma =>
                 clear HC86
                 obtain ⟨kq, x250_85, rfl, HA, HJ85, HO_4, HB⟩ := hcut
                 cases kq with
                 | zero => exact absurd HA.out (by simp [laws_FnCovers.j4])
                 | succ kj85 =>
                  have H := HA.out
                  clear HA
                  simp only [laws_FnCovers.j4] at H
                  by_cases c98 : x250_85 = true
                  ·
                   subst c98
                   have H1 : (some false) = some r := by rw [if_pos rfl] at H; exact H
                   clear H
                   have H := H1
                   clear H1
                   obtain rfl := Option.some.inj H
                   as_aux_lemma =>
                    go_wp2
                    go_ret
                    exact ⟨qE, qB HB.out⟩
                  ·
                   replace c98 := Bool.eq_false_iff.mpr c98
                   subst c98
                   have H1 : ((impl_BordersOf.f kj85 t607).bind fun bt650 => (if bt650.2 = 0 then (if 0 ≤ x22_4 then (if x22_4 < (t608.length : Int) then (if (rdOf ByteArray.empty t608 x22_4).toList = t607.toList then (laws_FnCovers.l0 kj85 l0 t607 t608 (wrap64 (x22_4 + 1))) else ((laws_hasInt.f kj85 bt650.1 ((rdOf ByteArray.empty t608 x22_4).size : Int)).bind fun t656 => (if t656 = true then (laws_FnCovers.l0 kj85 l0 t607 t608 (wrap64 (x22_4 + 1))) else (some false)))) else (none)) else (none)) else (some false))) = some r := by rw [if_neg (show ¬ (false = true) by decide)] at H; exact H
                   clear H
                   have H := H1
                   clear H1
                   replace H := Option.bind_eq_some_iff.mp H
                   obtain ⟨⟨t650, t651⟩, A990, H⟩ := H
                   replace H : (if t651 = 0 then (if 0 ≤ x22_4 then (if x22_4 < (t608.length : Int) then (if (rdOf ByteArray.empty t608 x22_4).toList = t607.toList then (laws_FnCovers.l0 kj85 l0 t607 t608 (wrap64 (x22_4 + 1))) else ((laws_hasInt.f kj85 t650 ((rdOf ByteArray.empty t608 x22_4).size : Int)).bind fun t656 => (if t656 = true then (laws_FnCovers.l0 kj85 l0 t607 t608 (wrap64 (x22_4 + 1))) else (some false)))) else (none)) else (none)) else (some false)) = some r := H
                   have A99 := Aside0.mk A990
                   clear A990
                   by_cases c100 : t651 = 0
                   ·
                    rw [if_pos c100] at H
                    have c100b0 : (t651 == 0) = true := beq_iff_eq.mpr c100
                    have c100b1 : (t651 != 0) = false := bne_eq_false_iff_eq.mpr c100
                    clear c100
                    by_cases c101 : 0 ≤ x22_4
                    ·
                     rw [if_pos c101] at H
                     have c101b0 : decide (0 ≤ x22_4) = true := decide_eq_true c101
                     clear c101
                     by_cases c102 : x22_4 < (t608.length : Int)
                     ·
                      rw [if_pos c102] at H
                      have c102b0 : decide (x22_4 < (t608.length : Int)) = true := decide_eq_true c102
                      clear c102
                      by_cases c103 : (rdOf ByteArray.empty t608 x22_4).toList = t607.toList
                      ·
                       rw [if_pos c103] at H
                       have c103b0 : ((rdOf ByteArray.empty t608 x22_4).toList == t607.toList) = true := beq_iff_eq.mpr c103
                       have c103b1 : ((rdOf ByteArray.empty t608 x22_4).toList != t607.toList) = false := bne_eq_false_iff_eq.mpr c103
                       clear c103
                       have H' := Aside0.mk H
                       clear H
                       as_aux_lemma =>
                        go_wp2_with (first | ((with_reducible refine gate_callee (f := 19) rfl ?_); refine goesL_ (some 253) rfl rfl Try.func19 (by kernel_rfl) rfl #[.string t607] rfl qV ?_; (with_reducible refine (impl_BordersOf.calls kj85 t607 t650 t651 _ A99.out).mono ?_); rintro e w104 ⟨v652, rfl, ho0, hb⟩; refine ⟨_, rfl, ?_⟩; have n0_ := Aside0.mk (Kd.R_below (qR HO_4.out) hb); have n1_ := Aside0.mk (Kd.R_lower ho0 (below_size (qB HB.out))); have n2_ := Aside0.mk (below_step (qB HB.out) hb); clear HO_4; clear HB; have HO_4 := n0_; have HO653 := n1_; have HB := n2_; clear n0_ n1_ n2_; have p654 : 0 ≤ (x22_4 : Int) := of_decide_eq_true (by first | (with_reducible assumption) | assumption); have q654 : x22_4 < (t608.length : Int) := of_decide_eq_true (by first | (with_reducible assumption) | assumption); obtain ⟨ad654, e654, hx654_0⟩ := Kd.at_string (Kd.R_reads' HO_4.out).2.2 x22_4 p654 q654; obtain rfl : ad639 = ad654 := (by injection e654); replace p654 := eq_true p654; replace q654 := eq_true q654))
                        go_roundg kj85
                        case measure => have := HJ12.out; have := HJ52.out; have := HJ57.out; have := HK4.out; have := HJ85.out; omega
                        case rel => exact ⟨(wrap64 (x22_4 + 1)), qF, H', ⟨by have := HJ12.out; have := HJ52.out; have := HJ57.out; have := HK4.out; have := HJ85.out; omega⟩, ⟨qR HO_4.out⟩, ⟨qB HB.out⟩⟩
                      ·
                       rw [if_neg c103] at H
                       have c103b0 : ((rdOf ByteArray.empty t608 x22_4).toList == t607.toList) = false := beq_eq_false_iff_ne.mpr c103
                       have c103b1 : ((rdOf ByteArray.empty t608 x22_4).toList != t607.toList) = true := bne_iff_ne.mpr c103
                       replace H := Option.bind_eq_some_iff.mp H
                       obtain ⟨t656, A1050, H⟩ := H
                       replace H : (if t656 = true then (laws_FnCovers.l0 kj85 l0 t607 t608 (wrap64 (x22_4 + 1))) else (some false)) = some r := H
                       have A105 := Aside0.mk A1050
                       clear A1050
                       by_cases c106 : t656 = true
                       ·
                        subst c106
                        have H1 : (laws_FnCovers.l0 kj85 l0 t607 t608 (wrap64 (x22_4 + 1))) = some r := by rw [if_pos rfl] at H; exact H
                        clear H
                        have H := H1
                        clear H1
                        have H' := Aside0.mk H
                        clear H
                        as_aux_lemma =>
                         go_wp2_with (first | ((with_reducible refine gate_callee (f := 19) rfl ?_); refine goesL_ (some 253) rfl rfl Try.func19 (by kernel_rfl) rfl #[.string t607] rfl qV ?_; (with_reducible refine (impl_BordersOf.calls kj85 t607 t650 t651 _ A99.out).mono ?_); rintro e w107 ⟨v652, rfl, ho0, hb⟩; refine ⟨_, rfl, ?_⟩; have n0_ := Aside0.mk (Kd.R_below (qR HO_4.out) hb); have n1_ := Aside0.mk (Kd.R_lower ho0 (below_size (qB HB.out))); have n2_ := Aside0.mk (below_step (qB HB.out) hb); clear HO_4; clear HB; have HO_4 := n0_; have HO653 := n1_; have HB := n2_; clear n0_ n1_ n2_; have p654 : 0 ≤ (x22_4 : Int) := of_decide_eq_true (by first | (with_reducible assumption) | assumption); have q654 : x22_4 < (t608.length : Int) := of_decide_eq_true (by first | (with_reducible assumption) | assumption); obtain ⟨ad654, e654, hx654_0⟩ := Kd.at_string (Kd.R_reads' HO_4.out).2.2 x22_4 p654 q654; obtain rfl : ad639 = ad654 := (by injection e654); replace p654 := eq_true p654; replace q654 := eq_true q654; have p655 : 0 ≤ (x22_4 : Int) := of_decide_eq_true (by first | (with_reducible assumption) | assumption); have q655 : x22_4 < (t608.length : Int) := of_decide_eq_true (by first | (with_reducible assumption) | assumption); obtain ⟨ad655, e655, hx655_0⟩ := Kd.at_string (Kd.R_reads' HO_4.out).2.2 x22_4 p655 q655; obtain rfl : ad639 = ad655 := (by injection e655); replace p655 := eq_true p655; replace q655 := eq_true q655; obtain ⟨Ao108, co108, eo108⟩ := Kd.R_slice HO653.out; subst eo108) | (go_at_call 20; (with_reducible refine (laws_hasInt.calls kj85 _ _ t650 ((rdOf ByteArray.empty t608 x22_4).size : Int) true _ ?side1 ?side2 A105.out).mono ?_); (case side1 => exact qC (Kd.R_reads' HO653.out).2.2); (case side2 => exact (Kd.R_reads' HO653.out).2.1); rintro e w' ⟨rfl, ⟨nd, rfl⟩⟩))
                         go_roundg kj85
                         case measure => have := HJ12.out; have := HJ52.out; have := HJ57.out; have := HK4.out; have := HJ85.out; omega
                         case rel => exact ⟨(wrap64 (x22_4 + 1)), qF, H', ⟨by have := HJ12.out; have := HJ52.out; have := HJ57.out; have := HK4.out; have := HJ85.out; omega⟩, ⟨qR HO_4.out⟩, ⟨qB HB.out⟩⟩
                       ·
                        replace c106 := Bool.eq_false_iff.mpr c106
                        subst c106
                        have H1 : (some false) = some r := by rw [if_neg (show ¬ (false = true) by decide)] at H; exact H
                        clear H
                        have H := H1
                        clear H1
                        obtain rfl := Option.some.inj H
                        as_aux_lemma =>
                         go_wp2_with (first | ((with_reducible refine gate_callee (f := 19) rfl ?_); refine goesL_ (some 253) rfl rfl Try.func19 (by kernel_rfl) rfl #[.string t607] rfl qV ?_; (with_reducible refine (impl_BordersOf.calls kj85 t607 t650 t651 _ A99.out).mono ?_); rintro e w109 ⟨v652, rfl, ho0, hb⟩; refine ⟨_, rfl, ?_⟩; have n0_ := Aside0.mk (Kd.R_below (qR HO_4.out) hb); have n1_ := Aside0.mk (Kd.R_lower ho0 (below_size (qB HB.out))); have n2_ := Aside0.mk (below_step (qB HB.out) hb); clear HO_4; clear HB; have HO_4 := n0_; have HO653 := n1_; have HB := n2_; clear n0_ n1_ n2_; have p654 : 0 ≤ (x22_4 : Int) := of_decide_eq_true (by first | (with_reducible assumption) | assumption); have q654 : x22_4 < (t608.length : Int) := of_decide_eq_true (by first | (with_reducible assumption) | assumption); obtain ⟨ad654, e654, hx654_0⟩ := Kd.at_string (Kd.R_reads' HO_4.out).2.2 x22_4 p654 q654; obtain rfl : ad639 = ad654 := (by injection e654); replace p654 := eq_true p654; replace q654 := eq_true q654; have p655 : 0 ≤ (x22_4 : Int) := of_decide_eq_true (by first | (with_reducible assumption) | assumption); have q655 : x22_4 < (t608.length : Int) := of_decide_eq_true (by first | (with_reducible assumption) | assumption); obtain ⟨ad655, e655, hx655_0⟩ := Kd.at_string (Kd.R_reads' HO_4.out).2.2 x22_4 p655 q655; obtain rfl : ad639 = ad655 := (by injection e655); replace p655 := eq_true p655; replace q655 := eq_true q655; obtain ⟨Ao110, co110, eo110⟩ := Kd.R_slice HO653.out; subst eo110) | (go_at_call 20; (with_reducible refine (laws_hasInt.calls kj85 _ _ t650 ((rdOf ByteArray.empty t608 x22_4).size : Int) false _ ?side1 ?side2 A105.out).mono ?_); (case side1 => exact qC (Kd.R_reads' HO653.out).2.2); (case side2 => exact (Kd.R_reads' HO653.out).2.1); rintro e w' ⟨rfl, ⟨nd, rfl⟩⟩))
                         go_ret
                         exact ⟨qE, qB HB.out⟩
                     ·
                      rw [if_neg c102] at H
                      exact absurd H (by simp)
                    ·
                     rw [if_neg c101] at H
                     exact absurd H (by simp)
                   ·
                    rw [if_neg c100] at H
                    have c100b0 : (t651 == 0) = false := beq_eq_false_iff_ne.mpr c100
                    have c100b1 : (t651 != 0) = true := bne_iff_ne.mpr c100
                    obtain rfl := Option.some.inj H
                    as_aux_lemma =>
                     go_wp2_with (first | ((with_reducible refine gate_callee (f := 19) rfl ?_); refine goesL_ (some 253) rfl rfl Try.func19 (by kernel_rfl) rfl #[.string t607] rfl qV ?_; (with_reducible refine (impl_BordersOf.calls kj85 t607 t650 t651 _ A99.out).mono ?_); rintro e w111 ⟨v652, rfl, ho0, hb⟩; refine ⟨_, rfl, ?_⟩; have n0_ := Aside0.mk (Kd.R_below (qR HO_4.out) hb); have n1_ := Aside0.mk (Kd.R_lower ho0 (below_size (qB HB.out))); have n2_ := Aside0.mk (below_step (qB HB.out) hb); clear HO_4; clear HB; have HO_4 := n0_; have HO653 := n1_; have HB := n2_; clear n0_ n1_ n2_))
                     go_ret
                     exact ⟨qE, qB HB.out⟩
               ·
                rw [if_neg c82] at H
                exact absurd H (by simp)
              ·
               rw [if_neg c81] at H
               have c81b0 : decide (x22_4 < (t608.length : Int)) = false := decide_eq_false c81
               clear c81
               have H' := Aside0.mk H
               clear H
               obtain ⟨Ao112, co112, eo112⟩ := Kd.R_slice HO_4.out
               subst eo112
               as_aux_lemma =>
                go_wp2
                go_meet
                case rel => exact ⟨_, H', ⟨by have := HJ12.out; have := HJ52.out; have := HJ57.out; have := HK4.out; first | omega | exact Nat.le_refl _⟩, ⟨qB HB.out⟩⟩
        ·
         replace c56 := Bool.eq_false_iff.mpr c56
         subst c56
         have H1 : (laws_FnCovers.j5 kj52 l0) = some r := by rw [if_neg (show ¬ (false = true) by decide)] at H; exact H
         clear H
         have H := H1
         clear H1
         have H' := Aside0.mk H
         clear H
         as_aux_lemma =>
          go_wp2
          go_meet
          case rel => exact ⟨_, H', ⟨by have := HJ12.out; have := HJ52.out; first | omega | exact Nat.le_refl _⟩, ⟨qB HB.out⟩⟩
       case rest => as_aux_lemma =>
        clear HC55
        obtain ⟨kq, HA, HJ54, HB⟩ := hcut
        cases kq with
        | zero => exact absurd HA.out (by simp [laws_FnCovers.j5])
        | succ kj54 =>
         have H := HA.out
         clear HA
         simp only [laws_FnCovers.j5] at H
         replace H := Option.bind_eq_some_iff.mp H
         obtain ⟨⟨t657, t658⟩, A1130, H⟩ := H
         replace H : ((impl_GrowByCover.f kj54 t657 t658).bind fun bt661 => ((spec_GrowByCover.f kj54 t657 t658).bind fun bt663 => (if bt661.2 = bt663.2 then (laws_FnCovers.j6 kj54 l0 t657 bt661.1 bt661.2 (bt661.1.toList != bt663.1.toList)) else (laws_FnCovers.j6 kj54 l0 t657 bt661.1 bt661.2 true)))) = some r := H
         have A113 := Aside0.mk A1130
         clear A1130
         replace H := Option.bind_eq_some_iff.mp H
         obtain ⟨⟨t661, t662⟩, A1140, H⟩ := H
         replace H : ((spec_GrowByCover.f kj54 t657 t658).bind fun bt663 => (if t662 = bt663.2 then (laws_FnCovers.j6 kj54 l0 t657 t661 t662 (t661.toList != bt663.1.toList)) else (laws_FnCovers.j6 kj54 l0 t657 t661 t662 true))) = some r := H
         have A114 := Aside0.mk A1140
         clear A1140
         replace H := Option.bind_eq_some_iff.mp H
         obtain ⟨⟨t663, t664⟩, A1150, H⟩ := H
         replace H : (if t662 = t664 then (laws_FnCovers.j6 kj54 l0 t657 t661 t662 (t661.toList != t663.toList)) else (laws_FnCovers.j6 kj54 l0 t657 t661 t662 true)) = some r := H
         have A115 := Aside0.mk A1150
         clear A1150
         have HC116 := Aside0.mk H
         clear H
         go_upto_region 32 with (first | ((with_reducible refine gate_callee (f := 21) rfl ?_); refine goesL_ (some 278) rfl rfl Try.func21 (by kernel_rfl) rfl #[.slice A0 l0.length c0] rfl qV ?_; (with_reducible refine (spec_DrawGrowByCover.calls kj54 _ _ l0 t657 t658 _ ?side1 ?side2 A113.out).mono ?_); (case side1 => exact qC (Kd.C_below HR0.out HB.out)); (case side2 => exact HC0.out); rintro e w117 ⟨v659, rfl, ho0, hb⟩; refine ⟨_, rfl, ?_⟩; have n0_ := Aside0.mk (Kd.R_lower ho0 (below_size (qB HB.out))); have n1_ := Aside0.mk (below_step (qB HB.out) hb); clear HB; have HO660 := n0_; have HB := n1_; clear n0_ n1_; obtain ⟨Ao118, co118, eo118⟩ := Kd.R_slice HO660.out; subst eo118) | ((with_reducible refine gate_callee (f := 22) rfl ?_); refine goesL_ (some 284) rfl rfl Try.func22 (by kernel_rfl) rfl #[.string t657, .slice Ao118 t658.length co118] rfl qV ?_; (with_reducible refine (impl_GrowByCover.calls kj54 t657 _ _ t658 t661 t662 _ ?side1 ?side2 A114.out).mono ?_); (case side1 => exact qC (Kd.R_reads' HO660.out).2.2); (case side2 => exact (Kd.R_reads' HO660.out).2.1); rintro e w119 ⟨rfl, hb⟩; refine ⟨_, rfl, ?_⟩; have n0_ := Aside0.mk (Kd.R_below (qR HO660.out) hb); have n1_ := Aside0.mk (below_step (qB HB.out) hb); clear HO660; clear HB; have HO660 := n0_; have HB := n1_; clear n0_ n1_) | ((with_reducible refine gate_callee (f := 23) rfl ?_); refine goesL_ (some 290) rfl rfl Try.func23 (by kernel_rfl) rfl #[.string t657, .slice Ao118 t658.length co118] rfl qV ?_; (with_reducible refine (spec_GrowByCover.calls kj54 t657 _ _ t658 t663 t664 _ ?side1 ?side2 A115.out).mono ?_); (case side1 => exact qC (Kd.R_reads' HO660.out).2.2); (case side2 => exact (Kd.R_reads' HO660.out).2.1); rintro e w120 ⟨rfl, hb⟩; refine ⟨_, rfl, ?_⟩; have n0_ := Aside0.mk (Kd.R_below (qR HO660.out) hb); have n1_ := Aside0.mk (below_step (qB HB.out) hb); clear HO660; clear HB; have HO660 := n0_; have HB := n1_; clear n0_ n1_))
         (try simp only [Act.put, List.setIfInBounds_toArray, List.set_cons_zero, List.set_cons_succ])
         go_cut [300] (fun v300 wc => ∃ (kq : Nat) (x300_115 : Bool), v300 = .bool x300_115 ∧ Aside0 (laws_FnCovers.j6 kq l0 t657 t661 t662 x300_115 = some r) ∧ Aside0 (kq ≤ kj54) ∧ Aside0 (Below w.heap.size w wc))
         case first => as_aux_lemma =>
          have H := HC116.out
          clear HC116
          by_cases c121 : t662 = t664
          ·
           rw [if_pos c121] at H
           have c121b0 : (t662 == t664) = true := beq_iff_eq.mpr c121
           have c121b1 : (t662 != t664) = false := bne_eq_false_iff_eq.mpr c121
           clear c121
           (first | rw [c121b0] | (simp only [i64_w, i32_w]; rw [c121b0]) | skip)
           have H' := Aside0.mk H
           clear H
           as_aux_lemma =>
            go_wp2
            go_meet
            case rel => exact ⟨_, ((t661.toList != t663.toList)), qF, H', ⟨by have := HJ12.out; have := HJ52.out; have := HJ54.out; first | omega | exact Nat.le_refl _⟩, ⟨qB HB.out⟩⟩
          ·
           rw [if_neg c121] at H
           have c121b0 : (t662 == t664) = false := beq_eq_false_iff_ne.mpr c121
           have c121b1 : (t662 != t664) = true := bne_iff_ne.mpr c121
           (first | rw [c121b0] | (simp only [i64_w, i32_w]; rw [c121b0]) | skip)
           have H' := Aside0.mk H
           clear H
           as_aux_lemma =>
            go_wp2
            go_meet
            case rel => exact ⟨_, (true), qF, H', ⟨by have := HJ12.out; have := HJ52.out; have := HJ54.out; first | omega | exact Nat.le_refl _⟩, ⟨qB HB.out⟩⟩
         case rest => as_aux_lemma =>
          clear HC116
          obtain ⟨kq, x300_115, rfl, HA, HJ115, HB⟩ := hcut
          cases kq with
          | zero => exact absurd HA.out (by simp [laws_FnCovers.j6])
          | succ kj115 =>
           have H := HA.out
           clear HA
           simp only [laws_FnCovers.j6] at H
           by_cases c122 : x300_115 = true
           ·
            subst c122
            have H1 : (some false) = some r := by rw [if_pos rfl] at H; exact H
            clear H
            have H := H1
            clear H1
            obtain rfl := Option.some.inj H
            as_aux_lemma =>
             go_wp2
             go_ret
             exact ⟨qE, qB HB.out⟩
           ·
            replace c122 := Bool.eq_false_iff.mpr c122
            subst c122
            have H1 : (if t662 = 0 then ((impl_IsCover.f kj115 t661 t657).bind fun bt665 => (if bt665.2 = 0 then (if bt665.1 = true then (laws_FnCovers.j7 kj115 l0) else (some false)) else (some false))) else (laws_FnCovers.j7 kj115 l0)) = some r := by rw [if_neg (show ¬ (false = true) by decide)] at H; exact H
            clear H
            have H := H1
            clear H1
            have HC123 := Aside0.mk H
            clear H
            go_upto_if 302 with (fail)
            go_cut [] (fun wc => ∃ (kq : Nat), Aside0 (laws_FnCovers.j7 kq l0 = some r) ∧ Aside0 (kq ≤ kj115) ∧ Aside0 (Below w.heap.size w wc))
            case first => as_aux_lemma =>
             have H := HC123.out
             clear HC123
             by_cases c124 : t662 = 0
             ·
              rw [if_pos c124] at H
              have c124b0 : (t662 == 0) = true := beq_iff_eq.mpr c124
              have c124b1 : (t662 != 0) = false := bne_eq_false_iff_eq.mpr c124
              clear c124
              (first | rw [c124b0] | (simp only [i64_w, i32_w]; rw [c124b0]) | skip)
              replace H := Option.bind_eq_some_iff.mp H
              obtain ⟨⟨t665, t666⟩, A1250, H⟩ := H
              replace H : (if t666 = 0 then (if t665 = true then (laws_FnCovers.j7 kj115 l0) else (some false)) else (some false)) = some r := H
              have A125 := Aside0.mk A1250
              clear A1250
              by_cases c126 : t666 = 0
              ·
               rw [if_pos c126] at H
               have c126b0 : (t666 == 0) = true := beq_iff_eq.mpr c126
               have c126b1 : (t666 != 0) = false := bne_eq_false_iff_eq.mpr c126
               clear c126
               by_cases c127 : t665 = true
               ·
                subst c127
                have H1 : (laws_FnCovers.j7 kj115 l0) = some r := by rw [if_pos rfl] at H; exact H
                clear H
                have H := H1
                clear H1
                have H' := Aside0.mk H
                clear H
                as_aux_lemma =>
                 go_wp2_with (first | ((with_reducible refine gate_callee (f := 16) rfl ?_); refine goesL_ (some 306) rfl rfl Try.func16 (by kernel_rfl) rfl #[.string t661, .string t657] rfl qV ?_; (with_reducible refine (impl_IsCover.calls kj115 t661 t657 true t666 _ A125.out).mono ?_); rintro e w128 ⟨rfl, hb⟩; refine ⟨_, rfl, ?_⟩; have n0_ := Aside0.mk (below_step (qB HB.out) hb); clear HB; have HB := n0_; clear n0_))
                 go_meet
                 case rel => exact ⟨_, H', ⟨by have := HJ12.out; have := HJ52.out; have := HJ54.out; have := HJ115.out; first | omega | exact Nat.le_refl _⟩, ⟨qB HB.out⟩⟩
               ·
                replace c127 := Bool.eq_false_iff.mpr c127
                subst c127
                have H1 : (some false) = some r := by rw [if_neg (show ¬ (false = true) by decide)] at H; exact H
                clear H
                have H := H1
                clear H1
                obtain rfl := Option.some.inj H
                as_aux_lemma =>
                 go_wp2_with (first | ((with_reducible refine gate_callee (f := 16) rfl ?_); refine goesL_ (some 306) rfl rfl Try.func16 (by kernel_rfl) rfl #[.string t661, .string t657] rfl qV ?_; (with_reducible refine (impl_IsCover.calls kj115 t661 t657 false t666 _ A125.out).mono ?_); rintro e w129 ⟨rfl, hb⟩; refine ⟨_, rfl, ?_⟩; have n0_ := Aside0.mk (below_step (qB HB.out) hb); clear HB; have HB := n0_; clear n0_))
                 go_ret
                 exact ⟨qE, qB HB.out⟩
              ·
               rw [if_neg c126] at H
               have c126b0 : (t666 == 0) = false := beq_eq_false_iff_ne.mpr c126
               have c126b1 : (t666 != 0) = true := bne_iff_ne.mpr c126
               obtain rfl := Option.some.inj H
               as_aux_lemma =>
                go_wp2_with (first | ((with_reducible refine gate_callee (f := 16) rfl ?_); refine goesL_ (some 306) rfl rfl Try.func16 (by kernel_rfl) rfl #[.string t661, .string t657] rfl qV ?_; (with_reducible refine (impl_IsCover.calls kj115 t661 t657 t665 t666 _ A125.out).mono ?_); rintro e w130 ⟨rfl, hb⟩; refine ⟨_, rfl, ?_⟩; have n0_ := Aside0.mk (below_step (qB HB.out) hb); clear HB; have HB := n0_; clear n0_))
                go_ret
                exact ⟨qE, qB HB.out⟩
             ·
              rw [if_neg c124] at H
              have c124b0 : (t662 == 0) = false := beq_eq_false_iff_ne.mpr c124
              have c124b1 : (t662 != 0) = true := bne_iff_ne.mpr c124
              (first | rw [c124b0] | (simp only [i64_w, i32_w]; rw [c124b0]) | skip)
              have H' := Aside0.mk H
              clear H
              as_aux_lemma =>
               go_wp2
               go_meet
               case rel => exact ⟨_, H', ⟨by have := HJ12.out; have := HJ52.out; have := HJ54.out; have := HJ115.out; first | omega | exact Nat.le_refl _⟩, ⟨qB HB.out⟩⟩
            case rest => as_aux_lemma =>
             clear HC123
             obtain ⟨kq, HA, HJ122, HB⟩ := hcut
             cases kq with
             | zero => exact absurd HA.out (by simp [laws_FnCovers.j7])
             | succ kj122 =>
              have H := HA.out
              clear HA
              simp only [laws_FnCovers.j7] at H
              replace H := Option.bind_eq_some_iff.mp H
              obtain ⟨⟨t667, t668⟩, A1310, H⟩ := H
              replace H : ((impl_IsCover.f kj122 t667 t668).bind fun bt669 => ((spec_IsCover.f kj122 t667 t668).bind fun bt671 => ((impl_UncoveredPlaces.f kj122 t667 t668).bind fun bt673 => ((spec_UncoveredPlaces.f kj122 t667 t668).bind fun bt677 => (if bt669.2 = bt671.2 then (if (bt669.1 == bt671.1) = true then (if bt673.2 = bt677.2 then ((laws_likeInts.f kj122 bt673.1 bt677.1).bind fun t681 => (if t681 = true then (if bt669.2 = 0 then (some (bt669.1 == ((bt673.1.length : Int) == 0))) else (some true)) else (some false))) else (some false)) else (some false)) else (some false)))))) = some r := H
              have A131 := Aside0.mk A1310
              clear A1310
              replace H := Option.bind_eq_some_iff.mp H
              obtain ⟨⟨t669, t670⟩, A1320, H⟩ := H
              replace H : ((spec_IsCover.f kj122 t667 t668).bind fun bt671 => ((impl_UncoveredPlaces.f kj122 t667 t668).bind fun bt673 => ((spec_UncoveredPlaces.f kj122 t667 t668).bind fun bt677 => (if t670 = bt671.2 then (if (t669 == bt671.1) = true then (if bt673.2 = bt677.2 then ((laws_likeInts.f kj122 bt673.1 bt677.1).bind fun t681 => (if t681 = true then (if t670 = 0 then (some (t669 == ((bt673.1.length : Int) == 0))) else (some true)) else (some false))) else (some false)) else (some false)) else (some false))))) = some r := H
              have A132 := Aside0.mk A1320
              clear A1320
              replace H := Option.bind_eq_some_iff.mp H
              obtain ⟨⟨t671, t672⟩, A1330, H⟩ := H
              replace H : ((impl_UncoveredPlaces.f kj122 t667 t668).bind fun bt673 => ((spec_UncoveredPlaces.f kj122 t667 t668).bind fun bt677 => (if t670 = t672 then (if (t669 == t671) = true then (if bt673.2 = bt677.2 then ((laws_likeInts.f kj122 bt673.1 bt677.1).bind fun t681 => (if t681 = true then (if t670 = 0 then (some (t669 == ((bt673.1.length : Int) == 0))) else (some true)) else (some false))) else (some false)) else (some false)) else (some false)))) = some r := H
              have A133 := Aside0.mk A1330
              clear A1330
              replace H := Option.bind_eq_some_iff.mp H
              obtain ⟨⟨t673, t674⟩, A1340, H⟩ := H
              replace H : ((spec_UncoveredPlaces.f kj122 t667 t668).bind fun bt677 => (if t670 = t672 then (if (t669 == t671) = true then (if t674 = bt677.2 then ((laws_likeInts.f kj122 t673 bt677.1).bind fun t681 => (if t681 = true then (if t670 = 0 then (some (t669 == ((t673.length : Int) == 0))) else (some true)) else (some false))) else (some false)) else (some false)) else (some false))) = some r := H
              have A134 := Aside0.mk A1340
              clear A1340
              replace H := Option.bind_eq_some_iff.mp H
              obtain ⟨⟨t677, t678⟩, A1350, H⟩ := H
              replace H : (if t670 = t672 then (if (t669 == t671) = true then (if t674 = t678 then ((laws_likeInts.f kj122 t673 t677).bind fun t681 => (if t681 = true then (if t670 = 0 then (some (t669 == ((t673.length : Int) == 0))) else (some true)) else (some false))) else (some false)) else (some false)) else (some false)) = some r := H
              have A135 := Aside0.mk A1350
              clear A1350
              by_cases c136 : t670 = t672
              ·
               rw [if_pos c136] at H
               have c136b0 : (t670 == t672) = true := beq_iff_eq.mpr c136
               have c136b1 : (t670 != t672) = false := bne_eq_false_iff_eq.mpr c136
               clear c136
               by_cases c137 : (t669 == t671) = true
               ·
                rw [if_pos c137] at H
                have c137b0 : (t669 == t671) = true := c137
                (try (have c137b1 : decide (t669 = t671) = true := by simpa using c137))
                (try (have c137b2 : (t669 == t671) = true := by simpa using c137))
                clear c137
                by_cases c138 : t674 = t678
                ·
                 rw [if_pos c138] at H
                 have c138b0 : (t674 == t678) = true := beq_iff_eq.mpr c138
                 have c138b1 : (t674 != t678) = false := bne_eq_false_iff_eq.mpr c138
                 clear c138
                 replace H := Option.bind_eq_some_iff.mp H
                 obtain ⟨t681, A1390, H⟩ := H
                 replace H : (if t681 = true then (if t670 = 0 then (some (t669 == ((t673.length : Int) == 0))) else (some true)) else (some false)) = some r := H
                 have A139 := Aside0.mk A1390
                 clear A1390
                 by_cases c140 : t681 = true
                 ·
                  subst c140
                  have H1 : (if t670 = 0 then (some (t669 == ((t673.length : Int) == 0))) else (some true)) = some r := by rw [if_pos rfl] at H; exact H
                  clear H
                  have H := H1
                  clear H1
                  by_cases c141 : t670 = 0
                  ·
                   rw [if_pos c141] at H
                   have c141b0 : (t670 == 0) = true := beq_iff_eq.mpr c141
                   have c141b1 : (t670 != 0) = false := bne_eq_false_iff_eq.mpr c141
                   clear c141
                   obtain rfl := Option.some.inj H
                   as_aux_lemma =>
                    go_wp2_with (first | ((with_reducible refine gate_callee (f := 24) rfl ?_); refine goesL_ (some 317) rfl rfl Try.func24 (by kernel_rfl) rfl #[.slice A0 l0.length c0] rfl qV ?_; (with_reducible refine (spec_DrawIsCover.calls kj122 _ _ l0 t667 t668 _ ?side1 ?side2 A131.out).mono ?_); (case side1 => exact qC (Kd.C_below HR0.out HB.out)); (case side2 => exact HC0.out); rintro e w142 ⟨rfl, hb⟩; refine ⟨_, rfl, ?_⟩; have n0_ := Aside0.mk (below_step (qB HB.out) hb); clear HB; have HB := n0_; clear n0_) | ((with_reducible refine gate_callee (f := 16) rfl ?_); refine goesL_ (some 323) rfl rfl Try.func16 (by kernel_rfl) rfl #[.string t667, .string t668] rfl qV ?_; (with_reducible refine (impl_IsCover.calls kj122 t667 t668 t669 t670 _ A132.out).mono ?_); rintro e w143 ⟨rfl, hb⟩; refine ⟨_, rfl, ?_⟩; have n0_ := Aside0.mk (below_step (qB HB.out) hb); clear HB; have HB := n0_; clear n0_) | ((with_reducible refine gate_callee (f := 25) rfl ?_); refine goesL_ (some 329) rfl rfl Try.func25 (by kernel_rfl) rfl #[.string t667, .string t668] rfl qV ?_; (with_reducible refine (spec_IsCover.calls kj122 t667 t668 t671 t672 _ A133.out).mono ?_); rintro e w144 ⟨rfl, hb⟩; refine ⟨_, rfl, ?_⟩; have n0_ := Aside0.mk (below_step (qB HB.out) hb); clear HB; have HB := n0_; clear n0_) | ((with_reducible refine gate_callee (f := 17) rfl ?_); refine goesL_ (some 335) rfl rfl Try.func17 (by kernel_rfl) rfl #[.string t667, .string t668] rfl qV ?_; (with_reducible refine (impl_UncoveredPlaces.calls kj122 t667 t668 t673 t674 _ A134.out).mono ?_); rintro e w145 ⟨v675, rfl, ho0, hb⟩; refine ⟨_, rfl, ?_⟩; have n0_ := Aside0.mk (Kd.R_lower ho0 (below_size (qB HB.out))); have n1_ := Aside0.mk (below_step (qB HB.out) hb); clear HB; have HO676 := n0_; have HB := n1_; clear n0_ n1_) | ((with_reducible refine gate_callee (f := 26) rfl ?_); refine goesL_ (some 341) rfl rfl Try.func26 (by kernel_rfl) rfl #[.string t667, .string t668] rfl qV ?_; (with_reducible refine (spec_UncoveredPlaces.calls kj122 t667 t668 t677 t678 _ A135.out).mono ?_); rintro e w146 ⟨v679, rfl, ho0, hb⟩; refine ⟨_, rfl, ?_⟩; have n0_ := Aside0.mk (Kd.R_elder' (qR HO676.out) (Kd.R_base ho0) hb); have n1_ := Aside0.mk (Kd.R_lower (Kd.R_new' ho0 (Kd.R_lt (qR HO676.out))) (below_size (qB HB.out))); have n2_ := Aside0.mk (below_step (qB HB.out) hb); clear HO676; clear HB; have HO676 := n0_; have HO680 := n1_; have HB := n2_; clear n0_ n1_ n2_; obtain ⟨Ao147, co147, eo147⟩ := Kd.R_slice HO676.out; subst eo147; obtain ⟨Ao148, co148, eo148⟩ := Kd.R_slice HO680.out; subst eo148) | (go_at_call 15; (with_reducible refine (laws_likeInts.calls kj122 _ _ t673 _ _ t677 true _ ?side1 ?side2 ?side3 ?side4 A139.out).mono ?_); (case side1 => exact qC (Kd.R_reads' HO676.out).2.2); (case side2 => exact (Kd.R_reads' HO676.out).2.1); (case side3 => exact qC (Kd.R_reads' HO680.out).2.2); (case side4 => exact (Kd.R_reads' HO680.out).2.1); rintro e w' ⟨rfl, ⟨nd, rfl⟩⟩))
                    go_ret
                    exact ⟨qE, qB HB.out⟩
                  ·
                   rw [if_neg c141] at H
                   have c141b0 : (t670 == 0) = false := beq_eq_false_iff_ne.mpr c141
                   have c141b1 : (t670 != 0) = true := bne_iff_ne.mpr c141
                   obtain rfl := Option.some.inj H
                   as_aux_lemma =>
                    go_wp2_with (first | ((with_reducible refine gate_callee (f := 24) rfl ?_); refine goesL_ (some 317) rfl rfl Try.func24 (by kernel_rfl) rfl #[.slice A0 l0.length c0] rfl qV ?_; (with_reducible refine (spec_DrawIsCover.calls kj122 _ _ l0 t667 t668 _ ?side1 ?side2 A131.out).mono ?_); (case side1 => exact qC (Kd.C_below HR0.out HB.out)); (case side2 => exact HC0.out); rintro e w149 ⟨rfl, hb⟩; refine ⟨_, rfl, ?_⟩; have n0_ := Aside0.mk (below_step (qB HB.out) hb); clear HB; have HB := n0_; clear n0_) | ((with_reducible refine gate_callee (f := 16) rfl ?_); refine goesL_ (some 323) rfl rfl Try.func16 (by kernel_rfl) rfl #[.string t667, .string t668] rfl qV ?_; (with_reducible refine (impl_IsCover.calls kj122 t667 t668 t669 t670 _ A132.out).mono ?_); rintro e w150 ⟨rfl, hb⟩; refine ⟨_, rfl, ?_⟩; have n0_ := Aside0.mk (below_step (qB HB.out) hb); clear HB; have HB := n0_; clear n0_) | ((with_reducible refine gate_callee (f := 25) rfl ?_); refine goesL_ (some 329) rfl rfl Try.func25 (by kernel_rfl) rfl #[.string t667, .string t668] rfl qV ?_; (with_reducible refine (spec_IsCover.calls kj122 t667 t668 t671 t672 _ A133.out).mono ?_); rintro e w151 ⟨rfl, hb⟩; refine ⟨_, rfl, ?_⟩; have n0_ := Aside0.mk (below_step (qB HB.out) hb); clear HB; have HB := n0_; clear n0_) | ((with_reducible refine gate_callee (f := 17) rfl ?_); refine goesL_ (some 335) rfl rfl Try.func17 (by kernel_rfl) rfl #[.string t667, .string t668] rfl qV ?_; (with_reducible refine (impl_UncoveredPlaces.calls kj122 t667 t668 t673 t674 _ A134.out).mono ?_); rintro e w152 ⟨v675, rfl, ho0, hb⟩; refine ⟨_, rfl, ?_⟩; have n0_ := Aside0.mk (Kd.R_lower ho0 (below_size (qB HB.out))); have n1_ := Aside0.mk (below_step (qB HB.out) hb); clear HB; have HO676 := n0_; have HB := n1_; clear n0_ n1_) | ((with_reducible refine gate_callee (f := 26) rfl ?_); refine goesL_ (some 341) rfl rfl Try.func26 (by kernel_rfl) rfl #[.string t667, .string t668] rfl qV ?_; (with_reducible refine (spec_UncoveredPlaces.calls kj122 t667 t668 t677 t678 _ A135.out).mono ?_); rintro e w153 ⟨v679, rfl, ho0, hb⟩; refine ⟨_, rfl, ?_⟩; have n0_ := Aside0.mk (Kd.R_elder' (qR HO676.out) (Kd.R_base ho0) hb); have n1_ := Aside0.mk (Kd.R_lower (Kd.R_new' ho0 (Kd.R_lt (qR HO676.out))) (below_size (qB HB.out))); have n2_ := Aside0.mk (below_step (qB HB.out) hb); clear HO676; clear HB; have HO676 := n0_; have HO680 := n1_; have HB := n2_; clear n0_ n1_ n2_; obtain ⟨Ao154, co154, eo154⟩ := Kd.R_slice HO676.out; subst eo154; obtain ⟨Ao155, co155, eo155⟩ := Kd.R_slice HO680.out; subst eo155) | (go_at_call 15; (with_reducible refine (laws_likeInts.calls kj122 _ _ t673 _ _ t677 true _ ?side1 ?side2 ?side3 ?side4 A139.out).mono ?_); (case side1 => exact qC (Kd.R_reads' HO676.out).2.2); (case side2 => exact (Kd.R_reads' HO676.out).2.1); (case side3 => exact qC (Kd.R_reads' HO680.out).2.2); (case side4 => exact (Kd.R_reads' HO680.out).2.1); rintro e w' ⟨rfl, ⟨nd, rfl⟩⟩))
                    go_ret
                    exact ⟨qE, qB HB.out⟩
                 ·
                  replace c140 := Bool.eq_false_iff.mpr c140
                  subst c140
                  have H1 : (some false) = some r := by rw [if_neg (show ¬ (false = true) by decide)] at H; exact H
                  clear H
                  have H := H1
                  clear H1
                  obtain rfl := Option.some.inj H
                  as_aux_lemma =>
                   go_wp2_with (first | ((with_reducible refine gate_callee (f := 24) rfl ?_); refine goesL_ (some 317) rfl rfl Try.func24 (by kernel_rfl) rfl #[.slice A0 l0.length c0] rfl qV ?_; (with_reducible refine (spec_DrawIsCover.calls kj122 _ _ l0 t667 t668 _ ?side1 ?side2 A131.out).mono ?_); (case side1 => exact qC (Kd.C_below HR0.out HB.out)); (case side2 => exact HC0.out); rintro e w156 ⟨rfl, hb⟩; refine ⟨_, rfl, ?_⟩; have n0_ := Aside0.mk (below_step (qB HB.out) hb); clear HB; have HB := n0_; clear n0_) | ((with_reducible refine gate_callee (f := 16) rfl ?_); refine goesL_ (some 323) rfl rfl Try.func16 (by kernel_rfl) rfl #[.string t667, .string t668] rfl qV ?_; (with_reducible refine (impl_IsCover.calls kj122 t667 t668 t669 t670 _ A132.out).mono ?_); rintro e w157 ⟨rfl, hb⟩; refine ⟨_, rfl, ?_⟩; have n0_ := Aside0.mk (below_step (qB HB.out) hb); clear HB; have HB := n0_; clear n0_) | ((with_reducible refine gate_callee (f := 25) rfl ?_); refine goesL_ (some 329) rfl rfl Try.func25 (by kernel_rfl) rfl #[.string t667, .string t668] rfl qV ?_; (with_reducible refine (spec_IsCover.calls kj122 t667 t668 t671 t672 _ A133.out).mono ?_); rintro e w158 ⟨rfl, hb⟩; refine ⟨_, rfl, ?_⟩; have n0_ := Aside0.mk (below_step (qB HB.out) hb); clear HB; have HB := n0_; clear n0_) | ((with_reducible refine gate_callee (f := 17) rfl ?_); refine goesL_ (some 335) rfl rfl Try.func17 (by kernel_rfl) rfl #[.string t667, .string t668] rfl qV ?_; (with_reducible refine (impl_UncoveredPlaces.calls kj122 t667 t668 t673 t674 _ A134.out).mono ?_); rintro e w159 ⟨v675, rfl, ho0, hb⟩; refine ⟨_, rfl, ?_⟩; have n0_ := Aside0.mk (Kd.R_lower ho0 (below_size (qB HB.out))); have n1_ := Aside0.mk (below_step (qB HB.out) hb); clear HB; have HO676 := n0_; have HB := n1_; clear n0_ n1_) | ((with_reducible refine gate_callee (f := 26) rfl ?_); refine goesL_ (some 341) rfl rfl Try.func26 (by kernel_rfl) rfl #[.string t667, .string t668] rfl qV ?_; (with_reducible refine (spec_UncoveredPlaces.calls kj122 t667 t668 t677 t678 _ A135.out).mono ?_); rintro e w160 ⟨v679, rfl, ho0, hb⟩; refine ⟨_, rfl, ?_⟩; have n0_ := Aside0.mk (Kd.R_elder' (qR HO676.out) (Kd.R_base ho0) hb); have n1_ := Aside0.mk (Kd.R_lower (Kd.R_new' ho0 (Kd.R_lt (qR HO676.out))) (below_size (qB HB.out))); have n2_ := Aside0.mk (below_step (qB HB.out) hb); clear HO676; clear HB; have HO676 := n0_; have HO680 := n1_; have HB := n2_; clear n0_ n1_ n2_; obtain ⟨Ao161, co161, eo161⟩ := Kd.R_slice HO676.out; subst eo161; obtain ⟨Ao162, co162, eo162⟩ := Kd.R_slice HO680.out; subst eo162) | (go_at_call 15; (with_reducible refine (laws_likeInts.calls kj122 _ _ t673 _ _ t677 false _ ?side1 ?side2 ?side3 ?side4 A139.out).mono ?_); (case side1 => exact qC (Kd.R_reads' HO676.out).2.2); (case side2 => exact (Kd.R_reads' HO676.out).2.1); (case side3 => exact qC (Kd.R_reads' HO680.out).2.2); (case side4 => exact (Kd.R_reads' HO680.out).2.1); rintro e w' ⟨rfl, ⟨nd, rfl⟩⟩))
                   go_ret
                   exact ⟨qE, qB HB.out⟩
                ·
                 rw [if_neg c138] at H
                 have c138b0 : (t674 == t678) = false := beq_eq_false_iff_ne.mpr c138
                 have c138b1 : (t674 != t678) = true := bne_iff_ne.mpr c138
                 obtain rfl := Option.some.inj H
                 as_aux_lemma =>
                  go_wp2_with (first | ((with_reducible refine gate_callee (f := 24) rfl ?_); refine goesL_ (some 317) rfl rfl Try.func24 (by kernel_rfl) rfl #[.slice A0 l0.length c0] rfl qV ?_; (with_reducible refine (spec_DrawIsCover.calls kj122 _ _ l0 t667 t668 _ ?side1 ?side2 A131.out).mono ?_); (case side1 => exact qC (Kd.C_below HR0.out HB.out)); (case side2 => exact HC0.out); rintro e w163 ⟨rfl, hb⟩; refine ⟨_, rfl, ?_⟩; have n0_ := Aside0.mk (below_step (qB HB.out) hb); clear HB; have HB := n0_; clear n0_) | ((with_reducible refine gate_callee (f := 16) rfl ?_); refine goesL_ (some 323) rfl rfl Try.func16 (by kernel_rfl) rfl #[.string t667, .string t668] rfl qV ?_; (with_reducible refine (impl_IsCover.calls kj122 t667 t668 t669 t670 _ A132.out).mono ?_); rintro e w164 ⟨rfl, hb⟩; refine ⟨_, rfl, ?_⟩; have n0_ := Aside0.mk (below_step (qB HB.out) hb); clear HB; have HB := n0_; clear n0_) | ((with_reducible refine gate_callee (f := 25) rfl ?_); refine goesL_ (some 329) rfl rfl Try.func25 (by kernel_rfl) rfl #[.string t667, .string t668] rfl qV ?_; (with_reducible refine (spec_IsCover.calls kj122 t667 t668 t671 t672 _ A133.out).mono ?_); rintro e w165 ⟨rfl, hb⟩; refine ⟨_, rfl, ?_⟩; have n0_ := Aside0.mk (below_step (qB HB.out) hb); clear HB; have HB := n0_; clear n0_) | ((with_reducible refine gate_callee (f := 17) rfl ?_); refine goesL_ (some 335) rfl rfl Try.func17 (by kernel_rfl) rfl #[.string t667, .string t668] rfl qV ?_; (with_reducible refine (impl_UncoveredPlaces.calls kj122 t667 t668 t673 t674 _ A134.out).mono ?_); rintro e w166 ⟨v675, rfl, ho0, hb⟩; refine ⟨_, rfl, ?_⟩; have n0_ := Aside0.mk (Kd.R_lower ho0 (below_size (qB HB.out))); have n1_ := Aside0.mk (below_step (qB HB.out) hb); clear HB; have HO676 := n0_; have HB := n1_; clear n0_ n1_) | ((with_reducible refine gate_callee (f := 26) rfl ?_); refine goesL_ (some 341) rfl rfl Try.func26 (by kernel_rfl) rfl #[.string t667, .string t668] rfl qV ?_; (with_reducible refine (spec_UncoveredPlaces.calls kj122 t667 t668 t677 t678 _ A135.out).mono ?_); rintro e w167 ⟨v679, rfl, ho0, hb⟩; refine ⟨_, rfl, ?_⟩; have n0_ := Aside0.mk (Kd.R_elder' (qR HO676.out) (Kd.R_base ho0) hb); have n1_ := Aside0.mk (Kd.R_lower (Kd.R_new' ho0 (Kd.R_lt (qR HO676.out))) (below_size (qB HB.out))); have n2_ := Aside0.mk (below_step (qB HB.out) hb); clear HO676; clear HB; have HO676 := n0_; have HO680 := n1_; have HB := n2_; clear n0_ n1_ n2_))
                  go_ret
                  exact ⟨qE, qB HB.out⟩
               ·
                rw [if_neg c137] at H
                have c137b0 : (t669 == t671) = false := by simpa using c137
                (try (have c137b1 : decide (t669 = t671) = false := by simpa using c137))
                (try (have c137b2 : (t669 == t671) = false := by simpa using c137))
                (try (have c137b3 : ¬ (t669 = t671) := by simpa using c137))
                clear c137
                obtain rfl := Option.some.inj H
                as_aux_lemma =>
                 go_wp2_with (first | ((with_reducible refine gate_callee (f := 24) rfl ?_); refine goesL_ (some 317) rfl rfl Try.func24 (by kernel_rfl) rfl #[.slice A0 l0.length c0] rfl qV ?_; (with_reducible refine (spec_DrawIsCover.calls kj122 _ _ l0 t667 t668 _ ?side1 ?side2 A131.out).mono ?_); (case side1 => exact qC (Kd.C_below HR0.out HB.out)); (case side2 => exact HC0.out); rintro e w168 ⟨rfl, hb⟩; refine ⟨_, rfl, ?_⟩; have n0_ := Aside0.mk (below_step (qB HB.out) hb); clear HB; have HB := n0_; clear n0_) | ((with_reducible refine gate_callee (f := 16) rfl ?_); refine goesL_ (some 323) rfl rfl Try.func16 (by kernel_rfl) rfl #[.string t667, .string t668] rfl qV ?_; (with_reducible refine (impl_IsCover.calls kj122 t667 t668 t669 t670 _ A132.out).mono ?_); rintro e w169 ⟨rfl, hb⟩; refine ⟨_, rfl, ?_⟩; have n0_ := Aside0.mk (below_step (qB HB.out) hb); clear HB; have HB := n0_; clear n0_) | ((with_reducible refine gate_callee (f := 25) rfl ?_); refine goesL_ (some 329) rfl rfl Try.func25 (by kernel_rfl) rfl #[.string t667, .string t668] rfl qV ?_; (with_reducible refine (spec_IsCover.calls kj122 t667 t668 t671 t672 _ A133.out).mono ?_); rintro e w170 ⟨rfl, hb⟩; refine ⟨_, rfl, ?_⟩; have n0_ := Aside0.mk (below_step (qB HB.out) hb); clear HB; have HB := n0_; clear n0_) | ((with_reducible refine gate_callee (f := 17) rfl ?_); refine goesL_ (some 335) rfl rfl Try.func17 (by kernel_rfl) rfl #[.string t667, .string t668] rfl qV ?_; (with_reducible refine (impl_UncoveredPlaces.calls kj122 t667 t668 t673 t674 _ A134.out).mono ?_); rintro e w171 ⟨v675, rfl, ho0, hb⟩; refine ⟨_, rfl, ?_⟩; have n0_ := Aside0.mk (Kd.R_lower ho0 (below_size (qB HB.out))); have n1_ := Aside0.mk (below_step (qB HB.out) hb); clear HB; have HO676 := n0_; have HB := n1_; clear n0_ n1_) | ((with_reducible refine gate_callee (f := 26) rfl ?_); refine goesL_ (some 341) rfl rfl Try.func26 (by kernel_rfl) rfl #[.string t667, .string t668] rfl qV ?_; (with_reducible refine (spec_UncoveredPlaces.calls kj122 t667 t668 t677 t678 _ A135.out).mono ?_); rintro e w172 ⟨v679, rfl, ho0, hb⟩; refine ⟨_, rfl, ?_⟩; have n0_ := Aside0.mk (Kd.R_elder' (qR HO676.out) (Kd.R_base ho0) hb); have n1_ := Aside0.mk (Kd.R_lower (Kd.R_new' ho0 (Kd.R_lt (qR HO676.out))) (below_size (qB HB.out))); have n2_ := Aside0.mk (below_step (qB HB.out) hb); clear HO676; clear HB; have HO676 := n0_; have HO680 := n1_; have HB := n2_; clear n0_ n1_ n2_))
                 go_ret
                 exact ⟨qE, qB HB.out⟩
              ·
               rw [if_neg c136] at H
               have c136b0 : (t670 == t672) = false := beq_eq_false_iff_ne.mpr c136
               have c136b1 : (t670 != t672) = true := bne_iff_ne.mpr c136
               obtain rfl := Option.some.inj H
               as_aux_lemma =>
                go_wp2_with (first | ((with_reducible refine gate_callee (f := 24) rfl ?_); refine goesL_ (some 317) rfl rfl Try.func24 (by kernel_rfl) rfl #[.slice A0 l0.length c0] rfl qV ?_; (with_reducible refine (spec_DrawIsCover.calls kj122 _ _ l0 t667 t668 _ ?side1 ?side2 A131.out).mono ?_); (case side1 => exact qC (Kd.C_below HR0.out HB.out)); (case side2 => exact HC0.out); rintro e w173 ⟨rfl, hb⟩; refine ⟨_, rfl, ?_⟩; have n0_ := Aside0.mk (below_step (qB HB.out) hb); clear HB; have HB := n0_; clear n0_) | ((with_reducible refine gate_callee (f := 16) rfl ?_); refine goesL_ (some 323) rfl rfl Try.func16 (by kernel_rfl) rfl #[.string t667, .string t668] rfl qV ?_; (with_reducible refine (impl_IsCover.calls kj122 t667 t668 t669 t670 _ A132.out).mono ?_); rintro e w174 ⟨rfl, hb⟩; refine ⟨_, rfl, ?_⟩; have n0_ := Aside0.mk (below_step (qB HB.out) hb); clear HB; have HB := n0_; clear n0_) | ((with_reducible refine gate_callee (f := 25) rfl ?_); refine goesL_ (some 329) rfl rfl Try.func25 (by kernel_rfl) rfl #[.string t667, .string t668] rfl qV ?_; (with_reducible refine (spec_IsCover.calls kj122 t667 t668 t671 t672 _ A133.out).mono ?_); rintro e w175 ⟨rfl, hb⟩; refine ⟨_, rfl, ?_⟩; have n0_ := Aside0.mk (below_step (qB HB.out) hb); clear HB; have HB := n0_; clear n0_) | ((with_reducible refine gate_callee (f := 17) rfl ?_); refine goesL_ (some 335) rfl rfl Try.func17 (by kernel_rfl) rfl #[.string t667, .string t668] rfl qV ?_; (with_reducible refine (impl_UncoveredPlaces.calls kj122 t667 t668 t673 t674 _ A134.out).mono ?_); rintro e w176 ⟨v675, rfl, ho0, hb⟩; refine ⟨_, rfl, ?_⟩; have n0_ := Aside0.mk (Kd.R_lower ho0 (below_size (qB HB.out))); have n1_ := Aside0.mk (below_step (qB HB.out) hb); clear HB; have HO676 := n0_; have HB := n1_; clear n0_ n1_) | ((with_reducible refine gate_callee (f := 26) rfl ?_); refine goesL_ (some 341) rfl rfl Try.func26 (by kernel_rfl) rfl #[.string t667, .string t668] rfl qV ?_; (with_reducible refine (spec_UncoveredPlaces.calls kj122 t667 t668 t677 t678 _ A135.out).mono ?_); rintro e w177 ⟨v679, rfl, ho0, hb⟩; refine ⟨_, rfl, ?_⟩; have n0_ := Aside0.mk (Kd.R_elder' (qR HO676.out) (Kd.R_base ho0) hb); have n1_ := Aside0.mk (Kd.R_lower (Kd.R_new' ho0 (Kd.R_lt (qR HO676.out))) (below_size (qB HB.out))); have n2_ := Aside0.mk (below_step (qB HB.out) hb); clear HO676; clear HB; have HO676 := n0_; have HO680 := n1_; have HB := n2_; clear n0_ n1_ n2_))
                go_ret
                exact ⟨qE, qB HB.out⟩

/-- THE ONE PURE STATEMENT of laws_FnCovers: yours. -/
def laws_FnCovers.Pure : Prop := ∀ (l0 : List Int), l0.length ≤ maxLen → l0.length * 1 ≤ 140737488351232 → (∀ x ∈ l0, (Lit.int .u8 x).wf = true) → ∃ k, laws_FnCovers.f k l0 = some true
theorem laws_FnCovers.walk (P : laws_FnCovers.Pure) (a0 : Option Addr) (len0 cap0 : Nat) (z0 : List Int) (w : World) (w0 : (a0 = none ∧ len0 = 0 ∧ cap0 = 0 ∧ z0 = []) ∨ ∃ x, a0 = some x ∧ len0 ≤ cap0 ∧ cap0 ≤ maxLen ∧ z0.length = cap0 ∧ (∀ i, i < z0.length → w.cell? (x.add i) = some (.int .u8 (z0.getD i 0))) ∧ ∀ n ∈ z0, (Lit.int .u8 n).wf = true) (y0 : len0 * 1 ≤ 140737488351232) :
  Calls Try.prog 3 #[.slice a0 len0 cap0] w fun e w' => e = .returned (.bool true) ∧ Below w.heap.size w w' := by
 obtain ⟨l0, rfl, hr0, hm0, hw0, hc0⟩ := ReadsInt.ofRowC w0
 obtain ⟨k, h⟩ := P l0 hm0 y0 hw0
 refine (laws_FnCovers.calls k _ _ l0 true w (Kd.C_of_reads (d := (0 : Int)) (h1 := fun _ => rfl) hr0) hc0 h).mono ?_
 rintro e w' ⟨rfl, hd⟩
 exact ⟨rfl, hd⟩

end Go.Proofs.Ytoadancbpgignaa.PF
