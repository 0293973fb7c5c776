-- an own text, written by a program of this place (wip/tools)
import Derived.Test.YtidndnjkjjcbbaaPFx0
import Derived.Test.YtidndnjkjjcbbaaPFx1
import Derived.Test.YtidndnjkjjcbbaaPFx2
import Derived.Test.YtidndnjkjjcbbaaPFx3
namespace Go.Proofs.Ytidndnjkjjcbbaa.PF
open Go.RowKit Go.Proofs.YtidndnjkjjcbbaaW.PrintWords Go.Proofs.YtidndnjkjjcbbaaW.PrintLast Go.Proofs.YtidndnjkjjcbbaaW.PrintMore
attribute [local go_sem] max2_int min2_int max_two min_two max_three min_three max_four min_four   -- for this text's walks alone
set_option linter.unusedVariables false
set_option linter.unusedSimpArgs false

/-! ### laws_FnPromiseOfAll: function 3 -/
mutual
def laws_FnPromiseOfAll.j0 : Nat → ByteArray → Int → Int → ByteArray → Int → List Int → Int → Bool → Option (Bool)
  | 0, _, _, _, _, _, _, _, _ => none
  | k + 1, x0, x1, x5, x6, x7, x10, x11, x74 => if x74 = true then (some false) else (if x7 = 0 then (if x11 = 0 then (laws_FnPromiseOfAll.j1 k x0 x1 x5 x6 x10 (x5 == 0)) else (laws_FnPromiseOfAll.j1 k x0 x1 x5 x6 x10 true)) else (laws_FnPromiseOfAll.j1 k x0 x1 x5 x6 x10 true))
def laws_FnPromiseOfAll.j1 : Nat → ByteArray → Int → Int → ByteArray → List Int → Bool → Option (Bool)
  | 0, _, _, _, _, _, _ => none
  | k + 1, x0, x1, x5, x6, x10, x84 => if x84 = true then (some true) else ((impl_PeriodsOf.f k x6).bind fun bt191 => (if bt191.2 = 0 then ((laws_likeInts.f k x10 bt191.1).bind fun t195 => (if t195 = true then (if (x10.length : Int) = 0 then (laws_FnPromiseOfAll.j2 k x0 x1 x5 true) else (if 0 ≤ (wrap64 ((x10.length : Int) - 1)) then (if (wrap64 ((x10.length : Int) - 1)) < (x10.length : Int) then (laws_FnPromiseOfAll.j2 k x0 x1 x5 ((rd x10 (wrap64 ((x10.length : Int) - 1))) != x5)) else (none)) else (none))) else (laws_FnPromiseOfAll.j2 k x0 x1 x5 true))) else (laws_FnPromiseOfAll.j2 k x0 x1 x5 true)))
def laws_FnPromiseOfAll.j2 : Nat → ByteArray → Int → Int → Bool → Option (Bool)
  | 0, _, _, _, _ => none
  | k + 1, x0, x1, x5, x112 => if x112 = true then (some false) else ((impl_PowerOf.f k x0 x1).bind fun bt197 => ((spec_PowerOf.f k x0 x1).bind fun bt199 => (if bt197.2 = bt199.2 then (laws_FnPromiseOfAll.j3 k x0 x1 x5 bt197.1 bt197.2 (bt197.1.toList != bt199.1.toList)) else (laws_FnPromiseOfAll.j3 k x0 x1 x5 bt197.1 bt197.2 true))))
def laws_FnPromiseOfAll.j3 : Nat → ByteArray → Int → Int → ByteArray → Int → Bool → Option (Bool)
  | 0, _, _, _, _, _, _ => none
  | k + 1, x0, x1, x5, x16, x17, x132 => if x132 = true then (some false) else (if x17 = 0 then (laws_FnPromiseOfAll.j4 k x0 x1 x5 x16 (decide (x1 > 0))) else (laws_FnPromiseOfAll.j4 k x0 x1 x5 x16 false))
def laws_FnPromiseOfAll.j4 : Nat → ByteArray → Int → Int → ByteArray → Bool → Option (Bool)
  | 0, _, _, _, _, _ => none
  | k + 1, x0, x1, x5, x16, x138 => if x138 = true then ((impl_PeriodsOf.f k x16).bind fun bt201 => ((impl_RootOf.f k x16).bind fun bt205 => (if bt201.2 = 0 then ((laws_hasInt.f k bt201.1 x5).bind fun t208 => (if t208 = true then (if bt205.2.2 = 0 then (if (wrap64 ((bt205.1.size : Int) * bt205.2.1)) = (wrap64 (x1 * x5)) then (if x1 = 0 then (none) else (if (Int.tmod bt205.2.1 x1) = 0 then (laws_FnPromiseOfAll.j5 k x0) else (some false))) else (some false)) else (some false)) else (some false))) else (some false)))) else (laws_FnPromiseOfAll.j5 k x0)
def laws_FnPromiseOfAll.j5 : Nat → ByteArray → Option (Bool)
  | 0, _ => none
  | k + 1, x0 => (impl_ClosureOf.f k x0).bind fun bt209 => ((spec_ClosureOf.f k x0).bind fun bt211 => (if bt209.2 = bt211.2 then (if bt209.2 = 0 then ((impl_IsPalindrome.f k bt209.1).bind fun bt213 => (if bt213.2 = 0 then (if bt213.1 = true then (if (bt209.1.size : Int) ≥ (x0.size : Int) then (if 0 ≤ (x0.size : Int) then (if (x0.size : Int) ≤ (bt209.1.size : Int) then (some ((bt209.1.extract 0 ((x0.size : Int) : Int).toNat).toList == x0.toList)) else (none)) else (none)) else (some false)) else (some false)) else (some false))) else (some true)) else (some false)))
end
def laws_FnPromiseOfAll.f (k : Nat) (a0 : ByteArray) (a1 : Int) : Option (Bool) := if (a0.size : Int) > 100000 then (some true) else ((impl_ReverseOf.f k a0).bind fun bt178 => ((spec_ReverseOf.f k a0).bind fun bt180 => ((impl_PeriodsOf.f k a0).bind fun bt182 => ((spec_PeriodsOf.f k a0).bind fun bt186 => (if bt178.2 = bt180.2 then (if bt178.1.toList = bt180.1.toList then (if bt182.2 = bt186.2 then ((laws_likeInts.f k bt182.1 bt186.1).bind fun t190 => (laws_FnPromiseOfAll.j0 k a0 a1 (a0.size : Int) bt178.1 bt178.2 bt182.1 bt182.2 (!t190))) else (laws_FnPromiseOfAll.j0 k a0 a1 (a0.size : Int) bt178.1 bt178.2 bt182.1 bt182.2 true)) else (laws_FnPromiseOfAll.j0 k a0 a1 (a0.size : Int) bt178.1 bt178.2 bt182.1 bt182.2 true)) else (laws_FnPromiseOfAll.j0 k a0 a1 (a0.size : Int) bt178.1 bt178.2 bt182.1 bt182.2 true))))))
theorem laws_FnPromiseOfAll.mono_l : ∀ k, (∀ y0 y1 y2 y3 y4 y5 y6 y7, LeO (laws_FnPromiseOfAll.j0 k y0 y1 y2 y3 y4 y5 y6 y7) (laws_FnPromiseOfAll.j0 (k + 1) y0 y1 y2 y3 y4 y5 y6 y7)) ∧ (∀ y0 y1 y2 y3 y4 y5, LeO (laws_FnPromiseOfAll.j1 k y0 y1 y2 y3 y4 y5) (laws_FnPromiseOfAll.j1 (k + 1) y0 y1 y2 y3 y4 y5)) ∧ (∀ y0 y1 y2 y3, LeO (laws_FnPromiseOfAll.j2 k y0 y1 y2 y3) (laws_FnPromiseOfAll.j2 (k + 1) y0 y1 y2 y3)) ∧ (∀ y0 y1 y2 y3 y4 y5, LeO (laws_FnPromiseOfAll.j3 k y0 y1 y2 y3 y4 y5) (laws_FnPromiseOfAll.j3 (k + 1) y0 y1 y2 y3 y4 y5)) ∧ (∀ y0 y1 y2 y3 y4, LeO (laws_FnPromiseOfAll.j4 k y0 y1 y2 y3 y4) (laws_FnPromiseOfAll.j4 (k + 1) y0 y1 y2 y3 y4)) ∧ (∀ y0, LeO (laws_FnPromiseOfAll.j5 k y0) (laws_FnPromiseOfAll.j5 (k + 1) y0))
  | 0 => ⟨fun _ _ _ _ _ _ _ _ r h => by simp [laws_FnPromiseOfAll.j0] at h, fun _ _ _ _ _ _ r h => by simp [laws_FnPromiseOfAll.j1] at h, fun _ _ _ _ r h => by simp [laws_FnPromiseOfAll.j2] at h, fun _ _ _ _ _ _ r h => by simp [laws_FnPromiseOfAll.j3] at h, fun _ _ _ _ _ r h => by simp [laws_FnPromiseOfAll.j4] at h, fun _ r h => by simp [laws_FnPromiseOfAll.j5] at h⟩
  | k + 1 => by
    obtain ⟨ih0, ih1, ih2, ih3, ih4, ih5⟩ := laws_FnPromiseOfAll.mono_l k
    refine ⟨?_, ?_, ?_, ?_, ?_, ?_⟩
    · intro y0 y1 y2 y3 y4 y5 y6 y7
      unfold laws_FnPromiseOfAll.j0
      repeat' first
      | (with_reducible exact ih0 _ _ _ _ _ _ _ _)
      | (with_reducible exact ih1 _ _ _ _ _ _)
      | (with_reducible exact ih2 _ _ _ _)
      | (with_reducible exact ih3 _ _ _ _ _ _)
      | (with_reducible exact ih4 _ _ _ _ _)
      | (with_reducible exact ih5 _)
      | (with_reducible exact impl_ClosureOf.mono _ _)
      | (with_reducible exact impl_IsPalindrome.mono _ _)
      | (with_reducible exact impl_PeriodsOf.mono _ _)
      | (with_reducible exact impl_PowerOf.mono _ _ _)
      | (with_reducible exact impl_ReverseOf.mono _ _)
      | (with_reducible exact impl_RootOf.mono _ _)
      | (with_reducible exact laws_hasInt.mono _ _ _)
      | (with_reducible exact laws_likeInts.mono _ _ _)
      | (with_reducible exact spec_ClosureOf.mono _ _)
      | (with_reducible exact spec_PeriodsOf.mono _ _)
      | (with_reducible exact spec_PowerOf.mono _ _ _)
      | (with_reducible exact spec_ReverseOf.mono _ _)
      | (with_reducible exact LeO.refl _)
      | (with_reducible exact LeO.none _)
      | (with_reducible refine LeO.ite ?_ ?_)
      | (with_reducible refine LeO.bind ?_ (fun _ => ?_))
      | exact ih0 _ _ _ _ _ _ _ _
      | exact ih1 _ _ _ _ _ _
      | exact ih2 _ _ _ _
      | exact ih3 _ _ _ _ _ _
      | exact ih4 _ _ _ _ _
      | exact ih5 _
      | exact impl_ClosureOf.mono _ _
      | exact impl_IsPalindrome.mono _ _
      | exact impl_PeriodsOf.mono _ _
      | exact impl_PowerOf.mono _ _ _
      | exact impl_ReverseOf.mono _ _
      | exact impl_RootOf.mono _ _
      | exact laws_hasInt.mono _ _ _
      | exact laws_likeInts.mono _ _ _
      | exact spec_ClosureOf.mono _ _
      | exact spec_PeriodsOf.mono _ _
      | exact spec_PowerOf.mono _ _ _
      | exact spec_ReverseOf.mono _ _
      | exact LeO.none _
      | refine LeO.ite ?_ ?_
      | refine LeO.bind ?_ (fun _ => ?_)
    · intro y0 y1 y2 y3 y4 y5
      unfold laws_FnPromiseOfAll.j1
      repeat' first
      | (with_reducible exact ih0 _ _ _ _ _ _ _ _)
      | (with_reducible exact ih1 _ _ _ _ _ _)
      | (with_reducible exact ih2 _ _ _ _)
      | (with_reducible exact ih3 _ _ _ _ _ _)
      | (with_reducible exact ih4 _ _ _ _ _)
      | (with_reducible exact ih5 _)
      | (with_reducible exact impl_ClosureOf.mono _ _)
      | (with_reducible exact impl_IsPalindrome.mono _ _)
      | (with_reducible exact impl_PeriodsOf.mono _ _)
      | (with_reducible exact impl_PowerOf.mono _ _ _)
      | (with_reducible exact impl_ReverseOf.mono _ _)
      | (with_reducible exact impl_RootOf.mono _ _)
      | (with_reducible exact laws_hasInt.mono _ _ _)
      | (with_reducible exact laws_likeInts.mono _ _ _)
      | (with_reducible exact spec_ClosureOf.mono _ _)
      | (with_reducible exact spec_PeriodsOf.mono _ _)
      | (with_reducible exact spec_PowerOf.mono _ _ _)
      | (with_reducible exact spec_ReverseOf.mono _ _)
      | (with_reducible exact LeO.refl _)
      | (with_reducible exact LeO.none _)
      | (with_reducible refine LeO.ite ?_ ?_)
      | (with_reducible refine LeO.bind ?_ (fun _ => ?_))
      | exact ih0 _ _ _ _ _ _ _ _
      | exact ih1 _ _ _ _ _ _
      | exact ih2 _ _ _ _
      | exact ih3 _ _ _ _ _ _
      | exact ih4 _ _ _ _ _
      | exact ih5 _
      | exact impl_ClosureOf.mono _ _
      | exact impl_IsPalindrome.mono _ _
      | exact impl_PeriodsOf.mono _ _
      | exact impl_PowerOf.mono _ _ _
      | exact impl_ReverseOf.mono _ _
      | exact impl_RootOf.mono _ _
      | exact laws_hasInt.mono _ _ _
      | exact laws_likeInts.mono _ _ _
      | exact spec_ClosureOf.mono _ _
      | exact spec_PeriodsOf.mono _ _
      | exact spec_PowerOf.mono _ _ _
      | exact spec_ReverseOf.mono _ _
      | exact LeO.none _
      | refine LeO.ite ?_ ?_
      | refine LeO.bind ?_ (fun _ => ?_)
    · intro y0 y1 y2 y3
      unfold laws_FnPromiseOfAll.j2
      repeat' first
      | (with_reducible exact ih0 _ _ _ _ _ _ _ _)
      | (with_reducible exact ih1 _ _ _ _ _ _)
      | (with_reducible exact ih2 _ _ _ _)
      | (with_reducible exact ih3 _ _ _ _ _ _)
      | (with_reducible exact ih4 _ _ _ _ _)
      | (with_reducible exact ih5 _)
      | (with_reducible exact impl_ClosureOf.mono _ _)
      | (with_reducible exact impl_IsPalindrome.mono _ _)
      | (with_reducible exact impl_PeriodsOf.mono _ _)
      | (with_reducible exact impl_PowerOf.mono _ _ _)
      | (with_reducible exact impl_ReverseOf.mono _ _)
      | (with_reducible exact impl_RootOf.mono _ _)
      | (with_reducible exact laws_hasInt.mono _ _ _)
      | (with_reducible exact laws_likeInts.mono _ _ _)
      | (with_reducible exact spec_ClosureOf.mono _ _)
      | (with_reducible exact spec_PeriodsOf.mono _ _)
      | (with_reducible exact spec_PowerOf.mono _ _ _)
      | (with_reducible exact spec_ReverseOf.mono _ _)
      | (with_reducible exact LeO.refl _)
      | (with_reducible exact LeO.none _)
      | (with_reducible refine LeO.ite ?_ ?_)
      | (with_reducible refine LeO.bind ?_ (fun _ => ?_))
      | exact ih0 _ _ _ _ _ _ _ _
      | exact ih1 _ _ _ _ _ _
      | exact ih2 _ _ _ _
      | exact ih3 _ _ _ _ _ _
      | exact ih4 _ _ _ _ _
      | exact ih5 _
      | exact impl_ClosureOf.mono _ _
      | exact impl_IsPalindrome.mono _ _
      | exact impl_PeriodsOf.mono _ _
      | exact impl_PowerOf.mono _ _ _
      | exact impl_ReverseOf.mono _ _
      | exact impl_RootOf.mono _ _
      | exact laws_hasInt.mono _ _ _
      | exact laws_likeInts.mono _ _ _
      | exact spec_ClosureOf.mono _ _
      | exact spec_PeriodsOf.mono _ _
      | exact spec_PowerOf.mono _ _ _
      | exact spec_ReverseOf.mono _ _
      | exact LeO.none _
      | refine LeO.ite ?_ ?_
      | refine LeO.bind ?_ (fun _ => ?_)
    · intro y0 y1 y2 y3 y4 y5
      unfold laws_FnPromiseOfAll.j3
      repeat' first
      | (with_reducible exact ih0 _ _ _ _ _ _ _ _)
      | (with_reducible exact ih1 _ _ _ _ _ _)
      | (with_reducible exact ih2 _ _ _ _)
      | (with_reducible exact ih3 _ _ _ _ _ _)
      | (with_reducible exact ih4 _ _ _ _ _)
      | (with_reducible exact ih5 _)
      | (with_reducible exact impl_ClosureOf.mono _ _)
      | (with_reducible exact impl_IsPalindrome.mono _ _)
      | (with_reducible exact impl_PeriodsOf.mono _ _)
      | (with_reducible exact impl_PowerOf.mono _ _ _)
      | (with_reducible exact impl_ReverseOf.mono _ _)
      | (with_reducible exact impl_RootOf.mono _ _)
      | (with_reducible exact laws_hasInt.mono _ _ _)
      | (with_reducible exact laws_likeInts.mono _ _ _)
      | (with_reducible exact spec_ClosureOf.mono _ _)
      | (with_reducible exact spec_PeriodsOf.mono _ _)
      | (with_reducible exact spec_PowerOf.mono _ _ _)
      | (with_reducible exact spec_ReverseOf.mono _ _)
      | (with_reducible exact LeO.refl _)
      | (with_reducible exact LeO.none _)
      | (with_reducible refine LeO.ite ?_ ?_)
      | (with_reducible refine LeO.bind ?_ (fun _ => ?_))
      | exact ih0 _ _ _ _ _ _ _ _
      | exact ih1 _ _ _ _ _ _
      | exact ih2 _ _ _ _
      | exact ih3 _ _ _ _ _ _
      | exact ih4 _ _ _ _ _
      | exact ih5 _
      | exact impl_ClosureOf.mono _ _
      | exact impl_IsPalindrome.mono _ _
      | exact impl_PeriodsOf.mono _ _
      | exact impl_PowerOf.mono _ _ _
      | exact impl_ReverseOf.mono _ _
      | exact impl_RootOf.mono _ _
      | exact laws_hasInt.mono _ _ _
      | exact laws_likeInts.mono _ _ _
      | exact spec_ClosureOf.mono _ _
      | exact spec_PeriodsOf.mono _ _
      | exact spec_PowerOf.mono _ _ _
      | exact spec_ReverseOf.mono _ _
      | exact LeO.none _
      | refine LeO.ite ?_ ?_
      | refine LeO.bind ?_ (fun _ => ?_)
    · intro y0 y1 y2 y3 y4
      unfold laws_FnPromiseOfAll.j4
      repeat' first
      | (with_reducible exact ih0 _ _ _ _ _ _ _ _)
      | (with_reducible exact ih1 _ _ _ _ _ _)
      | (with_reducible exact ih2 _ _ _ _)
      | (with_reducible exact ih3 _ _ _ _ _ _)
      | (with_reducible exact ih4 _ _ _ _ _)
      | (with_reducible exact ih5 _)
      | (with_reducible exact impl_ClosureOf.mono _ _)
      | (with_reducible exact impl_IsPalindrome.mono _ _)
      | (with_reducible exact impl_PeriodsOf.mono _ _)
      | (with_reducible exact impl_PowerOf.mono _ _ _)
      | (with_reducible exact impl_ReverseOf.mono _ _)
      | (with_reducible exact impl_RootOf.mono _ _)
      | (with_reducible exact laws_hasInt.mono _ _ _)
      | (with_reducible exact laws_likeInts.mono _ _ _)
      | (with_reducible exact spec_ClosureOf.mono _ _)
      | (with_reducible exact spec_PeriodsOf.mono _ _)
      | (with_reducible exact spec_PowerOf.mono _ _ _)
      | (with_reducible exact spec_ReverseOf.mono _ _)
      | (with_reducible exact LeO.refl _)
      | (with_reducible exact LeO.none _)
      | (with_reducible refine LeO.ite ?_ ?_)
      | (with_reducible refine LeO.bind ?_ (fun _ => ?_))
      | exact ih0 _ _ _ _ _ _ _ _
      | exact ih1 _ _ _ _ _ _
      | exact ih2 _ _ _ _
      | exact ih3 _ _ _ _ _ _
      | exact ih4 _ _ _ _ _
      | exact ih5 _
      | exact impl_ClosureOf.mono _ _
      | exact impl_IsPalindrome.mono _ _
      | exact impl_PeriodsOf.mono _ _
      | exact impl_PowerOf.mono _ _ _
      | exact impl_ReverseOf.mono _ _
      | exact impl_RootOf.mono _ _
      | exact laws_hasInt.mono _ _ _
      | exact laws_likeInts.mono _ _ _
      | exact spec_ClosureOf.mono _ _
      | exact spec_PeriodsOf.mono _ _
      | exact spec_PowerOf.mono _ _ _
      | exact spec_ReverseOf.mono _ _
      | exact LeO.none _
      | refine LeO.ite ?_ ?_
      | refine LeO.bind ?_ (fun _ => ?_)
    · intro y0
      unfold laws_FnPromiseOfAll.j5
      repeat' first
      | (with_reducible exact ih0 _ _ _ _ _ _ _ _)
      | (with_reducible exact ih1 _ _ _ _ _ _)
      | (with_reducible exact ih2 _ _ _ _)
      | (with_reducible exact ih3 _ _ _ _ _ _)
      | (with_reducible exact ih4 _ _ _ _ _)
      | (with_reducible exact ih5 _)
      | (with_reducible exact impl_ClosureOf.mono _ _)
      | (with_reducible exact impl_IsPalindrome.mono _ _)
      | (with_reducible exact impl_PeriodsOf.mono _ _)
      | (with_reducible exact impl_PowerOf.mono _ _ _)
      | (with_reducible exact impl_ReverseOf.mono _ _)
      | (with_reducible exact impl_RootOf.mono _ _)
      | (with_reducible exact laws_hasInt.mono _ _ _)
      | (with_reducible exact laws_likeInts.mono _ _ _)
      | (with_reducible exact spec_ClosureOf.mono _ _)
      | (with_reducible exact spec_PeriodsOf.mono _ _)
      | (with_reducible exact spec_PowerOf.mono _ _ _)
      | (with_reducible exact spec_ReverseOf.mono _ _)
      | (with_reducible exact LeO.refl _)
      | (with_reducible exact LeO.none _)
      | (with_reducible refine LeO.ite ?_ ?_)
      | (with_reducible refine LeO.bind ?_ (fun _ => ?_))
      | exact ih0 _ _ _ _ _ _ _ _
      | exact ih1 _ _ _ _ _ _
      | exact ih2 _ _ _ _
      | exact ih3 _ _ _ _ _ _
      | exact ih4 _ _ _ _ _
      | exact ih5 _
      | exact impl_ClosureOf.mono _ _
      | exact impl_IsPalindrome.mono _ _
      | exact impl_PeriodsOf.mono _ _
      | exact impl_PowerOf.mono _ _ _
      | exact impl_ReverseOf.mono _ _
      | exact impl_RootOf.mono _ _
      | exact laws_hasInt.mono _ _ _
      | exact laws_likeInts.mono _ _ _
      | exact spec_ClosureOf.mono _ _
      | exact spec_PeriodsOf.mono _ _
      | exact spec_PowerOf.mono _ _ _
      | exact spec_ReverseOf.mono _ _
      | exact LeO.none _
      | refine LeO.ite ?_ ?_
      | refine LeO.bind ?_ (fun _ => ?_)
theorem laws_FnPromiseOfAll.mono : ∀ a0 a1 k, LeO (laws_FnPromiseOfAll.f k a0 a1) (laws_FnPromiseOfAll.f (k + 1) a0 a1) := by
  intro a0 a1 k
  obtain ⟨ih0, ih1, ih2, ih3, ih4, ih5⟩ := laws_FnPromiseOfAll.mono_l k
  unfold laws_FnPromiseOfAll.f
  repeat' first
      | (with_reducible exact ih0 _ _ _ _ _ _ _ _)
      | (with_reducible exact ih1 _ _ _ _ _ _)
      | (with_reducible exact ih2 _ _ _ _)
      | (with_reducible exact ih3 _ _ _ _ _ _)
      | (with_reducible exact ih4 _ _ _ _ _)
      | (with_reducible exact ih5 _)
      | (with_reducible exact impl_ClosureOf.mono _ _)
      | (with_reducible exact impl_IsPalindrome.mono _ _)
      | (with_reducible exact impl_PeriodsOf.mono _ _)
      | (with_reducible exact impl_PowerOf.mono _ _ _)
      | (with_reducible exact impl_ReverseOf.mono _ _)
      | (with_reducible exact impl_RootOf.mono _ _)
      | (with_reducible exact laws_hasInt.mono _ _ _)
      | (with_reducible exact laws_likeInts.mono _ _ _)
      | (with_reducible exact spec_ClosureOf.mono _ _)
      | (with_reducible exact spec_PeriodsOf.mono _ _)
      | (with_reducible exact spec_PowerOf.mono _ _ _)
      | (with_reducible exact spec_ReverseOf.mono _ _)
      | (with_reducible exact LeO.refl _)
      | (with_reducible exact LeO.none _)
      | (with_reducible refine LeO.ite ?_ ?_)
      | (with_reducible refine LeO.bind ?_ (fun _ => ?_))
      | exact ih0 _ _ _ _ _ _ _ _
      | exact ih1 _ _ _ _ _ _
      | exact ih2 _ _ _ _
      | exact ih3 _ _ _ _ _ _
      | exact ih4 _ _ _ _ _
      | exact ih5 _
      | exact impl_ClosureOf.mono _ _
      | exact impl_IsPalindrome.mono _ _
      | exact impl_PeriodsOf.mono _ _
      | exact impl_PowerOf.mono _ _ _
      | exact impl_ReverseOf.mono _ _
      | exact impl_RootOf.mono _ _
      | exact laws_hasInt.mono _ _ _
      | exact laws_likeInts.mono _ _ _
      | exact spec_ClosureOf.mono _ _
      | exact spec_PeriodsOf.mono _ _
      | exact spec_PowerOf.mono _ _ _
      | exact spec_ReverseOf.mono _ _
      | exact LeO.none _
      | refine LeO.ite ?_ ?_
      | refine LeO.bind ?_ (fun _ => ?_)
set_option maxHeartbeats 8000000 in
set_option maxRecDepth 100000 in
theorem laws_FnPromiseOfAll.calls (k : Nat) (a0 : ByteArray) (a1 : Int) (r : Bool) (w : World) (h : laws_FnPromiseOfAll.f k a0 a1 = some r) :
    Calls Try.prog 3 #[.string a0, .int .i64 a1] w fun e w' => e = .returned (.bool r) ∧ Below w.heap.size w w' := by
  have HB := Aside0.mk (Below.refl w.heap.size w)
  have H : (if (a0.size : Int) > 100000 then (some true) else ((impl_ReverseOf.f k a0).bind fun bt178 => ((spec_ReverseOf.f k a0).bind fun bt180 => ((impl_PeriodsOf.f k a0).bind fun bt182 => ((spec_PeriodsOf.f k a0).bind fun bt186 => (if bt178.2 = bt180.2 then (if bt178.1.toList = bt180.1.toList then (if bt182.2 = bt186.2 then ((laws_likeInts.f k bt182.1 bt186.1).bind fun t190 => (laws_FnPromiseOfAll.j0 k a0 a1 (a0.size : Int) bt178.1 bt178.2 bt182.1 bt182.2 (!t190))) else (laws_FnPromiseOfAll.j0 k a0 a1 (a0.size : Int) bt178.1 bt178.2 bt182.1 bt182.2 true)) else (laws_FnPromiseOfAll.j0 k a0 a1 (a0.size : Int) bt178.1 bt178.2 bt182.1 bt182.2 true)) else (laws_FnPromiseOfAll.j0 k a0 a1 (a0.size : Int) bt178.1 bt178.2 bt182.1 bt182.2 true))))))) = some r := h
  clear h
  by_cases c3 : (a0.size : Int) > 100000
  · rw [if_pos c3] at H
    have c3b0 : decide (100000 < (a0.size : Int)) = true := decide_eq_true c3
    have c3b1 : decide (100000 < a0.size) = true := decide_eq_true (by omega)
    clear c3
    obtain rfl := Option.some.inj H
    go_enter Try.func3, Try.ntmps3
    go_wp2
    go_ret
    exact ⟨by first | rfl | (simp [errW_none, errW_some] <;> rfl) | (simp [*, errW_none, errW_some] <;> rfl), by repeat (first | (with_reducible first | exact HB.out | apply below_alloc | apply pw_below_drewN | apply below_drew1) | exact HB.out)⟩
  · rw [if_neg c3] at H
    have c3b0 : decide (100000 < (a0.size : Int)) = false := decide_eq_false c3
    have c3b1 : decide (100000 < a0.size) = false := decide_eq_false (by omega)
    clear c3
    replace H := Option.bind_eq_some_iff.mp H
    obtain ⟨⟨t178, t179⟩, A40, H⟩ := H
    replace H : ((spec_ReverseOf.f k a0).bind fun bt180 => ((impl_PeriodsOf.f k a0).bind fun bt182 => ((spec_PeriodsOf.f k a0).bind fun bt186 => (if t179 = bt180.2 then (if t178.toList = bt180.1.toList then (if bt182.2 = bt186.2 then ((laws_likeInts.f k bt182.1 bt186.1).bind fun t190 => (laws_FnPromiseOfAll.j0 k a0 a1 (a0.size : Int) t178 t179 bt182.1 bt182.2 (!t190))) else (laws_FnPromiseOfAll.j0 k a0 a1 (a0.size : Int) t178 t179 bt182.1 bt182.2 true)) else (laws_FnPromiseOfAll.j0 k a0 a1 (a0.size : Int) t178 t179 bt182.1 bt182.2 true)) else (laws_FnPromiseOfAll.j0 k a0 a1 (a0.size : Int) t178 t179 bt182.1 bt182.2 true))))) = some r := H
    have A4 := Aside0.mk A40
    clear A40
    replace H := Option.bind_eq_some_iff.mp H
    obtain ⟨⟨t180, t181⟩, A50, H⟩ := H
    replace H : ((impl_PeriodsOf.f k a0).bind fun bt182 => ((spec_PeriodsOf.f k a0).bind fun bt186 => (if t179 = t181 then (if t178.toList = t180.toList then (if bt182.2 = bt186.2 then ((laws_likeInts.f k bt182.1 bt186.1).bind fun t190 => (laws_FnPromiseOfAll.j0 k a0 a1 (a0.size : Int) t178 t179 bt182.1 bt182.2 (!t190))) else (laws_FnPromiseOfAll.j0 k a0 a1 (a0.size : Int) t178 t179 bt182.1 bt182.2 true)) else (laws_FnPromiseOfAll.j0 k a0 a1 (a0.size : Int) t178 t179 bt182.1 bt182.2 true)) else (laws_FnPromiseOfAll.j0 k a0 a1 (a0.size : Int) t178 t179 bt182.1 bt182.2 true)))) = some r := H
    have A5 := Aside0.mk A50
    clear A50
    replace H := Option.bind_eq_some_iff.mp H
    obtain ⟨⟨t182, t183⟩, A60, H⟩ := H
    replace H : ((spec_PeriodsOf.f k a0).bind fun bt186 => (if t179 = t181 then (if t178.toList = t180.toList then (if t183 = bt186.2 then ((laws_likeInts.f k t182 bt186.1).bind fun t190 => (laws_FnPromiseOfAll.j0 k a0 a1 (a0.size : Int) t178 t179 t182 t183 (!t190))) else (laws_FnPromiseOfAll.j0 k a0 a1 (a0.size : Int) t178 t179 t182 t183 true)) else (laws_FnPromiseOfAll.j0 k a0 a1 (a0.size : Int) t178 t179 t182 t183 true)) else (laws_FnPromiseOfAll.j0 k a0 a1 (a0.size : Int) t178 t179 t182 t183 true))) = some r := H
    have A6 := Aside0.mk A60
    clear A60
    replace H := Option.bind_eq_some_iff.mp H
    obtain ⟨⟨t186, t187⟩, A70, H⟩ := H
    replace H : (if t179 = t181 then (if t178.toList = t180.toList then (if t183 = t187 then ((laws_likeInts.f k t182 t186).bind fun t190 => (laws_FnPromiseOfAll.j0 k a0 a1 (a0.size : Int) t178 t179 t182 t183 (!t190))) else (laws_FnPromiseOfAll.j0 k a0 a1 (a0.size : Int) t178 t179 t182 t183 true)) else (laws_FnPromiseOfAll.j0 k a0 a1 (a0.size : Int) t178 t179 t182 t183 true)) else (laws_FnPromiseOfAll.j0 k a0 a1 (a0.size : Int) t178 t179 t182 t183 true)) = some r := H
    have A7 := Aside0.mk A70
    clear A70
    have HC8 := Aside0.mk H
    clear H
    go_enter Try.func3, Try.ntmps3
    go_upto_region 8 with (first | ((with_reducible refine gate_callee (f := 4) rfl ?_); refine goesL_ (some 38) rfl rfl Try.func4 (by kernel_rfl) rfl #[.string a0] rfl (by (try simp only [List.map_toArray, List.map_cons, List.map_nil]); first | done | rfl | (simp only [List.length_drop, List.length_take]; rfl)) ?_; (with_reducible refine (impl_ReverseOf.calls k a0 t178 t179 _ A4.out).mono ?_); rintro e w9 ⟨rfl, hb⟩; refine ⟨_, rfl, ?_⟩; have n0_ := Aside0.mk (below_step (by repeat (first | (with_reducible first | exact HB.out | apply below_alloc | apply pw_below_drewN | apply below_drew1) | exact HB.out)) hb); clear HB; have HB := n0_; clear n0_; (try clear hb); (try clear hb2); (try clear hk); (try clear hi)) | ((with_reducible refine gate_callee (f := 5) rfl ?_); refine goesL_ (some 43) rfl rfl Try.func5 (by kernel_rfl) rfl #[.string a0] rfl (by (try simp only [List.map_toArray, List.map_cons, List.map_nil]); first | done | rfl | (simp only [List.length_drop, List.length_take]; rfl)) ?_; (with_reducible refine (spec_ReverseOf.calls k a0 t180 t181 _ A5.out).mono ?_); rintro e w10 ⟨rfl, hb⟩; refine ⟨_, rfl, ?_⟩; have n0_ := Aside0.mk (below_step (by repeat (first | (with_reducible first | exact HB.out | apply below_alloc | apply pw_below_drewN | apply below_drew1) | exact HB.out)) hb); clear HB; have HB := n0_; clear n0_; (try clear hb); (try clear hb2); (try clear hk); (try clear hi)) | ((with_reducible refine gate_callee (f := 6) rfl ?_); refine goesL_ (some 48) rfl rfl Try.func6 (by kernel_rfl) rfl #[.string a0] rfl (by (try simp only [List.map_toArray, List.map_cons, List.map_nil]); first | done | rfl | (simp only [List.length_drop, List.length_take]; rfl)) ?_; (with_reducible refine (impl_PeriodsOf.calls k a0 t182 t183 _ A6.out).mono ?_); rintro e w11 ⟨v184, rfl, ho0, hb⟩; refine ⟨_, rfl, ?_⟩; have n0_ := Aside0.mk (Kd.R_lower ho0 (below_size (by repeat (first | (with_reducible first | exact HB.out | apply below_alloc | apply pw_below_drewN | apply below_drew1) | exact HB.out)))); have n1_ := Aside0.mk (below_step (by repeat (first | (with_reducible first | exact HB.out | apply below_alloc | apply pw_below_drewN | apply below_drew1) | exact HB.out)) hb); clear HB; have HO185 := n0_; have HB := n1_; clear n0_ n1_; (try clear hb); (try clear hb2); (try clear hk); (try clear hi); (try clear ho0)) | ((with_reducible refine gate_callee (f := 7) rfl ?_); refine goesL_ (some 53) rfl rfl Try.func7 (by kernel_rfl) rfl #[.string a0] rfl (by (try simp only [List.map_toArray, List.map_cons, List.map_nil]); first | done | rfl | (simp only [List.length_drop, List.length_take]; rfl)) ?_; (with_reducible refine (spec_PeriodsOf.calls k a0 t186 t187 _ A7.out).mono ?_); rintro e w12 ⟨v188, rfl, ho0, hb⟩; refine ⟨_, rfl, ?_⟩; have n0_ := Aside0.mk (Kd.R_elder' (by (with_reducible repeat (first | apply Kd.R_alloc | apply Kd.R_drewN | apply Kd.R_drew)); exact HO185.out) (Kd.R_base ho0) hb); have n1_ := Aside0.mk (Kd.R_lower (Kd.R_new' ho0 (Kd.R_lt (by (with_reducible repeat (first | apply Kd.R_alloc | apply Kd.R_drewN | apply Kd.R_drew)); exact HO185.out))) (below_size (by repeat (first | (with_reducible first | exact HB.out | apply below_alloc | apply pw_below_drewN | apply below_drew1) | exact HB.out)))); have n2_ := Aside0.mk (below_step (by repeat (first | (with_reducible first | exact HB.out | apply below_alloc | apply pw_below_drewN | apply below_drew1) | exact HB.out)) hb); clear HO185; clear HB; have HO185 := n0_; have HO189 := n1_; have HB := n2_; clear n0_ n1_ n2_; (try clear hb); (try clear hb2); (try clear hk); (try clear hi); (try clear ho0)))
    (try simp only [Act.put, List.setIfInBounds_toArray, List.set_cons_zero, List.set_cons_succ])
    go_cut [74] (fun v74 wc => ∃ (kq : Nat) (x74_7 : Bool), v74 = .bool x74_7 ∧ Aside0 (laws_FnPromiseOfAll.j0 kq a0 a1 (a0.size : Int) t178 t179 t182 t183 x74_7 = some r) ∧ Aside0 (kq ≤ k) ∧ Aside0 (Kd.R (Kd.int .i64) 2 wc w.heap.size (fun _ => True) v184 t182) ∧ Aside0 (Below w.heap.size w wc))
    case first => as_aux_lemma =>
      have H := HC8.out
      clear HC8
      by_cases c13 : t179 = t181
      · rw [if_pos c13] at H
        have c13b0 : (t179 == t181) = true := beq_iff_eq.mpr c13
        have c13b1 : (t179 != t181) = false := bne_eq_false_iff_eq.mpr c13
        clear c13
        (first | rw [c13b0] | (simp only [i64_w, i32_w]; rw [c13b0]) | skip)
        by_cases c14 : t178.toList = t180.toList
        · rw [if_pos c14] at H
          have c14b0 : (t178.toList == t180.toList) = true := beq_iff_eq.mpr c14
          have c14b1 : (t178.toList != t180.toList) = false := bne_eq_false_iff_eq.mpr c14
          clear c14
          by_cases c15 : t183 = t187
          · rw [if_pos c15] at H
            have c15b0 : (t183 == t187) = true := beq_iff_eq.mpr c15
            have c15b1 : (t183 != t187) = false := bne_eq_false_iff_eq.mpr c15
            clear c15
            replace H := Option.bind_eq_some_iff.mp H
            obtain ⟨t190, A160, H⟩ := H
            replace H : (laws_FnPromiseOfAll.j0 k a0 a1 (a0.size : Int) t178 t179 t182 t183 (!t190)) = some r := H
            have A16 := Aside0.mk A160
            clear A160
            have H' := Aside0.mk H
            clear H
            obtain ⟨Ao17, co17, eo17⟩ := Kd.R_slice HO185.out
            subst eo17
            obtain ⟨Ao18, co18, eo18⟩ := Kd.R_slice HO189.out
            subst eo18
            go_wp2_with (first | (go_at_call 8; (with_reducible refine (laws_likeInts.calls k _ _ t182 _ _ t186 t190 _ ?side1 ?side2 ?side3 ?side4 A16.out).mono ?_); (case side1 => repeat (first | exact (Kd.R_reads' HO185.out).2.2 | (with_reducible refine Kd.C_alloc ?_ _) | (with_reducible refine Kd.C_drewN ?_ _) | (with_reducible refine Kd.C_drew ?_))); (case side2 => exact (Kd.R_reads' HO185.out).2.1); (case side3 => repeat (first | exact (Kd.R_reads' HO189.out).2.2 | (with_reducible refine Kd.C_alloc ?_ _) | (with_reducible refine Kd.C_drewN ?_ _) | (with_reducible refine Kd.C_drew ?_))); (case side4 => exact (Kd.R_reads' HO189.out).2.1); rintro e w' ⟨rfl, ⟨nd, rfl⟩⟩))
            go_meet
            case rel => exact ⟨_, (!t190), (by first | rfl | (simp; done) | (simp [*]; done)), H', ⟨by first | omega | exact Nat.le_refl _⟩, ⟨by (with_reducible repeat (first | apply Kd.R_alloc | apply Kd.R_drewN | apply Kd.R_drew)); exact Kd.R_mono HO185.out (fun _ hk => trivial)⟩, ⟨by repeat (first | (with_reducible first | exact HB.out | apply below_alloc | apply pw_below_drewN | apply below_drew1) | exact HB.out)⟩⟩
          · rw [if_neg c15] at H
            have c15b0 : (t183 == t187) = false := beq_eq_false_iff_ne.mpr c15
            have c15b1 : (t183 != t187) = true := bne_iff_ne.mpr c15
            have H' := Aside0.mk H
            clear H
            go_wp2
            go_meet
            case rel => exact ⟨_, (true), (by first | rfl | (simp; done) | (simp [*]; done)), H', ⟨by first | omega | exact Nat.le_refl _⟩, ⟨by (with_reducible repeat (first | apply Kd.R_alloc | apply Kd.R_drewN | apply Kd.R_drew)); exact Kd.R_mono HO185.out (fun _ hk => trivial)⟩, ⟨by repeat (first | (with_reducible first | exact HB.out | apply below_alloc | apply pw_below_drewN | apply below_drew1) | exact HB.out)⟩⟩
        · rw [if_neg c14] at H
          have c14b0 : (t178.toList == t180.toList) = false := beq_eq_false_iff_ne.mpr c14
          have c14b1 : (t178.toList != t180.toList) = true := bne_iff_ne.mpr c14
          have H' := Aside0.mk H
          clear H
          go_wp2
          go_meet
          case rel => exact ⟨_, (true), (by first | rfl | (simp; done) | (simp [*]; done)), H', ⟨by first | omega | exact Nat.le_refl _⟩, ⟨by (with_reducible repeat (first | apply Kd.R_alloc | apply Kd.R_drewN | apply Kd.R_drew)); exact Kd.R_mono HO185.out (fun _ hk => trivial)⟩, ⟨by repeat (first | (with_reducible first | exact HB.out | apply below_alloc | apply pw_below_drewN | apply below_drew1) | exact HB.out)⟩⟩
      · rw [if_neg c13] at H
        have c13b0 : (t179 == t181) = false := beq_eq_false_iff_ne.mpr c13
        have c13b1 : (t179 != t181) = true := bne_iff_ne.mpr c13
        (first | rw [c13b0] | (simp only [i64_w, i32_w]; rw [c13b0]) | skip)
        have H' := Aside0.mk H
        clear H
        go_wp2
        go_meet
        case rel => exact ⟨_, (true), (by first | rfl | (simp; done) | (simp [*]; done)), H', ⟨by first | omega | exact Nat.le_refl _⟩, ⟨by (with_reducible repeat (first | apply Kd.R_alloc | apply Kd.R_drewN | apply Kd.R_drew)); exact Kd.R_mono HO185.out (fun _ hk => trivial)⟩, ⟨by repeat (first | (with_reducible first | exact HB.out | apply below_alloc | apply pw_below_drewN | apply below_drew1) | exact HB.out)⟩⟩
    case rest => as_aux_lemma =>
      clear HC8
      try clear c1
      try clear p2
      try clear c3
      try clear c3b0
      try clear c3b1
      try clear c4
      try clear c5
      try clear c6
      try clear c7
      try clear c13
      try clear c13b0
      try clear c13b1
      try clear c14
      try clear c14b0
      try clear c14b1
      try clear c15
      try clear c15b0
      try clear c15b1
      obtain ⟨kq, x74_7, rfl, HA, HJ7, HO_10, HB⟩ := hcut
      cases kq with
      | zero => exact absurd HA.out (by simp [laws_FnPromiseOfAll.j0])
      | succ kj7 =>
        have H := HA.out
        clear HA
        simp only [laws_FnPromiseOfAll.j0] at H
        by_cases c19 : x74_7 = true
        · subst c19
          have H1 : (some false) = some r := by rw [if_pos rfl] at H; exact H
          clear H
          have H := H1
          clear H1
          obtain rfl := Option.some.inj H
          go_wp2
          go_ret
          exact ⟨by first | rfl | (simp [errW_none, errW_some] <;> rfl) | (simp [*, errW_none, errW_some] <;> rfl), by repeat (first | (with_reducible first | exact HB.out | apply below_alloc | apply pw_below_drewN | apply below_drew1) | exact HB.out)⟩
        · replace c19 := Bool.eq_false_iff.mpr c19
          subst c19
          have H1 : (if t179 = 0 then (if t183 = 0 then (laws_FnPromiseOfAll.j1 kj7 a0 a1 (a0.size : Int) t178 t182 ((a0.size : Int) == 0)) else (laws_FnPromiseOfAll.j1 kj7 a0 a1 (a0.size : Int) t178 t182 true)) else (laws_FnPromiseOfAll.j1 kj7 a0 a1 (a0.size : Int) t178 t182 true)) = some r := by rw [if_neg (show ¬ (false = true) by decide)] at H; exact H
          clear H
          have H := H1
          clear H1
          have HC20 := Aside0.mk H
          clear H
          go_upto_region 10 with (fail)
          go_cut [84] (fun v84 wc => ∃ (kq : Nat) (x84_19 : Bool), v84 = .bool x84_19 ∧ Aside0 (laws_FnPromiseOfAll.j1 kq a0 a1 (a0.size : Int) t178 t182 x84_19 = some r) ∧ Aside0 (kq ≤ kj7) ∧ Aside0 (Kd.R (Kd.int .i64) 2 wc w.heap.size (fun _ => True) v184 t182) ∧ Aside0 (Below w.heap.size w wc))
          case first => as_aux_lemma =>
            have H := HC20.out
            clear HC20
            by_cases c21 : t179 = 0
            · rw [if_pos c21] at H
              have c21b0 : (t179 == 0) = true := beq_iff_eq.mpr c21
              have c21b1 : (t179 != 0) = false := bne_eq_false_iff_eq.mpr c21
              clear c21
              (first | rw [c21b0] | (simp only [i64_w, i32_w]; rw [c21b0]) | skip)
              by_cases c22 : t183 = 0
              · rw [if_pos c22] at H
                have c22b0 : (t183 == 0) = true := beq_iff_eq.mpr c22
                have c22b1 : (t183 != 0) = false := bne_eq_false_iff_eq.mpr c22
                clear c22
                have H' := Aside0.mk H
                clear H
                go_wp2
                go_meet
                case rel => exact ⟨_, (((a0.size : Int) == 0)), (by first | rfl | (simp; done) | (simp [*]; done)), H', ⟨by have := HJ7.out; first | omega | exact Nat.le_refl _⟩, ⟨by (with_reducible repeat (first | apply Kd.R_alloc | apply Kd.R_drewN | apply Kd.R_drew)); exact HO_10.out⟩, ⟨by repeat (first | (with_reducible first | exact HB.out | apply below_alloc | apply pw_below_drewN | apply below_drew1) | exact HB.out)⟩⟩
              · rw [if_neg c22] at H
                have c22b0 : (t183 == 0) = false := beq_eq_false_iff_ne.mpr c22
                have c22b1 : (t183 != 0) = true := bne_iff_ne.mpr c22
                have H' := Aside0.mk H
                clear H
                go_wp2
                go_meet
                case rel => exact ⟨_, (true), (by first | rfl | (simp; done) | (simp [*]; done)), H', ⟨by have := HJ7.out; first | omega | exact Nat.le_refl _⟩, ⟨by (with_reducible repeat (first | apply Kd.R_alloc | apply Kd.R_drewN | apply Kd.R_drew)); exact HO_10.out⟩, ⟨by repeat (first | (with_reducible first | exact HB.out | apply below_alloc | apply pw_below_drewN | apply below_drew1) | exact HB.out)⟩⟩
            · rw [if_neg c21] at H
              have c21b0 : (t179 == 0) = false := beq_eq_false_iff_ne.mpr c21
              have c21b1 : (t179 != 0) = true := bne_iff_ne.mpr c21
              (first | rw [c21b0] | (simp only [i64_w, i32_w]; rw [c21b0]) | skip)
              have H' := Aside0.mk H
              clear H
              go_wp2
              go_meet
              case rel => exact ⟨_, (true), (by first | rfl | (simp; done) | (simp [*]; done)), H', ⟨by have := HJ7.out; first | omega | exact Nat.le_refl _⟩, ⟨by (with_reducible repeat (first | apply Kd.R_alloc | apply Kd.R_drewN | apply Kd.R_drew)); exact HO_10.out⟩, ⟨by repeat (first | (with_reducible first | exact HB.out | apply below_alloc | apply pw_below_drewN | apply below_drew1) | exact HB.out)⟩⟩
          case rest => as_aux_lemma =>
            clear HC20
            try clear c1
            try clear c2
            try clear p2
            try clear c3
            try clear c3b0
            try clear c3b1
            try clear c4
            try clear c5
            try clear c6
            try clear c7
            try clear c13
            try clear c13b0
            try clear c13b1
            try clear c14
            try clear c14b0
            try clear c14b1
            try clear c15
            try clear c15b0
            try clear c15b1
            try clear c19
            try clear c21
            try clear c21b0
            try clear c21b1
            try clear c22
            try clear c22b0
            try clear c22b1
            try clear p2
            obtain ⟨kq, x84_19, rfl, HA, HJ19, HO_10, HB⟩ := hcut
            cases kq with
            | zero => exact absurd HA.out (by simp [laws_FnPromiseOfAll.j1])
            | succ kj19 =>
              have H := HA.out
              clear HA
              simp only [laws_FnPromiseOfAll.j1] at H
              by_cases c23 : x84_19 = true
              · subst c23
                have H1 : (some true) = some r := by rw [if_pos rfl] at H; exact H
                clear H
                have H := H1
                clear H1
                obtain rfl := Option.some.inj H
                go_wp2
                go_ret
                exact ⟨by first | rfl | (simp [errW_none, errW_some] <;> rfl) | (simp [*, errW_none, errW_some] <;> rfl), by repeat (first | (with_reducible first | exact HB.out | apply below_alloc | apply pw_below_drewN | apply below_drew1) | exact HB.out)⟩
              · replace c23 := Bool.eq_false_iff.mpr c23
                subst c23
                have H1 : ((impl_PeriodsOf.f kj19 t178).bind fun bt191 => (if bt191.2 = 0 then ((laws_likeInts.f kj19 t182 bt191.1).bind fun t195 => (if t195 = true then (if (t182.length : Int) = 0 then (laws_FnPromiseOfAll.j2 kj19 a0 a1 (a0.size : Int) true) else (if 0 ≤ (wrap64 ((t182.length : Int) - 1)) then (if (wrap64 ((t182.length : Int) - 1)) < (t182.length : Int) then (laws_FnPromiseOfAll.j2 kj19 a0 a1 (a0.size : Int) ((rd t182 (wrap64 ((t182.length : Int) - 1))) != (a0.size : Int))) else (none)) else (none))) else (laws_FnPromiseOfAll.j2 kj19 a0 a1 (a0.size : Int) true))) else (laws_FnPromiseOfAll.j2 kj19 a0 a1 (a0.size : Int) true))) = some r := by rw [if_neg (show ¬ (false = true) by decide)] at H; exact H
                clear H
                have H := H1
                clear H1
                replace H := Option.bind_eq_some_iff.mp H
                obtain ⟨⟨t191, t192⟩, A240, H⟩ := H
                replace H : (if t192 = 0 then ((laws_likeInts.f kj19 t182 t191).bind fun t195 => (if t195 = true then (if (t182.length : Int) = 0 then (laws_FnPromiseOfAll.j2 kj19 a0 a1 (a0.size : Int) true) else (if 0 ≤ (wrap64 ((t182.length : Int) - 1)) then (if (wrap64 ((t182.length : Int) - 1)) < (t182.length : Int) then (laws_FnPromiseOfAll.j2 kj19 a0 a1 (a0.size : Int) ((rd t182 (wrap64 ((t182.length : Int) - 1))) != (a0.size : Int))) else (none)) else (none))) else (laws_FnPromiseOfAll.j2 kj19 a0 a1 (a0.size : Int) true))) else (laws_FnPromiseOfAll.j2 kj19 a0 a1 (a0.size : Int) true)) = some r := H
                have A24 := Aside0.mk A240
                clear A240
                have HC25 := Aside0.mk H
                clear H
                go_upto_region 13 with (first | ((with_reducible refine gate_callee (f := 6) rfl ?_); refine goesL_ (some 87) rfl rfl Try.func6 (by kernel_rfl) rfl #[.string t178] rfl (by (try simp only [List.map_toArray, List.map_cons, List.map_nil]); first | done | rfl | (simp only [List.length_drop, List.length_take]; rfl)) ?_; (with_reducible refine (impl_PeriodsOf.calls kj19 t178 t191 t192 _ A24.out).mono ?_); rintro e w26 ⟨v193, rfl, ho0, hb⟩; refine ⟨_, rfl, ?_⟩; have n0_ := Aside0.mk (Kd.R_elder' (by (with_reducible repeat (first | apply Kd.R_alloc | apply Kd.R_drewN | apply Kd.R_drew)); exact HO_10.out) (Kd.R_base ho0) hb); have n1_ := Aside0.mk (Kd.R_lower (Kd.R_new' ho0 (Kd.R_lt (by (with_reducible repeat (first | apply Kd.R_alloc | apply Kd.R_drewN | apply Kd.R_drew)); exact HO_10.out))) (below_size (by repeat (first | (with_reducible first | exact HB.out | apply below_alloc | apply pw_below_drewN | apply below_drew1) | exact HB.out)))); have n2_ := Aside0.mk (below_step (by repeat (first | (with_reducible first | exact HB.out | apply below_alloc | apply pw_below_drewN | apply below_drew1) | exact HB.out)) hb); clear HO_10; clear HB; have HO_10 := n0_; have HO194 := n1_; have HB := n2_; clear n0_ n1_ n2_; (try clear hb); (try clear hb2); (try clear hk); (try clear hi); (try clear ho0)))
                (try simp only [Act.put, List.setIfInBounds_toArray, List.set_cons_zero, List.set_cons_succ])
                go_cut [112] (fun v112 wc => ∃ (kq : Nat) (x112_24 : Bool), v112 = .bool x112_24 ∧ Aside0 (laws_FnPromiseOfAll.j2 kq a0 a1 (a0.size : Int) x112_24 = some r) ∧ Aside0 (kq ≤ kj19) ∧ Aside0 (Below w.heap.size w wc))
                case first => as_aux_lemma =>
                  have H := HC25.out
                  clear HC25
                  by_cases c27 : t192 = 0
                  · rw [if_pos c27] at H
                    have c27b0 : (t192 == 0) = true := beq_iff_eq.mpr c27
                    have c27b1 : (t192 != 0) = false := bne_eq_false_iff_eq.mpr c27
                    clear c27
                    (first | rw [c27b0] | (simp only [i64_w, i32_w]; rw [c27b0]) | skip)
                    replace H := Option.bind_eq_some_iff.mp H
                    obtain ⟨t195, A280, H⟩ := H
                    replace H : (if t195 = true then (if (t182.length : Int) = 0 then (laws_FnPromiseOfAll.j2 kj19 a0 a1 (a0.size : Int) true) else (if 0 ≤ (wrap64 ((t182.length : Int) - 1)) then (if (wrap64 ((t182.length : Int) - 1)) < (t182.length : Int) then (laws_FnPromiseOfAll.j2 kj19 a0 a1 (a0.size : Int) ((rd t182 (wrap64 ((t182.length : Int) - 1))) != (a0.size : Int))) else (none)) else (none))) else (laws_FnPromiseOfAll.j2 kj19 a0 a1 (a0.size : Int) true)) = some r := H
                    have A28 := Aside0.mk A280
                    clear A280
                    by_cases c29 : t195 = true
                    · subst c29
                      have H1 : (if (t182.length : Int) = 0 then (laws_FnPromiseOfAll.j2 kj19 a0 a1 (a0.size : Int) true) else (if 0 ≤ (wrap64 ((t182.length : Int) - 1)) then (if (wrap64 ((t182.length : Int) - 1)) < (t182.length : Int) then (laws_FnPromiseOfAll.j2 kj19 a0 a1 (a0.size : Int) ((rd t182 (wrap64 ((t182.length : Int) - 1))) != (a0.size : Int))) else (none)) else (none))) = some r := by rw [if_pos rfl] at H; exact H
                      clear H
                      have H := H1
                      clear H1
                      by_cases c30 : (t182.length : Int) = 0
                      · rw [if_pos c30] at H
                        have c30b0 : ((t182.length : Int) == 0) = true := beq_iff_eq.mpr c30
                        have c30b1 : ((t182.length : Int) != 0) = false := bne_eq_false_iff_eq.mpr c30
                        clear c30
                        have H' := Aside0.mk H
                        clear H
                        obtain ⟨Ao31, co31, eo31⟩ := Kd.R_slice HO_10.out
                        subst eo31
                        obtain ⟨Ao32, co32, eo32⟩ := Kd.R_slice HO194.out
                        subst eo32
                        go_wp2_with (first | (go_at_call 8; (with_reducible refine (laws_likeInts.calls kj19 _ _ t182 _ _ t191 true _ ?side1 ?side2 ?side3 ?side4 A28.out).mono ?_); (case side1 => repeat (first | exact (Kd.R_reads' HO_10.out).2.2 | (with_reducible refine Kd.C_alloc ?_ _) | (with_reducible refine Kd.C_drewN ?_ _) | (with_reducible refine Kd.C_drew ?_))); (case side2 => exact (Kd.R_reads' HO_10.out).2.1); (case side3 => repeat (first | exact (Kd.R_reads' HO194.out).2.2 | (with_reducible refine Kd.C_alloc ?_ _) | (with_reducible refine Kd.C_drewN ?_ _) | (with_reducible refine Kd.C_drew ?_))); (case side4 => exact (Kd.R_reads' HO194.out).2.1); rintro e w' ⟨rfl, ⟨nd, rfl⟩⟩))
                        go_meet
                        case rel => exact ⟨_, (true), (by first | rfl | (simp; done) | (simp [*]; done)), H', ⟨by have := HJ7.out; have := HJ19.out; first | omega | exact Nat.le_refl _⟩, ⟨by repeat (first | (with_reducible first | exact HB.out | apply below_alloc | apply pw_below_drewN | apply below_drew1) | exact HB.out)⟩⟩
                      · rw [if_neg c30] at H
                        have c30b0 : ((t182.length : Int) == 0) = false := beq_eq_false_iff_ne.mpr c30
                        have c30b1 : ((t182.length : Int) != 0) = true := bne_iff_ne.mpr c30
                        have c30b2 : ¬ (t182 = []) := fun h_ => c30 (by rw [h_]; rfl)
                        obtain ⟨ji33, hji33⟩ : ∃ j_ : Int, (wrap64 ((t182.length : Int) - 1)) = j_ := ⟨_, rfl⟩
                        replace H : (if 0 ≤ (ji33) then (if (ji33) < (t182.length : Int) then (laws_FnPromiseOfAll.j2 kj19 a0 a1 (a0.size : Int) ((rd t182 (ji33)) != (a0.size : Int))) else (none)) else (none)) = some r := by first | (rw [hji33] at H; exact H) | (simp only [hji33] at H ⊢; exact H)
                        (try rw [hji33] at A28)
                        have hji33w : (IntKind.i64.wrap ((t182.length : Int) - 1)) = ji33 := (i64_w _).trans hji33
                        by_cases c34 : 0 ≤ (ji33)
                        · rw [if_pos c34] at H
                          have c34b0 : decide (0 ≤ (ji33)) = true := decide_eq_true c34
                          clear c34
                          by_cases c35 : (ji33) < (t182.length : Int)
                          · rw [if_pos c35] at H
                            have c35b0 : decide ((ji33) < (t182.length : Int)) = true := decide_eq_true c35
                            clear c35
                            have H' := Aside0.mk H
                            clear H
                            obtain ⟨Ao36, co36, eo36⟩ := Kd.R_slice HO_10.out
                            subst eo36
                            obtain ⟨Ao37, co37, eo37⟩ := Kd.R_slice HO194.out
                            subst eo37
                            go_wp2_with (first | (go_at_call 8; (with_reducible refine (laws_likeInts.calls kj19 _ _ t182 _ _ t191 true _ ?side1 ?side2 ?side3 ?side4 A28.out).mono ?_); (case side1 => repeat (first | exact (Kd.R_reads' HO_10.out).2.2 | (with_reducible refine Kd.C_alloc ?_ _) | (with_reducible refine Kd.C_drewN ?_ _) | (with_reducible refine Kd.C_drew ?_))); (case side2 => exact (Kd.R_reads' HO_10.out).2.1); (case side3 => repeat (first | exact (Kd.R_reads' HO194.out).2.2 | (with_reducible refine Kd.C_alloc ?_ _) | (with_reducible refine Kd.C_drewN ?_ _) | (with_reducible refine Kd.C_drew ?_))); (case side4 => exact (Kd.R_reads' HO194.out).2.1); rintro e w' ⟨rfl, ⟨nd, rfl⟩⟩; have p196 : 0 ≤ ((ji33) : Int) := of_decide_eq_true (by first | (with_reducible assumption) | assumption); have q196 : (ji33) < (t182.length : Int) := of_decide_eq_true (by first | (with_reducible assumption) | assumption); obtain ⟨ad196, e196, hx196_0⟩ := Kd.at_int (Kd.R_reads' HO_10.out).2.2 (ji33) p196 q196; cases e196; replace p196 := eq_true p196; replace q196 := eq_true q196))
                            go_meet
                            case rel => exact ⟨_, (((rd t182 (ji33)) != (a0.size : Int))), (by first | rfl | (simp; done) | (simp only [← hji33] <;> (first | rfl | simp)) | (simp [*]; done)), H', ⟨by have := HJ7.out; have := HJ19.out; first | omega | exact Nat.le_refl _⟩, ⟨by repeat (first | (with_reducible first | exact HB.out | apply below_alloc | apply pw_below_drewN | apply below_drew1) | exact HB.out)⟩⟩
                          · rw [if_neg c35] at H
                            exact absurd H (by simp)
                        · rw [if_neg c34] at H
                          exact absurd H (by simp)
                    · replace c29 := Bool.eq_false_iff.mpr c29
                      subst c29
                      have H1 : (laws_FnPromiseOfAll.j2 kj19 a0 a1 (a0.size : Int) true) = some r := by rw [if_neg (show ¬ (false = true) by decide)] at H; exact H
                      clear H
                      have H := H1
                      clear H1
                      have H' := Aside0.mk H
                      clear H
                      obtain ⟨Ao38, co38, eo38⟩ := Kd.R_slice HO_10.out
                      subst eo38
                      obtain ⟨Ao39, co39, eo39⟩ := Kd.R_slice HO194.out
                      subst eo39
                      go_wp2_with (first | (go_at_call 8; (with_reducible refine (laws_likeInts.calls kj19 _ _ t182 _ _ t191 false _ ?side1 ?side2 ?side3 ?side4 A28.out).mono ?_); (case side1 => repeat (first | exact (Kd.R_reads' HO_10.out).2.2 | (with_reducible refine Kd.C_alloc ?_ _) | (with_reducible refine Kd.C_drewN ?_ _) | (with_reducible refine Kd.C_drew ?_))); (case side2 => exact (Kd.R_reads' HO_10.out).2.1); (case side3 => repeat (first | exact (Kd.R_reads' HO194.out).2.2 | (with_reducible refine Kd.C_alloc ?_ _) | (with_reducible refine Kd.C_drewN ?_ _) | (with_reducible refine Kd.C_drew ?_))); (case side4 => exact (Kd.R_reads' HO194.out).2.1); rintro e w' ⟨rfl, ⟨nd, rfl⟩⟩))
                      go_meet
                      case rel => exact ⟨_, (true), (by first | rfl | (simp; done) | (simp [*]; done)), H', ⟨by have := HJ7.out; have := HJ19.out; first | omega | exact Nat.le_refl _⟩, ⟨by repeat (first | (with_reducible first | exact HB.out | apply below_alloc | apply pw_below_drewN | apply below_drew1) | exact HB.out)⟩⟩
                  · rw [if_neg c27] at H
                    have c27b0 : (t192 == 0) = false := beq_eq_false_iff_ne.mpr c27
                    have c27b1 : (t192 != 0) = true := bne_iff_ne.mpr c27
                    (first | rw [c27b0] | (simp only [i64_w, i32_w]; rw [c27b0]) | skip)
                    have H' := Aside0.mk H
                    clear H
                    go_wp2
                    go_meet
                    case rel => exact ⟨_, (true), (by first | rfl | (simp; done) | (simp [*]; done)), H', ⟨by have := HJ7.out; have := HJ19.out; first | omega | exact Nat.le_refl _⟩, ⟨by repeat (first | (with_reducible first | exact HB.out | apply below_alloc | apply pw_below_drewN | apply below_drew1) | exact HB.out)⟩⟩
                case rest => as_aux_lemma =>
                  clear HC25
                  try clear c1
                  try clear p1
                  try clear q1
                  try clear hx1
                  try clear c2
                  try clear p2
                  try clear c3
                  try clear c3b0
                  try clear c3b1
                  try clear c4
                  try clear c5
                  try clear c6
                  try clear p6
                  try clear c7
                  try clear c13
                  try clear c13b0
                  try clear c13b1
                  try clear c14
                  try clear c14b0
                  try clear c14b1
                  try clear c15
                  try clear c15b0
                  try clear c15b1
                  try clear c19
                  try clear p19
                  try clear q19
                  try clear hx19
                  try clear c21
                  try clear c21b0
                  try clear c21b1
                  try clear c22
                  try clear c22b0
                  try clear c22b1
                  try clear c23
                  try clear c27
                  try clear c27b0
                  try clear c27b1
                  try clear c29
                  try clear c30
                  try clear c30b0
                  try clear c30b1
                  try clear c30b2
                  try clear c34
                  try clear c34b0
                  try clear c35
                  try clear c35b0
                  try clear hx196_0
                  try clear p196
                  try clear p2
                  try clear q196
                  obtain ⟨kq, x112_24, rfl, HA, HJ24, HB⟩ := hcut
                  cases kq with
                  | zero => exact absurd HA.out (by simp [laws_FnPromiseOfAll.j2])
                  | succ kj24 =>
                    have H := HA.out
                    clear HA
                    simp only [laws_FnPromiseOfAll.j2] at H
                    by_cases c40 : x112_24 = true
                    · subst c40
                      have H1 : (some false) = some r := by rw [if_pos rfl] at H; exact H
                      clear H
                      have H := H1
                      clear H1
                      obtain rfl := Option.some.inj H
                      go_wp2
                      go_ret
                      exact ⟨by first | rfl | (simp [errW_none, errW_some] <;> rfl) | (simp [*, errW_none, errW_some] <;> rfl), by repeat (first | (with_reducible first | exact HB.out | apply below_alloc | apply pw_below_drewN | apply below_drew1) | exact HB.out)⟩
                    · replace c40 := Bool.eq_false_iff.mpr c40
                      subst c40
                      have H1 : ((impl_PowerOf.f kj24 a0 a1).bind fun bt197 => ((spec_PowerOf.f kj24 a0 a1).bind fun bt199 => (if bt197.2 = bt199.2 then (laws_FnPromiseOfAll.j3 kj24 a0 a1 (a0.size : Int) bt197.1 bt197.2 (bt197.1.toList != bt199.1.toList)) else (laws_FnPromiseOfAll.j3 kj24 a0 a1 (a0.size : Int) bt197.1 bt197.2 true)))) = some r := by rw [if_neg (show ¬ (false = true) by decide)] at H; exact H
                      clear H
                      have H := H1
                      clear H1
                      replace H := Option.bind_eq_some_iff.mp H
                      obtain ⟨⟨t197, t198⟩, A410, H⟩ := H
                      replace H : ((spec_PowerOf.f kj24 a0 a1).bind fun bt199 => (if t198 = bt199.2 then (laws_FnPromiseOfAll.j3 kj24 a0 a1 (a0.size : Int) t197 t198 (t197.toList != bt199.1.toList)) else (laws_FnPromiseOfAll.j3 kj24 a0 a1 (a0.size : Int) t197 t198 true))) = some r := H
                      have A41 := Aside0.mk A410
                      clear A410
                      replace H := Option.bind_eq_some_iff.mp H
                      obtain ⟨⟨t199, t200⟩, A420, H⟩ := H
                      replace H : (if t198 = t200 then (laws_FnPromiseOfAll.j3 kj24 a0 a1 (a0.size : Int) t197 t198 (t197.toList != t199.toList)) else (laws_FnPromiseOfAll.j3 kj24 a0 a1 (a0.size : Int) t197 t198 true)) = some r := H
                      have A42 := Aside0.mk A420
                      clear A420
                      have HC43 := Aside0.mk H
                      clear H
                      go_upto_region 17 with (first | ((with_reducible refine gate_callee (f := 9) rfl ?_); refine goesL_ (some 116) rfl rfl Try.func9 (by kernel_rfl) rfl #[.string a0, .int .i64 a1] rfl (by (try simp only [List.map_toArray, List.map_cons, List.map_nil]); first | done | rfl | (simp only [List.length_drop, List.length_take]; rfl)) ?_; (with_reducible refine (impl_PowerOf.calls kj24 a0 a1 t197 t198 _ A41.out).mono ?_); rintro e w44 ⟨rfl, hb⟩; refine ⟨_, rfl, ?_⟩; have n0_ := Aside0.mk (below_step (by repeat (first | (with_reducible first | exact HB.out | apply below_alloc | apply pw_below_drewN | apply below_drew1) | exact HB.out)) hb); clear HB; have HB := n0_; clear n0_; (try clear hb); (try clear hb2); (try clear hk); (try clear hi)) | ((with_reducible refine gate_callee (f := 10) rfl ?_); refine goesL_ (some 122) rfl rfl Try.func10 (by kernel_rfl) rfl #[.string a0, .int .i64 a1] rfl (by (try simp only [List.map_toArray, List.map_cons, List.map_nil]); first | done | rfl | (simp only [List.length_drop, List.length_take]; rfl)) ?_; (with_reducible refine (spec_PowerOf.calls kj24 a0 a1 t199 t200 _ A42.out).mono ?_); rintro e w' ⟨rfl, ⟨nd, rfl⟩⟩; refine ⟨_, rfl, ?_⟩))
                      (try simp only [Act.put, List.setIfInBounds_toArray, List.set_cons_zero, List.set_cons_succ])
                      go_cut [132] (fun v132 wc => ∃ (kq : Nat) (x132_42 : Bool), v132 = .bool x132_42 ∧ Aside0 (laws_FnPromiseOfAll.j3 kq a0 a1 (a0.size : Int) t197 t198 x132_42 = some r) ∧ Aside0 (kq ≤ kj24) ∧ Aside0 (Below w.heap.size w wc))
                      case first => as_aux_lemma =>
                        have H := HC43.out
                        clear HC43
                        by_cases c45 : t198 = t200
                        · rw [if_pos c45] at H
                          have c45b0 : (t198 == t200) = true := beq_iff_eq.mpr c45
                          have c45b1 : (t198 != t200) = false := bne_eq_false_iff_eq.mpr c45
                          clear c45
                          (first | rw [c45b0] | (simp only [i64_w, i32_w]; rw [c45b0]) | skip)
                          have H' := Aside0.mk H
                          clear H
                          go_wp2
                          go_meet
                          case rel => exact ⟨_, ((t197.toList != t199.toList)), (by first | rfl | (simp; done) | (simp [*]; done)), H', ⟨by have := HJ7.out; have := HJ19.out; have := HJ24.out; first | omega | exact Nat.le_refl _⟩, ⟨by repeat (first | (with_reducible first | exact HB.out | apply below_alloc | apply pw_below_drewN | apply below_drew1) | exact HB.out)⟩⟩
                        · rw [if_neg c45] at H
                          have c45b0 : (t198 == t200) = false := beq_eq_false_iff_ne.mpr c45
                          have c45b1 : (t198 != t200) = true := bne_iff_ne.mpr c45
                          (first | rw [c45b0] | (simp only [i64_w, i32_w]; rw [c45b0]) | skip)
                          have H' := Aside0.mk H
                          clear H
                          go_wp2
                          go_meet
                          case rel => exact ⟨_, (true), (by first | rfl | (simp; done) | (simp [*]; done)), H', ⟨by have := HJ7.out; have := HJ19.out; have := HJ24.out; first | omega | exact Nat.le_refl _⟩, ⟨by repeat (first | (with_reducible first | exact HB.out | apply below_alloc | apply pw_below_drewN | apply below_drew1) | exact HB.out)⟩⟩
                      case rest => as_aux_lemma =>
                        clear HC43
                        try clear c1
                        try clear p1
                        try clear q1
                        try clear hx1
                        try clear c2
                        try clear p2
                        try clear c3
                        try clear c3b0
                        try clear c3b1
                        try clear c4
                        try clear c5
                        try clear c6
                        try clear p6
                        try clear c7
                        try clear c9
                        try clear c10
                        try clear c13
                        try clear c13b0
                        try clear c13b1
                        try clear c14
                        try clear c14b0
                        try clear c14b1
                        try clear c15
                        try clear c15b0
                        try clear c15b1
                        try clear c19
                        try clear p19
                        try clear q19
                        try clear hx19
                        try clear c21
                        try clear c21b0
                        try clear c21b1
                        try clear c22
                        try clear c22b0
                        try clear c22b1
                        try clear c23
                        try clear c27
                        try clear c27b0
                        try clear c27b1
                        try clear c29
                        try clear c30
                        try clear c30b0
                        try clear c30b1
                        try clear c30b2
                        try clear c34
                        try clear c34b0
                        try clear c35
                        try clear c35b0
                        try clear c40
                        try clear c45
                        try clear c45b0
                        try clear c45b1
                        try clear hx196_0
                        try clear p1
                        try clear p19
                        try clear p196
                        try clear p2
                        try clear p6
                        try clear q1
                        try clear q19
                        try clear q196
                        obtain ⟨kq, x132_42, rfl, HA, HJ42, HB⟩ := hcut
                        cases kq with
                        | zero => exact absurd HA.out (by simp [laws_FnPromiseOfAll.j3])
                        | succ kj42 =>
                          have H := HA.out
                          clear HA
                          simp only [laws_FnPromiseOfAll.j3] at H
                          by_cases c46 : x132_42 = true
                          · subst c46
                            have H1 : (some false) = some r := by rw [if_pos rfl] at H; exact H
                            clear H
                            have H := H1
                            clear H1
                            obtain rfl := Option.some.inj H
                            go_wp2
                            go_ret
                            exact ⟨by first | rfl | (simp [errW_none, errW_some] <;> rfl) | (simp [*, errW_none, errW_some] <;> rfl), by repeat (first | (with_reducible first | exact HB.out | apply below_alloc | apply pw_below_drewN | apply below_drew1) | exact HB.out)⟩
                          · replace c46 := Bool.eq_false_iff.mpr c46
                            subst c46
                            have H1 : (if t198 = 0 then (laws_FnPromiseOfAll.j4 kj42 a0 a1 (a0.size : Int) t197 (decide (a1 > 0))) else (laws_FnPromiseOfAll.j4 kj42 a0 a1 (a0.size : Int) t197 false)) = some r := by rw [if_neg (show ¬ (false = true) by decide)] at H; exact H
                            clear H
                            have H := H1
                            clear H1
                            have HC47 := Aside0.mk H
                            clear H
                            go_upto_region 19 with (fail)
                            go_cut [138] (fun v138 wc => ∃ (kq : Nat) (x138_46 : Bool), v138 = .bool x138_46 ∧ Aside0 (laws_FnPromiseOfAll.j4 kq a0 a1 (a0.size : Int) t197 x138_46 = some r) ∧ Aside0 (kq ≤ kj42) ∧ Aside0 (Below w.heap.size w wc))
                            case first => as_aux_lemma =>
                              have H := HC47.out
                              clear HC47
                              by_cases c48 : t198 = 0
                              · rw [if_pos c48] at H
                                have c48b0 : (t198 == 0) = true := beq_iff_eq.mpr c48
                                have c48b1 : (t198 != 0) = false := bne_eq_false_iff_eq.mpr c48
                                clear c48
                                (first | rw [c48b0] | (simp only [i64_w, i32_w]; rw [c48b0]) | skip)
                                have H' := Aside0.mk H
                                clear H
                                go_wp2
                                go_meet
                                case rel => exact ⟨_, (decide (a1 > 0)), (by first | rfl | (simp; done) | (simp [*]; done)), H', ⟨by have := HJ7.out; have := HJ19.out; have := HJ24.out; have := HJ42.out; first | omega | exact Nat.le_refl _⟩, ⟨by repeat (first | (with_reducible first | exact HB.out | apply below_alloc | apply pw_below_drewN | apply below_drew1) | exact HB.out)⟩⟩
                              · rw [if_neg c48] at H
                                have c48b0 : (t198 == 0) = false := beq_eq_false_iff_ne.mpr c48
                                have c48b1 : (t198 != 0) = true := bne_iff_ne.mpr c48
                                (first | rw [c48b0] | (simp only [i64_w, i32_w]; rw [c48b0]) | skip)
                                have H' := Aside0.mk H
                                clear H
                                go_wp2
                                go_meet
                                case rel => exact ⟨_, (false), (by first | rfl | (simp; done) | (simp [*]; done)), H', ⟨by have := HJ7.out; have := HJ19.out; have := HJ24.out; have := HJ42.out; first | omega | exact Nat.le_refl _⟩, ⟨by repeat (first | (with_reducible first | exact HB.out | apply below_alloc | apply pw_below_drewN | apply below_drew1) | exact HB.out)⟩⟩
                            case rest => as_aux_lemma =>
                              clear HC47
                              try clear c1
                              try clear p1
                              try clear q1
                              try clear hx1
                              try clear c2
                              try clear p2
                              try clear c3
                              try clear c3b0
                              try clear c3b1
                              try clear c4
                              try clear c5
                              try clear c6
                              try clear p6
                              try clear c7
                              try clear c9
                              try clear c10
                              try clear c13
                              try clear c13b0
                              try clear c13b1
                              try clear c14
                              try clear c14b0
                              try clear c14b1
                              try clear c15
                              try clear c15b0
                              try clear c15b1
                              try clear c19
                              try clear p19
                              try clear q19
                              try clear hx19
                              try clear c21
                              try clear c21b0
                              try clear c21b1
                              try clear c22
                              try clear c22b0
                              try clear c22b1
                              try clear c23
                              try clear c27
                              try clear c27b0
                              try clear c27b1
                              try clear c29
                              try clear c30
                              try clear c30b0
                              try clear c30b1
                              try clear c30b2
                              try clear c34
                              try clear c34b0
                              try clear c35
                              try clear c35b0
                              try clear c40
                              try clear c45
                              try clear c45b0
                              try clear c45b1
                              try clear c46
                              try clear c48
                              try clear c48b0
                              try clear c48b1
                              try clear hx196_0
                              try clear p1
                              try clear p19
                              try clear p196
                              try clear p2
                              try clear p6
                              try clear q1
                              try clear q19
                              try clear q196
                              obtain ⟨kq, x138_46, rfl, HA, HJ46, HB⟩ := hcut
                              cases kq with
                              | zero => exact absurd HA.out (by simp [laws_FnPromiseOfAll.j4])
                              | succ kj46 =>
                                have H := HA.out
                                clear HA
                                simp only [laws_FnPromiseOfAll.j4] at H
                                have HC49 := Aside0.mk H
                                clear H
                                go_upto_if 138 with (fail)
                                go_cut [] (fun wc => ∃ (kq : Nat), Aside0 (laws_FnPromiseOfAll.j5 kq a0 = some r) ∧ Aside0 (kq ≤ kj46) ∧ Aside0 (Below w.heap.size w wc))
                                case first => as_aux_lemma =>
                                  have H := HC49.out
                                  clear HC49
                                  by_cases c50 : x138_46 = true
                                  · subst c50
                                    have H1 : ((impl_PeriodsOf.f kj46 t197).bind fun bt201 => ((impl_RootOf.f kj46 t197).bind fun bt205 => (if bt201.2 = 0 then ((laws_hasInt.f kj46 bt201.1 (a0.size : Int)).bind fun t208 => (if t208 = true then (if bt205.2.2 = 0 then (if (wrap64 ((bt205.1.size : Int) * bt205.2.1)) = (wrap64 (a1 * (a0.size : Int))) then (if a1 = 0 then (none) else (if (Int.tmod bt205.2.1 a1) = 0 then (laws_FnPromiseOfAll.j5 kj46 a0) else (some false))) else (some false)) else (some false)) else (some false))) else (some false)))) = some r := by rw [if_pos rfl] at H; exact H
                                    clear H
                                    have H := H1
                                    clear H1
                                    replace H := Option.bind_eq_some_iff.mp H
                                    obtain ⟨⟨t201, t202⟩, A510, H⟩ := H
                                    replace H : ((impl_RootOf.f kj46 t197).bind fun bt205 => (if t202 = 0 then ((laws_hasInt.f kj46 t201 (a0.size : Int)).bind fun t208 => (if t208 = true then (if bt205.2.2 = 0 then (if (wrap64 ((bt205.1.size : Int) * bt205.2.1)) = (wrap64 (a1 * (a0.size : Int))) then (if a1 = 0 then (none) else (if (Int.tmod bt205.2.1 a1) = 0 then (laws_FnPromiseOfAll.j5 kj46 a0) else (some false))) else (some false)) else (some false)) else (some false))) else (some false))) = some r := H
                                    have A51 := Aside0.mk A510
                                    clear A510
                                    replace H := Option.bind_eq_some_iff.mp H
                                    obtain ⟨⟨t205, t206, t207⟩, A520, H⟩ := H
                                    replace H : (if t202 = 0 then ((laws_hasInt.f kj46 t201 (a0.size : Int)).bind fun t208 => (if t208 = true then (if t207 = 0 then (if (wrap64 ((t205.size : Int) * t206)) = (wrap64 (a1 * (a0.size : Int))) then (if a1 = 0 then (none) else (if (Int.tmod t206 a1) = 0 then (laws_FnPromiseOfAll.j5 kj46 a0) else (some false))) else (some false)) else (some false)) else (some false))) else (some false)) = some r := H
                                    have A52 := Aside0.mk A520
                                    clear A520
                                    by_cases c53 : t202 = 0
                                    · rw [if_pos c53] at H
                                      have c53b0 : (t202 == 0) = true := beq_iff_eq.mpr c53
                                      have c53b1 : (t202 != 0) = false := bne_eq_false_iff_eq.mpr c53
                                      clear c53
                                      (first | rw [c53b0] | (simp only [i64_w, i32_w]; rw [c53b0]) | skip)
                                      replace H := Option.bind_eq_some_iff.mp H
                                      obtain ⟨t208, A540, H⟩ := H
                                      replace H : (if t208 = true then (if t207 = 0 then (if (wrap64 ((t205.size : Int) * t206)) = (wrap64 (a1 * (a0.size : Int))) then (if a1 = 0 then (none) else (if (Int.tmod t206 a1) = 0 then (laws_FnPromiseOfAll.j5 kj46 a0) else (some false))) else (some false)) else (some false)) else (some false)) = some r := H
                                      have A54 := Aside0.mk A540
                                      clear A540
                                      by_cases c55 : t208 = true
                                      · subst c55
                                        have H1 : (if t207 = 0 then (if (wrap64 ((t205.size : Int) * t206)) = (wrap64 (a1 * (a0.size : Int))) then (if a1 = 0 then (none) else (if (Int.tmod t206 a1) = 0 then (laws_FnPromiseOfAll.j5 kj46 a0) else (some false))) else (some false)) else (some false)) = some r := by rw [if_pos rfl] at H; exact H
                                        clear H
                                        have H := H1
                                        clear H1
                                        by_cases c56 : t207 = 0
                                        · rw [if_pos c56] at H
                                          have c56b0 : (t207 == 0) = true := beq_iff_eq.mpr c56
                                          have c56b1 : (t207 != 0) = false := bne_eq_false_iff_eq.mpr c56
                                          clear c56
                                          by_cases c57 : (wrap64 ((t205.size : Int) * t206)) = (wrap64 (a1 * (a0.size : Int)))
                                          · rw [if_pos c57] at H
                                            have c57b0 : ((wrap64 ((t205.size : Int) * t206)) == (wrap64 (a1 * (a0.size : Int)))) = true := beq_iff_eq.mpr c57
                                            have c57b1 : ((wrap64 ((t205.size : Int) * t206)) != (wrap64 (a1 * (a0.size : Int)))) = false := bne_eq_false_iff_eq.mpr c57
                                            clear c57
                                            by_cases c58 : a1 = 0
                                            · rw [if_pos c58] at H
                                              exact absurd H (by simp)
                                            · rw [if_neg c58] at H
                                              have c58b0 : (a1 == 0) = false := beq_eq_false_iff_ne.mpr c58
                                              have c58b1 : (a1 != 0) = true := bne_iff_ne.mpr c58
                                              by_cases c59 : (Int.tmod t206 a1) = 0
                                              · rw [if_pos c59] at H
                                                have c59b0 : ((Int.tmod t206 a1) == 0) = true := beq_iff_eq.mpr c59
                                                have c59b1 : ((Int.tmod t206 a1) != 0) = false := bne_eq_false_iff_eq.mpr c59
                                                clear c59
                                                have H' := Aside0.mk H
                                                clear H
                                                go_wp2_with (first | ((with_reducible refine gate_callee (f := 6) rfl ?_); refine goesL_ (some 141) rfl rfl Try.func6 (by kernel_rfl) rfl #[.string t197] rfl (by (try simp only [List.map_toArray, List.map_cons, List.map_nil]); first | done | rfl | (simp only [List.length_drop, List.length_take]; rfl)) ?_; (with_reducible refine (impl_PeriodsOf.calls kj46 t197 t201 t202 _ A51.out).mono ?_); rintro e w60 ⟨v203, rfl, ho0, hb⟩; refine ⟨_, rfl, ?_⟩; have n0_ := Aside0.mk (Kd.R_lower ho0 (below_size (by repeat (first | (with_reducible first | exact HB.out | apply below_alloc | apply pw_below_drewN | apply below_drew1) | exact HB.out)))); have n1_ := Aside0.mk (below_step (by repeat (first | (with_reducible first | exact HB.out | apply below_alloc | apply pw_below_drewN | apply below_drew1) | exact HB.out)) hb); clear HB; have HO204 := n0_; have HB := n1_; clear n0_ n1_; (try clear hb); (try clear hb2); (try clear hk); (try clear hi); (try clear ho0)) | ((with_reducible refine gate_callee (f := 11) rfl ?_); refine goesL_ (some 146) rfl rfl Try.func11 (by kernel_rfl) rfl #[.string t197] rfl (by (try simp only [List.map_toArray, List.map_cons, List.map_nil]); first | done | rfl | (simp only [List.length_drop, List.length_take]; rfl)) ?_; (with_reducible refine (impl_RootOf.calls kj46 t197 t205 t206 t207 _ A52.out).mono ?_); rintro e w61 ⟨rfl, hb⟩; refine ⟨_, rfl, ?_⟩; have n0_ := Aside0.mk (Kd.R_below (by (with_reducible repeat (first | apply Kd.R_alloc | apply Kd.R_drewN | apply Kd.R_drew)); exact HO204.out) hb); have n1_ := Aside0.mk (below_step (by repeat (first | (with_reducible first | exact HB.out | apply below_alloc | apply pw_below_drewN | apply below_drew1) | exact HB.out)) hb); clear HO204; clear HB; have HO204 := n0_; have HB := n1_; clear n0_ n1_; (try clear hb); (try clear hb2); (try clear hk); (try clear hi); obtain ⟨Ao62, co62, eo62⟩ := Kd.R_slice HO204.out; subst eo62) | (go_at_call 12; (with_reducible refine (laws_hasInt.calls kj46 _ _ t201 (a0.size : Int) true _ ?side1 ?side2 A54.out).mono ?_); (case side1 => repeat (first | exact (Kd.R_reads' HO204.out).2.2 | (with_reducible refine Kd.C_alloc ?_ _) | (with_reducible refine Kd.C_drewN ?_ _) | (with_reducible refine Kd.C_drew ?_))); (case side2 => exact (Kd.R_reads' HO204.out).2.1); rintro e w' ⟨rfl, ⟨nd, rfl⟩⟩))
                                                go_meet
                                                case rel => exact ⟨_, H', ⟨by have := HJ7.out; have := HJ19.out; have := HJ24.out; have := HJ42.out; have := HJ46.out; first | omega | exact Nat.le_refl _⟩, ⟨by repeat (first | (with_reducible first | exact HB.out | apply below_alloc | apply pw_below_drewN | apply below_drew1) | exact HB.out)⟩⟩
                                              · rw [if_neg c59] at H
                                                have c59b0 : ((Int.tmod t206 a1) == 0) = false := beq_eq_false_iff_ne.mpr c59
                                                have c59b1 : ((Int.tmod t206 a1) != 0) = true := bne_iff_ne.mpr c59
                                                obtain rfl := Option.some.inj H
                                                go_wp2_with (first | ((with_reducible refine gate_callee (f := 6) rfl ?_); refine goesL_ (some 141) rfl rfl Try.func6 (by kernel_rfl) rfl #[.string t197] rfl (by (try simp only [List.map_toArray, List.map_cons, List.map_nil]); first | done | rfl | (simp only [List.length_drop, List.length_take]; rfl)) ?_; (with_reducible refine (impl_PeriodsOf.calls kj46 t197 t201 t202 _ A51.out).mono ?_); rintro e w63 ⟨v203, rfl, ho0, hb⟩; refine ⟨_, rfl, ?_⟩; have n0_ := Aside0.mk (Kd.R_lower ho0 (below_size (by repeat (first | (with_reducible first | exact HB.out | apply below_alloc | apply pw_below_drewN | apply below_drew1) | exact HB.out)))); have n1_ := Aside0.mk (below_step (by repeat (first | (with_reducible first | exact HB.out | apply below_alloc | apply pw_below_drewN | apply below_drew1) | exact HB.out)) hb); clear HB; have HO204 := n0_; have HB := n1_; clear n0_ n1_; (try clear hb); (try clear hb2); (try clear hk); (try clear hi); (try clear ho0)) | ((with_reducible refine gate_callee (f := 11) rfl ?_); refine goesL_ (some 146) rfl rfl Try.func11 (by kernel_rfl) rfl #[.string t197] rfl (by (try simp only [List.map_toArray, List.map_cons, List.map_nil]); first | done | rfl | (simp only [List.length_drop, List.length_take]; rfl)) ?_; (with_reducible refine (impl_RootOf.calls kj46 t197 t205 t206 t207 _ A52.out).mono ?_); rintro e w64 ⟨rfl, hb⟩; refine ⟨_, rfl, ?_⟩; have n0_ := Aside0.mk (Kd.R_below (by (with_reducible repeat (first | apply Kd.R_alloc | apply Kd.R_drewN | apply Kd.R_drew)); exact HO204.out) hb); have n1_ := Aside0.mk (below_step (by repeat (first | (with_reducible first | exact HB.out | apply below_alloc | apply pw_below_drewN | apply below_drew1) | exact HB.out)) hb); clear HO204; clear HB; have HO204 := n0_; have HB := n1_; clear n0_ n1_; (try clear hb); (try clear hb2); (try clear hk); (try clear hi); obtain ⟨Ao65, co65, eo65⟩ := Kd.R_slice HO204.out; subst eo65) | (go_at_call 12; (with_reducible refine (laws_hasInt.calls kj46 _ _ t201 (a0.size : Int) true _ ?side1 ?side2 A54.out).mono ?_); (case side1 => repeat (first | exact (Kd.R_reads' HO204.out).2.2 | (with_reducible refine Kd.C_alloc ?_ _) | (with_reducible refine Kd.C_drewN ?_ _) | (with_reducible refine Kd.C_drew ?_))); (case side2 => exact (Kd.R_reads' HO204.out).2.1); rintro e w' ⟨rfl, ⟨nd, rfl⟩⟩))
                                                go_ret
                                                exact ⟨by first | rfl | (simp [errW_none, errW_some] <;> rfl) | (simp [*, errW_none, errW_some] <;> rfl), by repeat (first | (with_reducible first | exact HB.out | apply below_alloc | apply pw_below_drewN | apply below_drew1) | exact HB.out)⟩
                                          · rw [if_neg c57] at H
                                            have c57b0 : ((wrap64 ((t205.size : Int) * t206)) == (wrap64 (a1 * (a0.size : Int)))) = false := beq_eq_false_iff_ne.mpr c57
                                            have c57b1 : ((wrap64 ((t205.size : Int) * t206)) != (wrap64 (a1 * (a0.size : Int)))) = true := bne_iff_ne.mpr c57
                                            obtain rfl := Option.some.inj H
                                            go_wp2_with (first | ((with_reducible refine gate_callee (f := 6) rfl ?_); refine goesL_ (some 141) rfl rfl Try.func6 (by kernel_rfl) rfl #[.string t197] rfl (by (try simp only [List.map_toArray, List.map_cons, List.map_nil]); first | done | rfl | (simp only [List.length_drop, List.length_take]; rfl)) ?_; (with_reducible refine (impl_PeriodsOf.calls kj46 t197 t201 t202 _ A51.out).mono ?_); rintro e w66 ⟨v203, rfl, ho0, hb⟩; refine ⟨_, rfl, ?_⟩; have n0_ := Aside0.mk (Kd.R_lower ho0 (below_size (by repeat (first | (with_reducible first | exact HB.out | apply below_alloc | apply pw_below_drewN | apply below_drew1) | exact HB.out)))); have n1_ := Aside0.mk (below_step (by repeat (first | (with_reducible first | exact HB.out | apply below_alloc | apply pw_below_drewN | apply below_drew1) | exact HB.out)) hb); clear HB; have HO204 := n0_; have HB := n1_; clear n0_ n1_; (try clear hb); (try clear hb2); (try clear hk); (try clear hi); (try clear ho0)) | ((with_reducible refine gate_callee (f := 11) rfl ?_); refine goesL_ (some 146) rfl rfl Try.func11 (by kernel_rfl) rfl #[.string t197] rfl (by (try simp only [List.map_toArray, List.map_cons, List.map_nil]); first | done | rfl | (simp only [List.length_drop, List.length_take]; rfl)) ?_; (with_reducible refine (impl_RootOf.calls kj46 t197 t205 t206 t207 _ A52.out).mono ?_); rintro e w67 ⟨rfl, hb⟩; refine ⟨_, rfl, ?_⟩; have n0_ := Aside0.mk (Kd.R_below (by (with_reducible repeat (first | apply Kd.R_alloc | apply Kd.R_drewN | apply Kd.R_drew)); exact HO204.out) hb); have n1_ := Aside0.mk (below_step (by repeat (first | (with_reducible first | exact HB.out | apply below_alloc | apply pw_below_drewN | apply below_drew1) | exact HB.out)) hb); clear HO204; clear HB; have HO204 := n0_; have HB := n1_; clear n0_ n1_; (try clear hb); (try clear hb2); (try clear hk); (try clear hi); obtain ⟨Ao68, co68, eo68⟩ := Kd.R_slice HO204.out; subst eo68) | (go_at_call 12; (with_reducible refine (laws_hasInt.calls kj46 _ _ t201 (a0.size : Int) true _ ?side1 ?side2 A54.out).mono ?_); (case side1 => repeat (first | exact (Kd.R_reads' HO204.out).2.2 | (with_reducible refine Kd.C_alloc ?_ _) | (with_reducible refine Kd.C_drewN ?_ _) | (with_reducible refine Kd.C_drew ?_))); (case side2 => exact (Kd.R_reads' HO204.out).2.1); rintro e w' ⟨rfl, ⟨nd, rfl⟩⟩))
                                            go_ret
                                            exact ⟨by first | rfl | (simp [errW_none, errW_some] <;> rfl) | (simp [*, errW_none, errW_some] <;> rfl), by repeat (first | (with_reducible first | exact HB.out | apply below_alloc | apply pw_below_drewN | apply below_drew1) | exact HB.out)⟩
                                        · rw [if_neg c56] at H
                                          have c56b0 : (t207 == 0) = false := beq_eq_false_iff_ne.mpr c56
                                          have c56b1 : (t207 != 0) = true := bne_iff_ne.mpr c56
                                          obtain rfl := Option.some.inj H
                                          go_wp2_with (first | ((with_reducible refine gate_callee (f := 6) rfl ?_); refine goesL_ (some 141) rfl rfl Try.func6 (by kernel_rfl) rfl #[.string t197] rfl (by (try simp only [List.map_toArray, List.map_cons, List.map_nil]); first | done | rfl | (simp only [List.length_drop, List.length_take]; rfl)) ?_; (with_reducible refine (impl_PeriodsOf.calls kj46 t197 t201 t202 _ A51.out).mono ?_); rintro e w69 ⟨v203, rfl, ho0, hb⟩; refine ⟨_, rfl, ?_⟩; have n0_ := Aside0.mk (Kd.R_lower ho0 (below_size (by repeat (first | (with_reducible first | exact HB.out | apply below_alloc | apply pw_below_drewN | apply below_drew1) | exact HB.out)))); have n1_ := Aside0.mk (below_step (by repeat (first | (with_reducible first | exact HB.out | apply below_alloc | apply pw_below_drewN | apply below_drew1) | exact HB.out)) hb); clear HB; have HO204 := n0_; have HB := n1_; clear n0_ n1_; (try clear hb); (try clear hb2); (try clear hk); (try clear hi); (try clear ho0)) | ((with_reducible refine gate_callee (f := 11) rfl ?_); refine goesL_ (some 146) rfl rfl Try.func11 (by kernel_rfl) rfl #[.string t197] rfl (by (try simp only [List.map_toArray, List.map_cons, List.map_nil]); first | done | rfl | (simp only [List.length_drop, List.length_take]; rfl)) ?_; (with_reducible refine (impl_RootOf.calls kj46 t197 t205 t206 t207 _ A52.out).mono ?_); rintro e w70 ⟨rfl, hb⟩; refine ⟨_, rfl, ?_⟩; have n0_ := Aside0.mk (Kd.R_below (by (with_reducible repeat (first | apply Kd.R_alloc | apply Kd.R_drewN | apply Kd.R_drew)); exact HO204.out) hb); have n1_ := Aside0.mk (below_step (by repeat (first | (with_reducible first | exact HB.out | apply below_alloc | apply pw_below_drewN | apply below_drew1) | exact HB.out)) hb); clear HO204; clear HB; have HO204 := n0_; have HB := n1_; clear n0_ n1_; (try clear hb); (try clear hb2); (try clear hk); (try clear hi); obtain ⟨Ao71, co71, eo71⟩ := Kd.R_slice HO204.out; subst eo71) | (go_at_call 12; (with_reducible refine (laws_hasInt.calls kj46 _ _ t201 (a0.size : Int) true _ ?side1 ?side2 A54.out).mono ?_); (case side1 => repeat (first | exact (Kd.R_reads' HO204.out).2.2 | (with_reducible refine Kd.C_alloc ?_ _) | (with_reducible refine Kd.C_drewN ?_ _) | (with_reducible refine Kd.C_drew ?_))); (case side2 => exact (Kd.R_reads' HO204.out).2.1); rintro e w' ⟨rfl, ⟨nd, rfl⟩⟩))
                                          go_ret
                                          exact ⟨by first | rfl | (simp [errW_none, errW_some] <;> rfl) | (simp [*, errW_none, errW_some] <;> rfl), by repeat (first | (with_reducible first | exact HB.out | apply below_alloc | apply pw_below_drewN | apply below_drew1) | exact HB.out)⟩
                                      · replace c55 := Bool.eq_false_iff.mpr c55
                                        subst c55
                                        have H1 : (some false) = some r := by rw [if_neg (show ¬ (false = true) by decide)] at H; exact H
                                        clear H
                                        have H := H1
                                        clear H1
                                        obtain rfl := Option.some.inj H
                                        go_wp2_with (first | ((with_reducible refine gate_callee (f := 6) rfl ?_); refine goesL_ (some 141) rfl rfl Try.func6 (by kernel_rfl) rfl #[.string t197] rfl (by (try simp only [List.map_toArray, List.map_cons, List.map_nil]); first | done | rfl | (simp only [List.length_drop, List.length_take]; rfl)) ?_; (with_reducible refine (impl_PeriodsOf.calls kj46 t197 t201 t202 _ A51.out).mono ?_); rintro e w72 ⟨v203, rfl, ho0, hb⟩; refine ⟨_, rfl, ?_⟩; have n0_ := Aside0.mk (Kd.R_lower ho0 (below_size (by repeat (first | (with_reducible first | exact HB.out | apply below_alloc | apply pw_below_drewN | apply below_drew1) | exact HB.out)))); have n1_ := Aside0.mk (below_step (by repeat (first | (with_reducible first | exact HB.out | apply below_alloc | apply pw_below_drewN | apply below_drew1) | exact HB.out)) hb); clear HB; have HO204 := n0_; have HB := n1_; clear n0_ n1_; (try clear hb); (try clear hb2); (try clear hk); (try clear hi); (try clear ho0)) | ((with_reducible refine gate_callee (f := 11) rfl ?_); refine goesL_ (some 146) rfl rfl Try.func11 (by kernel_rfl) rfl #[.string t197] rfl (by (try simp only [List.map_toArray, List.map_cons, List.map_nil]); first | done | rfl | (simp only [List.length_drop, List.length_take]; rfl)) ?_; (with_reducible refine (impl_RootOf.calls kj46 t197 t205 t206 t207 _ A52.out).mono ?_); rintro e w73 ⟨rfl, hb⟩; refine ⟨_, rfl, ?_⟩; have n0_ := Aside0.mk (Kd.R_below (by (with_reducible repeat (first | apply Kd.R_alloc | apply Kd.R_drewN | apply Kd.R_drew)); exact HO204.out) hb); have n1_ := Aside0.mk (below_step (by repeat (first | (with_reducible first | exact HB.out | apply below_alloc | apply pw_below_drewN | apply below_drew1) | exact HB.out)) hb); clear HO204; clear HB; have HO204 := n0_; have HB := n1_; clear n0_ n1_; (try clear hb); (try clear hb2); (try clear hk); (try clear hi); obtain ⟨Ao74, co74, eo74⟩ := Kd.R_slice HO204.out; subst eo74) | (go_at_call 12; (with_reducible refine (laws_hasInt.calls kj46 _ _ t201 (a0.size : Int) false _ ?side1 ?side2 A54.out).mono ?_); (case side1 => repeat (first | exact (Kd.R_reads' HO204.out).2.2 | (with_reducible refine Kd.C_alloc ?_ _) | (with_reducible refine Kd.C_drewN ?_ _) | (with_reducible refine Kd.C_drew ?_))); (case side2 => exact (Kd.R_reads' HO204.out).2.1); rintro e w' ⟨rfl, ⟨nd, rfl⟩⟩))
                                        go_ret
                                        exact ⟨by first | rfl | (simp [errW_none, errW_some] <;> rfl) | (simp [*, errW_none, errW_some] <;> rfl), by repeat (first | (with_reducible first | exact HB.out | apply below_alloc | apply pw_below_drewN | apply below_drew1) | exact HB.out)⟩
                                    · rw [if_neg c53] at H
                                      have c53b0 : (t202 == 0) = false := beq_eq_false_iff_ne.mpr c53
                                      have c53b1 : (t202 != 0) = true := bne_iff_ne.mpr c53
                                      (first | rw [c53b0] | (simp only [i64_w, i32_w]; rw [c53b0]) | skip)
                                      obtain rfl := Option.some.inj H
                                      go_wp2_with (first | ((with_reducible refine gate_callee (f := 6) rfl ?_); refine goesL_ (some 141) rfl rfl Try.func6 (by kernel_rfl) rfl #[.string t197] rfl (by (try simp only [List.map_toArray, List.map_cons, List.map_nil]); first | done | rfl | (simp only [List.length_drop, List.length_take]; rfl)) ?_; (with_reducible refine (impl_PeriodsOf.calls kj46 t197 t201 t202 _ A51.out).mono ?_); rintro e w75 ⟨v203, rfl, ho0, hb⟩; refine ⟨_, rfl, ?_⟩; have n0_ := Aside0.mk (Kd.R_lower ho0 (below_size (by repeat (first | (with_reducible first | exact HB.out | apply below_alloc | apply pw_below_drewN | apply below_drew1) | exact HB.out)))); have n1_ := Aside0.mk (below_step (by repeat (first | (with_reducible first | exact HB.out | apply below_alloc | apply pw_below_drewN | apply below_drew1) | exact HB.out)) hb); clear HB; have HO204 := n0_; have HB := n1_; clear n0_ n1_; (try clear hb); (try clear hb2); (try clear hk); (try clear hi); (try clear ho0)) | ((with_reducible refine gate_callee (f := 11) rfl ?_); refine goesL_ (some 146) rfl rfl Try.func11 (by kernel_rfl) rfl #[.string t197] rfl (by (try simp only [List.map_toArray, List.map_cons, List.map_nil]); first | done | rfl | (simp only [List.length_drop, List.length_take]; rfl)) ?_; (with_reducible refine (impl_RootOf.calls kj46 t197 t205 t206 t207 _ A52.out).mono ?_); rintro e w76 ⟨rfl, hb⟩; refine ⟨_, rfl, ?_⟩; have n0_ := Aside0.mk (Kd.R_below (by (with_reducible repeat (first | apply Kd.R_alloc | apply Kd.R_drewN | apply Kd.R_drew)); exact HO204.out) hb); have n1_ := Aside0.mk (below_step (by repeat (first | (with_reducible first | exact HB.out | apply below_alloc | apply pw_below_drewN | apply below_drew1) | exact HB.out)) hb); clear HO204; clear HB; have HO204 := n0_; have HB := n1_; clear n0_ n1_; (try clear hb); (try clear hb2); (try clear hk); (try clear hi)))
                                      go_ret
                                      exact ⟨by first | rfl | (simp [errW_none, errW_some] <;> rfl) | (simp [*, errW_none, errW_some] <;> rfl), by repeat (first | (with_reducible first | exact HB.out | apply below_alloc | apply pw_below_drewN | apply below_drew1) | exact HB.out)⟩
                                  · replace c50 := Bool.eq_false_iff.mpr c50
                                    subst c50
                                    have H1 : (laws_FnPromiseOfAll.j5 kj46 a0) = some r := by rw [if_neg (show ¬ (false = true) by decide)] at H; exact H
                                    clear H
                                    have H := H1
                                    clear H1
                                    have H' := Aside0.mk H
                                    clear H
                                    go_wp2
                                    go_meet
                                    case rel => exact ⟨_, H', ⟨by have := HJ7.out; have := HJ19.out; have := HJ24.out; have := HJ42.out; have := HJ46.out; first | omega | exact Nat.le_refl _⟩, ⟨by repeat (first | (with_reducible first | exact HB.out | apply below_alloc | apply pw_below_drewN | apply below_drew1) | exact HB.out)⟩⟩
                                case rest => as_aux_lemma =>
                                  clear HC49
                                  try clear c1
                                  try clear p1
                                  try clear q1
                                  try clear hx1
                                  try clear c2
                                  try clear p2
                                  try clear c3
                                  try clear c3b0
                                  try clear c3b1
                                  try clear c4
                                  try clear c5
                                  try clear c6
                                  try clear p6
                                  try clear c7
                                  try clear c9
                                  try clear c10
                                  try clear c11
                                  try clear c13
                                  try clear c13b0
                                  try clear c13b1
                                  try clear c14
                                  try clear c14b0
                                  try clear c14b1
                                  try clear c15
                                  try clear c15b0
                                  try clear c15b1
                                  try clear c19
                                  try clear p19
                                  try clear q19
                                  try clear hx19
                                  try clear c21
                                  try clear c21b0
                                  try clear c21b1
                                  try clear c22
                                  try clear c22b0
                                  try clear c22b1
                                  try clear c23
                                  try clear c27
                                  try clear c27b0
                                  try clear c27b1
                                  try clear c29
                                  try clear c30
                                  try clear c30b0
                                  try clear c30b1
                                  try clear c30b2
                                  try clear c34
                                  try clear c34b0
                                  try clear c35
                                  try clear c35b0
                                  try clear c40
                                  try clear c45
                                  try clear c45b0
                                  try clear c45b1
                                  try clear c46
                                  try clear c48
                                  try clear c48b0
                                  try clear c48b1
                                  try clear c50
                                  try clear c53
                                  try clear c53b0
                                  try clear c53b1
                                  try clear c55
                                  try clear c56
                                  try clear c56b0
                                  try clear c56b1
                                  try clear c57
                                  try clear c57b0
                                  try clear c57b1
                                  try clear c58
                                  try clear c58b0
                                  try clear c58b1
                                  try clear c59
                                  try clear c59b0
                                  try clear c59b1
                                  try clear p64
                                  try clear hx196_0
                                  try clear p1
                                  try clear p19
                                  try clear p196
                                  try clear p2
                                  try clear p6
                                  try clear q1
                                  try clear q19
                                  try clear q196
                                  obtain ⟨kq, HA, HJ48, HB⟩ := hcut
                                  cases kq with
                                  | zero => exact absurd HA.out (by simp [laws_FnPromiseOfAll.j5])
                                  | succ kj48 =>
                                    have H := HA.out
                                    clear HA
                                    simp only [laws_FnPromiseOfAll.j5] at H
                                    replace H := Option.bind_eq_some_iff.mp H
                                    obtain ⟨⟨t209, t210⟩, A770, H⟩ := H
                                    replace H : ((spec_ClosureOf.f kj48 a0).bind fun bt211 => (if t210 = bt211.2 then (if t210 = 0 then ((impl_IsPalindrome.f kj48 t209).bind fun bt213 => (if bt213.2 = 0 then (if bt213.1 = true then (if (t209.size : Int) ≥ (a0.size : Int) then (if 0 ≤ (a0.size : Int) then (if (a0.size : Int) ≤ (t209.size : Int) then (some ((t209.extract 0 ((a0.size : Int) : Int).toNat).toList == a0.toList)) else (none)) else (none)) else (some false)) else (some false)) else (some false))) else (some true)) else (some false))) = some r := H
                                    have A77 := Aside0.mk A770
                                    clear A770
                                    replace H := Option.bind_eq_some_iff.mp H
                                    obtain ⟨⟨t211, t212⟩, A780, H⟩ := H
                                    replace H : (if t210 = t212 then (if t210 = 0 then ((impl_IsPalindrome.f kj48 t209).bind fun bt213 => (if bt213.2 = 0 then (if bt213.1 = true then (if (t209.size : Int) ≥ (a0.size : Int) then (if 0 ≤ (a0.size : Int) then (if (a0.size : Int) ≤ (t209.size : Int) then (some ((t209.extract 0 ((a0.size : Int) : Int).toNat).toList == a0.toList)) else (none)) else (none)) else (some false)) else (some false)) else (some false))) else (some true)) else (some false)) = some r := H
                                    have A78 := Aside0.mk A780
                                    clear A780
                                    by_cases c79 : t210 = t212
                                    · rw [if_pos c79] at H
                                      have c79b0 : (t210 == t212) = true := beq_iff_eq.mpr c79
                                      have c79b1 : (t210 != t212) = false := bne_eq_false_iff_eq.mpr c79
                                      clear c79
                                      by_cases c80 : t210 = 0
                                      · rw [if_pos c80] at H
                                        have c80b0 : (t210 == 0) = true := beq_iff_eq.mpr c80
                                        have c80b1 : (t210 != 0) = false := bne_eq_false_iff_eq.mpr c80
                                        clear c80
                                        replace H := Option.bind_eq_some_iff.mp H
                                        obtain ⟨⟨t213, t214⟩, A810, H⟩ := H
                                        replace H : (if t214 = 0 then (if t213 = true then (if (t209.size : Int) ≥ (a0.size : Int) then (if 0 ≤ (a0.size : Int) then (if (a0.size : Int) ≤ (t209.size : Int) then (some ((t209.extract 0 ((a0.size : Int) : Int).toNat).toList == a0.toList)) else (none)) else (none)) else (some false)) else (some false)) else (some false)) = some r := H
                                        have A81 := Aside0.mk A810
                                        clear A810
                                        by_cases c82 : t214 = 0
                                        · rw [if_pos c82] at H
                                          have c82b0 : (t214 == 0) = true := beq_iff_eq.mpr c82
                                          have c82b1 : (t214 != 0) = false := bne_eq_false_iff_eq.mpr c82
                                          clear c82
                                          by_cases c83 : t213 = true
                                          · subst c83
                                            have H1 : (if (t209.size : Int) ≥ (a0.size : Int) then (if 0 ≤ (a0.size : Int) then (if (a0.size : Int) ≤ (t209.size : Int) then (some ((t209.extract 0 ((a0.size : Int) : Int).toNat).toList == a0.toList)) else (none)) else (none)) else (some false)) = some r := by rw [if_pos rfl] at H; exact H
                                            clear H
                                            have H := H1
                                            clear H1
                                            by_cases c84 : (t209.size : Int) ≥ (a0.size : Int)
                                            · rw [if_pos c84] at H
                                              have c84b0 : decide ((a0.size : Int) ≤ (t209.size : Int)) = true := decide_eq_true c84
                                              have c84b1 : decide (a0.size ≤ t209.size) = true := decide_eq_true (Int.ofNat_le.mp c84)
                                              clear c84
                                              by_cases c85 : 0 ≤ (a0.size : Int)
                                              · rw [if_pos c85] at H
                                                have c85b0 := eq_true c85
                                                have c85b1 : decide (0 ≤ (a0.size : Int)) = true := decide_eq_true c85
                                                clear c85
                                                by_cases c86 : (a0.size : Int) ≤ (t209.size : Int)
                                                · rw [if_pos c86] at H
                                                  have c86b0 := eq_true c86
                                                  have c86b1 : decide ((a0.size : Int) ≤ (t209.size : Int)) = true := decide_eq_true c86
                                                  clear c86
                                                  obtain rfl := Option.some.inj H
                                                  go_wp2_with (first | ((with_reducible refine gate_callee (f := 13) rfl ?_); refine goesL_ (some 180) rfl rfl Try.func13 (by kernel_rfl) rfl #[.string a0] rfl (by (try simp only [List.map_toArray, List.map_cons, List.map_nil]); first | done | rfl | (simp only [List.length_drop, List.length_take]; rfl)) ?_; (with_reducible refine (impl_ClosureOf.calls kj48 a0 t209 t210 _ A77.out).mono ?_); rintro e w87 ⟨rfl, hb⟩; refine ⟨_, rfl, ?_⟩; have n0_ := Aside0.mk (below_step (by repeat (first | (with_reducible first | exact HB.out | apply below_alloc | apply pw_below_drewN | apply below_drew1) | exact HB.out)) hb); clear HB; have HB := n0_; clear n0_; (try clear hb); (try clear hb2); (try clear hk); (try clear hi)) | ((with_reducible refine gate_callee (f := 14) rfl ?_); refine goesL_ (some 185) rfl rfl Try.func14 (by kernel_rfl) rfl #[.string a0] rfl (by (try simp only [List.map_toArray, List.map_cons, List.map_nil]); first | done | rfl | (simp only [List.length_drop, List.length_take]; rfl)) ?_; (with_reducible refine (spec_ClosureOf.calls kj48 a0 t211 t212 _ A78.out).mono ?_); rintro e w88 ⟨rfl, hb⟩; refine ⟨_, rfl, ?_⟩; have n0_ := Aside0.mk (below_step (by repeat (first | (with_reducible first | exact HB.out | apply below_alloc | apply pw_below_drewN | apply below_drew1) | exact HB.out)) hb); clear HB; have HB := n0_; clear n0_; (try clear hb); (try clear hb2); (try clear hk); (try clear hi)) | ((with_reducible refine gate_callee (f := 15) rfl ?_); refine goesL_ (some 195) rfl rfl Try.func15 (by kernel_rfl) rfl #[.string t209] rfl (by (try simp only [List.map_toArray, List.map_cons, List.map_nil]); first | done | rfl | (simp only [List.length_drop, List.length_take]; rfl)) ?_; (with_reducible refine (impl_IsPalindrome.calls kj48 t209 true t214 _ A81.out).mono ?_); rintro e w89 ⟨rfl, hb⟩; refine ⟨_, rfl, ?_⟩; have n0_ := Aside0.mk (below_step (by repeat (first | (with_reducible first | exact HB.out | apply below_alloc | apply pw_below_drewN | apply below_drew1) | exact HB.out)) hb); clear HB; have HB := n0_; clear n0_; (try clear hb); (try clear hb2); (try clear hk); (try clear hi)))
                                                  go_ret
                                                  exact ⟨by first | rfl | (simp [errW_none, errW_some] <;> rfl) | (simp [*, errW_none, errW_some] <;> rfl), by repeat (first | (with_reducible first | exact HB.out | apply below_alloc | apply pw_below_drewN | apply below_drew1) | exact HB.out)⟩
                                                · rw [if_neg c86] at H
                                                  exact absurd H (by simp)
                                              · rw [if_neg c85] at H
                                                exact absurd H (by simp)
                                            · rw [if_neg c84] at H
                                              have c84b0 : decide ((a0.size : Int) ≤ (t209.size : Int)) = false := decide_eq_false c84
                                              have c84b1 : decide (a0.size ≤ t209.size) = false := decide_eq_false (fun h => c84 (Int.ofNat_le.mpr h))
                                              clear c84
                                              obtain rfl := Option.some.inj H
                                              go_wp2_with (first | ((with_reducible refine gate_callee (f := 13) rfl ?_); refine goesL_ (some 180) rfl rfl Try.func13 (by kernel_rfl) rfl #[.string a0] rfl (by (try simp only [List.map_toArray, List.map_cons, List.map_nil]); first | done | rfl | (simp only [List.length_drop, List.length_take]; rfl)) ?_; (with_reducible refine (impl_ClosureOf.calls kj48 a0 t209 t210 _ A77.out).mono ?_); rintro e w90 ⟨rfl, hb⟩; refine ⟨_, rfl, ?_⟩; have n0_ := Aside0.mk (below_step (by repeat (first | (with_reducible first | exact HB.out | apply below_alloc | apply pw_below_drewN | apply below_drew1) | exact HB.out)) hb); clear HB; have HB := n0_; clear n0_; (try clear hb); (try clear hb2); (try clear hk); (try clear hi)) | ((with_reducible refine gate_callee (f := 14) rfl ?_); refine goesL_ (some 185) rfl rfl Try.func14 (by kernel_rfl) rfl #[.string a0] rfl (by (try simp only [List.map_toArray, List.map_cons, List.map_nil]); first | done | rfl | (simp only [List.length_drop, List.length_take]; rfl)) ?_; (with_reducible refine (spec_ClosureOf.calls kj48 a0 t211 t212 _ A78.out).mono ?_); rintro e w91 ⟨rfl, hb⟩; refine ⟨_, rfl, ?_⟩; have n0_ := Aside0.mk (below_step (by repeat (first | (with_reducible first | exact HB.out | apply below_alloc | apply pw_below_drewN | apply below_drew1) | exact HB.out)) hb); clear HB; have HB := n0_; clear n0_; (try clear hb); (try clear hb2); (try clear hk); (try clear hi)) | ((with_reducible refine gate_callee (f := 15) rfl ?_); refine goesL_ (some 195) rfl rfl Try.func15 (by kernel_rfl) rfl #[.string t209] rfl (by (try simp only [List.map_toArray, List.map_cons, List.map_nil]); first | done | rfl | (simp only [List.length_drop, List.length_take]; rfl)) ?_; (with_reducible refine (impl_IsPalindrome.calls kj48 t209 true t214 _ A81.out).mono ?_); rintro e w92 ⟨rfl, hb⟩; refine ⟨_, rfl, ?_⟩; have n0_ := Aside0.mk (below_step (by repeat (first | (with_reducible first | exact HB.out | apply below_alloc | apply pw_below_drewN | apply below_drew1) | exact HB.out)) hb); clear HB; have HB := n0_; clear n0_; (try clear hb); (try clear hb2); (try clear hk); (try clear hi)))
                                              go_ret
                                              exact ⟨by first | rfl | (simp [errW_none, errW_some] <;> rfl) | (simp [*, errW_none, errW_some] <;> rfl), by repeat (first | (with_reducible first | exact HB.out | apply below_alloc | apply pw_below_drewN | apply below_drew1) | exact HB.out)⟩
                                          · replace c83 := Bool.eq_false_iff.mpr c83
                                            subst c83
                                            have H1 : (some false) = some r := by rw [if_neg (show ¬ (false = true) by decide)] at H; exact H
                                            clear H
                                            have H := H1
                                            clear H1
                                            obtain rfl := Option.some.inj H
                                            go_wp2_with (first | ((with_reducible refine gate_callee (f := 13) rfl ?_); refine goesL_ (some 180) rfl rfl Try.func13 (by kernel_rfl) rfl #[.string a0] rfl (by (try simp only [List.map_toArray, List.map_cons, List.map_nil]); first | done | rfl | (simp only [List.length_drop, List.length_take]; rfl)) ?_; (with_reducible refine (impl_ClosureOf.calls kj48 a0 t209 t210 _ A77.out).mono ?_); rintro e w93 ⟨rfl, hb⟩; refine ⟨_, rfl, ?_⟩; have n0_ := Aside0.mk (below_step (by repeat (first | (with_reducible first | exact HB.out | apply below_alloc | apply pw_below_drewN | apply below_drew1) | exact HB.out)) hb); clear HB; have HB := n0_; clear n0_; (try clear hb); (try clear hb2); (try clear hk); (try clear hi)) | ((with_reducible refine gate_callee (f := 14) rfl ?_); refine goesL_ (some 185) rfl rfl Try.func14 (by kernel_rfl) rfl #[.string a0] rfl (by (try simp only [List.map_toArray, List.map_cons, List.map_nil]); first | done | rfl | (simp only [List.length_drop, List.length_take]; rfl)) ?_; (with_reducible refine (spec_ClosureOf.calls kj48 a0 t211 t212 _ A78.out).mono ?_); rintro e w94 ⟨rfl, hb⟩; refine ⟨_, rfl, ?_⟩; have n0_ := Aside0.mk (below_step (by repeat (first | (with_reducible first | exact HB.out | apply below_alloc | apply pw_below_drewN | apply below_drew1) | exact HB.out)) hb); clear HB; have HB := n0_; clear n0_; (try clear hb); (try clear hb2); (try clear hk); (try clear hi)) | ((with_reducible refine gate_callee (f := 15) rfl ?_); refine goesL_ (some 195) rfl rfl Try.func15 (by kernel_rfl) rfl #[.string t209] rfl (by (try simp only [List.map_toArray, List.map_cons, List.map_nil]); first | done | rfl | (simp only [List.length_drop, List.length_take]; rfl)) ?_; (with_reducible refine (impl_IsPalindrome.calls kj48 t209 false t214 _ A81.out).mono ?_); rintro e w95 ⟨rfl, hb⟩; refine ⟨_, rfl, ?_⟩; have n0_ := Aside0.mk (below_step (by repeat (first | (with_reducible first | exact HB.out | apply below_alloc | apply pw_below_drewN | apply below_drew1) | exact HB.out)) hb); clear HB; have HB := n0_; clear n0_; (try clear hb); (try clear hb2); (try clear hk); (try clear hi)))
                                            go_ret
                                            exact ⟨by first | rfl | (simp [errW_none, errW_some] <;> rfl) | (simp [*, errW_none, errW_some] <;> rfl), by repeat (first | (with_reducible first | exact HB.out | apply below_alloc | apply pw_below_drewN | apply below_drew1) | exact HB.out)⟩
                                        · rw [if_neg c82] at H
                                          have c82b0 : (t214 == 0) = false := beq_eq_false_iff_ne.mpr c82
                                          have c82b1 : (t214 != 0) = true := bne_iff_ne.mpr c82
                                          obtain rfl := Option.some.inj H
                                          go_wp2_with (first | ((with_reducible refine gate_callee (f := 13) rfl ?_); refine goesL_ (some 180) rfl rfl Try.func13 (by kernel_rfl) rfl #[.string a0] rfl (by (try simp only [List.map_toArray, List.map_cons, List.map_nil]); first | done | rfl | (simp only [List.length_drop, List.length_take]; rfl)) ?_; (with_reducible refine (impl_ClosureOf.calls kj48 a0 t209 t210 _ A77.out).mono ?_); rintro e w96 ⟨rfl, hb⟩; refine ⟨_, rfl, ?_⟩; have n0_ := Aside0.mk (below_step (by repeat (first | (with_reducible first | exact HB.out | apply below_alloc | apply pw_below_drewN | apply below_drew1) | exact HB.out)) hb); clear HB; have HB := n0_; clear n0_; (try clear hb); (try clear hb2); (try clear hk); (try clear hi)) | ((with_reducible refine gate_callee (f := 14) rfl ?_); refine goesL_ (some 185) rfl rfl Try.func14 (by kernel_rfl) rfl #[.string a0] rfl (by (try simp only [List.map_toArray, List.map_cons, List.map_nil]); first | done | rfl | (simp only [List.length_drop, List.length_take]; rfl)) ?_; (with_reducible refine (spec_ClosureOf.calls kj48 a0 t211 t212 _ A78.out).mono ?_); rintro e w97 ⟨rfl, hb⟩; refine ⟨_, rfl, ?_⟩; have n0_ := Aside0.mk (below_step (by repeat (first | (with_reducible first | exact HB.out | apply below_alloc | apply pw_below_drewN | apply below_drew1) | exact HB.out)) hb); clear HB; have HB := n0_; clear n0_; (try clear hb); (try clear hb2); (try clear hk); (try clear hi)) | ((with_reducible refine gate_callee (f := 15) rfl ?_); refine goesL_ (some 195) rfl rfl Try.func15 (by kernel_rfl) rfl #[.string t209] rfl (by (try simp only [List.map_toArray, List.map_cons, List.map_nil]); first | done | rfl | (simp only [List.length_drop, List.length_take]; rfl)) ?_; (with_reducible refine (impl_IsPalindrome.calls kj48 t209 t213 t214 _ A81.out).mono ?_); rintro e w98 ⟨rfl, hb⟩; refine ⟨_, rfl, ?_⟩; have n0_ := Aside0.mk (below_step (by repeat (first | (with_reducible first | exact HB.out | apply below_alloc | apply pw_below_drewN | apply below_drew1) | exact HB.out)) hb); clear HB; have HB := n0_; clear n0_; (try clear hb); (try clear hb2); (try clear hk); (try clear hi)))
                                          go_ret
                                          exact ⟨by first | rfl | (simp [errW_none, errW_some] <;> rfl) | (simp [*, errW_none, errW_some] <;> rfl), by repeat (first | (with_reducible first | exact HB.out | apply below_alloc | apply pw_below_drewN | apply below_drew1) | exact HB.out)⟩
                                      · rw [if_neg c80] at H
                                        have c80b0 : (t210 == 0) = false := beq_eq_false_iff_ne.mpr c80
                                        have c80b1 : (t210 != 0) = true := bne_iff_ne.mpr c80
                                        obtain rfl := Option.some.inj H
                                        go_wp2_with (first | ((with_reducible refine gate_callee (f := 13) rfl ?_); refine goesL_ (some 180) rfl rfl Try.func13 (by kernel_rfl) rfl #[.string a0] rfl (by (try simp only [List.map_toArray, List.map_cons, List.map_nil]); first | done | rfl | (simp only [List.length_drop, List.length_take]; rfl)) ?_; (with_reducible refine (impl_ClosureOf.calls kj48 a0 t209 t210 _ A77.out).mono ?_); rintro e w99 ⟨rfl, hb⟩; refine ⟨_, rfl, ?_⟩; have n0_ := Aside0.mk (below_step (by repeat (first | (with_reducible first | exact HB.out | apply below_alloc | apply pw_below_drewN | apply below_drew1) | exact HB.out)) hb); clear HB; have HB := n0_; clear n0_; (try clear hb); (try clear hb2); (try clear hk); (try clear hi)) | ((with_reducible refine gate_callee (f := 14) rfl ?_); refine goesL_ (some 185) rfl rfl Try.func14 (by kernel_rfl) rfl #[.string a0] rfl (by (try simp only [List.map_toArray, List.map_cons, List.map_nil]); first | done | rfl | (simp only [List.length_drop, List.length_take]; rfl)) ?_; (with_reducible refine (spec_ClosureOf.calls kj48 a0 t211 t212 _ A78.out).mono ?_); rintro e w100 ⟨rfl, hb⟩; refine ⟨_, rfl, ?_⟩; have n0_ := Aside0.mk (below_step (by repeat (first | (with_reducible first | exact HB.out | apply below_alloc | apply pw_below_drewN | apply below_drew1) | exact HB.out)) hb); clear HB; have HB := n0_; clear n0_; (try clear hb); (try clear hb2); (try clear hk); (try clear hi)))
                                        go_ret
                                        exact ⟨by first | rfl | (simp [errW_none, errW_some] <;> rfl) | (simp [*, errW_none, errW_some] <;> rfl), by repeat (first | (with_reducible first | exact HB.out | apply below_alloc | apply pw_below_drewN | apply below_drew1) | exact HB.out)⟩
                                    · rw [if_neg c79] at H
                                      have c79b0 : (t210 == t212) = false := beq_eq_false_iff_ne.mpr c79
                                      have c79b1 : (t210 != t212) = true := bne_iff_ne.mpr c79
                                      obtain rfl := Option.some.inj H
                                      go_wp2_with (first | ((with_reducible refine gate_callee (f := 13) rfl ?_); refine goesL_ (some 180) rfl rfl Try.func13 (by kernel_rfl) rfl #[.string a0] rfl (by (try simp only [List.map_toArray, List.map_cons, List.map_nil]); first | done | rfl | (simp only [List.length_drop, List.length_take]; rfl)) ?_; (with_reducible refine (impl_ClosureOf.calls kj48 a0 t209 t210 _ A77.out).mono ?_); rintro e w101 ⟨rfl, hb⟩; refine ⟨_, rfl, ?_⟩; have n0_ := Aside0.mk (below_step (by repeat (first | (with_reducible first | exact HB.out | apply below_alloc | apply pw_below_drewN | apply below_drew1) | exact HB.out)) hb); clear HB; have HB := n0_; clear n0_; (try clear hb); (try clear hb2); (try clear hk); (try clear hi)) | ((with_reducible refine gate_callee (f := 14) rfl ?_); refine goesL_ (some 185) rfl rfl Try.func14 (by kernel_rfl) rfl #[.string a0] rfl (by (try simp only [List.map_toArray, List.map_cons, List.map_nil]); first | done | rfl | (simp only [List.length_drop, List.length_take]; rfl)) ?_; (with_reducible refine (spec_ClosureOf.calls kj48 a0 t211 t212 _ A78.out).mono ?_); rintro e w102 ⟨rfl, hb⟩; refine ⟨_, rfl, ?_⟩; have n0_ := Aside0.mk (below_step (by repeat (first | (with_reducible first | exact HB.out | apply below_alloc | apply pw_below_drewN | apply below_drew1) | exact HB.out)) hb); clear HB; have HB := n0_; clear n0_; (try clear hb); (try clear hb2); (try clear hk); (try clear hi)))
                                      go_ret
                                      exact ⟨by first | rfl | (simp [errW_none, errW_some] <;> rfl) | (simp [*, errW_none, errW_some] <;> rfl), by repeat (first | (with_reducible first | exact HB.out | apply below_alloc | apply pw_below_drewN | apply below_drew1) | exact HB.out)⟩

/-- THE ONE PURE STATEMENT of laws_FnPromiseOfAll: yours. -/
def laws_FnPromiseOfAll.Pure : Prop := ∀ (a0 : ByteArray) (a1 : Int), a0.size ≤ 140737488351232 → (Lit.int .i64 a1).wf = true → ∃ k, laws_FnPromiseOfAll.f k a0 a1 = some true
theorem laws_FnPromiseOfAll.walk (P : laws_FnPromiseOfAll.Pure) (a0 : ByteArray) (a1 : Int) (w : World) (w0 : a0.size ≤ 140737488351232) (w1 : (Lit.int .i64 a1).wf = true) :
    Calls Try.prog 3 #[.string a0, .int .i64 a1] w fun e w' => e = .returned (.bool true) ∧ Below w.heap.size w w' := by
  obtain ⟨k, h⟩ := P a0 a1 w0 w1
  refine (laws_FnPromiseOfAll.calls k a0 a1 true w h).mono ?_
  rintro e w' ⟨rfl, hd⟩
  exact ⟨rfl, hd⟩

end Go.Proofs.Ytidndnjkjjcbbaa.PF
