/- The program's ZiminWord and the reference's ZiminWord return the same word and the same code, for all numbers: outside of 1 to 5 both return the code for a wrong number, and at these five numbers the two words are computed. -/
import Derived.Test.YtkmoipmkkafkhaaPFnExactZiminWordx1
namespace Go.Proofs.Ytkmoipmkkafkhaa.Pure
open Go.RowKit Go.Proofs.Ytkmoipmkkafkhaa.PFnExactZiminWord Go.Proofs.YtkmoipmkkafkhaaW.PrintWords Go.Proofs.YtkmoipmkkafkhaaW.PrintLast
set_option linter.unusedSimpArgs false
set_option linter.unusedVariables false

theorem FnExactZiminWord : laws_FnExactZiminWord.Pure := by
  intro n hn
  refine ⟨20, ?_⟩
  by_cases h1 : 1 ≤ n
  case neg => unfold laws_FnExactZiminWord.f spec_ZiminWord.f impl_ZiminWord.f impl_isLetters.f spec_l01In.f impl_within.f; simp [h1]
  by_cases h2 : n ≤ 5
  case neg => unfold laws_FnExactZiminWord.f spec_ZiminWord.f impl_ZiminWord.f impl_isLetters.f spec_l01In.f impl_within.f; simp [h1, h2]
  obtain ⟨a, rfl⟩ := Int.eq_ofNat_of_zero_le (show 0 ≤ n by omega)
  obtain rfl | rfl | rfl | rfl | rfl : a = 1 ∨ a = 2 ∨ a = 3 ∨ a = 4 ∨ a = 5 := by omega
  all_goals decide +kernel

end Go.Proofs.Ytkmoipmkkafkhaa.Pure
