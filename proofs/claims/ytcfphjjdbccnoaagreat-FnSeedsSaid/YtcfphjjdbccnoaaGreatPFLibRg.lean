/- Ranges of numbers. -/
import Derived.Test.YtcfphjjdbccnoaaGreatPFLibW
import Derived.Test.YtcfphjjdbccnoaaGreatPFx3
import Derived.Test.YtcfphjjdbccnoaaGreatPFx2
namespace Go.Proofs.YtcfphjjdbccnoaaGreat.PF
open Go.RowKit Go.Proofs.YtcfphjjdbccnoaaGreatW.PrintWords Go.Proofs.YtcfphjjdbccnoaaGreatW.PrintLast Go.Proofs.YtcfphjjdbccnoaaGreatW.PrintMore
set_option linter.unusedVariables false
set_option linter.unusedSimpArgs false

/-- Is a number in a range? -/
def inR (n lo hi : Int) : Bool := decide (lo ≤ n) && decide (n ≤ hi)
theorem l01In_f (n lo hi : Int) : spec_l01In.f n lo hi = some (inR n lo hi) := by
 unfold spec_l01In.f inR
 by_cases h : n ≥ lo
 ·
  rw [if_pos h, decide_eq_true (show lo ≤ n from h)]; simp
 ·
  rw [if_neg h, decide_eq_false (show ¬ lo ≤ n from h)]; simp
theorem within_f (n lo hi : Int) : impl_within.f n lo hi = some (inR n lo hi) := by
 unfold impl_within.f inR
 by_cases h : lo ≤ n
 ·
  rw [if_pos h, decide_eq_true h]; simp
 ·
  rw [if_neg h, decide_eq_false h]; simp
theorem inR_iff {n lo hi : Int} : inR n lo hi = true ↔ lo ≤ n ∧ n ≤ hi := by simp [inR]
theorem range_nat {l : List ByteArray} {m lo hi : Int} (h : codeW (inR m lo hi) l = 0) (h0 : 0 ≤ lo) : ∃ n : Nat, m = n ∧ lo ≤ (n : Int) ∧ (n : Int) ≤ hi := by
 have := inR_iff.1 (codeW_zero.1 h).2
 exact ⟨m.toNat, by omega, by omega, by omega⟩
end Go.Proofs.YtcfphjjdbccnoaaGreat.PF
