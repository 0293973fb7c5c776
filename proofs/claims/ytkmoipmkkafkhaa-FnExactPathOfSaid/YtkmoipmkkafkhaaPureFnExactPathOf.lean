/- The program's PathOf and the reference's PathOf return the same path and the same code, for all pairs of numbers: both take the smaller number from the greater one and put the same letter, until the numbers are equal or the path has more than 60 letters. -/
import Derived.Test.YtkmoipmkkafkhaaPFnExactPathOfx1
namespace Go.Proofs.Ytkmoipmkkafkhaa.Pure
open Go.RowKit Go.Proofs.Ytkmoipmkkafkhaa.PFnExactPathOf Go.Proofs.YtkmoipmkkafkhaaW.PrintWords Go.Proofs.YtkmoipmkkafkhaaW.PrintLast
set_option linter.unusedSimpArgs false
set_option linter.unusedVariables false

theorem po_step (a b : Nat) : Nat.gcd b (a % b) = Nat.gcd a b := by
  rw [Nat.gcd_comm b, ← Nat.gcd_rec, Nat.gcd_comm]

theorem po_gcdI : ∀ (k b a : Nat), b < k → impl_divisor.l0 k (a : Int) (b : Int) = some ((Nat.gcd a b : Nat) : Int)
  | 0, b, a, h => by omega
  | k + 1, b, a, h => by
    simp only [impl_divisor.l0]
    by_cases hb : b = 0
    · subst hb; simp
    · rw [if_neg (by omega), ← Int.ofNat_tmod, po_gcdI k (a % b) b (by have := Nat.mod_lt a (Nat.pos_of_ne_zero hb); omega), po_step]

theorem po_gcdS : ∀ (k b a : Nat), b < k → spec_l02Gcd.l0 k (a : Int) (b : Int) = some ((Nat.gcd a b : Nat) : Int)
  | 0, b, a, h => by omega
  | k + 1, b, a, h => by
    simp only [spec_l02Gcd.l0]
    by_cases hb : b = 0
    · subst hb; simp
    · rw [if_pos (by omega), if_neg (by omega), ← Int.ofNat_tmod, po_gcdS k (a % b) b (by have := Nat.mod_lt a (Nat.pos_of_ne_zero hb); omega), po_step]

theorem po_wrap {x : Int} (h0 : -9223372036854775808 ≤ x) (h1 : x ≤ 9223372036854775807) : wrap64 x = x := by
  unfold wrap64; omega

theorem po_push (b : ByteArray) (c : UInt8) : (b ++ (⟨#[c]⟩ : ByteArray)).size = b.size + 1 := by
  rw [ByteArray.size_append]; rfl

theorem po_path : ∀ (d k : Nat) (p q : Int) (out : ByteArray), 1 ≤ p → p ≤ 1000 → 1 ≤ q → q ≤ 1000 → out.size ≤ 60 → 60 - out.size = d → d + 1 < k →
    ∃ r : ByteArray × Int, spec_PathOf.l0 k p q out = some r ∧ impl_PathOf.l0 k p q out = some r := by
  intro d
  induction d with
  | zero =>
    intro k p q out h1 h2 h3 h4 hs hd hk
    obtain ⟨k, rfl⟩ : ∃ m, k = m + 1 := ⟨k - 1, by omega⟩
    simp only [spec_PathOf.l0, impl_PathOf.l0, po_push]
    by_cases he : p = q
    · exact ⟨(out, 0), by simp [he], by simp [he]⟩
    · refine ⟨((⟨#[]⟩ : ByteArray), 3), ?_, ?_⟩
      · simp only [he, if_false]
        have hz : out.size + 1 ≤ 9223372036854775807 := by omega
        have hz2 : (((out.size + 1 : Nat)) : Int) > 60 := by omega
        simp only [hz, hz2, if_true]; split <;> rfl
      · simp only [he, if_false]
        rw [if_pos (by omega)]
  | succ d ih =>
    intro k p q out h1 h2 h3 h4 hs hd hk
    obtain ⟨k, rfl⟩ : ∃ m, k = m + 1 := ⟨k - 1, by omega⟩
    simp only [spec_PathOf.l0, impl_PathOf.l0, po_push]
    by_cases he : p = q
    · exact ⟨(out, 0), by simp [he], by simp [he]⟩
    · have hz : out.size + 1 ≤ 9223372036854775807 := by omega
      have hz2 : ¬ ((((out.size + 1 : Nat)) : Int) > 60) := by omega
      have hz3 : ¬ ((out.size : Int) = 60) := by omega
      simp only [he, hz, hz2, hz3, if_true, if_false]
      by_cases hp : p > q
      · simp only [hp, if_true, show ¬ (q > p) by omega, if_false, po_wrap (show -9223372036854775808 ≤ p - q by omega) (by omega)]
        exact ih k (p - q) q _ (by omega) (by omega) h3 h4 (by rw [po_push]; omega) (by rw [po_push]; omega) (by omega)
      · simp only [hp, if_false, show q > p by omega, if_true, po_wrap (show -9223372036854775808 ≤ q - p by omega) (by omega)]
        exact ih k p (q - p) _ h1 h2 (by omega) (by omega) (by rw [po_push]; omega) (by rw [po_push]; omega) (by omega)

theorem FnExactPathOf : laws_FnExactPathOf.Pure := by
  intro p q hp hq
  refine ⟨3000, ?_⟩
  unfold laws_FnExactPathOf.f spec_PathOf.f spec_l08Pair.f spec_l01In.f impl_PathOf.f impl_areSlope.f impl_within.f
  by_cases h1 : 1 ≤ p
  case neg => simp [show ¬ (p ≥ 1) by omega, show ¬ (1 ≤ p) by omega]
  by_cases h2 : p ≤ 1000
  case neg => simp [show p ≥ 1 by omega, h1, h2]
  by_cases h3 : 1 ≤ q
  case neg => simp [show p ≥ 1 by omega, h1, h2, show ¬ (q ≥ 1) by omega, h3]
  by_cases h4 : q ≤ 1000
  case neg => simp [show p ≥ 1 by omega, h1, h2, show q ≥ 1 by omega, h3, h4]
  obtain ⟨a, rfl⟩ := Int.eq_ofNat_of_zero_le (show 0 ≤ p by omega)
  obtain ⟨b, rfl⟩ := Int.eq_ofNat_of_zero_le (show 0 ≤ q by omega)
  unfold spec_l02Gcd.f impl_divisor.f
  rw [po_gcdS 3000 b a (by omega), po_gcdI 3000 b a (by omega)]
  simp only [show (a : Int) ≥ 1 by omega, h1, h2, show (b : Int) ≥ 1 by omega, h3, h4, decide_true, if_true, Option.bind_some]
  by_cases hg : ((Nat.gcd a b : Nat) : Int) = 1
  case neg => simp [hg]
  obtain ⟨r, hr1, hr2⟩ := po_path 60 3000 a b ⟨#[]⟩ h1 h2 h3 h4 (by simp [ByteArray.size]) (by simp [ByteArray.size]) (by omega)
  simp only [hg, if_true, Option.bind_some, beq_self_eq_true, hr1, hr2]

end Go.Proofs.Ytkmoipmkkafkhaa.Pure
