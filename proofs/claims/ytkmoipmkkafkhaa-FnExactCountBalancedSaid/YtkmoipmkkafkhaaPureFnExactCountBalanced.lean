/- The program's CountBalanced and the reference's CountBalanced return the same number and the same code, for all numbers: both add up, for each i, how many numbers up to i have no common divisor with it. -/
import Derived.Test.YtkmoipmkkafkhaaPFnExactCountBalancedx1
namespace Go.Proofs.Ytkmoipmkkafkhaa.Pure
open Go.RowKit Go.Proofs.Ytkmoipmkkafkhaa.PFnExactCountBalanced Go.Proofs.YtkmoipmkkafkhaaW.PrintWords Go.Proofs.YtkmoipmkkafkhaaW.PrintLast
set_option linter.unusedSimpArgs false
set_option linter.unusedVariables false

theorem cb_step (a b : Nat) : Nat.gcd b (a % b) = Nat.gcd a b := by
  rw [Nat.gcd_comm b, ← Nat.gcd_rec, Nat.gcd_comm]

theorem cb_gcdI : ∀ (k b a : Nat), b < k → impl_divisor.l0 k (a : Int) (b : Int) = some ((Nat.gcd a b : Nat) : Int)
  | 0, b, a, h => by omega
  | k + 1, b, a, h => by
    simp only [impl_divisor.l0]
    by_cases hb : b = 0
    · subst hb; simp
    · rw [if_neg (by omega), ← Int.ofNat_tmod, cb_gcdI k (a % b) b (by have := Nat.mod_lt a (Nat.pos_of_ne_zero hb); omega), cb_step]

theorem cb_gcdS : ∀ (k b a : Nat), b < k → spec_l02Gcd.l0 k (a : Int) (b : Int) = some ((Nat.gcd a b : Nat) : Int)
  | 0, b, a, h => by omega
  | k + 1, b, a, h => by
    simp only [spec_l02Gcd.l0]
    by_cases hb : b = 0
    · subst hb; simp
    · rw [if_pos (by omega), if_neg (by omega), ← Int.ofNat_tmod, cb_gcdS k (a % b) b (by have := Nat.mod_lt a (Nat.pos_of_ne_zero hb); omega), cb_step]

theorem cb_wrap {x : Int} (h0 : -9223372036854775808 ≤ x) (h1 : x ≤ 9223372036854775807) : wrap64 x = x := by
  unfold wrap64; omega

/-- The program's count of the numbers up to i, from j on; the reference's inner loop comes to the same count. -/
theorem cb_inner (n i : Nat) (all : Int) (hi : 1 ≤ i) (hi2 : i ≤ 1000) : ∀ (d k : Nat) (j m : Nat), 1 ≤ j → j + d = i + 1 → m < j → d + 1100 < k →
    ∃ t : Int, impl_totient.l0 k (i : Int) (m : Int) (j : Int) = some t ∧
      ∀ k', d + 1100 < k' → spec_CountBalanced.l1 k' (n : Int) all (i : Int) (m : Int) (j : Int) = spec_CountBalanced.l0 (k' - d - 1) (n : Int) (wrap64 (all + wrap64 ((wrap64 ((wrap64 ((n : Int) - i)) + 1)) * t))) (wrap64 ((i : Int) + 1)) := by
  intro d
  induction d with
  | zero =>
    intro k j m hj hd hm hk
    obtain ⟨k, rfl⟩ : ∃ z, k = z + 1 := ⟨k - 1, by omega⟩
    refine ⟨m, ?_, ?_⟩
    · simp only [impl_totient.l0]; rw [if_neg (by omega)]
    · intro k' hk'
      obtain ⟨k', rfl⟩ : ∃ z, k' = z + 1 := ⟨k' - 1, by omega⟩
      simp only [spec_CountBalanced.l1]; rw [if_neg (by omega)]; rfl
  | succ d ih =>
    intro k j m hj hd hm hk
    obtain ⟨k, rfl⟩ : ∃ z, k = z + 1 := ⟨k - 1, by omega⟩
    have hw : wrap64 ((j : Int) + 1) = ((j + 1 : Nat) : Int) := by rw [cb_wrap (by omega) (by omega)]; rfl
    have hw2 : wrap64 ((m : Int) + 1) = ((m + 1 : Nat) : Int) := by rw [cb_wrap (by omega) (by omega)]; rfl
    by_cases hg : ((Nat.gcd i j : Nat) : Int) = 1
    · obtain ⟨t, ht, hs⟩ := ih k (j + 1) (m + 1) (by omega) (by omega) (by omega) (by omega)
      refine ⟨t, ?_, ?_⟩
      · simp only [impl_totient.l0]
        rw [if_pos (by omega)]; unfold impl_divisor.f
        rw [cb_gcdI k i j (by omega), Nat.gcd_comm j i]; simp only [Option.bind_some, hg, if_true]; rw [hw, hw2]; exact ht
      · intro k' hk'
        obtain ⟨k', rfl⟩ : ∃ z, k' = z + 1 := ⟨k' - 1, by omega⟩
        simp only [spec_CountBalanced.l1]
        rw [if_pos (by omega)]; unfold spec_l02Gcd.f
        rw [cb_gcdS k' j i (by omega)]; simp only [Option.bind_some, hg, if_true]; rw [hw, hw2, hs k' (by omega)]
        congr 1; omega
    · obtain ⟨t, ht, hs⟩ := ih k (j + 1) m (by omega) (by omega) (by omega) (by omega)
      refine ⟨t, ?_, ?_⟩
      · simp only [impl_totient.l0]
        rw [if_pos (by omega)]; unfold impl_divisor.f
        rw [cb_gcdI k i j (by omega), Nat.gcd_comm j i]; simp only [Option.bind_some, hg, if_false]; rw [hw]; exact ht
      · intro k' hk'
        obtain ⟨k', rfl⟩ : ∃ z, k' = z + 1 := ⟨k' - 1, by omega⟩
        simp only [spec_CountBalanced.l1]
        rw [if_pos (by omega)]; unfold spec_l02Gcd.f
        rw [cb_gcdS k' j i (by omega)]; simp only [Option.bind_some, hg, if_false]; rw [hw, hs k' (by omega)]
        congr 1; omega

theorem cb_outer (n : Nat) (hn : n ≤ 1000) : ∀ (d k k' : Nat) (i : Nat) (all : Int), 1 ≤ i → i + d = n + 1 → d + 3000 < k → 1100 * d + 3000 < k' →
    ∃ r, impl_CountBalanced.l0 k (n : Int) all (i : Int) = some (r, 0) ∧ spec_CountBalanced.l0 k' (n : Int) all (i : Int) = some (r, 0) := by
  intro d
  induction d with
  | zero =>
    intro k k' i all hi hd hk hk'
    obtain ⟨k, rfl⟩ : ∃ z, k = z + 1 := ⟨k - 1, by omega⟩
    obtain ⟨k', rfl⟩ : ∃ z, k' = z + 1 := ⟨k' - 1, by omega⟩
    refine ⟨all, ?_, ?_⟩
    · simp only [impl_CountBalanced.l0]; rw [if_neg (by omega)]
    · simp only [spec_CountBalanced.l0]; rw [if_neg (by omega)]
  | succ d ih =>
    intro k k' i all hi hd hk hk'
    obtain ⟨k, rfl⟩ : ∃ z, k = z + 1 := ⟨k - 1, by omega⟩
    obtain ⟨k', rfl⟩ : ∃ z, k' = z + 1 := ⟨k' - 1, by omega⟩
    obtain ⟨t, ht, hs⟩ := cb_inner n i all hi (by omega) i k 1 0 (by omega) (by omega) (by omega) (by omega)
    have hw : wrap64 ((i : Int) + 1) = ((i + 1 : Nat) : Int) := by rw [cb_wrap (by omega) (by omega)]; rfl
    obtain ⟨r, h1, h2⟩ := ih k (k' - i - 1) (i + 1) (wrap64 (all + wrap64 ((wrap64 ((wrap64 ((n : Int) - i)) + 1)) * t))) (by omega) (by omega) (by omega) (by omega)
    refine ⟨r, ?_, ?_⟩
    · simp only [impl_CountBalanced.l0]
      rw [if_pos (by omega)]; unfold impl_totient.f
      rw [show (0 : Int) = ((0 : Nat) : Int) from rfl, show (1 : Int) = ((1 : Nat) : Int) from rfl, ht]
      simp only [Option.bind_some]
      have := hw; simp only [Int.natCast_one] at this ⊢; rw [this]; exact h1
    · simp only [spec_CountBalanced.l0]
      rw [if_pos (by omega)]
      have := hs k' (by omega); simp only [Int.natCast_zero, Int.natCast_one, hw] at this; rw [this]; exact h2

theorem FnExactCountBalanced : laws_FnExactCountBalanced.Pure := by
  intro n hn
  refine ⟨2000000, ?_⟩
  unfold laws_FnExactCountBalanced.f spec_CountBalanced.f impl_CountBalanced.f spec_l01In.f impl_within.f
  by_cases h1 : 0 ≤ n
  case neg => simp [h1]
  by_cases h2 : n ≤ 1000
  case neg => simp [h1, h2]
  obtain ⟨a, rfl⟩ := Int.eq_ofNat_of_zero_le h1
  obtain ⟨r, hr1, hr2⟩ := cb_outer a (by omega) a 2000000 2000000 1 1 (by omega) (by omega) (by omega) (by omega)
  simp only [Int.natCast_one] at hr1 hr2
  simp [h1, h2, hr1, hr2]

end Go.Proofs.Ytkmoipmkkafkhaa.Pure
