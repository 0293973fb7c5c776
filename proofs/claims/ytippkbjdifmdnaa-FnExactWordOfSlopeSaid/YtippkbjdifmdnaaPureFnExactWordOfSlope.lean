/- The program's WordOfSlope and the reference's WordOfSlope return the same word and the same code, for all pairs of numbers: both test the same ranges and the same greatest common divisor, and both put the same letters one behind the other. -/
import Derived.Test.YtippkbjdifmdnaaPFnExactWordOfSlopex1
namespace Go.Proofs.Ytippkbjdifmdnaa.Pure
open Go.RowKit Go.Proofs.Ytippkbjdifmdnaa.PFnExactWordOfSlope Go.Proofs.YtippkbjdifmdnaaW.PrintWords Go.Proofs.YtippkbjdifmdnaaW.PrintLast
set_option linter.unusedSimpArgs false
set_option linter.unusedVariables false

theorem gcd_step (a b : Nat) : Nat.gcd b (a % b) = Nat.gcd a b := by
  rw [Nat.gcd_comm b, ← Nat.gcd_rec, Nat.gcd_comm]

theorem gcdI : ∀ (k b a : Nat), b < k → impl_divisor.l0 k (a : Int) (b : Int) = some ((Nat.gcd a b : Nat) : Int)
  | 0, b, a, h => by omega
  | k + 1, b, a, h => by
    simp only [impl_divisor.l0]
    by_cases hb : b = 0
    · subst hb; simp
    · rw [if_neg (by omega), ← Int.ofNat_tmod, gcdI k (a % b) b (by have := Nat.mod_lt a (Nat.pos_of_ne_zero hb); omega), gcd_step]

theorem gcdS : ∀ (k b a : Nat), b < k → spec_l02Gcd.l0 k (a : Int) (b : Int) = some ((Nat.gcd a b : Nat) : Int)
  | 0, b, a, h => by omega
  | k + 1, b, a, h => by
    simp only [spec_l02Gcd.l0]
    by_cases hb : b = 0
    · subst hb; simp
    · rw [if_pos (by omega), if_neg (by omega), ← Int.ofNat_tmod, gcdS k (a % b) b (by have := Nat.mod_lt a (Nat.pos_of_ne_zero hb); omega), gcd_step]

theorem wrap_id {x : Int} (h0 : -9223372036854775808 ≤ x) (h1 : x ≤ 9223372036854775807) : wrap64 x = x := by
  unfold wrap64; omega

theorem wrap_wrap (x : Int) : wrap64 (wrap64 x + 0) = wrap64 x := by
  unfold wrap64; omega

theorem size_push (b : ByteArray) (c : UInt8) : (b ++ (⟨#[c]⟩ : ByteArray)).size = b.size + 1 := by
  rw [ByteArray.size_append]; rfl

theorem words_eq (n q : Int) (hn : 1 ≤ n) (hn2 : n ≤ 2000) : ∀ (d k : Nat) (i : Int) (out : ByteArray), 0 ≤ i → n - i = d → d < k → (out.size : Int) = i →
    ∃ r : ByteArray, spec_l08Word.l0 k q out n i = some r ∧ impl_stepped.l0 k q n 0 out n i = some r ∧ (r.size : Int) = n := by
  intro d
  induction d with
  | zero =>
    intro k i out h0 hd hk hs
    obtain ⟨k, rfl⟩ : ∃ m, k = m + 1 := ⟨k - 1, by omega⟩
    refine ⟨out, ?_, ?_, by omega⟩
    · simp only [spec_l08Word.l0]; rw [if_neg (by omega)]
    · simp only [impl_stepped.l0]; rw [if_neg (by omega)]
  | succ d ih =>
    intro k i out h0 hd hk hs
    obtain ⟨k, rfl⟩ : ∃ m, k = m + 1 := ⟨k - 1, by omega⟩
    have hw : wrap64 (i + 1) = i + 1 := wrap_id (by omega) (by omega)
    simp only [spec_l08Word.l0, impl_stepped.l0, wrap_wrap]
    simp only [show i < n by omega, if_true, show ¬ (n = 0) by omega, if_false]
    have hz : out.size + 1 ≤ 9223372036854775807 := by omega
    split
    · simp only [hz, if_true, hw]
      exact ih k (i + 1) _ (by omega) (by omega) (by omega) (by rw [size_push]; omega)
    · simp only [hz, if_true, hw]
      exact ih k (i + 1) _ (by omega) (by omega) (by omega) (by rw [size_push]; omega)

theorem FnExactWordOfSlope : laws_FnExactWordOfSlope.Pure := by
  intro p q hp hq
  refine ⟨3000, ?_⟩
  unfold laws_FnExactWordOfSlope.f spec_WordOfSlope.f spec_l08Pair.f spec_l01In.f impl_WordOfSlope.f impl_slopeCode.f impl_areSlope.f impl_within.f
  by_cases h1 : 0 ≤ p
  case neg => simp [show ¬ (p ≥ 0) by omega, show ¬ (0 ≤ p) by omega]
  by_cases h2 : p ≤ 1000
  case neg => simp [show p ≥ 0 by omega, h1, h2]
  by_cases h3 : 0 ≤ q
  case neg => simp [show p ≥ 0 by omega, h1, h2, show ¬ (q ≥ 0) by omega, h3]
  by_cases h4 : q ≤ 1000
  case neg => simp [show p ≥ 0 by omega, h1, h2, show q ≥ 0 by omega, h3, h4]
  obtain ⟨a, rfl⟩ := Int.eq_ofNat_of_zero_le (show 0 ≤ p by omega)
  obtain ⟨b, rfl⟩ := Int.eq_ofNat_of_zero_le (show 0 ≤ q by omega)
  unfold spec_l02Gcd.f impl_divisor.f
  rw [gcdS 3000 b a (by omega), gcdI 3000 b a (by omega)]
  simp only [show (a : Int) ≥ 0 by omega, h1, h2, show (b : Int) ≥ 0 by omega, h3, h4, decide_true, if_true, Option.bind_some]
  have hs : wrap64 ((a : Int) + b) = a + b := wrap_id (by omega) (by omega)
  by_cases hg : ((Nat.gcd a b : Nat) : Int) = 1
  case neg => simp [hg]
  simp only [hg, if_true, Option.bind_some, hs, beq_self_eq_true]
  have hpos : 1 ≤ (a : Int) + b := by
    by_cases h0 : a = 0
    · by_cases h5 : b = 0
      · subst h0; subst h5; simp at hg
      · omega
    · omega
  by_cases hl : (a : Int) + b > 60
  · simp [hl]
  · unfold spec_l08Word.f impl_slopeWord.f impl_stepped.f
    obtain ⟨r, hr1, hr2, hr3⟩ := words_eq ((a : Int) + b) b (by omega) (by omega) ((a : Int) + b).toNat 3000 0 ⟨#[]⟩ (by omega) (by omega) (by omega) (by simp [ByteArray.size])
    simp only [hs, hr1, hr2, hl, Option.bind_some, if_false]
    simp

end Go.Proofs.Ytippkbjdifmdnaa.Pure
