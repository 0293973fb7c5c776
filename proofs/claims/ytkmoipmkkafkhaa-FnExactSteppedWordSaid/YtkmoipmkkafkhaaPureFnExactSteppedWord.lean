/- The program's SteppedWord and the reference's SteppedWord return the same word and the same code, for all four numbers: they test the same ranges and put the same letters one behind the other. -/
import Derived.Test.YtkmoipmkkafkhaaPFnExactSteppedWordx1
namespace Go.Proofs.Ytkmoipmkkafkhaa.Pure
open Go.RowKit Go.Proofs.Ytkmoipmkkafkhaa.PFnExactSteppedWord Go.Proofs.YtkmoipmkkafkhaaW.PrintWords Go.Proofs.YtkmoipmkkafkhaaW.PrintLast
set_option linter.unusedSimpArgs false
set_option linter.unusedVariables false

theorem st_wrap {x : Int} (h0 : -9223372036854775808 ≤ x) (h1 : x ≤ 9223372036854775807) : wrap64 x = x := by
  unfold wrap64; omega

theorem st_push (b : ByteArray) (c : UInt8) : (b ++ (⟨#[c]⟩ : ByteArray)).size = b.size + 1 := by
  rw [ByteArray.size_append]; rfl

theorem st_words (a b c n : Int) (hb : 1 ≤ b) (hn : 0 ≤ n) (hn2 : n ≤ 60) : ∀ (d k : Nat) (i : Int) (out : ByteArray), 0 ≤ i → n - i = d → d < k → (out.size : Int) = i →
    ∃ r : ByteArray, spec_SteppedWord.l0 k a b c n out i = some (r, 0) ∧ impl_stepped.l0 k a b c out n i = some r := by
  intro d
  induction d with
  | zero =>
    intro k i out h0 hd hk hs
    obtain ⟨k, rfl⟩ : ∃ m, k = m + 1 := ⟨k - 1, by omega⟩
    refine ⟨out, ?_, ?_⟩
    · simp only [spec_SteppedWord.l0]; rw [if_neg (by omega)]
    · simp only [impl_stepped.l0]; rw [if_neg (by omega)]
  | succ d ih =>
    intro k i out h0 hd hk hs
    obtain ⟨k, rfl⟩ : ∃ m, k = m + 1 := ⟨k - 1, by omega⟩
    have hw : wrap64 (i + 1) = i + 1 := st_wrap (by omega) (by omega)
    simp only [spec_SteppedWord.l0, impl_stepped.l0]
    simp only [show i < n by omega, if_true, show ¬ (b = 0) by omega, if_false]
    have hz : out.size + 1 ≤ 9223372036854775807 := by omega
    split
    · simp only [hz, if_true, hw]
      exact ih k (i + 1) _ (by omega) (by omega) (by omega) (by rw [st_push]; omega)
    · simp only [hz, if_true, hw]
      exact ih k (i + 1) _ (by omega) (by omega) (by omega) (by rw [st_push]; omega)

theorem FnExactSteppedWord : laws_FnExactSteppedWord.Pure := by
  intro a b c n ha hb hc hn
  refine ⟨100, ?_⟩
  unfold laws_FnExactSteppedWord.f spec_SteppedWord.f impl_SteppedWord.f impl_isLength.f spec_l01In.f impl_within.f
  have hj : spec_SteppedWord.j0 100 a b c n true = some ((⟨#[]⟩ : ByteArray), 2) := by simp [spec_SteppedWord.j0]
  by_cases h1 : 1 ≤ b
  case neg => simp [h1, hj]
  by_cases h2 : b ≤ 1000
  case neg => simp [h1, h2, hj]
  by_cases h3 : 0 ≤ a
  case neg => simp [h1, h2, h3, hj]
  by_cases h4 : a ≤ b
  case neg => simp [h1, h2, h3, h4, hj]
  by_cases h5 : 0 ≤ c
  case neg => simp [h1, h2, h3, h4, h5, hj]
  by_cases h6 : c ≤ wrap64 (b - 1)
  case neg => simp [h1, h2, h3, h4, h5, h6, hj]
  by_cases h7 : 0 ≤ n
  case neg => simp [h1, h2, h3, h4, h5, h6, h7, hj]
  by_cases h8 : n ≤ 60
  case neg => simp [h1, h2, h3, h4, h5, h6, h7, h8, hj]
  obtain ⟨r, hr1, hr2⟩ := st_words a b c n h1 h7 h8 n.toNat 99 0 ⟨#[]⟩ (by omega) (by omega) (by omega) (by simp [ByteArray.size])
  obtain ⟨r', hr1', hr2'⟩ := st_words a b c n h1 h7 h8 n.toNat 100 0 ⟨#[]⟩ (by omega) (by omega) (by omega) (by simp [ByteArray.size])
  have hm : impl_stepped.l0 100 a b c ⟨#[]⟩ n 0 = some r := impl_stepped.mono_l 99 _ _ _ _ _ _ _ hr2
  have hj2 : spec_SteppedWord.j0 100 a b c n false = some (r, 0) := by
    simp only [spec_SteppedWord.j0]; simp [hr1]
  unfold impl_stepped.f
  simp [h1, h2, h3, h4, h5, h6, h7, h8, hj2, hm]

end Go.Proofs.Ytkmoipmkkafkhaa.Pure
