/- The program's HasPattern and the reference's HasPattern return the same bool and the same code: whether a factor of the word fits the pattern. -/
import Derived.Test.YtgoccddcbooabaaPFLibM3
import Derived.Test.YtgoccddcbooabaaPFx11
namespace Go.Proofs.Ytgoccddcbooabaa.Pure
open Go.RowKit Go.Proofs.Ytgoccddcbooabaa.PF Go.Proofs.YtgoccddcbooabaaW.PrintWords Go.Proofs.YtgoccddcbooabaaW.PrintLast
set_option linter.unusedSimpArgs false
set_option linter.unusedVariables false
set_option maxRecDepth 20000

theorem FnExactHasPattern : laws_FnExactHasPattern.Pure := by
  intro w p hw hp
  refine ev_get ?_
  unfold laws_FnExactHasPattern.f
  by_cases hg : (w.size : Int) > 1048576
  · simp only [hg, if_true]; exact ev_of rfl
  simp only [hg, if_false]
  by_cases hg2 : (p.size : Int) > 1048576
  · simp only [hg2, if_true]; exact ev_of rfl
  simp only [hg2, if_false]
  suffices h : ∃ r : Bool × Int, Ev (fun k => spec_HasPattern.f k w p) r ∧ Ev (fun k => impl_HasPattern.f k w p) r by
    obtain ⟨r, h1, h2⟩ := h
    refine ev_bnd h1 (ev_bnd h2 ?_)
    simp only [if_true, bne_false, Bool.false_eq_true, if_false]; exact ev_of rfl
  unfold spec_HasPattern.f impl_HasPattern.f spec_l10Code.f impl_patternCode.f impl_IsWord.f impl_IsPattern.f
  have hl := l01Is_ev w (by omega)
  have hq : Ev (fun k => spec_l10Is.f k p) (isP p) := ⟨p.size + 1, fun k hk => l10Is_f p (by omega) k (by omega)⟩
  simp only [Option.bind_some]
  by_cases h0 : isW w = true
  · have hs := isW_size h0
    rw [h0] at hl
    by_cases h1 : isP p = true
    · rw [h1] at hq
      have hz := isP_size h1
      have ho := okP_of h1
      refine ⟨(hasB w p, 0), ev_bnd (a := (0 : Int)) (ev_bnd hl (by simp only [if_true]; exact ev_bnd hq (by simp only [if_true]; exact ev_of rfl))) ?_, ?_⟩
      · simp only [if_true]
        exact ev_bnd ⟨60000, fun k hk => l10Has_f w p (by omega) ho hz.1 hz.2 k (by omega)⟩ (ev_of rfl)
      · simp only [h0, h1, if_true, Option.bind_some]
        exact ev_bnd ⟨60000, fun k hk => impl_has_f w p (by omega) ho hz.2 k (by omega)⟩ (ev_of rfl)
    · have h1' : isP p = false := by simpa using h1
      rw [h1'] at hq
      refine ⟨(false, 1), ev_bnd (a := (1 : Int)) (ev_bnd hl (by simp only [if_true]; exact ev_bnd hq (by simp only [Bool.false_eq_true, if_false]; exact ev_of rfl))) ?_, ?_⟩
      · simp only [show ¬ (1 : Int) = 0 by omega, if_false]; exact ev_of rfl
      · simp only [h0, h1', if_true, Bool.false_eq_true, if_false, Option.bind_some, show ¬ (1 : Int) = 0 by omega]; exact ev_of rfl
  · have h0' : isW w = false := by simpa using h0
    rw [h0'] at hl
    refine ⟨(false, 1), ev_bnd (a := (1 : Int)) (ev_bnd hl (by simp only [Bool.false_eq_true, if_false]; exact ev_of rfl)) ?_, ?_⟩
    · simp only [show ¬ (1 : Int) = 0 by omega, if_false]; exact ev_of rfl
    · simp only [h0', Bool.false_eq_true, if_false, Option.bind_some, show ¬ (1 : Int) = 0 by omega]; exact ev_of rfl

end Go.Proofs.Ytgoccddcbooabaa.Pure
