/- The program's AbelianComplexity and the reference's AbelianComplexity return the same numbers and the same code: for each length how many factors differ in the numbers of their letters; and what the program returned stays as it was marked. -/
import Derived.Test.YtippkbjdifmdnaaPFLibAb
import Derived.Test.YtippkbjdifmdnaaPFLibW
import Derived.Test.YtippkbjdifmdnaaPFx11
namespace Go.Proofs.Ytippkbjdifmdnaa.Pure
open Go.RowKit Go.Proofs.Ytippkbjdifmdnaa.PF Go.Proofs.YtippkbjdifmdnaaW.PrintWords Go.Proofs.YtippkbjdifmdnaaW.PrintLast
set_option linter.unusedSimpArgs false
set_option linter.unusedVariables false

theorem FnExactAbelianComplexity : laws_FnExactAbelianComplexity.Pure := by
  intro w hw
  refine ev_get ?_
  unfold laws_FnExactAbelianComplexity.f
  by_cases hg : (w.size : Int) > 1048576
  · simp only [hg, if_true]; exact ev_of rfl
  simp only [hg, if_false]
  suffices h : ∃ r : List Int × Int, r.1.length ≤ 4000000000000 ∧ Ev (fun k => spec_AbelianComplexity.f k w) r ∧ Ev (fun k => impl_AbelianComplexity.f k w) r by
    obtain ⟨r, hr, h1, h2⟩ := h
    obtain ⟨q, m1, m2⟩ := markI_ev r.1 hr
    refine ev_bnd h1 (ev_bnd h2 (ev_bnd (eqI_ev r.1 hr) ?_))
    simp only [if_true, bne_false]
    refine ev_suc ?_
    simp only [laws_FnExactAbelianComplexity.j0]
    refine ev_bnd m1 (ev_bnd m2 ?_)
    simp only [show ¬ ((r.1.length : Int) + 1 < 0) by omega, if_false, if_true]
    refine ev_bnd h2 (ev_bnd (eqI_ev r.1 hr) ?_)
    simp only [if_true, bne_false]
    refine ev_suc ?_
    simp only [laws_FnExactAbelianComplexity.j1]
    refine ev_bnd m2 ?_
    simp only [show ¬ ((r.1.length : Int) + 1 < 0) by omega, if_false, if_true]
    exact ev_of rfl
  unfold spec_AbelianComplexity.f impl_AbelianComplexity.f impl_always.f
  simp only [wordCode_f, Option.bind_some]
  by_cases h0 : isW w = true
  · have hs := isW_size h0
    have hL := isW_lets h0
    have hc : codeW true [w] = 0 := by simp [codeW, h0]
    have hq : w.size < 4611686018427387904 := by omega
    refine ⟨(abelF w (w.size + 1) 0, 0), by show (abelF w (w.size + 1) 0).length ≤ _; rw [abelF_length]; omega, ev_bnd (l01Is_ev w (by omega)) ?_, ?_⟩
    · simp only [h0, if_true]
      have h := sp0_ev w hs hL (w.size + 1) 0 [] (by omega) rfl
      exact h
    · simp only [hc, if_true, wrap_succ hq]
      have h := im0_ev w hs (w.size + 1) 0 [] (by omega) rfl
      exact h
  · have hc : codeW true [w] = 1 := by simp [codeW, h0]
    refine ⟨([], 1), by simp, ev_bnd (l01Is_ev w (by omega)) ?_, ?_⟩
    · simp only [h0, if_false]; exact ev_of rfl
    · simp only [hc, show ¬ ((1 : Int) = 0) by omega, if_false]; exact ev_of rfl

end Go.Proofs.Ytippkbjdifmdnaa.Pure
