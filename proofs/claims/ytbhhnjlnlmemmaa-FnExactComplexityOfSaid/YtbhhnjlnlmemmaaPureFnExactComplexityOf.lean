/- The program's ComplexityOf and the reference's ComplexityOf return the same numbers and the same code: for each length how many different factors there are; and what the program returned stays as it was marked. -/
import Derived.Test.YtbhhnjlnlmemmaaPFLibC
import Derived.Test.YtbhhnjlnlmemmaaPFLibI
import Derived.Test.YtbhhnjlnlmemmaaPFx13
namespace Go.Proofs.Ytbhhnjlnlmemmaa.Pure
open Go.RowKit Go.Proofs.Ytbhhnjlnlmemmaa.PF Go.Proofs.YtbhhnjlnlmemmaaW.PrintWords Go.Proofs.YtbhhnjlnlmemmaaW.PrintLast
set_option linter.unusedSimpArgs false
set_option linter.unusedVariables false

theorem FnExactComplexityOf : laws_FnExactComplexityOf.Pure := by
  intro w hw
  refine ev_get ?_
  unfold laws_FnExactComplexityOf.f
  by_cases hg : (w.size : Int) > 1048576
  · simp only [hg, if_true]; exact ev_of rfl
  simp only [hg, if_false]
  suffices h : ∃ r : List Int × Int, r.1.length ≤ 4000000000000 ∧ Ev (fun k => spec_ComplexityOf.f k w) r ∧ Ev (fun k => impl_ComplexityOf.f k w) r by
    obtain ⟨r, hr, h1, h2⟩ := h
    obtain ⟨q, m1, m2⟩ := markI_ev r.1 hr
    refine ev_bnd h1 (ev_bnd h2 (ev_bnd (eqI_ev r.1 hr) ?_))
    simp only [if_true, bne_false]
    refine ev_suc ?_
    simp only [laws_FnExactComplexityOf.j0]
    refine ev_bnd m1 (ev_bnd m2 ?_)
    simp only [show ¬ ((r.1.length : Int) + 1 < 0) by omega, if_false, if_true]
    refine ev_bnd h2 (ev_bnd (eqI_ev r.1 hr) ?_)
    simp only [if_true, bne_false]
    refine ev_suc ?_
    simp only [laws_FnExactComplexityOf.j1]
    refine ev_bnd m2 ?_
    simp only [show ¬ ((r.1.length : Int) + 1 < 0) by omega, if_false, if_true]
    exact ev_of rfl
  unfold spec_ComplexityOf.f impl_ComplexityOf.f impl_always.f
  simp only [wordCode_f]
  by_cases h0 : isW w = true
  · have hs := isW_size h0
    refine ⟨(numF w (w.size + 1) 0, 0), by show (numF w (w.size + 1) 0).length ≤ _; rw [numF_length]; omega, ev_bnd (l01Is_ev w (by omega)) ?_, ?_⟩
    · simp only [h0, if_true]
      exact ev_bnd (numbers_ev w hs) (ev_of rfl)
    · simp only [codeW, List.all_cons, List.all_nil, h0, Bool.and_true, if_true, Option.bind_some]
      exact ev_bnd (complexity_ev w hs) (ev_of rfl)
  · refine ⟨([], 1), by simp, ev_bnd (l01Is_ev w (by omega)) ?_, ?_⟩
    · simp only [h0, if_false]; exact ev_of rfl
    · simp [codeW, h0]; exact ev_of rfl

end Go.Proofs.Ytbhhnjlnlmemmaa.Pure
