/- The program's CountCycles and the reference's CountCycles return the same number and the same code: both count the factors of a length and of the next length, and take the difference and one. -/
import Derived.Test.YtbhhnjlnlmemmaaPFLibC
import Derived.Test.YtbhhnjlnlmemmaaPFx10
namespace Go.Proofs.Ytbhhnjlnlmemmaa.Pure
open Go.RowKit Go.Proofs.Ytbhhnjlnlmemmaa.PF Go.Proofs.YtbhhnjlnlmemmaaW.PrintWords Go.Proofs.YtbhhnjlnlmemmaaW.PrintLast
set_option linter.unusedSimpArgs false
set_option linter.unusedVariables false

theorem FnExactCountCycles : laws_FnExactCountCycles.Pure := by
  intro w m hw hm
  refine ev_get ?_
  unfold laws_FnExactCountCycles.f
  by_cases hg : (w.size : Int) > 1048576
  · simp only [hg, if_true]; exact ev_of rfl
  simp only [hg, if_false]
  suffices h : ∃ r : Int × Int, Ev (fun k => spec_CountCycles.f k w m) r ∧ Ev (fun k => impl_CountCycles.f k w m) r by
    obtain ⟨r, h1, h2⟩ := h
    refine ev_bnd h1 (ev_bnd h2 ?_)
    simp only [if_true]; exact ev_of rfl
  unfold spec_CountCycles.f impl_CountCycles.f impl_CountCycles_1.f
  simp only [isLength_f, Option.bind_some, wordCode_f]
  by_cases h0 : codeW (inR m 0 60) [w] = 0
  · obtain ⟨n, rfl, hn0, hn⟩ := range_nat h0 (by omega)
    have hs := sz_word h0
    by_cases h1 : ((fac w n).length : Int) = 0
    · refine ⟨(0, 0), ev_bnd (l05Code_ev w _ (by omega)) ?_, ?_⟩
      · simp only [h0, if_true]
        refine ev_bnd (spec_factors_ev w n (by omega) (by omega)) ?_
        simp only [h1, if_true]; exact ev_of rfl
      · simp only [h0, if_true]
        refine ev_bnd (impl_factors_ev w n (by omega) (by omega)) ?_
        simp only [h1, if_true]; exact ev_of rfl
    · refine ⟨(wrap64 ((wrap64 (((fac w (n + 1)).length : Int) - ((fac w n).length : Int))) + 1), 0), ev_bnd (l05Code_ev w _ (by omega)) ?_, ?_⟩
      · simp only [h0, if_true]
        refine ev_bnd (spec_factors_ev w n (by omega) (by omega)) ?_
        simp only [h1, if_false, wrap_succ (i := n) (by omega)]
        exact ev_bnd (spec_factors_ev w (n + 1) (by omega) (by omega)) (ev_of rfl)
      · simp only [h0, if_true]
        refine ev_bnd (impl_factors_ev w n (by omega) (by omega)) ?_
        simp only [h1, if_false, wrap_succ (i := n) (by omega)]
        exact ev_bnd (impl_factors_ev w (n + 1) (by omega) (by omega)) (ev_of rfl)
  · refine ⟨(0, codeW (inR m 0 60) [w]), ev_bnd (l05Code_ev w _ (by omega)) ?_, ?_⟩
    · simp only [h0, if_false]; exact ev_of rfl
    · simp only [h0, if_false]; exact ev_of rfl

end Go.Proofs.Ytbhhnjlnlmemmaa.Pure
