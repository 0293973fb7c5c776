/- The program's RightSpecial and the reference's RightSpecial return the same words and the same code: the factors of a length that go on (to the right) in at least two ways; and what the program returned stays as it was marked. -/
import Derived.Test.YtbhhnjlnlmemmaaPFLibX
import Derived.Test.YtbhhnjlnlmemmaaPFLibS
import Derived.Test.YtbhhnjlnlmemmaaPFx19
namespace Go.Proofs.Ytbhhnjlnlmemmaa.Pure
open Go.RowKit Go.Proofs.Ytbhhnjlnlmemmaa.PF Go.Proofs.YtbhhnjlnlmemmaaW.PrintWords Go.Proofs.YtbhhnjlnlmemmaaW.PrintLast
set_option linter.unusedSimpArgs false
set_option linter.unusedVariables false

theorem FnExactRightSpecial : laws_FnExactRightSpecial.Pure := by
  intro w m hw hm
  refine ev_get ?_
  unfold laws_FnExactRightSpecial.f
  by_cases hg : (w.size : Int) > 1048576
  · simp only [hg, if_true]; exact ev_of rfl
  simp only [hg, if_false]
  suffices h : ∃ r : List ByteArray × Int, r.1.length ≤ 4000000000000 ∧ Ev (fun k => spec_RightSpecial.f k w m) r ∧ Ev (fun k => impl_RightSpecial.f k w m) r by
    obtain ⟨r, hr, h1, h2⟩ := h
    obtain ⟨q, m1, m2⟩ := markS_ev r.1 hr
    refine ev_bnd h1 (ev_bnd h2 (ev_bnd (eqS_ev r.1 hr) ?_))
    simp only [if_true, bne_false]
    refine ev_suc ?_
    simp only [laws_FnExactRightSpecial.j0]
    refine ev_bnd m1 (ev_bnd m2 ?_)
    simp only [show ¬ ((r.1.length : Int) + 1 < 0) by omega, if_false, if_true]
    refine ev_bnd h2 (ev_bnd (eqS_ev r.1 hr) ?_)
    simp only [if_true, bne_false]
    refine ev_suc ?_
    simp only [laws_FnExactRightSpecial.j1]
    refine ev_bnd m2 ?_
    simp only [show ¬ ((r.1.length : Int) + 1 < 0) by omega, if_false, if_true]
    exact ev_of rfl
  unfold spec_RightSpecial.f impl_RightSpecial.f impl_RightSpecial_1.f
  simp only [isLength_f, Option.bind_some, wordCode_f]
  by_cases h0 : codeW (inR m 0 60) [w] = 0
  · obtain ⟨n, rfl, hn0, hn⟩ := range_nat h0 (by omega)
    have hs := sz_word h0
    have hl := spc_length w n true
    refine ⟨(spc w n true, 0), by show (spc w n true).length ≤ _; omega, ev_bnd (l05Code_ev w _ (by omega)) ?_, ?_⟩
    · simp only [h0, if_true]
      exact ev_bnd (spec_special_ev w n true hs (by omega)) (ev_of rfl)
    · simp only [h0, if_true]
      exact ev_bnd (impl_special_ev w n true (fun _ => strings_HasPrefix.f) hs (by omega) (fun _ => prefix_cut (by omega))) (ev_of rfl)
  · refine ⟨([], codeW (inR m 0 60) [w]), by simp, ev_bnd (l05Code_ev w _ (by omega)) ?_, ?_⟩
    · simp only [h0, if_false]; exact ev_of rfl
    · simp only [h0, if_false]; exact ev_of rfl

end Go.Proofs.Ytbhhnjlnlmemmaa.Pure
