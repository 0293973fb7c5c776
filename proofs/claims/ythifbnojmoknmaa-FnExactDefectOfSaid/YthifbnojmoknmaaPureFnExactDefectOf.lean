/- The program's DefectOf and the reference's DefectOf return the same number and the same code: the length less the number of different palindromes. -/
import Derived.Test.YthifbnojmoknmaaPFLibOa
import Derived.Test.YthifbnojmoknmaaPFLibQ
import Derived.Test.YthifbnojmoknmaaPFx12
namespace Go.Proofs.Ythifbnojmoknmaa.Pure
open Go.RowKit Go.Proofs.Ythifbnojmoknmaa.PF Go.Proofs.YthifbnojmoknmaaW.PrintWords Go.Proofs.YthifbnojmoknmaaW.PrintLast
set_option linter.unusedSimpArgs false
set_option linter.unusedVariables false

theorem FnExactDefectOf : laws_FnExactDefectOf.Pure := by
  intro w hw
  refine ev_get ?_
  unfold laws_FnExactDefectOf.f
  by_cases hgw : (w.size : Int) > 1048576
  · simp only [hgw, if_true]; exact ev_of rfl
  simp only [hgw, if_false]
  suffices h : ∃ r : Int × Int, Ev (fun k => spec_DefectOf.f k w) r ∧ Ev (fun k => impl_DefectOf.f k w) r by
    obtain ⟨r, h1, h2⟩ := h
    refine ev_bnd h1 (ev_bnd h2 ?_)
    simp only [if_true, bne_false, Bool.false_eq_true, if_false]; exact ev_of rfl
  unfold spec_DefectOf.f impl_DefectOf.f impl_always.f
  simp only [wordCode_f, Option.bind_some, impl_size.f]
  by_cases h0 : isW w = true
  · have hs := isW_size h0
    have hc : codeW true [w] = 0 := codeW_zero.2 ⟨by simp [h0], rfl⟩
    refine ⟨(wrap64 ((w.size : Int) - ((palAll w).length : Int)), 0), ev_bnd (l01Is_ev w (by omega)) ?_, ?_⟩
    · simp only [h0, if_true]
      exact ev_bnd ⟨8001, fun k hk => l04All_f w hs k (by omega)⟩ (ev_of rfl)
    · simp only [hc, if_true]
      exact ev_bnd ⟨2001, fun k hk => palindromes_f w hs k (by omega)⟩ (ev_of rfl)
  · have hc : codeW true [w] = 1 := by simp [codeW, h0]
    refine ⟨(0, 1), ev_bnd (l01Is_ev w (by omega)) ?_, ?_⟩
    · simp only [h0, if_false]; exact ev_of rfl
    · simp only [hc, show ¬ ((1 : Int) = 0) by omega, if_false]; exact ev_of rfl

end Go.Proofs.Ythifbnojmoknmaa.Pure
