/- The program's IsSuperprimitive and the reference's IsSuperprimitive return the same answer and the same code: both ask whether the word has one cover only. -/
import Derived.Test.YtcelidihilpmjaaPFLibY2
import Derived.Test.YtcelidihilpmjaaPFx5
namespace Go.Proofs.Ytcelidihilpmjaa.Pure
open Go.RowKit Go.Proofs.Ytcelidihilpmjaa.PF Go.Proofs.YtcelidihilpmjaaW.PrintWords Go.Proofs.YtcelidihilpmjaaW.PrintLast
set_option linter.unusedSimpArgs false
set_option linter.unusedVariables false

theorem FnExactIsSuperprimitive : laws_FnExactIsSuperprimitive.Pure := by
  intro w hw
  refine ev_get ?_
  unfold laws_FnExactIsSuperprimitive.f
  by_cases hgw : (w.size : Int) > 1048576
  · simp only [hgw, if_true]; exact ev_of rfl
  simp only [hgw, if_false]
  suffices h : ∃ r : Bool × Int, Ev (fun k => spec_IsSuperprimitive.f k w) r ∧ Ev (fun k => impl_IsSuperprimitive.f k w) r by
    obtain ⟨r, h1, h2⟩ := h
    refine ev_bnd h1 (ev_bnd h2 ?_)
    simp only [if_true, bne_false, Bool.false_eq_true, if_false]; exact ev_of rfl
  unfold spec_IsSuperprimitive.f impl_IsSuperprimitive.f impl_always.f
  simp only [wordCode_f, Option.bind_some]
  by_cases h0 : isW w = true
  · have hs := isW_size h0
    have hcl := cvs_length w
    have hc : codeW true [w] = 0 := codeW_zero.2 ⟨by simp [h0], rfl⟩
    refine ⟨(((cvs w).length : Int) == 1, 0), ev_bnd (l01Is_ev w (by omega)) ?_, ?_⟩
    · simp only [h0, if_true]
      exact ev_bnd ⟨10101, fun k hk => spec_covers_f w hs k (by omega)⟩ (ev_of rfl)
    · simp only [hc, if_true]
      exact ev_bnd ⟨10101, fun k hk => impl_covers_f w h0 k (by omega)⟩ (ev_of rfl)
  · have hc : codeW true [w] = 1 := by simp [codeW, h0]
    refine ⟨(false, 1), ev_bnd (l01Is_ev w (by omega)) ?_, ?_⟩
    · simp only [h0, if_false]; exact ev_of rfl
    · simp only [hc, show ¬ ((1 : Int) = 0) by omega, if_false]; exact ev_of rfl

end Go.Proofs.Ytcelidihilpmjaa.Pure
