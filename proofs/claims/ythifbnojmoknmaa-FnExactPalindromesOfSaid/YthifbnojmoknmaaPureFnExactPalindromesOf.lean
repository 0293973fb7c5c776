/- The program's PalindromesOf and the reference's PalindromesOf return the same words and the same code: the palindromes of each length, in order; and what the program returned stays as it was marked. -/
import Derived.Test.YthifbnojmoknmaaPFLibOa
import Derived.Test.YthifbnojmoknmaaPFLibQ
import Derived.Test.YthifbnojmoknmaaPFLibS
import Derived.Test.YthifbnojmoknmaaPFx16
namespace Go.Proofs.Ythifbnojmoknmaa.Pure
open Go.RowKit Go.Proofs.Ythifbnojmoknmaa.PF Go.Proofs.YthifbnojmoknmaaW.PrintWords Go.Proofs.YthifbnojmoknmaaW.PrintLast
set_option linter.unusedSimpArgs false
set_option linter.unusedVariables false

theorem FnExactPalindromesOf : laws_FnExactPalindromesOf.Pure := by
  intro w hw
  refine ev_get ?_
  unfold laws_FnExactPalindromesOf.f
  by_cases hgw : (w.size : Int) > 1048576
  · simp only [hgw, if_true]; exact ev_of rfl
  simp only [hgw, if_false]
  suffices h : ∃ r : List ByteArray × Int, r.1.length ≤ 4000000000000 ∧ Ev (fun k => spec_PalindromesOf.f k w) r ∧ Ev (fun k => impl_PalindromesOf.f k w) r by
    obtain ⟨r, hr, h1, h2⟩ := h
    obtain ⟨q, m1, m2⟩ := markS_ev r.1 hr
    refine ev_bnd h1 (ev_bnd h2 (ev_bnd (eqS_ev r.1 hr) ?_))
    simp only [if_true, bne_false]
    refine ev_suc ?_
    simp only [laws_FnExactPalindromesOf.j0]
    refine ev_bnd m1 (ev_bnd m2 ?_)
    simp only [show ¬ ((r.1.length : Int) + 1 < 0) by omega, if_false, if_true]
    refine ev_bnd h2 (ev_bnd (eqS_ev r.1 hr) ?_)
    simp only [if_true, bne_false]
    refine ev_suc ?_
    simp only [laws_FnExactPalindromesOf.j1]
    refine ev_bnd m2 ?_
    simp only [show ¬ ((r.1.length : Int) + 1 < 0) by omega, if_false, if_true]
    exact ev_of rfl
  unfold spec_PalindromesOf.f impl_PalindromesOf.f impl_always.f
  simp only [wordCode_f, Option.bind_some]
  by_cases h0 : isW w = true
  · have hs := isW_size h0
    have hc : codeW true [w] = 0 := codeW_zero.2 ⟨by simp [h0], rfl⟩
    have hl := palAll_length w hs
    refine ⟨(palAll w, 0), by show (palAll w).length ≤ _; omega, ev_bnd (l01Is_ev w (by omega)) ?_, ?_⟩
    · simp only [h0, if_true]
      exact ev_bnd ⟨8001, fun k hk => l04All_f w hs k (by omega)⟩ (ev_of rfl)
    · simp only [hc, if_true]
      exact ev_bnd ⟨2001, fun k hk => palindromes_f w hs k (by omega)⟩ (ev_of rfl)
  · have hc : codeW true [w] = 1 := by simp [codeW, h0]
    refine ⟨([], 1), by simp, ev_bnd (l01Is_ev w (by omega)) ?_, ?_⟩
    · simp only [h0, if_false]; exact ev_of rfl
    · simp only [hc, show ¬ ((1 : Int) = 0) by omega, if_false]; exact ev_of rfl

end Go.Proofs.Ythifbnojmoknmaa.Pure
