/- The program's IsCover and the reference's IsCover return the same answer and the same code: whether the places of the second word, each with the word's own length, leave no letter out. -/
import Derived.Test.YtcelidihilpmjaaPFLibY2
import Derived.Test.YtcelidihilpmjaaPFx7
namespace Go.Proofs.Ytcelidihilpmjaa.Pure
open Go.RowKit Go.Proofs.Ytcelidihilpmjaa.PF Go.Proofs.YtcelidihilpmjaaW.PrintWords Go.Proofs.YtcelidihilpmjaaW.PrintLast
set_option linter.unusedSimpArgs false
set_option linter.unusedVariables false

theorem FnExactIsCover : laws_FnExactIsCover.Pure := by
  intro w u hw hu
  refine ev_get ?_
  unfold laws_FnExactIsCover.f
  by_cases hgw : (w.size : Int) > 1048576
  · simp only [hgw, if_true]; exact ev_of rfl
  simp only [hgw, if_false]
  by_cases hgu : (u.size : Int) > 1048576
  · simp only [hgu, if_true]; exact ev_of rfl
  simp only [hgu, if_false]
  suffices h : ∃ r : Bool × Int, Ev (fun k => spec_IsCover.f k w u) r ∧ Ev (fun k => impl_IsCover.f k w u) r by
    obtain ⟨r, h1, h2⟩ := h
    refine ev_bnd h1 (ev_bnd h2 ?_)
    simp only [if_true, bne_false, Bool.false_eq_true, if_false]; exact ev_of rfl
  unfold spec_IsCover.f impl_IsCover.f
  have hcode := l09Code_ev w [u] (by omega) (by simp) (fun v hv => by simp only [List.mem_cons, List.not_mem_nil, or_false] at hv; subst hv; all_goals omega)
  simp only [coverCode_f _ _ w [u] (by simp), Bool.true_and, Option.bind_some]
  by_cases h0 : codeW (filled [u]) (w :: [u]) = 0
  · have hall0 := (codeW_zero.1 h0).1
    rw [List.all_eq_true] at hall0
    have hw1 : isW w = true := hall0 w (by simp)
    have hs := isW_size hw1
    have hall : ∀ x ∈ [u], isW x = true := fun x hx => hall0 x (List.mem_cons_of_mem _ hx)
    have hu1 : isW u = true := hall u (by simp)
    have hu2 := isW_size hu1
    refine ⟨(isC w u, 0), ev_bnd hcode ?_, ?_⟩
    · simp only [h0, if_true]
      exact ev_bnd ⟨10001, fun k hk => l09Cover_f w u hs hu2 k (by omega)⟩ (ev_of rfl)
    · simp only [h0, if_true]
      exact ev_bnd ⟨10001, fun k hk => isCovered_one w u hs hu1 k (by omega)⟩ (ev_of rfl)
  · refine ⟨(false, codeW (filled [u]) (w :: [u])), ev_bnd hcode ?_, ?_⟩
    · simp only [h0, if_false]; exact ev_of rfl
    · simp only [h0, if_false]; exact ev_of rfl

end Go.Proofs.Ytcelidihilpmjaa.Pure
