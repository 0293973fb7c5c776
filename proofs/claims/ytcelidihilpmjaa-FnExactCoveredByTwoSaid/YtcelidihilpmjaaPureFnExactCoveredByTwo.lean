/- The program's CoveredByTwo and the reference's CoveredByTwo return the same answer and the same code: whether the places of the two words leave no letter out. -/
import Derived.Test.YtcelidihilpmjaaPFLibY3
import Derived.Test.YtcelidihilpmjaaPFLibYc
import Derived.Test.YtcelidihilpmjaaPFx13
namespace Go.Proofs.Ytcelidihilpmjaa.Pure
open Go.RowKit Go.Proofs.Ytcelidihilpmjaa.PF Go.Proofs.YtcelidihilpmjaaW.PrintWords Go.Proofs.YtcelidihilpmjaaW.PrintLast
set_option linter.unusedSimpArgs false
set_option linter.unusedVariables false

theorem FnExactCoveredByTwo : laws_FnExactCoveredByTwo.Pure := by
  intro w u v hw hu hv
  refine ev_get ?_
  unfold laws_FnExactCoveredByTwo.f
  by_cases hgw : (w.size : Int) > 1048576
  · simp only [hgw, if_true]; exact ev_of rfl
  simp only [hgw, if_false]
  by_cases hgu : (u.size : Int) > 1048576
  · simp only [hgu, if_true]; exact ev_of rfl
  simp only [hgu, if_false]
  by_cases hgv : (v.size : Int) > 1048576
  · simp only [hgv, if_true]; exact ev_of rfl
  simp only [hgv, if_false]
  suffices h : ∃ r : Bool × Int, Ev (fun k => spec_CoveredByTwo.f k w u v) r ∧ Ev (fun k => impl_CoveredByTwo.f k w u v) r by
    obtain ⟨r, h1, h2⟩ := h
    refine ev_bnd h1 (ev_bnd h2 ?_)
    simp only [if_true, bne_false, Bool.false_eq_true, if_false]; exact ev_of rfl
  unfold spec_CoveredByTwo.f impl_CoveredByTwo.f
  have hcode := l09Code_ev w [u, v] (by omega) (by simp) (fun v hv => by simp only [List.mem_cons, List.not_mem_nil, or_false] at hv; rcases hv with rfl | rfl; all_goals omega)
  simp only [coverCode_f _ _ w [u, v] (by simp), Bool.true_and, Option.bind_some]
  by_cases h0 : codeW (filled [u, v]) (w :: [u, v]) = 0
  · have hall0 := (codeW_zero.1 h0).1
    rw [List.all_eq_true] at hall0
    have hw1 : isW w = true := hall0 w (by simp)
    have hs := isW_size hw1
    have hall : ∀ x ∈ [u, v], isW x = true := fun x hx => hall0 x (List.mem_cons_of_mem _ hx)
    have hu1 : isW u = true := hall u (by simp)
    have hu2 := isW_size hu1
    have hv1 : isW v = true := hall v (by simp)
    have hv2 := isW_size hv1
    refine ⟨(isC2 w u v, 0), ev_bnd hcode ?_, ?_⟩
    · simp only [h0, if_true]
      exact ev_bnd ⟨10001, fun k hk => l09Two_f w u v hs hu2 hv2 k (by omega)⟩ (ev_of rfl)
    · simp only [h0, if_true]
      exact ev_bnd ⟨10001, fun k hk => isCovered_two w u v hs hu1 hv1 k (by omega)⟩ (ev_of rfl)
  · refine ⟨(false, codeW (filled [u, v]) (w :: [u, v])), ev_bnd hcode ?_, ?_⟩
    · simp only [h0, if_false]; exact ev_of rfl
    · simp only [h0, if_false]; exact ev_of rfl

end Go.Proofs.Ytcelidihilpmjaa.Pure
