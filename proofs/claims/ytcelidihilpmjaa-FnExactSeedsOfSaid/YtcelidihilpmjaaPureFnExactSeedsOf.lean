/- The program's SeedsOf and the reference's SeedsOf return the same words and the same code: the factors of a length that are seeds; and what the program returned stays as it was marked. -/
import Derived.Test.YtcelidihilpmjaaPFLibZZ
import Derived.Test.YtcelidihilpmjaaPFLibS
import Derived.Test.YtcelidihilpmjaaPFx44
namespace Go.Proofs.Ytcelidihilpmjaa.Pure
open Go.RowKit Go.Proofs.Ytcelidihilpmjaa.PF Go.Proofs.YtcelidihilpmjaaW.PrintWords Go.Proofs.YtcelidihilpmjaaW.PrintLast
set_option linter.unusedSimpArgs false
set_option linter.unusedVariables false

theorem FnExactSeedsOf : laws_FnExactSeedsOf.Pure := by
  intro w m hw hm
  refine ev_get ?_
  unfold laws_FnExactSeedsOf.f
  by_cases hgw : (w.size : Int) > 1048576
  · simp only [hgw, if_true]; exact ev_of rfl
  simp only [hgw, if_false]
  suffices h : ∃ r : List ByteArray × Int, r.1.length ≤ 4000000000000 ∧ Ev (fun k => spec_SeedsOf.f k w m) r ∧ Ev (fun k => impl_SeedsOf.f k w m) r by
    obtain ⟨r, hr, h1, h2⟩ := h
    obtain ⟨q, m1, m2⟩ := markS_ev r.1 hr
    refine ev_bnd h1 (ev_bnd h2 (ev_bnd (eqS_ev r.1 hr) ?_))
    simp only [if_true, bne_false]
    refine ev_suc ?_
    simp only [laws_FnExactSeedsOf.j0]
    refine ev_bnd m1 (ev_bnd m2 ?_)
    simp only [show ¬ ((r.1.length : Int) + 1 < 0) by omega, if_false, if_true]
    refine ev_bnd h2 (ev_bnd (eqS_ev r.1 hr) ?_)
    simp only [if_true, bne_false]
    refine ev_suc ?_
    simp only [laws_FnExactSeedsOf.j1]
    refine ev_bnd m2 ?_
    simp only [show ¬ ((r.1.length : Int) + 1 < 0) by omega, if_false, if_true]
    exact ev_of rfl
  unfold spec_SeedsOf.f impl_SeedsOf.f impl_SeedsOf_1.f impl_isCoverLength.f
  simp only [within_f, wordCode_f, Option.bind_some]
  by_cases h0 : codeW (inR m 1 60) [w] = 0
  · obtain ⟨n, rfl, hn0, hn⟩ := range_nat h0 (by omega)
    have hs := sz_word h0
    have hw1 : isW w = true := by have := (codeW_zero.1 h0).1; simpa using this
    have hl := sds_length w n
    refine ⟨(sds w n, 0), by show (sds w n).length ≤ _; omega, ev_bnd (l09Length_ev w _ (by omega)) ?_, ?_⟩
    · simp only [h0, if_true]
      exact ev_bnd ⟨40001, fun k hk => spec_seeds_f w hs n (by omega) (by omega) k (by omega)⟩ (ev_of rfl)
    · simp only [h0, if_true]
      exact ev_bnd ⟨40001, fun k hk => impl_seeds_f w hw1 n (by omega) (by omega) k (by omega)⟩ (ev_of rfl)
  · refine ⟨([], codeW (inR m 1 60) [w]), by simp, ev_bnd (l09Length_ev w _ (by omega)) ?_, ?_⟩
    · simp only [h0, if_false]; exact ev_of rfl
    · simp only [h0, if_false]; exact ev_of rfl

end Go.Proofs.Ytcelidihilpmjaa.Pure
