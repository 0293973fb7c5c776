/- The program's LeastCover and the reference's LeastCover return the same word and the same code: the shortest beginning that covers the word. -/
import Derived.Test.YtcelidihilpmjaaPFLibY2
import Derived.Test.YtcelidihilpmjaaPFx8
namespace Go.Proofs.Ytcelidihilpmjaa.Pure
open Go.RowKit Go.Proofs.Ytcelidihilpmjaa.PF Go.Proofs.YtcelidihilpmjaaW.PrintWords Go.Proofs.YtcelidihilpmjaaW.PrintLast
set_option linter.unusedSimpArgs false
set_option linter.unusedVariables false

theorem FnExactLeastCover : laws_FnExactLeastCover.Pure := by
  intro w hw
  refine ev_get ?_
  unfold laws_FnExactLeastCover.f
  by_cases hgw : (w.size : Int) > 1048576
  · simp only [hgw, if_true]; exact ev_of rfl
  simp only [hgw, if_false]
  suffices h : ∃ r : ByteArray × Int, Ev (fun k => spec_LeastCover.f k w) r ∧ Ev (fun k => impl_LeastCover.f k w) r by
    obtain ⟨r, h1, h2⟩ := h
    refine ev_bnd h1 (ev_bnd h2 ?_)
    simp only [if_true, bne_false, Bool.false_eq_true, if_false]; exact ev_of rfl
  unfold spec_LeastCover.f impl_LeastCover.f impl_always.f
  simp only [wordCode_f, Option.bind_some]
  by_cases h0 : isW w = true
  · have hs := isW_size h0
    have hc : codeW true [w] = 0 := codeW_zero.2 ⟨by simp [h0], rfl⟩
    by_cases he : w.toList = ([] : List UInt8)
    · refine ⟨(⟨#[]⟩, 4), ev_bnd (l01Is_ev w (by omega)) ?_, ?_⟩
      · simp only [h0, if_true, he]; exact ev_of rfl
      · simp only [hc, if_true, he]; exact ev_of rfl
    · have hz : 0 < w.size := by
        rcases Nat.eq_zero_or_pos w.size with h | h
        · exact absurd (by rw [toList_eq]; exact List.eq_nil_of_length_eq_zero (by rw [Array.length_toList]; exact h)) he
        · exact h
      have hp := cvs_pos w hz
      refine ⟨(rdOf ByteArray.empty (cvs w) 0, 0), ev_bnd (l01Is_ev w (by omega)) ?_, ?_⟩
      · simp only [h0, if_true, he, if_false]
        refine ev_bnd ⟨10101, fun k hk => spec_covers_f w hs k (by omega)⟩ ?_
        simp only [show 0 < ((cvs w).length : Int) by omega, if_true]; exact ev_of rfl
      · simp only [hc, if_true, he, if_false]
        refine ev_bnd ⟨10101, fun k hk => impl_covers_f w h0 k (by omega)⟩ ?_
        simp only [show 0 < ((cvs w).length : Int) by omega, if_true]; exact ev_of rfl
  · have hc : codeW true [w] = 1 := by simp [codeW, h0]
    refine ⟨(⟨#[]⟩, 1), ev_bnd (l01Is_ev w (by omega)) ?_, ?_⟩
    · simp only [h0, if_false]; exact ev_of rfl
    · simp only [hc, show ¬ ((1 : Int) = 0) by omega, if_false]; exact ev_of rfl

end Go.Proofs.Ytcelidihilpmjaa.Pure
