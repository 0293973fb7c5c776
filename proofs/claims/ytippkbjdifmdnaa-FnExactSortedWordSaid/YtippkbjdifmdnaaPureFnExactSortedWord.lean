/- The program's SortedWord and the reference's SortedWord return the same word and the same code: the letters in order, by sorting and by counting. -/
import Derived.Test.YtippkbjdifmdnaaPFLibSw
import Derived.Test.YtippkbjdifmdnaaPFx8
namespace Go.Proofs.Ytippkbjdifmdnaa.Pure
open Go.RowKit Go.Proofs.Ytippkbjdifmdnaa.PF Go.Proofs.YtippkbjdifmdnaaW.PrintWords Go.Proofs.YtippkbjdifmdnaaW.PrintLast
set_option linter.unusedSimpArgs false
set_option linter.unusedVariables false

theorem FnExactSortedWord : laws_FnExactSortedWord.Pure := by
  intro w hw
  refine ev_get ?_
  unfold laws_FnExactSortedWord.f
  by_cases hg : (w.size : Int) > 1048576
  · simp only [hg, if_true]; exact ev_of rfl
  simp only [hg, if_false]
  suffices h : ∃ r : ByteArray × Int, Ev (fun k => spec_SortedWord.f k w) r ∧ Ev (fun k => impl_SortedWord.f k w) r by
    obtain ⟨r, h1, h2⟩ := h
    refine ev_bnd h1 (ev_bnd h2 ?_)
    simp only [if_true]
    exact ev_of rfl
  unfold spec_SortedWord.f impl_SortedWord.f impl_always.f
  simp only [wordCode_f, Option.bind_some]
  by_cases h0 : isW w = true
  · have hs := isW_size h0
    have hL := isW_lets h0
    refine ⟨(ordered w, 0), ev_bnd (l01Is_ev w (by omega)) ?_, ?_⟩
    · simp only [h0, if_true]
      exact ev_bnd (count_ev w (by omega) hL) (ev_bnd (sorted_ev w (by omega) hL) (ev_of rfl))
    · simp only [codeW, List.all_cons, List.all_nil, h0, Bool.and_true, if_true, sortedWord_f w (by omega), Option.bind_some]
      exact ev_of rfl
  · refine ⟨(⟨#[]⟩, 1), ev_bnd (l01Is_ev w (by omega)) ?_, ?_⟩
    · simp only [h0, if_false]; exact ev_of rfl
    · simp [codeW, h0]; exact ev_of rfl

end Go.Proofs.Ytippkbjdifmdnaa.Pure
