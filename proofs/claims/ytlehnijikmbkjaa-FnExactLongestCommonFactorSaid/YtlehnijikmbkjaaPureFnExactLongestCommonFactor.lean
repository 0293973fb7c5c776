/- The program's LongestCommonFactor and the reference's LongestCommonFactor return the same word and the same code: the first of the longest factors of the one word that stand in the other. -/
import Derived.Test.YtlehnijikmbkjaaPFLibCo
import Derived.Test.YtlehnijikmbkjaaPFx13
namespace Go.Proofs.Ytlehnijikmbkjaa.Pure
open Go.RowKit Go.Proofs.Ytlehnijikmbkjaa.PF Go.Proofs.YtlehnijikmbkjaaW.PrintWords Go.Proofs.YtlehnijikmbkjaaW.PrintLast
set_option linter.unusedSimpArgs false
set_option linter.unusedVariables false

theorem FnExactLongestCommonFactor : laws_FnExactLongestCommonFactor.Pure := by
  intro w u hw hu
  refine ev_get ?_
  unfold laws_FnExactLongestCommonFactor.f
  by_cases hgw : (w.size : Int) > 1048576
  · simp only [hgw, if_true]; exact ev_of rfl
  simp only [hgw, if_false]
  by_cases hgu : (u.size : Int) > 1048576
  · simp only [hgu, if_true]; exact ev_of rfl
  simp only [hgu, if_false]
  suffices h : ∃ r : ByteArray × Int, Ev (fun k => spec_LongestCommonFactor.f k w u) r ∧ Ev (fun k => impl_LongestCommonFactor.f k w u) r by
    obtain ⟨r, h1, h2⟩ := h
    refine ev_bnd h1 (ev_bnd h2 ?_)
    simp only [if_true]; exact ev_of rfl
  unfold spec_LongestCommonFactor.f impl_LongestCommonFactor.f impl_always.f
  simp only [wordCode_f, Option.bind_some]
  by_cases h0 : isW w = true
  · by_cases h1 : isW u = true
    · have hs := isW_size h0
      have hs2 := isW_size h1
      have hc : codeW true [w, u] = 0 := codeW_zero.2 ⟨by simp [h0, h1], rfl⟩
      refine ⟨(lcf w u w.size, 0), ev_bnd (l01Is_ev w (by omega)) ?_, ?_⟩
      · simp only [h0, if_true]
        refine ev_bnd (l01Is_ev u (by omega)) ?_
        rw [h1]
        refine ev_suc ?_
        simp only [spec_LongestCommonFactor.j0, Bool.not_true, Bool.false_eq_true, if_false]
        by_cases c : w.size ≤ u.size
        · have e : mn (w.size : Int) (u.size : Int) = (w.size : Int) := by unfold mn; split <;> omega
          rw [e]
          exact ⟨10000, fun k hk => spec_l0 w u hs hs2 w.size k (Nat.le_refl _) (by omega)⟩
        · have e : mn (w.size : Int) (u.size : Int) = (u.size : Int) := by unfold mn; split <;> omega
          rw [e, lcf_min w u w.size (by omega)]
          exact ⟨10000, fun k hk => spec_l0 w u hs hs2 u.size k (by omega) (by omega)⟩
      · simp only [hc, if_true]
        exact ⟨10000, fun k hk => impl_l0 w u hs hs2 w.size k (Nat.le_refl _) (by omega)⟩
    · have hc : codeW true [w, u] = 1 := by simp [codeW, h1]
      have h1' : isW u = false := by simpa using h1
      refine ⟨(⟨#[]⟩, 1), ev_bnd (l01Is_ev w (by omega)) ?_, ?_⟩
      · simp only [h0, if_true]
        refine ev_bnd (l01Is_ev u (by omega)) ?_
        rw [h1']
        refine ev_suc ?_
        simp only [spec_LongestCommonFactor.j0, Bool.not_false, if_true]
        exact ev_of rfl
      · simp only [hc, show ¬ ((1 : Int) = 0) by omega, if_false]; exact ev_of rfl
  · have hc : codeW true [w, u] = 1 := by simp [codeW, h0]
    refine ⟨(⟨#[]⟩, 1), ev_bnd (l01Is_ev w (by omega)) ?_, ?_⟩
    · simp only [h0, if_false]
      refine ev_suc ?_
      simp only [spec_LongestCommonFactor.j0, if_true]
      exact ev_of rfl
    · simp only [hc, show ¬ ((1 : Int) = 0) by omega, if_false]; exact ev_of rfl

end Go.Proofs.Ytlehnijikmbkjaa.Pure
