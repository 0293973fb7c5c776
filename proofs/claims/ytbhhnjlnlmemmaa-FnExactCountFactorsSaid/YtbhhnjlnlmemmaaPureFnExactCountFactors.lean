/- The program's CountFactors and the reference's CountFactors return the same number and the same code: both add up, over all lengths, how many different factors there are. -/
import Derived.Test.YtbhhnjlnlmemmaaPFLibC
import Derived.Test.YtbhhnjlnlmemmaaPFx11
namespace Go.Proofs.Ytbhhnjlnlmemmaa.Pure
open Go.RowKit Go.Proofs.Ytbhhnjlnlmemmaa.PF Go.Proofs.YtbhhnjlnlmemmaaW.PrintWords Go.Proofs.YtbhhnjlnlmemmaaW.PrintLast
set_option linter.unusedSimpArgs false
set_option linter.unusedVariables false

theorem cf_sum (l : List Int) (hl : l.length ≤ 4000000000000) : ∀ (d i : Nat) (s : Int), i + d = l.length → ∃ r, (∀ k, d < k → spec_CountFactors.l0 k l s (i : Int) = some (r, 0)) ∧ (∀ k, d < k → impl_CountFactors.l0 k s l (l.length : Int) (i : Int) = some (r, 0)) := by
  intro d
  induction d with
  | zero =>
    intro i s hd
    refine ⟨s, fun k hk => ?_, fun k hk => ?_⟩
    · obtain ⟨k, rfl⟩ : ∃ n, k = n + 1 := ⟨k - 1, by omega⟩
      simp only [spec_CountFactors.l0]; rw [if_neg (by omega)]
    · obtain ⟨k, rfl⟩ : ∃ n, k = n + 1 := ⟨k - 1, by omega⟩
      simp only [impl_CountFactors.l0]; rw [if_neg (by omega)]
  | succ d ih =>
    intro i s hd
    obtain ⟨r, h1, h2⟩ := ih (i + 1) (wrap64 (s + rd l (i : Int))) (by omega)
    refine ⟨r, fun k hk => ?_, fun k hk => ?_⟩
    · obtain ⟨k, rfl⟩ : ∃ n, k = n + 1 := ⟨k - 1, by omega⟩
      simp only [spec_CountFactors.l0]; rw [if_pos (by omega), if_pos (by omega), wrap_succ (by omega)]; exact h1 k (by omega)
    · obtain ⟨k, rfl⟩ : ∃ n, k = n + 1 := ⟨k - 1, by omega⟩
      simp only [impl_CountFactors.l0]; rw [if_pos (by omega), if_pos (by omega), if_pos (by omega), wrap_succ (by omega)]; exact h2 k (by omega)

theorem FnExactCountFactors : laws_FnExactCountFactors.Pure := by
  intro w hw
  refine ev_get ?_
  unfold laws_FnExactCountFactors.f
  by_cases hg : (w.size : Int) > 1048576
  · simp only [hg, if_true]; exact ev_of rfl
  simp only [hg, if_false]
  suffices h : ∃ r : Int × Int, Ev (fun k => spec_CountFactors.f k w) r ∧ Ev (fun k => impl_CountFactors.f k w) r by
    obtain ⟨r, h1, h2⟩ := h
    refine ev_bnd h1 (ev_bnd h2 ?_)
    simp only [if_true]; exact ev_of rfl
  unfold spec_CountFactors.f impl_CountFactors.f impl_always.f
  simp only [wordCode_f]
  by_cases h0 : isW w = true
  · have hs := isW_size h0
    have hl := numF_length w (w.size + 1) 0
    obtain ⟨r, h1, h2⟩ := cf_sum (numF w (w.size + 1) 0) (by omega) (w.size + 1) 0 0 (by omega)
    refine ⟨(r, 0), ev_bnd (l01Is_ev w (by omega)) ?_, ?_⟩
    · simp only [h0, if_true]
      exact ev_bnd (numbers_ev w hs) ⟨w.size + 2, fun k hk => h1 k (by omega)⟩
    · simp only [codeW, List.all_cons, List.all_nil, h0, Bool.and_true, if_true, Option.bind_some]
      exact ev_bnd (complexity_ev w hs) ⟨w.size + 2, fun k hk => h2 k (by omega)⟩
  · refine ⟨(0, 1), ev_bnd (l01Is_ev w (by omega)) ?_, ?_⟩
    · simp only [h0, if_false]; exact ev_of rfl
    · simp [codeW, h0]; exact ev_of rfl

end Go.Proofs.Ytbhhnjlnlmemmaa.Pure
