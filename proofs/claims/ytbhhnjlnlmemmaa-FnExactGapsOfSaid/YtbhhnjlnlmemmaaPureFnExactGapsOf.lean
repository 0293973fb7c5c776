/- The program's GapsOf and the reference's GapsOf return the same numbers and the same code: both list the places of the second word in the first and take the differences of neighbours; and what the program returned stays as it was marked. -/
import Derived.Test.YtbhhnjlnlmemmaaPFLibP
import Derived.Test.YtbhhnjlnlmemmaaPFLibI
import Derived.Test.YtbhhnjlnlmemmaaPFx6
namespace Go.Proofs.Ytbhhnjlnlmemmaa.Pure
open Go.RowKit Go.Proofs.Ytbhhnjlnlmemmaa.PF Go.Proofs.YtbhhnjlnlmemmaaW.PrintWords Go.Proofs.YtbhhnjlnlmemmaaW.PrintLast
set_option linter.unusedSimpArgs false
set_option linter.unusedVariables false

theorem gaps_loop (l : List Int) (hl : l.length ≤ 4000000000000) : ∀ (d i : Nat) (acc : List Int), i + d + 1 = l.length → acc.length = i → ∃ r, r.length ≤ 4000000000000 ∧ (∀ k, d < k → spec_GapsOf.l0 k l acc ((i + 1 : Nat) : Int) = some (r, 0)) ∧ (∀ k, d < k → impl_GapsOf.l0 k l acc ((i + 1 : Nat) : Int) = some (r, 0)) := by
  intro d
  induction d with
  | zero =>
    intro i acc hd ha
    refine ⟨acc, by omega, fun k hk => ?_, fun k hk => ?_⟩
    · obtain ⟨k, rfl⟩ : ∃ n, k = n + 1 := ⟨k - 1, by omega⟩
      simp only [spec_GapsOf.l0]; rw [if_neg (by omega)]
    · obtain ⟨k, rfl⟩ : ∃ n, k = n + 1 := ⟨k - 1, by omega⟩
      simp only [impl_GapsOf.l0]; rw [if_neg (by omega)]
  | succ d ih =>
    intro i acc hd ha
    have hw : wrap64 (((i + 1 : Nat) : Int) - 1) = (i : Int) := wrap_nat (by omega) (by omega)
    obtain ⟨r, hr, h1, h2⟩ := ih (i + 1) (acc ++ [wrap64 ((rd l ((i + 1 : Nat) : Int)) - (rd l (i : Int)))]) (by omega) (by simp [ha])
    refine ⟨r, hr, fun k hk => ?_, fun k hk => ?_⟩
    · obtain ⟨k, rfl⟩ : ∃ n, k = n + 1 := ⟨k - 1, by omega⟩
      simp only [spec_GapsOf.l0, hw]
      rw [if_pos (by omega), if_pos (by omega), if_pos (by omega), if_pos (by omega), if_pos (by omega), wrap_succ (i := i + 1) (by omega)]; exact h1 k (by omega)
    · obtain ⟨k, rfl⟩ : ∃ n, k = n + 1 := ⟨k - 1, by omega⟩
      simp only [impl_GapsOf.l0, hw]
      rw [if_pos (by omega), if_pos (by omega), if_pos (by omega), if_pos (by omega), if_pos (by omega), wrap_succ (i := i + 1) (by omega)]; exact h2 k (by omega)

theorem FnExactGapsOf : laws_FnExactGapsOf.Pure := by
  intro w v hw hv
  refine ev_get ?_
  unfold laws_FnExactGapsOf.f
  by_cases hg : (w.size : Int) > 1048576
  · simp only [hg, if_true]; exact ev_of rfl
  simp only [hg, if_false]
  by_cases hg : (v.size : Int) > 1048576
  · simp only [hg, if_true]; exact ev_of rfl
  simp only [hg, if_false]
  suffices h : ∃ r : List Int × Int, r.1.length ≤ 4000000000000 ∧ Ev (fun k => spec_GapsOf.f k w v) r ∧ Ev (fun k => impl_GapsOf.f k w v) r by
    obtain ⟨r, hr, h1, h2⟩ := h
    obtain ⟨q, m1, m2⟩ := markI_ev r.1 hr
    refine ev_bnd h1 (ev_bnd h2 (ev_bnd (eqI_ev r.1 hr) ?_))
    simp only [if_true, bne_false]
    refine ev_suc ?_
    simp only [laws_FnExactGapsOf.j0]
    refine ev_bnd m1 (ev_bnd m2 ?_)
    simp only [show ¬ ((r.1.length : Int) + 1 < 0) by omega, if_false, if_true]
    refine ev_bnd h2 (ev_bnd (eqI_ev r.1 hr) ?_)
    simp only [if_true, bne_false]
    refine ev_suc ?_
    simp only [laws_FnExactGapsOf.j1]
    refine ev_bnd m2 ?_
    simp only [show ¬ ((r.1.length : Int) + 1 < 0) by omega, if_false, if_true]
    exact ev_of rfl
  unfold spec_GapsOf.f impl_GapsOf.f
  by_cases h0 : codeW (v.toList != ([] : List UInt8)) [w, v] = 0
  · have hs := sz_word h0
    have hs2 := sz_word2 h0
    have hl := places_length w v
    have hp := placesFor_ev w v 1
    simp only [h0, if_true] at hp
    by_cases h1 : (places w v).length < 1
    · simp only [h1, if_true] at hp
      refine ⟨([], 4), by simp, ev_bnd (l05Two_ev w v (by omega) (by omega)) ?_, ev_bnd hp (ev_of (by simp))⟩
      simp only [h0, if_true]
      refine ev_bnd (spec_places_ev w v hs hs2) ?_
      simp only [show ((places w v).length : Int) = 0 by omega, if_true]; exact ev_of rfl
    · simp only [h1, if_false] at hp
      obtain ⟨r, hr, g1, g2⟩ := gaps_loop (places w v) (by omega) ((places w v).length - 1) 0 [] (by omega) rfl
      refine ⟨(r, 0), hr, ev_bnd (l05Two_ev w v (by omega) (by omega)) ?_, ev_bnd hp ?_⟩
      · simp only [h0, if_true]
        refine ev_bnd (spec_places_ev w v hs hs2) ?_
        simp only [show ¬ ((places w v).length : Int) = 0 by omega, if_false]
        exact ⟨(places w v).length + 1, fun k hk => g1 k (by omega)⟩
      · simp only [if_true]
        exact ⟨(places w v).length + 1, fun k hk => g2 k (by omega)⟩
  · have hp := placesFor_ev w v 1
    simp only [h0, if_false] at hp
    refine ⟨([], codeW (v.toList != ([] : List UInt8)) [w, v]), by simp, ev_bnd (l05Two_ev w v (by omega) (by omega)) ?_, ev_bnd hp ?_⟩
    · simp only [h0, if_false]; exact ev_of rfl
    · simp only [h0, if_false]; exact ev_of rfl

end Go.Proofs.Ytbhhnjlnlmemmaa.Pure
