/- The program's UncoveredPlaces and the reference's UncoveredPlaces return the same numbers and the same code: the letters that no place of the second word covers; and what the program returned stays as it was marked. -/
import Derived.Test.YtcelidihilpmjaaPFLibY2
import Derived.Test.YtcelidihilpmjaaPFLibYc
import Derived.Test.YtcelidihilpmjaaPFLibI
import Derived.Test.YtcelidihilpmjaaPFx22
namespace Go.Proofs.Ytcelidihilpmjaa.Pure
open Go.RowKit Go.Proofs.Ytcelidihilpmjaa.PF Go.Proofs.YtcelidihilpmjaaW.PrintWords Go.Proofs.YtcelidihilpmjaaW.PrintLast
set_option linter.unusedSimpArgs false
set_option linter.unusedVariables false

theorem un_loop (l : List Bool) (hl : l.length ≤ 1000) : ∀ (d i : Nat) (acc : List Int), i + d = l.length → acc.length ≤ i → ∃ r : List Int, r.length ≤ 1000 ∧ (∀ k, d < k → spec_UncoveredPlaces.l0 k l acc (i : Int) = some (r, 0)) ∧ (∀ k, d < k → impl_UncoveredPlaces.l0 k acc l (l.length : Int) (i : Int) = some (r, 0)) := by
  intro d
  induction d with
  | zero =>
    intro i acc hd ha
    refine ⟨acc, by omega, fun k hk => ?_, fun k hk => ?_⟩
    · obtain ⟨k, rfl⟩ : ∃ n, k = n + 1 := ⟨k - 1, by omega⟩
      simp only [spec_UncoveredPlaces.l0]; rw [if_neg (by omega)]
    · obtain ⟨k, rfl⟩ : ∃ n, k = n + 1 := ⟨k - 1, by omega⟩
      simp only [impl_UncoveredPlaces.l0]; rw [if_neg (by omega)]
  | succ d ih =>
    intro i acc hd ha
    by_cases c : rdOf false l (i : Int) = true
    · obtain ⟨r, hr, h1, h2⟩ := ih (i + 1) acc (by omega) (by omega)
      refine ⟨r, hr, fun k hk => ?_, fun k hk => ?_⟩
      · obtain ⟨k, rfl⟩ : ∃ n, k = n + 1 := ⟨k - 1, by omega⟩
        simp only [spec_UncoveredPlaces.l0]
        rw [if_pos (by omega), if_pos (by omega), if_pos c, wrap_succ (by omega)]; exact h1 k (by omega)
      · obtain ⟨k, rfl⟩ : ∃ n, k = n + 1 := ⟨k - 1, by omega⟩
        simp only [impl_UncoveredPlaces.l0]
        rw [if_pos (by omega), if_pos (by omega), if_pos (by omega), if_pos c, wrap_succ (by omega)]; exact h2 k (by omega)
    · obtain ⟨r, hr, h1, h2⟩ := ih (i + 1) (acc ++ [(i : Int)]) (by omega) (by simp; omega)
      refine ⟨r, hr, fun k hk => ?_, fun k hk => ?_⟩
      · obtain ⟨k, rfl⟩ : ∃ n, k = n + 1 := ⟨k - 1, by omega⟩
        simp only [spec_UncoveredPlaces.l0]
        rw [if_pos (by omega), if_pos (by omega), if_neg c, if_pos (by omega), wrap_succ (by omega)]; exact h1 k (by omega)
      · obtain ⟨k, rfl⟩ : ∃ n, k = n + 1 := ⟨k - 1, by omega⟩
        simp only [impl_UncoveredPlaces.l0]
        rw [if_pos (by omega), if_pos (by omega), if_pos (by omega), if_neg c, if_pos (by omega), wrap_succ (by omega)]; exact h2 k (by omega)

theorem FnExactUncoveredPlaces : laws_FnExactUncoveredPlaces.Pure := by
  intro w u hw hu
  refine ev_get ?_
  unfold laws_FnExactUncoveredPlaces.f
  by_cases hgw : (w.size : Int) > 1048576
  · simp only [hgw, if_true]; exact ev_of rfl
  simp only [hgw, if_false]
  by_cases hgu : (u.size : Int) > 1048576
  · simp only [hgu, if_true]; exact ev_of rfl
  simp only [hgu, if_false]
  suffices h : ∃ r : List Int × Int, r.1.length ≤ 4000000000000 ∧ Ev (fun k => spec_UncoveredPlaces.f k w u) r ∧ Ev (fun k => impl_UncoveredPlaces.f k w u) r by
    obtain ⟨r, hr, h1, h2⟩ := h
    obtain ⟨q, m1, m2⟩ := markI_ev r.1 hr
    refine ev_bnd h1 (ev_bnd h2 (ev_bnd (eqI_ev r.1 hr) ?_))
    simp only [if_true, bne_false]
    refine ev_suc ?_
    simp only [laws_FnExactUncoveredPlaces.j0]
    refine ev_bnd m1 (ev_bnd m2 ?_)
    simp only [show ¬ ((r.1.length : Int) + 1 < 0) by omega, if_false, if_true]
    refine ev_bnd h2 (ev_bnd (eqI_ev r.1 hr) ?_)
    simp only [if_true, bne_false]
    refine ev_suc ?_
    simp only [laws_FnExactUncoveredPlaces.j1]
    refine ev_bnd m2 ?_
    simp only [show ¬ ((r.1.length : Int) + 1 < 0) by omega, if_false, if_true]
    exact ev_of rfl
  unfold spec_UncoveredPlaces.f impl_UncoveredPlaces.f
  have hcode := l09Code_ev w [u] (by omega) (by simp) (fun v hv => by simp only [List.mem_cons, List.not_mem_nil, or_false] at hv; subst hv; omega)
  simp only [coverCode_f _ _ w [u] (by simp), Bool.true_and, Option.bind_some]
  by_cases h0 : codeW (filled [u]) (w :: [u]) = 0
  · have hall0 := (codeW_zero.1 h0).1
    rw [List.all_eq_true] at hall0
    have hw1 : isW w = true := hall0 w (by simp)
    have hu1 : isW u = true := hall0 u (by simp)
    have hs := isW_size hw1
    have hu2 := isW_size hu1
    have hcl := cov_length w u
    obtain ⟨r, hr, g1, g2⟩ := un_loop (cov w u) (by omega) (cov w u).length 0 [] (by omega) (by simp)
    refine ⟨(r, 0), by show r.length ≤ _; omega, ev_bnd hcode ?_, ?_⟩
    · simp only [h0, if_true]
      exact ev_bnd ⟨10001, fun k hk => spec_places9 w u hs hu2 k (by omega)⟩ ⟨100, fun k hk => g1 k (by omega)⟩
    · simp only [h0, if_true]
      exact ev_bnd ⟨10001, fun k hk => covered_one w u hs hu1 k (by omega)⟩ ⟨100, fun k hk => g2 k (by omega)⟩
  · refine ⟨([], codeW (filled [u]) (w :: [u])), by simp, ev_bnd hcode ?_, ?_⟩
    · simp only [h0, if_false]; exact ev_of rfl
    · simp only [h0, if_false]; exact ev_of rfl

end Go.Proofs.Ytcelidihilpmjaa.Pure
