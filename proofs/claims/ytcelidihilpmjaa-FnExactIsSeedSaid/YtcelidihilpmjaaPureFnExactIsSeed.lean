/- The program's IsSeed and the reference's IsSeed return the same answer and the same code: whether the places of the second word, with the ends that hang over, leave no letter out. -/
import Derived.Test.YtcelidihilpmjaaPFLibZ
import Derived.Test.YtcelidihilpmjaaPFLibYc
import Derived.Test.YtcelidihilpmjaaPFx32
namespace Go.Proofs.Ytcelidihilpmjaa.Pure
open Go.RowKit Go.Proofs.Ytcelidihilpmjaa.PF Go.Proofs.YtcelidihilpmjaaW.PrintWords Go.Proofs.YtcelidihilpmjaaW.PrintLast
set_option linter.unusedSimpArgs false
set_option linter.unusedVariables false

theorem FnExactIsSeed : laws_FnExactIsSeed.Pure := by
  intro w u hw hu
  refine ev_get ?_
  unfold laws_FnExactIsSeed.f
  by_cases hgw : (w.size : Int) > 1048576
  · simp only [hgw, if_true]; exact ev_of rfl
  simp only [hgw, if_false]
  by_cases hgu : (u.size : Int) > 1048576
  · simp only [hgu, if_true]; exact ev_of rfl
  simp only [hgu, if_false]
  suffices h : ∃ r : Bool × Int, Ev (fun k => spec_IsSeed.f k w u) r ∧ Ev (fun k => impl_IsSeed.f k w u) r by
    obtain ⟨r, h1, h2⟩ := h
    refine ev_bnd h1 (ev_bnd h2 ?_)
    simp only [if_true, bne_false, Bool.false_eq_true, if_false]; exact ev_of rfl
  unfold spec_IsSeed.f impl_IsSeed.f
  have hcode := l09Code_ev w [u] (by omega) (by simp) (fun v hv => by simp only [List.mem_cons, List.not_mem_nil, or_false] at hv; subst hv; omega)
  simp only [coverCode_f _ _ w [u] (by simp), Option.bind_some]
  by_cases h0 : codeW (filled [u]) (w :: [u]) = 0
  · have hc0 := codeW_zero.1 h0
    have hall0 := hc0.1
    rw [List.all_eq_true] at hall0
    have hw1 : isW w = true := hall0 w (by simp)
    have hu1 : isW u = true := hall0 u (by simp)
    have hs := isW_size hw1
    have hu2 := isW_size hu1
    have hf : filled [u] = true := hc0.2
    have hz : 1 ≤ u.size := by
      rcases Nat.eq_zero_or_pos u.size with h | h
      · exfalso
        have : u.toList = ([] : List UInt8) := by rw [toList_eq]; exact List.eq_nil_of_length_eq_zero (by rw [Array.length_toList]; exact h)
        simp [filled, this] at hf
      · exact h
    by_cases hle : u.size ≤ w.size
    · have hc2 : codeW (decide ((u.size : Int) ≤ (w.size : Int)) && filled [u]) (w :: [u]) = 0 := codeW_zero.2 ⟨hc0.1, by rw [hf, decide_eq_true (by omega)]; rfl⟩
      refine ⟨(isSd w u, 0), ev_bnd hcode ?_, ?_⟩
      · simp only [h0, if_true, show decide ((u.size : Int) > (w.size : Int)) = false from decide_eq_false (by omega)]
        refine ev_suc ?_
        simp only [spec_IsSeed.j0, Bool.false_eq_true, if_false, if_true]
        exact ev_bnd ⟨20001, fun k hk => l09Seed_f w u hle hs hz k (by omega)⟩ (ev_of rfl)
      · simp only [hc2, if_true]
        exact ev_bnd ⟨20001, fun k hk => isSeed_f w u hle hs hu1 hz k (by omega)⟩ (ev_of rfl)
    · have hc2 : codeW (decide ((u.size : Int) ≤ (w.size : Int)) && filled [u]) (w :: [u]) = 2 := by
        rw [decide_eq_false (show ¬ (u.size : Int) ≤ (w.size : Int) by omega), Bool.false_and, codeW, if_pos hc0.1]; rfl
      refine ⟨(false, 2), ev_bnd hcode ?_, ?_⟩
      · simp only [h0, if_true, show decide ((u.size : Int) > (w.size : Int)) = true from decide_eq_true (by omega)]
        refine ev_suc ?_
        simp only [spec_IsSeed.j0, if_true]
        exact ev_of (by simp)
      · simp only [hc2, show ¬ ((2 : Int) = 0) by omega, if_false]; exact ev_of rfl
  · have hc2 : codeW (decide ((u.size : Int) ≤ (w.size : Int)) && filled [u]) (w :: [u]) = codeW (filled [u]) (w :: [u]) := by
      by_cases ha : (w :: [u]).all isW = true
      · have hf : filled [u] = false := by
          by_cases hf : filled [u] = true
          · exact absurd (codeW_zero.2 ⟨ha, hf⟩) h0
          · simpa using hf
        rw [hf, Bool.and_false]
      · simp only [codeW, if_neg ha]
    refine ⟨(false, codeW (filled [u]) (w :: [u])), ev_bnd hcode ?_, ?_⟩
    · simp only [h0, if_false]
      refine ev_suc ?_
      simp only [spec_IsSeed.j0, Bool.false_eq_true, if_false, h0]; exact ev_of rfl
    · simp only [hc2, h0, if_false]; exact ev_of rfl

end Go.Proofs.Ytcelidihilpmjaa.Pure
