/- The program's CoverLengths and the reference's CoverLengths return the same numbers and the same code: for each beginning, how long its shortest cover is; and what the program returned stays as it was marked. -/
import Derived.Test.YtcelidihilpmjaaPFLibY2
import Derived.Test.YtcelidihilpmjaaPFLibI
import Derived.Test.YtcelidihilpmjaaPFx25
namespace Go.Proofs.Ytcelidihilpmjaa.Pure
open Go.RowKit Go.Proofs.Ytcelidihilpmjaa.PF Go.Proofs.YtcelidihilpmjaaW.PrintWords Go.Proofs.YtcelidihilpmjaaW.PrintLast
set_option linter.unusedSimpArgs false
set_option linter.unusedVariables false

/-- Both list, for each beginning, how long its shortest cover is. -/
theorem cl_loop (w : ByteArray) (hw : isW w = true) : ∀ (d m : Nat) (acc : List Int), m + d = w.size → acc.length ≤ m → ∃ r : List Int, r.length ≤ 1000 ∧ (∀ k, 10200 + d < k → spec_CoverLengths.l0 k w acc ((m + 1 : Nat) : Int) = some (r, 0)) ∧ (∀ k, 10200 + d < k → impl_CoverLengths.l0 k w acc (w.size : Int) (m : Int) = some (r, 0)) := by
  have hs := isW_size hw
  intro d
  induction d with
  | zero =>
    intro m acc hd ha
    refine ⟨acc, by omega, fun k hk => ?_, fun k hk => ?_⟩
    · obtain ⟨k, rfl⟩ : ∃ n, k = n + 1 := ⟨k - 1, by omega⟩
      simp only [spec_CoverLengths.l0]; rw [if_neg (by omega)]
    · obtain ⟨k, rfl⟩ : ∃ n, k = n + 1 := ⟨k - 1, by omega⟩
      simp only [impl_CoverLengths.l0]; rw [if_neg (by omega)]
  | succ d ih =>
    intro m acc hd ha
    have hz : (w.extract 0 (m + 1)).size = m + 1 := by rw [ByteArray.size_extract]; omega
    have hp := cvs_pos (w.extract 0 (m + 1)) (by omega)
    obtain ⟨r, hr, h1, h2⟩ := ih (m + 1) (acc ++ [((rdOf ByteArray.empty (cvs (w.extract 0 (m + 1))) 0).size : Int)]) (by omega) (by simp; omega)
    refine ⟨r, hr, fun k hk => ?_, fun k hk => ?_⟩
    · obtain ⟨k, rfl⟩ : ∃ n, k = n + 1 := ⟨k - 1, by omega⟩
      simp only [spec_CoverLengths.l0]
      rw [if_pos (by omega), if_pos (by omega), Int.toNat_natCast, spec_covers_f _ (by omega) k (by omega)]
      simp only [Option.bind_some]
      rw [if_pos (by omega), if_pos (by omega), wrap_succ (i := m + 1) (by omega)]
      exact h1 k (by omega)
    · obtain ⟨k, rfl⟩ : ∃ n, k = n + 1 := ⟨k - 1, by omega⟩
      simp only [impl_CoverLengths.l0]
      rw [if_pos (by omega), wrap_succ (i := m) (by omega), if_pos (by omega), if_pos (by omega), Int.toNat_natCast, impl_covers_f _ (isW_extract hw _ _) k (by omega)]
      simp only [Option.bind_some, impl_size.f]
      rw [if_pos (by omega), if_pos (by omega)]
      exact h2 k (by omega)

theorem FnExactCoverLengths : laws_FnExactCoverLengths.Pure := by
  intro w hw
  refine ev_get ?_
  unfold laws_FnExactCoverLengths.f
  by_cases hgw : (w.size : Int) > 1048576
  · simp only [hgw, if_true]; exact ev_of rfl
  simp only [hgw, if_false]
  suffices h : ∃ r : List Int × Int, r.1.length ≤ 4000000000000 ∧ Ev (fun k => spec_CoverLengths.f k w) r ∧ Ev (fun k => impl_CoverLengths.f k w) r by
    obtain ⟨r, hr, h1, h2⟩ := h
    obtain ⟨q, m1, m2⟩ := markI_ev r.1 hr
    refine ev_bnd h1 (ev_bnd h2 (ev_bnd (eqI_ev r.1 hr) ?_))
    simp only [if_true, bne_false]
    refine ev_suc ?_
    simp only [laws_FnExactCoverLengths.j0]
    refine ev_bnd m1 (ev_bnd m2 ?_)
    simp only [show ¬ ((r.1.length : Int) + 1 < 0) by omega, if_false, if_true]
    refine ev_bnd h2 (ev_bnd (eqI_ev r.1 hr) ?_)
    simp only [if_true, bne_false]
    refine ev_suc ?_
    simp only [laws_FnExactCoverLengths.j1]
    refine ev_bnd m2 ?_
    simp only [show ¬ ((r.1.length : Int) + 1 < 0) by omega, if_false, if_true]
    exact ev_of rfl
  unfold spec_CoverLengths.f impl_CoverLengths.f impl_always.f
  simp only [wordCode_f, Option.bind_some]
  by_cases h0 : isW w = true
  · have hs := isW_size h0
    have hc : codeW true [w] = 0 := codeW_zero.2 ⟨by simp [h0], rfl⟩
    obtain ⟨r, hr, g1, g2⟩ := cl_loop w h0 w.size 0 [] (by omega) (by simp)
    refine ⟨(r, 0), by show r.length ≤ _; omega, ev_bnd (l01Is_ev w (by omega)) ?_, ?_⟩
    · simp only [h0, if_true]; exact ⟨10300, fun k hk => g1 k (by omega)⟩
    · simp only [hc, if_true]; exact ⟨10300, fun k hk => g2 k (by omega)⟩
  · have hc : codeW true [w] = 1 := by simp [codeW, h0]
    refine ⟨([], 1), by simp, ev_bnd (l01Is_ev w (by omega)) ?_, ?_⟩
    · simp only [h0, if_false]; exact ev_of rfl
    · simp only [hc, show ¬ ((1 : Int) = 0) by omega, if_false]; exact ev_of rfl

end Go.Proofs.Ytcelidihilpmjaa.Pure
