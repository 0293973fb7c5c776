/- The program's FirstAvoiding and the reference's FirstAvoiding return the same word and the same code: the first word of so many letters without a factor that fits the pattern. -/
import Derived.Test.YtgoccddcbooabaaPFLibV
import Derived.Test.YtgoccddcbooabaaPFx18
namespace Go.Proofs.Ytgoccddcbooabaa.Pure
open Go.RowKit Go.Proofs.Ytgoccddcbooabaa.PF Go.Proofs.YtgoccddcbooabaaW.PrintWords Go.Proofs.YtgoccddcbooabaaW.PrintLast
set_option linter.unusedSimpArgs false
set_option linter.unusedVariables false
set_option maxRecDepth 20000

theorem FnExactFirstAvoiding : laws_FnExactFirstAvoiding.Pure := by
  intro p K n hp hK hn
  refine ev_get ?_
  unfold laws_FnExactFirstAvoiding.f
  by_cases hg : (p.size : Int) > 1048576
  · simp only [hg, if_true]; exact ev_of rfl
  simp only [hg, if_false]
  suffices h : ∃ r : ByteArray × Int, Ev (fun k => spec_FirstAvoiding.f k p K n) r ∧ Ev (fun k => impl_FirstAvoiding.f k p K n) r by
    obtain ⟨r, h1, h2⟩ := h
    refine ev_bnd h1 (ev_bnd h2 ?_)
    simp only [if_true]; exact ev_of rfl
  unfold spec_FirstAvoiding.f impl_FirstAvoiding.f
  simp only [bothIn_f, avoidCode_f, Option.bind_some]
  have hz := sizes_ev p (by omega) K 3 n 12
  by_cases hc : codeP p (inB K 1 3 && inB n 0 12) = 0
  · rw [hc] at hz
    have hpp : isP p = true ∧ (inB K 1 3 && inB n 0 12) = true := by
      unfold codeP at hc
      by_cases h : isP p = true
      · rw [if_pos h] at hc
        by_cases h2 : (inB K 1 3 && inB n 0 12) = true
        · exact ⟨h, h2⟩
        · rw [if_neg h2] at hc; cases hc
      · rw [if_neg h] at hc; cases hc
    have hb := hpp.2
    simp only [inB, Bool.and_eq_true, decide_eq_true_eq] at hb
    have hs := isP_size hpp.1
    have ho := okP_of hpp.1
    obtain ⟨K', rfl⟩ : ∃ m : Nat, K = m := ⟨K.toNat, by omega⟩
    obtain ⟨n', rfl⟩ : ∃ m : Nat, n = m := ⟨n.toNat, by omega⟩
    refine ⟨(match fstN p K' n' ⟨#[]⟩ with | some x => (x, 0) | none => (⟨#[]⟩, 4)), ev_bnd hz ?_, ?_⟩
    · simp only [if_true]
      refine ev_bnd ⟨60000, fun k hk => spec_first p ho hs.1 hs.2 K' (by omega) n' k ⟨#[]⟩ (by omega) (by show 0 + n' ≤ 12; omega) (by omega)⟩ ?_
      cases fstN p K' n' ⟨#[]⟩ <;> exact ev_of rfl
    · simp only [hc, if_true]
      simp only [show (0 : Int) ≤ (K' : Int) ∧ (K' : Int) ≤ 1000 from ⟨by omega, by omega⟩, and_self, if_true, Int.toNat_natCast]
      refine ev_bnd ⟨60000, fun k hk => by have h := impl_first p ho hs.2 K' (by omega) n' k ⟨#[]⟩ ⟨#[]⟩ (by omega) (by show 0 + n' ≤ 12; omega) (by omega); rw [show (⟨#[]⟩ : ByteArray).size + n' = n' from Nat.zero_add n'] at h; exact h⟩ ?_
      cases fstN p K' n' ⟨#[]⟩ <;> exact ev_of rfl
  · refine ⟨(⟨#[]⟩, codeP p (inB K 1 3 && inB n 0 12)), ev_bnd hz ?_, ?_⟩
    · simp only [hc, if_false]; exact ev_of rfl
    · simp only [hc, if_false]; exact ev_of rfl

end Go.Proofs.Ytgoccddcbooabaa.Pure
