/- The program's WindowOf and the reference's WindowOf return the same number and the same code: the least length whose factors have all factors of a length. -/
import Derived.Test.YtlehnijikmbkjaaPFLibWi
import Derived.Test.YtlehnijikmbkjaaPFx22
namespace Go.Proofs.Ytlehnijikmbkjaa.Pure
open Go.RowKit Go.Proofs.Ytlehnijikmbkjaa.PF Go.Proofs.YtlehnijikmbkjaaW.PrintWords Go.Proofs.YtlehnijikmbkjaaW.PrintLast
set_option linter.unusedSimpArgs false
set_option linter.unusedVariables false
set_option maxRecDepth 20000

/-- Is a number a length? -/
def inL (m : Int) : Bool := decide (0 ≤ m) && decide (m ≤ 60)
theorem window1_f (m : Int) : impl_WindowOf_1.f m = some (inL m) := by
  unfold impl_WindowOf_1.f impl_isLength.f impl_within.f inL
  by_cases h : (0 : Int) ≤ m
  · rw [if_pos h, decide_eq_true h, Bool.true_and]; rfl
  · rw [if_neg h, decide_eq_false h, Bool.false_and]; rfl
theorem l01In_f (m : Int) : spec_l01In.f m 0 60 = some (inL m) := by
  unfold spec_l01In.f inL
  by_cases h : (0 : Int) ≤ m
  · rw [if_pos h, decide_eq_true h, Bool.true_and]
  · rw [if_neg h, decide_eq_false h, Bool.false_and]

theorem FnExactWindowOf : laws_FnExactWindowOf.Pure := by
  intro w m hw hm
  refine ev_get ?_
  unfold laws_FnExactWindowOf.f
  by_cases hgw : (w.size : Int) > 1048576
  · simp only [hgw, if_true]; exact ev_of rfl
  simp only [hgw, if_false]
  suffices h : ∃ r : Int × Int, Ev (fun k => spec_WindowOf.f k w m) r ∧ Ev (fun k => impl_WindowOf.f k w m) r by
    obtain ⟨r, h1, h2⟩ := h
    refine ev_bnd h1 (ev_bnd h2 ?_)
    simp only [if_true]; exact ev_of rfl
  unfold spec_WindowOf.f impl_WindowOf.f spec_l05Code.f
  simp only [window1_f, wordCode_f, l01In_f, Option.bind_some]
  have hl := l01Is_ev w (by omega)
  by_cases h0 : isW w = true
  · have hs := isW_size h0
    rw [h0] at hl
    by_cases h1 : inL m = true
    · have hc : codeW (inL m) [w] = 0 := codeW_zero.2 ⟨by simp [h0], h1⟩
      have hr := h1
      simp only [inL, Bool.and_eq_true, decide_eq_true_eq] at hr
      obtain ⟨n, rfl⟩ : ∃ n : Nat, m = n := ⟨m.toNat, by omega⟩
      have hcode : Ev (fun k => (spec_l01Is.f k w).bind fun t101 => (if t101 = true then (if inL (n : Int) = true then (some (0 : Int)) else (some 2)) else (some 1))) 0 := ev_bnd hl (by simp only [if_true, h1]; exact ev_of rfl)
      have hsf := spec_factors_ev w n (by omega) (by omega)
      have hif := impl_factors_ev w n (by omega) (by omega)
      have hfl := fac_length_le w n
      by_cases hbig : (n : Int) > (w.size : Int)
      · refine ⟨(0, 4), ev_bnd hcode ?_, ?_⟩
        · simp only [if_true]
          refine ev_bnd hsf ?_
          simp only [show ((fac w n).length : Int) = 0 by omega, if_true]; exact ev_of rfl
        · simp only [hc, if_true, impl_size.f, Option.bind_some, hbig]; exact ev_of rfl
      · have hne : ¬ ((fac w n).length : Int) = 0 := by
          have hmem : w.extract 0 (0 + n) ∈ fac w n := (mem_fac w n _).2 ⟨0, by omega, rfl⟩
          have := List.length_pos_of_mem hmem
          omega
        refine ⟨(((winF w (fac w n) (w.size - n) n : Nat) : Int), (0 : Int)), ev_bnd hcode ?_, ?_⟩
        · simp only [if_true]
          refine ev_bnd hsf ?_
          simp only [hne, if_false]
          exact ⟨10000, fun k hk => spec_win w hs n (by omega) (w.size - n) k n (by omega) (by omega)⟩
        · simp only [hc, if_true, impl_size.f, Option.bind_some, hbig, if_false]
          refine ev_bnd hif ?_
          exact ⟨10000, fun k hk => impl_win w hs n (w.size - n) k n (by omega) (by omega)⟩
    · have h1' : inL m = false := by simpa using h1
      have hc : codeW (inL m) [w] = 2 := by simp [codeW, h0, h1']
      refine ⟨(0, 2), ev_bnd (a := (2 : Int)) (ev_bnd hl (by simp only [if_true, h1', Bool.false_eq_true, if_false]; exact ev_of rfl)) ?_, ?_⟩
      · simp only [show ¬ ((2 : Int) = 0) by omega, if_false]; exact ev_of rfl
      · simp only [hc, show ¬ ((2 : Int) = 0) by omega, if_false]; exact ev_of rfl
  · have hc : codeW (inL m) [w] = 1 := by simp [codeW, h0]
    have h0' : isW w = false := by simpa using h0
    rw [h0'] at hl
    refine ⟨(0, 1), ev_bnd (a := (1 : Int)) (ev_bnd hl (by simp only [Bool.false_eq_true, if_false]; exact ev_of rfl)) ?_, ?_⟩
    · simp only [show ¬ ((1 : Int) = 0) by omega, if_false]; exact ev_of rfl
    · simp only [hc, show ¬ ((1 : Int) = 0) by omega, if_false]; exact ev_of rfl

end Go.Proofs.Ytlehnijikmbkjaa.Pure
