/- The program's FewestParts and the reference's FewestParts return the same words and the same code: the first palindromic parts of the least number; and what the program returned stays as it was marked. -/
import Derived.Test.YthifbnojmoknmaaPFLibFx
import Derived.Test.YthifbnojmoknmaaPFLibS
import Derived.Test.YthifbnojmoknmaaPFx4
namespace Go.Proofs.Ythifbnojmoknmaa.Pure
open Go.RowKit Go.Proofs.Ythifbnojmoknmaa.PF Go.Proofs.YthifbnojmoknmaaW.PrintWords Go.Proofs.YthifbnojmoknmaaW.PrintLast
set_option linter.unusedSimpArgs false
set_option linter.unusedVariables false

theorem FnExactFewestParts : laws_FnExactFewestParts.Pure := by
  intro w hw
  refine ev_get ?_
  unfold laws_FnExactFewestParts.f
  by_cases hgw : (w.size : Int) > 1048576
  · simp only [hgw, if_true]; exact ev_of rfl
  simp only [hgw, if_false]
  suffices h : ∃ r : List ByteArray × Int, r.1.length ≤ 4000000000000 ∧ Ev (fun k => spec_FewestParts.f k w) r ∧ Ev (fun k => impl_FewestParts.f k w) r by
    obtain ⟨r, hr, h1, h2⟩ := h
    obtain ⟨q, m1, m2⟩ := markS_ev r.1 hr
    refine ev_bnd h1 (ev_bnd h2 (ev_bnd (eqS_ev r.1 hr) ?_))
    simp only [if_true, bne_false]
    refine ev_suc ?_
    simp only [laws_FnExactFewestParts.j0]
    refine ev_bnd m1 (ev_bnd m2 ?_)
    simp only [show ¬ ((r.1.length : Int) + 1 < 0) by omega, if_false, if_true]
    refine ev_bnd h2 (ev_bnd (eqS_ev r.1 hr) ?_)
    simp only [if_true, bne_false]
    refine ev_suc ?_
    simp only [laws_FnExactFewestParts.j1]
    refine ev_bnd m2 ?_
    simp only [show ¬ ((r.1.length : Int) + 1 < 0) by omega, if_false, if_true]
    exact ev_of rfl
  unfold spec_FewestParts.f impl_FewestParts.f impl_always.f
  simp only [wordCode_f, Option.bind_some]
  by_cases h0 : isW w = true
  · have hs := isW_size h0
    have hc : codeW true [w] = 0 := codeW_zero.2 ⟨by simp [h0], rfl⟩
    have hl := partsW_length w hs
    have z1 : wrap64 ((w.size : Int) + 1) = ((w.size + 1 : Nat) : Int) := wrap_succ (by omega)
    have z2 : (0 : Int) ≤ ((w.size + 1 : Nat) : Int) := by omega
    have z3 : (((w.size + 1 : Nat) : Int)).toNat ≤ 35184372088832 := by rw [Int.toNat_natCast]; omega
    have z4 : wrap64 ((w.size : Int) - 1) = (w.size : Int) - 1 := wrap_id (by omega) (by omega)
    refine ⟨(partsW w, 0), by show (partsW w).length ≤ _; omega, ev_bnd (l01Is_ev w (by omega)) ?_, ?_⟩
    · simp only [h0, if_true, z1, z2, z3, z4, Int.toNat_natCast] at *
      exact ⟨20001, fun k hk => by simp only [z3, if_true]; exact spec_fewest w hs k hk⟩
    · simp only [hc, if_true, z1, z2, z3, z4, Int.toNat_natCast] at *
      exact ⟨20001, fun k hk => by simp only [z3, if_true]; exact impl_fewest w hs k hk⟩
  · have hc : codeW true [w] = 1 := by simp [codeW, h0]
    refine ⟨([], 1), by simp, ev_bnd (l01Is_ev w (by omega)) ?_, ?_⟩
    · simp only [h0, if_false]; exact ev_of rfl
    · simp only [hc, show ¬ ((1 : Int) = 0) by omega, if_false]; exact ev_of rfl

end Go.Proofs.Ythifbnojmoknmaa.Pure
