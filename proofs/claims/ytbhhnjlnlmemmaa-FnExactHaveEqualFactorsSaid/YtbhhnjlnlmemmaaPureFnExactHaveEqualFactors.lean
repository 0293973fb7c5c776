/- The program's HaveEqualFactors and the reference's HaveEqualFactors return the same answer and the same code: both compare the ordered factors of a length, place by place. -/
import Derived.Test.YtbhhnjlnlmemmaaPFLibC
import Derived.Test.YtbhhnjlnlmemmaaPFx12
namespace Go.Proofs.Ytbhhnjlnlmemmaa.Pure
open Go.RowKit Go.Proofs.Ytbhhnjlnlmemmaa.PF Go.Proofs.YtbhhnjlnlmemmaaW.PrintWords Go.Proofs.YtbhhnjlnlmemmaaW.PrintLast
set_option linter.unusedSimpArgs false
set_option linter.unusedVariables false

theorem he_loop (l l' : List ByteArray) (hl : l.length ≤ 4000000000000) (hle : l.length = l'.length) : ∀ (d i : Nat), i + d = l.length → ∃ b : Bool, (∀ k, d < k → spec_HaveEqualFactors.l0 k l l' (i : Int) = some (b, 0)) ∧ (∀ k, d < k → slices_Equal_string_string.l0 k l l' (l.length : Int) (i : Int) = some b) := by
  intro d
  induction d with
  | zero =>
    intro i hd
    refine ⟨true, fun k hk => ?_, fun k hk => ?_⟩
    · obtain ⟨k, rfl⟩ : ∃ n, k = n + 1 := ⟨k - 1, by omega⟩
      simp only [spec_HaveEqualFactors.l0]; rw [if_neg (by omega)]
    · obtain ⟨k, rfl⟩ : ∃ n, k = n + 1 := ⟨k - 1, by omega⟩
      simp only [slices_Equal_string_string.l0]; rw [if_neg (by omega)]
  | succ d ih =>
    intro i hd
    by_cases c : (rdOf ByteArray.empty l (i : Int)).toList = (rdOf ByteArray.empty l' (i : Int)).toList
    · obtain ⟨b, h1, h2⟩ := ih (i + 1) (by omega)
      refine ⟨b, fun k hk => ?_, fun k hk => ?_⟩
      · obtain ⟨k, rfl⟩ : ∃ n, k = n + 1 := ⟨k - 1, by omega⟩
        simp only [spec_HaveEqualFactors.l0]; rw [if_pos (by omega), if_pos (by omega), if_pos (by omega), if_pos c, wrap_succ (by omega)]; exact h1 k (by omega)
      · obtain ⟨k, rfl⟩ : ∃ n, k = n + 1 := ⟨k - 1, by omega⟩
        simp only [slices_Equal_string_string.l0]; rw [if_pos (by omega), if_pos (by omega), if_pos (by omega), if_pos (by omega), if_pos c, wrap_succ (by omega)]; exact h2 k (by omega)
    · refine ⟨false, fun k hk => ?_, fun k hk => ?_⟩
      · obtain ⟨k, rfl⟩ : ∃ n, k = n + 1 := ⟨k - 1, by omega⟩
        simp only [spec_HaveEqualFactors.l0]; rw [if_pos (by omega), if_pos (by omega), if_pos (by omega), if_neg c]
      · obtain ⟨k, rfl⟩ : ∃ n, k = n + 1 := ⟨k - 1, by omega⟩
        simp only [slices_Equal_string_string.l0]; rw [if_pos (by omega), if_pos (by omega), if_pos (by omega), if_pos (by omega), if_neg c]

theorem FnExactHaveEqualFactors : laws_FnExactHaveEqualFactors.Pure := by
  intro w v m hw hv hm
  refine ev_get ?_
  unfold laws_FnExactHaveEqualFactors.f
  by_cases hg : (w.size : Int) > 1048576
  · simp only [hg, if_true]; exact ev_of rfl
  simp only [hg, if_false]
  by_cases hg : (v.size : Int) > 1048576
  · simp only [hg, if_true]; exact ev_of rfl
  simp only [hg, if_false]
  suffices h : ∃ r : Bool × Int, Ev (fun k => spec_HaveEqualFactors.f k w v m) r ∧ Ev (fun k => impl_HaveEqualFactors.f k w v m) r by
    obtain ⟨r, h1, h2⟩ := h
    refine ev_bnd h1 (ev_bnd h2 ?_)
    simp only [bne_false, if_true]; exact ev_of rfl
  unfold spec_HaveEqualFactors.f impl_HaveEqualFactors.f impl_HaveEqualFactors_1.f
  simp only [isLength_f, Option.bind_some, wordCode_f]
  by_cases h1 : isW w = true
  case neg =>
    refine ⟨(false, 1), ev_bnd (l01Is_ev w (by omega)) ?_, ?_⟩
    · simp only [h1, if_false]
      refine ev_suc ?_
      simp only [spec_HaveEqualFactors.j0, if_true]; exact ev_of rfl
    · simp [codeW, h1]; exact ev_of rfl
  by_cases h2 : isW v = true
  case neg =>
    refine ⟨(false, 1), ev_bnd (l01Is_ev w (by omega)) ?_, ?_⟩
    · simp only [h1, if_true]
      refine ev_bnd (l01Is_ev v (by omega)) (ev_suc ?_)
      simp only [spec_HaveEqualFactors.j0, h2, Bool.not_false, if_true]; exact ev_of rfl
    · simp [codeW, h1, h2]; exact ev_of rfl
  by_cases h3 : inR m 0 60 = true
  case neg =>
    refine ⟨(false, 2), ev_bnd (l01Is_ev w (by omega)) ?_, ?_⟩
    · simp only [h1, if_true]
      refine ev_bnd (l01Is_ev v (by omega)) (ev_suc ?_)
      simp [spec_HaveEqualFactors.j0, h2, l01In_f, h3]; exact ev_of rfl
    · simp [codeW, h1, h2, h3]; exact ev_of rfl
  have h0 : codeW (inR m 0 60) [w, v] = 0 := codeW_zero.2 ⟨by simp [h1, h2], h3⟩
  obtain ⟨n, rfl, hn0, hn⟩ := range_nat h0 (by omega)
  have hs := isW_size h1
  have hs2 := isW_size h2
  have hl1 := fac_length_le w n
  have hl2 := fac_length_le v n
  have hspec : ∀ b : Bool, Ev (fun k => if ((fac w n).length : Int) = ((fac v n).length : Int) then spec_HaveEqualFactors.l0 k (fac w n) (fac v n) 0 else some (false, 0)) (b, 0) → Ev (fun k => (spec_l01Is.f k w).bind fun t309 => if t309 = true then (spec_l01Is.f k v).bind fun t310 => spec_HaveEqualFactors.j0 k w v (n : Int) (!t310) else spec_HaveEqualFactors.j0 k w v (n : Int) true) (b, 0) := by
    intro b hb
    refine ev_bnd (l01Is_ev w (by omega)) ?_
    simp only [h1, if_true]
    refine ev_bnd (l01Is_ev v (by omega)) (ev_suc ?_)
    simp only [spec_HaveEqualFactors.j0, h2, Bool.not_true, Bool.false_eq_true, if_false, l01In_f, h3, if_true, Option.bind_some]
    exact ev_bnd (spec_factors_ev w n (by omega) (by omega)) (ev_bnd (spec_factors_ev v n (by omega) (by omega)) hb)
  have himpl : ∀ b : Bool, Ev (fun k => slices_Equal_string_string.f k (fac w n) (fac v n)) b → Ev (fun k => if codeW (inR (n : Int) 0 60) [w, v] = 0 then (impl_factors.f k w (n : Int)).bind fun t329 => (impl_factors.f k v (n : Int)).bind fun t332 => (slices_Equal_string_string.f k t329 t332).bind fun t335 => some (t335, (0 : Int)) else some (false, codeW (inR (n : Int) 0 60) [w, v])) (b, 0) := by
    intro b hb
    simp only [h0, if_true]
    exact ev_bnd (impl_factors_ev w n (by omega) (by omega)) (ev_bnd (impl_factors_ev v n (by omega) (by omega)) (ev_bnd hb (ev_of rfl)))
  by_cases he : (fac w n).length = (fac v n).length
  · obtain ⟨b, g1, g2⟩ := he_loop (fac w n) (fac v n) (by omega) he (fac w n).length 0 (by omega)
    refine ⟨(b, 0), hspec b ?_, himpl b ?_⟩
    · simp only [he, if_true]; exact ⟨(fac w n).length + 1, fun k hk => g1 k (by omega)⟩
    · unfold slices_Equal_string_string.f
      simp only [he, if_true]
      rw [he] at g2
      exact ⟨(fac v n).length + 1, fun k hk => g2 k (by omega)⟩
  · have he' : ¬ ((fac w n).length : Int) = ((fac v n).length : Int) := by omega
    refine ⟨(false, 0), hspec false ?_, himpl false ?_⟩
    · simp only [he', if_false]; exact ev_of rfl
    · unfold slices_Equal_string_string.f
      simp only [he', if_false]; exact ev_of rfl

end Go.Proofs.Ytbhhnjlnlmemmaa.Pure
