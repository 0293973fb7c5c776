/- The program's ReturnWords and the reference's ReturnWords return the same words and the same code: both cut the word from place to next place and order what they cut, each once; and what the program returned stays as it was marked. -/
import Derived.Test.YtbhhnjlnlmemmaaPFLibP
import Derived.Test.YtbhhnjlnlmemmaaPFLibS
import Derived.Test.YtbhhnjlnlmemmaaPFx16
namespace Go.Proofs.Ytbhhnjlnlmemmaa.Pure
open Go.RowKit Go.Proofs.Ytbhhnjlnlmemmaa.PF Go.Proofs.YtbhhnjlnlmemmaaW.PrintWords Go.Proofs.YtbhhnjlnlmemmaaW.PrintLast
set_option linter.unusedSimpArgs false
set_option linter.unusedVariables false

theorem ret_loop (w : ByteArray) (l : List Int) (hl : l.length ≤ 1000000) (hin : ∀ x ∈ l, 0 ≤ x ∧ x ≤ w.size) (hso : l.Pairwise (· < ·)) : ∀ (d i : Nat) (acc : List ByteArray), i + d + 1 = l.length → acc.length = i →
    ∃ r : List ByteArray, r.length ≤ 1000000 ∧ (∀ k, d + l.length + l.length + 10 < k → spec_ReturnWords.l0 k w l (canon acc) ((i + 1 : Nat) : Int) = some (r, 0)) ∧ (∀ k, d < k → impl_ReturnWords.l0 k w l acc ((i + 1 : Nat) : Int) = some (r, 0)) := by
  intro d
  induction d with
  | zero =>
    intro i acc hd ha
    refine ⟨canon acc, by have := canon_length_le acc; omega, fun k hk => ?_, fun k hk => ?_⟩
    · obtain ⟨k, rfl⟩ : ∃ n, k = n + 1 := ⟨k - 1, by omega⟩
      simp only [spec_ReturnWords.l0]; rw [if_neg (by omega)]
    · obtain ⟨k, rfl⟩ : ∃ n, k = n + 1 := ⟨k - 1, by omega⟩
      simp only [impl_ReturnWords.l0]; rw [if_neg (by omega), sorted_f (by omega)]; rfl
  | succ d ih =>
    intro i acc hd ha
    have hw : wrap64 (((i + 1 : Nat) : Int) - 1) = (i : Int) := wrap_nat (by omega) (by omega)
    have hlt : rd l (i : Int) < rd l ((i + 1 : Nat) : Int) := by
      rw [rd_nat _ _ (by omega), rd_nat _ _ (by omega)]
      exact List.pairwise_iff_getElem.1 hso i (i + 1) (by omega) (by omega) (by omega)
    have h1 : 0 ≤ rd l (i : Int) ∧ rd l (i : Int) ≤ w.size := by rw [rd_nat _ _ (by omega)]; exact hin _ (List.getElem_mem _)
    have h2 : 0 ≤ rd l ((i + 1 : Nat) : Int) ∧ rd l ((i + 1 : Nat) : Int) ≤ w.size := by rw [rd_nat _ _ (by omega)]; exact hin _ (List.getElem_mem _)
    obtain ⟨r, hr, g1, g2⟩ := ih (i + 1) (acc ++ [w.extract (rd l (i : Int)).toNat (rd l ((i + 1 : Nat) : Int)).toNat]) (by omega) (by simp [ha])
    refine ⟨r, hr, fun k hk => ?_, fun k hk => ?_⟩
    · obtain ⟨k, rfl⟩ : ∃ n, k = n + 1 := ⟨k - 1, by omega⟩
      simp only [spec_ReturnWords.l0, hw]
      rw [if_pos (by omega), if_pos (by omega), if_pos (by omega), if_pos (by omega), if_pos (by omega), if_pos (by omega), if_pos (by omega), put_ev _ _ (by omega) k (by omega), wrap_succ (i := i + 1) (by omega)]
      exact g1 k (by omega)
    · obtain ⟨k, rfl⟩ : ∃ n, k = n + 1 := ⟨k - 1, by omega⟩
      simp only [impl_ReturnWords.l0, hw]
      rw [if_pos (by omega), if_pos (by omega), if_pos (by omega), if_pos (by omega), if_pos (by omega), if_pos (by omega), if_pos (by omega), if_pos (by omega), wrap_succ (i := i + 1) (by omega)]
      exact g2 k (by omega)

theorem FnExactReturnWords : laws_FnExactReturnWords.Pure := by
  intro w v hw hv
  refine ev_get ?_
  unfold laws_FnExactReturnWords.f
  by_cases hg : (w.size : Int) > 1048576
  · simp only [hg, if_true]; exact ev_of rfl
  simp only [hg, if_false]
  by_cases hg : (v.size : Int) > 1048576
  · simp only [hg, if_true]; exact ev_of rfl
  simp only [hg, if_false]
  suffices h : ∃ r : List ByteArray × Int, r.1.length ≤ 4000000000000 ∧ Ev (fun k => spec_ReturnWords.f k w v) r ∧ Ev (fun k => impl_ReturnWords.f k w v) r by
    obtain ⟨r, hr, h1, h2⟩ := h
    obtain ⟨q, m1, m2⟩ := markS_ev r.1 hr
    refine ev_bnd h1 (ev_bnd h2 (ev_bnd (eqS_ev r.1 hr) ?_))
    simp only [if_true, bne_false]
    refine ev_suc ?_
    simp only [laws_FnExactReturnWords.j0]
    refine ev_bnd m1 (ev_bnd m2 ?_)
    simp only [show ¬ ((r.1.length : Int) + 1 < 0) by omega, if_false, if_true]
    refine ev_bnd h2 (ev_bnd (eqS_ev r.1 hr) ?_)
    simp only [if_true, bne_false]
    refine ev_suc ?_
    simp only [laws_FnExactReturnWords.j1]
    refine ev_bnd m2 ?_
    simp only [show ¬ ((r.1.length : Int) + 1 < 0) by omega, if_false, if_true]
    exact ev_of rfl
  unfold spec_ReturnWords.f impl_ReturnWords.f
  by_cases h0 : codeW (v.toList != ([] : List UInt8)) [w, v] = 0
  · have hs := sz_word h0
    have hs2 := sz_word2 h0
    have hl := places_length w v
    have hp := placesFor_ev w v 2
    simp only [h0, if_true] at hp
    by_cases h1 : (places w v).length < 2
    · simp only [h1, if_true] at hp
      refine ⟨([], 4), by simp, ev_bnd (l05Two_ev w v (by omega) (by omega)) ?_, ev_bnd hp (ev_of (by simp))⟩
      simp only [h0, if_true]
      refine ev_bnd (spec_places_ev w v hs hs2) ?_
      simp only [show ((places w v).length : Int) < 2 by omega, if_true]; exact ev_of rfl
    · simp only [h1, if_false] at hp
      obtain ⟨r, hr, g1, g2⟩ := ret_loop w (places w v) (by omega) (fun x hx => by obtain ⟨j, h1, _, h2, _⟩ := plcs_mem w v x _ _ hx; omega) (plcs_sorted w v _ _) ((places w v).length - 1) 0 [] (by omega) rfl
      rw [canon_nil] at g1
      refine ⟨(r, 0), by show r.length ≤ _; omega, ev_bnd (l05Two_ev w v (by omega) (by omega)) ?_, ev_bnd hp ?_⟩
      · simp only [h0, if_true]
        refine ev_bnd (spec_places_ev w v hs hs2) ?_
        simp only [show ¬ ((places w v).length : Int) < 2 by omega, if_false]
        exact ⟨3 * (places w v).length + 100, fun k hk => g1 k (by omega)⟩
      · simp only [if_true]
        exact ⟨(places w v).length + 1, fun k hk => g2 k (by omega)⟩
  · have hp := placesFor_ev w v 2
    simp only [h0, if_false] at hp
    refine ⟨([], codeW (v.toList != ([] : List UInt8)) [w, v]), by simp, ev_bnd (l05Two_ev w v (by omega) (by omega)) ?_, ev_bnd hp ?_⟩
    · simp only [h0, if_false]; exact ev_of rfl
    · simp only [h0, if_false]; exact ev_of rfl

end Go.Proofs.Ytbhhnjlnlmemmaa.Pure
