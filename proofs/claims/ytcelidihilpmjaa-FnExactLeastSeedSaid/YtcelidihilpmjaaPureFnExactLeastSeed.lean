/- The program's LeastSeed and the reference's LeastSeed return the same word and the same code: the first of the shortest seeds; the word itself is one. -/
import Derived.Test.YtcelidihilpmjaaPFLibZZ
import Derived.Test.YtcelidihilpmjaaPFx42
namespace Go.Proofs.Ytcelidihilpmjaa.Pure
open Go.RowKit Go.Proofs.Ytcelidihilpmjaa.PF Go.Proofs.YtcelidihilpmjaaW.PrintWords Go.Proofs.YtcelidihilpmjaaW.PrintLast
set_option linter.unusedSimpArgs false
set_option linter.unusedVariables false

/-- Both go up in length; at the whole length the word is its own seed. -/
theorem ls_loop (w : ByteArray) (hw : isW w = true) : ∀ (d m : Nat), m + d = w.size → 1 ≤ m → ∃ r, (∀ k, 50000 + d < k → spec_LeastSeed.l0 k w (m : Int) = some r) ∧ (∀ k, 50000 + d < k → impl_LeastSeed.l0 k w (m : Int) = some r) := by
  have hs := isW_size hw
  intro d
  induction d with
  | zero =>
    intro m hd hm
    obtain rfl : m = w.size := by omega
    refine ⟨(w, 0), fun k hk => ?_, fun k hk => ?_⟩
    · obtain ⟨k, rfl⟩ : ∃ n, k = n + 1 := ⟨k - 1, by omega⟩
      simp only [spec_LeastSeed.l0]; rw [if_neg (by omega)]
    · obtain ⟨k, rfl⟩ : ∃ n, k = n + 1 := ⟨k - 1, by omega⟩
      simp only [impl_LeastSeed.l0]
      rw [if_pos (by omega), impl_seeds_f w hw w.size hm (by omega) k (by omega), sds_whole]
      rfl
  | succ d ih =>
    intro m hd hm
    by_cases h : 0 < (sds w m).length
    · refine ⟨(rdOf ByteArray.empty (sds w m) 0, 0), fun k hk => ?_, fun k hk => ?_⟩
      · obtain ⟨k, rfl⟩ : ∃ n, k = n + 1 := ⟨k - 1, by omega⟩
        simp only [spec_LeastSeed.l0]
        rw [if_pos (by omega), spec_seeds_f w hs m hm (by omega) k (by omega)]
        simp only [Option.bind_some]
        rw [if_pos (by omega), if_pos (by omega)]
      · obtain ⟨k, rfl⟩ : ∃ n, k = n + 1 := ⟨k - 1, by omega⟩
        simp only [impl_LeastSeed.l0]
        rw [if_pos (by omega), impl_seeds_f w hw m hm (by omega) k (by omega)]
        simp only [Option.bind_some]
        rw [if_pos (by omega), if_pos (by omega)]
    · obtain ⟨r, h1, h2⟩ := ih (m + 1) (by omega) (by omega)
      refine ⟨r, fun k hk => ?_, fun k hk => ?_⟩
      · obtain ⟨k, rfl⟩ : ∃ n, k = n + 1 := ⟨k - 1, by omega⟩
        simp only [spec_LeastSeed.l0]
        rw [if_pos (by omega), spec_seeds_f w hs m hm (by omega) k (by omega)]
        simp only [Option.bind_some]
        rw [if_neg (by omega), wrap_succ (by omega)]; exact h1 k (by omega)
      · obtain ⟨k, rfl⟩ : ∃ n, k = n + 1 := ⟨k - 1, by omega⟩
        simp only [impl_LeastSeed.l0]
        rw [if_pos (by omega), impl_seeds_f w hw m hm (by omega) k (by omega)]
        simp only [Option.bind_some]
        rw [if_neg (by omega), wrap_succ (by omega)]; exact h2 k (by omega)

theorem FnExactLeastSeed : laws_FnExactLeastSeed.Pure := by
  intro w hw
  refine ev_get ?_
  unfold laws_FnExactLeastSeed.f
  by_cases hgw : (w.size : Int) > 1048576
  · simp only [hgw, if_true]; exact ev_of rfl
  simp only [hgw, if_false]
  suffices h : ∃ r : ByteArray × Int, Ev (fun k => spec_LeastSeed.f k w) r ∧ Ev (fun k => impl_LeastSeed.f k w) r by
    obtain ⟨r, h1, h2⟩ := h
    refine ev_bnd h1 (ev_bnd h2 ?_)
    simp only [if_true, bne_false, Bool.false_eq_true, if_false]; exact ev_of rfl
  unfold spec_LeastSeed.f impl_LeastSeed.f impl_always.f
  simp only [wordCode_f, Option.bind_some]
  by_cases h0 : isW w = true
  · have hs := isW_size h0
    have hc : codeW true [w] = 0 := codeW_zero.2 ⟨by simp [h0], rfl⟩
    by_cases hz : w.size = 0
    · have he : w.toList = ([] : List UInt8) := by rw [toList_eq]; exact List.eq_nil_of_length_eq_zero (by rw [Array.length_toList]; exact hz)
      refine ⟨(⟨#[]⟩, 4), ev_bnd (l01Is_ev w (by omega)) ?_, ?_⟩
      · simp only [h0, if_true, he]; exact ev_of rfl
      · simp only [hc, if_true]
        refine ev_suc ?_
        simp only [impl_LeastSeed.l0, show ¬ ((1 : Int) ≤ (w.size : Int)) by omega, if_false]; exact ev_of rfl
    · have he : ¬ w.toList = ([] : List UInt8) := fun e => by
        rw [toList_eq] at e
        have := congrArg List.length e
        rw [Array.length_toList, List.length_nil] at this
        exact hz this
      obtain ⟨r, g1, g2⟩ := ls_loop w h0 (w.size - 1) 1 (by omega) (by omega)
      refine ⟨r, ev_bnd (l01Is_ev w (by omega)) ?_, ?_⟩
      · simp only [h0, if_true, he, if_false]; exact ⟨50100, fun k hk => g1 k (by omega)⟩
      · simp only [hc, if_true]; exact ⟨50100, fun k hk => g2 k (by omega)⟩
  · have hc : codeW true [w] = 1 := by simp [codeW, h0]
    refine ⟨(⟨#[]⟩, 1), ev_bnd (l01Is_ev w (by omega)) ?_, ?_⟩
    · simp only [h0, if_false]; exact ev_of rfl
    · simp only [hc, show ¬ ((1 : Int) = 0) by omega, if_false]; exact ev_of rfl

end Go.Proofs.Ytcelidihilpmjaa.Pure
