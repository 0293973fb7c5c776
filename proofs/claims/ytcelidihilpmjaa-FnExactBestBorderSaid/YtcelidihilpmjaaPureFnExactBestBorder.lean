/- The program's BestBorder and the reference's BestBorder return the same word, the same number and the same code: the first border that covers the most letters. -/
import Derived.Test.YtcelidihilpmjaaPFLibY2
import Derived.Test.YtcelidihilpmjaaPFLibHs
import Derived.Test.YtcelidihilpmjaaPFx18
namespace Go.Proofs.Ytcelidihilpmjaa.Pure
open Go.RowKit Go.Proofs.Ytcelidihilpmjaa.PF Go.Proofs.YtcelidihilpmjaaW.PrintWords Go.Proofs.YtcelidihilpmjaaW.PrintLast
set_option linter.unusedSimpArgs false
set_option linter.unusedVariables false

theorem bb_count (w b u : ByteArray) (M : Nat) (m : Nat) (l : List Bool) (hl : l.length ≤ 1000) (hm : m ≤ 1000) : ∀ (d k i c : Nat), i + d = l.length → c ≤ i →
    impl_BestBorder.l1 (k + d + 1) w b (M : Int) (m : Int) u (c : Int) l (l.length : Int) (i : Int) = if c + (l.drop i).countP id > M then impl_BestBorder.l0 k w u ((c + (l.drop i).countP id : Nat) : Int) ((m + 1 : Nat) : Int) else impl_BestBorder.l0 k w b (M : Int) ((m + 1 : Nat) : Int) := by
  intro d
  induction d with
  | zero =>
    intro k i c hd hc
    simp only [impl_BestBorder.l1]
    rw [if_neg (by omega), List.drop_eq_nil_of_le (by omega), wrap_succ (by omega), List.countP_nil]
    simp only [Nat.add_zero]
    by_cases h : c > M
    · rw [if_pos (by omega), if_pos h]
    · rw [if_neg (by omega), if_neg h]
  | succ d ih =>
    intro k i c hd hc
    obtain ⟨q, hq⟩ : ∃ q, q = k + d + 1 := ⟨_, rfl⟩
    rw [show k + (d + 1) + 1 = q + 1 by omega]
    simp only [impl_BestBorder.l1]
    rw [if_pos (by omega), if_pos (by omega), if_pos (by omega), rdOf_nat _ _ _ (by omega), wrap_succ (i := i) (by omega), wrap_succ (i := c) (by omega), List.drop_eq_getElem_cons (l := l) (i := i) (by omega), List.countP_cons]
    subst hq
    by_cases e : l[i] = true
    · rw [if_pos e, ih k (i + 1) (c + 1) (by omega) (by omega)]
      simp only [e, id, if_true, Nat.add_assoc, Nat.add_comm 1]
    · rw [if_neg e, ih k (i + 1) c (by omega) (by omega)]
      simp only [Bool.not_eq_true] at e
      simp only [e, id, Bool.false_eq_true, if_false, Nat.add_zero]

theorem bb_loop (w : ByteArray) (hw : isW w = true) : ∀ (d m : Nat) (b : ByteArray) (M : Nat), m + d = w.size → 1 ≤ m → (M = 0 ↔ b.toList = ([] : List UInt8)) → ∃ r, (∀ k, 20000 + d * 100 < k → spec_BestBorder.l0 k w b (M : Int) (m : Int) = some r) ∧ (∀ k, 20000 + d * 100 < k → impl_BestBorder.l0 k w b (M : Int) (m : Int) = some r) := by
  have hs := isW_size hw
  intro d
  induction d with
  | zero =>
    intro m b M hd hm hM
    refine ⟨if M = 0 then (⟨#[]⟩, 0, 4) else (b, (M : Int), 0), fun k hk => ?_, fun k hk => ?_⟩
    · obtain ⟨k, rfl⟩ : ∃ n, k = n + 1 := ⟨k - 1, by omega⟩
      simp only [spec_BestBorder.l0]; rw [if_neg (by omega)]
      by_cases h : M = 0
      · rw [if_pos (by omega), if_pos h]
      · rw [if_neg (by omega), if_neg h]
    · obtain ⟨k, rfl⟩ : ∃ n, k = n + 1 := ⟨k - 1, by omega⟩
      simp only [impl_BestBorder.l0]; rw [if_neg (by omega)]
      by_cases h : M = 0
      · rw [if_pos (hM.1 h), if_pos h]
      · rw [if_neg (fun e => h (hM.2 e)), if_neg h]
  | succ d ih =>
    intro m b M hd hm hM
    have hz : (w.extract 0 m).size = m := by rw [ByteArray.size_extract]; omega
    have hS : ∀ (k : Nat), spec_BestBorder.l0 (k + 1) w b (M : Int) (m : Int) = if w.extract 0 m = w.extract (w.size - m) w.size then ((spec_l09Places.f k w (w.extract 0 m)).bind fun t207 => (spec_l09Count.f k t207).bind fun t210 => if t210 > (M : Int) then spec_BestBorder.l0 k w (w.extract 0 m) t210 ((m + 1 : Nat) : Int) else spec_BestBorder.l0 k w b (M : Int) ((m + 1 : Nat) : Int)) else spec_BestBorder.l0 k w b (M : Int) ((m + 1 : Nat) : Int) := by
      intro k
      simp only [spec_BestBorder.l0, ba_toList_inj]
      rw [wrap_nat (n := w.size - m) (by omega) (by omega), if_pos (by omega), if_pos (by omega), if_pos (by omega), if_pos (by omega), if_pos (by omega), Int.toNat_natCast, Int.toNat_natCast, wrap_succ (by omega)]
    have hI : ∀ (k : Nat), impl_BestBorder.l0 (k + 1) w b (M : Int) (m : Int) = if w.extract (w.size - m) w.size = w.extract 0 m then ((impl_covered.f k w [w.extract 0 m]).bind fun t220 => impl_BestBorder.l1 k w b (M : Int) (m : Int) (w.extract 0 m) 0 t220 (t220.length : Int) 0) else impl_BestBorder.l0 k w b (M : Int) ((m + 1 : Nat) : Int) := by
      intro k
      simp only [impl_BestBorder.l0]
      rw [if_pos (by omega), if_pos (by omega), if_pos (by omega), Int.toNat_natCast, hasSuffix_f _ _ (by omega), wrap_succ (by omega), hz]
      simp only [Option.bind_some, decide_eq_true_eq, show m ≤ w.size by omega, true_and]
    by_cases c : w.extract 0 m = w.extract (w.size - m) w.size
    · have hcl := cov_length w (w.extract 0 m)
      by_cases h : (cov w (w.extract 0 m)).countP id > M
      · obtain ⟨r, h1, h2⟩ := ih (m + 1) (w.extract 0 m) ((cov w (w.extract 0 m)).countP id) (by omega) (by omega) ⟨fun e => by omega, fun e => by rw [toList_eq] at e; have := congrArg List.length e; rw [Array.length_toList, List.length_nil] at this; have h3 : (w.extract 0 m).size = 0 := this; omega⟩
        refine ⟨r, fun k hk => ?_, fun k hk => ?_⟩
        · obtain ⟨k, rfl⟩ : ∃ n, k = n + 1 := ⟨k - 1, by omega⟩
          rw [hS, if_pos c, spec_places9 w _ hs (by omega) k (by omega)]
          simp only [Option.bind_some]
          rw [count_f _ (by omega) k (by omega)]
          simp only [Option.bind_some]
          rw [if_pos (by omega)]; exact h1 k (by omega)
        · obtain ⟨k, rfl⟩ : ∃ n, k = n + (cov w (w.extract 0 m)).length + 1 + 1 := ⟨k - (cov w (w.extract 0 m)).length - 2, by omega⟩
          rw [hI, if_pos c.symm, covered_one w _ hs (isW_extract hw _ _) _ (by omega)]
          simp only [Option.bind_some]
          have h3 := bb_count w b (w.extract 0 m) M m (cov w (w.extract 0 m)) (by omega) (by omega) (cov w (w.extract 0 m)).length k 0 0 (by omega) (by omega)
          rw [List.drop_zero, Nat.zero_add, if_pos h] at h3
          rw [show (0 : Int) = ((0 : Nat) : Int) from rfl, h3]; exact h2 k (by omega)
      · obtain ⟨r, h1, h2⟩ := ih (m + 1) b M (by omega) (by omega) hM
        refine ⟨r, fun k hk => ?_, fun k hk => ?_⟩
        · obtain ⟨k, rfl⟩ : ∃ n, k = n + 1 := ⟨k - 1, by omega⟩
          rw [hS, if_pos c, spec_places9 w _ hs (by omega) k (by omega)]
          simp only [Option.bind_some]
          rw [count_f _ (by omega) k (by omega)]
          simp only [Option.bind_some]
          rw [if_neg (by omega)]; exact h1 k (by omega)
        · obtain ⟨k, rfl⟩ : ∃ n, k = n + (cov w (w.extract 0 m)).length + 1 + 1 := ⟨k - (cov w (w.extract 0 m)).length - 2, by omega⟩
          rw [hI, if_pos c.symm, covered_one w _ hs (isW_extract hw _ _) _ (by omega)]
          simp only [Option.bind_some]
          have h3 := bb_count w b (w.extract 0 m) M m (cov w (w.extract 0 m)) (by omega) (by omega) (cov w (w.extract 0 m)).length k 0 0 (by omega) (by omega)
          rw [List.drop_zero, Nat.zero_add, if_neg h] at h3
          rw [show (0 : Int) = ((0 : Nat) : Int) from rfl, h3]; exact h2 k (by omega)
    · obtain ⟨r, h1, h2⟩ := ih (m + 1) b M (by omega) (by omega) hM
      refine ⟨r, fun k hk => ?_, fun k hk => ?_⟩
      · obtain ⟨k, rfl⟩ : ∃ n, k = n + 1 := ⟨k - 1, by omega⟩
        rw [hS, if_neg c]; exact h1 k (by omega)
      · obtain ⟨k, rfl⟩ : ∃ n, k = n + 1 := ⟨k - 1, by omega⟩
        rw [hI, if_neg (fun e => c e.symm)]; exact h2 k (by omega)

theorem FnExactBestBorder : laws_FnExactBestBorder.Pure := by
  intro w hw
  refine ev_get ?_
  unfold laws_FnExactBestBorder.f
  by_cases hgw : (w.size : Int) > 1048576
  · simp only [hgw, if_true]; exact ev_of rfl
  simp only [hgw, if_false]
  suffices h : ∃ r : ByteArray × Int × Int, Ev (fun k => spec_BestBorder.f k w) r ∧ Ev (fun k => impl_BestBorder.f k w) r by
    obtain ⟨r, h1, h2⟩ := h
    refine ev_bnd h1 (ev_bnd h2 ?_)
    simp only [if_true, bne_false, Bool.false_eq_true, if_false]; exact ev_of rfl
  unfold spec_BestBorder.f impl_BestBorder.f impl_always.f
  simp only [wordCode_f, Option.bind_some]
  by_cases h0 : isW w = true
  · have hs := isW_size h0
    have hc : codeW true [w] = 0 := codeW_zero.2 ⟨by simp [h0], rfl⟩
    by_cases hz : w.size = 0
    · refine ⟨(⟨#[]⟩, 0, 4), ev_bnd (l01Is_ev w (by omega)) ?_, ?_⟩
      · simp only [h0, if_true]
        refine ev_suc ?_
        simp only [spec_BestBorder.l0, show ¬ ((1 : Int) < (w.size : Int)) by omega, if_false, if_true]; exact ev_of rfl
      · simp only [hc, if_true]
        refine ev_suc ?_
        simp only [impl_BestBorder.l0, show ¬ ((1 : Int) < (w.size : Int)) by omega, if_false]
        refine ev_of ?_
        rw [if_pos (by rw [toList_eq])]
    · obtain ⟨r, g1, g2⟩ := bb_loop w h0 (w.size - 1) 1 ⟨#[]⟩ 0 (by omega) (by omega) ⟨fun _ => by rw [toList_eq], fun _ => rfl⟩
      refine ⟨r, ev_bnd (l01Is_ev w (by omega)) ?_, ?_⟩
      · simp only [h0, if_true]; exact ⟨30000, fun k hk => g1 k (by omega)⟩
      · simp only [hc, if_true]; exact ⟨30000, fun k hk => g2 k (by omega)⟩
  · have hc : codeW true [w] = 1 := by simp [codeW, h0]
    refine ⟨(⟨#[]⟩, 0, 1), ev_bnd (l01Is_ev w (by omega)) ?_, ?_⟩
    · simp only [h0, if_false]; exact ev_of rfl
    · simp only [hc, show ¬ ((1 : Int) = 0) by omega, if_false]; exact ev_of rfl

end Go.Proofs.Ytcelidihilpmjaa.Pure
