/- The program's FirstTwo and the reference's FirstTwo return the same words and the same code: the first two factors of a length that cover the word together; and what the program returned stays as it was marked. -/
import Derived.Test.YtcelidihilpmjaaPFLibZZ
import Derived.Test.YtcelidihilpmjaaPFx11
import Derived.Test.YtcelidihilpmjaaPFLibS
import Derived.Test.YtcelidihilpmjaaPFx37
namespace Go.Proofs.Ytcelidihilpmjaa.Pure
open Go.RowKit Go.Proofs.Ytcelidihilpmjaa.PF Go.Proofs.YtcelidihilpmjaaW.PrintWords Go.Proofs.YtcelidihilpmjaaW.PrintLast
set_option linter.unusedSimpArgs false
set_option linter.unusedVariables false

/-- Two words cover a word. -/
def isC2 (w u v : ByteArray) : Bool := allT (covP w v (cov w u))
theorem two_loop (a b : List Bool) (hab : a.length = b.length) (hl : a.length ≤ 1000) : ∀ (d k i : Nat), i + d = a.length → d < k → ∃ r, spec_l09Two.l0 k a b (i : Int) = some r ∧ (r = true ↔ ∀ j, i ≤ j → j < a.length → (a.getD j false || b.getD j false) = true) := by
  intro d
  induction d with
  | zero =>
    intro k i hd hk
    obtain ⟨k, rfl⟩ : ∃ n, k = n + 1 := ⟨k - 1, by omega⟩
    refine ⟨true, ?_, ?_⟩
    · simp only [spec_l09Two.l0]; rw [if_neg (by omega)]
    · exact ⟨fun _ j h1 h2 => by omega, fun _ => rfl⟩
  | succ d ih =>
    intro k i hd hk
    obtain ⟨k, rfl⟩ : ∃ n, k = n + 1 := ⟨k - 1, by omega⟩
    obtain ⟨r, h1, h2⟩ := ih k (i + 1) (by omega) (by omega)
    have ga : rdOf false a (i : Int) = a.getD i false := by simp [rdOf]
    have gb : rdOf false b (i : Int) = b.getD i false := by simp [rdOf]
    by_cases c : (a.getD i false || b.getD i false) = true
    · refine ⟨r, ?_, ?_⟩
      · simp only [spec_l09Two.l0, ga, gb]
        rw [if_pos (by omega), if_pos (by omega), wrap_succ (by omega), h1]
        by_cases ca : a.getD i false = true
        · rw [if_pos ca]
        · rw [if_neg ca, if_pos (by omega), if_pos (by rw [Bool.not_eq_true] at ca; rw [ca, Bool.false_or] at c; exact c)]
      · rw [h2]
        constructor
        · intro h j hj1 hj2
          by_cases e : j = i
          · subst e; exact c
          · exact h j (by omega) hj2
        · exact fun h j hj1 hj2 => h j (by omega) hj2
    · rw [Bool.not_eq_true, Bool.or_eq_false_iff] at c
      refine ⟨false, ?_, ?_⟩
      · simp only [spec_l09Two.l0, ga, gb, c.1, c.2]
        rw [if_pos (by omega), if_pos (by omega), if_neg (by simp), if_pos (by omega), if_neg (by simp)]
      · constructor
        · intro h; cases h
        · intro h; have := h i (by omega) (by omega); rw [c.1, c.2] at this; cases this

theorem l09Two_f (w u v : ByteArray) (hw : w.size ≤ 60) (hu : u.size ≤ 60) (hv : v.size ≤ 60) (k : Nat) (hk : 10000 < k) : spec_l09Two.f k w u v = some (isC2 w u v) := by
  unfold spec_l09Two.f
  rw [spec_places9 w u hw hu k hk, spec_places9 w v hw hv k hk]
  simp only [Option.bind_some]
  obtain ⟨r, h1, h2⟩ := two_loop (cov w u) (cov w v) (by rw [cov_length, cov_length]) (by rw [cov_length]; omega) (cov w u).length k 0 (by omega) (by rw [cov_length]; omega)
  rw [show (0 : Int) = ((0 : Nat) : Int) from rfl, h1]
  congr 1
  have hget : ∀ j, j < w.size → (covP w v (cov w u)).getD j false = ((cov w u).getD j false || (cov w v).getD j false) := by
    intro j hj
    rw [covP, setAll_get, cov_length]
    congr 1
    rw [cov, covP, setAll_get, List.length_replicate]
    simp [hj]
  have h3 : isC2 w u v = true ↔ ∀ j, 0 ≤ j → j < (cov w u).length → ((cov w u).getD j false || (cov w v).getD j false) = true := by
    rw [cov_length]
    constructor
    · intro h j _ hj
      rw [← hget j hj]; exact allT_get h j (by rw [covP_length, cov_length]; exact hj)
    · intro h
      refine allT_of fun j hj => ?_
      rw [covP_length, cov_length] at hj
      rw [hget j hj]; exact h j (by omega) hj
  rw [Bool.eq_iff_iff, h2, h3]

theorem isCovered_two (w u v : ByteArray) (hw : w.size ≤ 60) (hu : isW u = true) (hv : isW v = true) (k : Nat) (hk : 10000 < k) : impl_isCovered.f k w [u, v] = some (isC2 w u v) := by
  unfold impl_isCovered.f
  rw [covered_f w hw k (by omega) [u, v] (fun x hx => by simp only [List.mem_cons, List.not_mem_nil, or_false] at hx; rcases hx with rfl | rfl <;> assumption)]
  simp only [Option.bind_some]
  have hl : (covL w [u, v] (List.replicate w.size false)).length = w.size := by
    show (covP w v (covP w u _)).length = _; rw [covP_length, covP_length, List.length_replicate]
  rw [containsB_f _ (by omega) k (by omega)]
  simp only [Option.bind_some, Bool.not_not]; rfl

theorem ft_i1 (w : ByteArray) (hw : isW w = true) (l : List ByteArray) (hl : l.length ≤ 100) (hall : ∀ x ∈ l, isW x = true) (i : Nat) (hi : i < l.length) : ∀ (d j : Nat), i + 1 + j + d = l.length → ∃ o : Option (List ByteArray × Int), (∀ r, o = some r → r.1.length ≤ 2) ∧
    (∀ k, 20000 < k → spec_FirstTwo.l1 (k + d + 1) w l (i : Int) ((i + 1 + j : Nat) : Int) = match o with | some r => some r | none => spec_FirstTwo.l0 k w l ((i + 1 : Nat) : Int)) ∧
    (∀ k, 20000 < k → impl_FirstTwo.l1 (k + d + 1) w l l[i] l (l.length : Int) (i : Int) (l.drop (i + 1)) ((l.drop (i + 1)).length : Int) (j : Int) = match o with | some r => some r | none => impl_FirstTwo.l0 k w l l (l.length : Int) ((i + 1 : Nat) : Int)) := by
  have hs := isW_size hw
  have hdl : (l.drop (i + 1)).length = l.length - (i + 1) := List.length_drop
  intro d
  induction d with
  | zero =>
    intro j hd
    refine ⟨none, fun r h => (by cases h), fun k hk => ?_, fun k hk => ?_⟩
    · simp only [spec_FirstTwo.l1]; rw [if_neg (by omega), wrap_succ (by omega)]
    · simp only [impl_FirstTwo.l1]; rw [if_neg (by omega), wrap_succ (by omega)]
  | succ d ih =>
    intro j hd
    have hj : i + 1 + j < l.length := by omega
    have h1 : isW l[i] = true := hall _ (List.getElem_mem _)
    have h2 : isW l[i + 1 + j] = true := hall _ (List.getElem_mem _)
    have hdj : rdOf ByteArray.empty (l.drop (i + 1)) (j : Int) = l[i + 1 + j] := by rw [rdOf_nat _ _ _ (by omega), List.getElem_drop]
    by_cases c : isC2 w l[i] l[i + 1 + j] = true
    · refine ⟨some ([l[i], l[i + 1 + j]], 0), fun r h => by obtain rfl := Option.some.inj h; simp, fun k hk => ?_, fun k hk => ?_⟩
      · obtain ⟨q, hq⟩ : ∃ q, q = k + d + 1 := ⟨_, rfl⟩
        rw [show k + (d + 1) + 1 = q + 1 by omega]
        simp only [spec_FirstTwo.l1]
        rw [if_pos (by omega), if_pos (by omega), if_pos (by omega), if_pos (by omega), rdOf_nat _ _ _ hi, rdOf_nat _ _ _ hj, l09Two_f w _ _ hs (isW_size h1) (isW_size h2) q (by omega)]
        simp only [Option.bind_some, c, if_true]
      · obtain ⟨q, hq⟩ : ∃ q, q = k + d + 1 := ⟨_, rfl⟩
        rw [show k + (d + 1) + 1 = q + 1 by omega]
        simp only [impl_FirstTwo.l1]
        rw [if_pos (by omega), if_pos (by omega), if_pos (by omega), hdj, isCovered_two w _ _ hs h1 h2 q (by omega)]
        simp only [Option.bind_some, c, if_true]
    · obtain ⟨o, ho, g1, g2⟩ := ih (j + 1) (by omega)
      refine ⟨o, ho, fun k hk => ?_, fun k hk => ?_⟩
      · obtain ⟨q, hq⟩ : ∃ q, q = k + d + 1 := ⟨_, rfl⟩
        rw [show k + (d + 1) + 1 = q + 1 by omega]
        simp only [spec_FirstTwo.l1]
        rw [if_pos (by omega), if_pos (by omega), if_pos (by omega), if_pos (by omega), rdOf_nat _ _ _ hi, rdOf_nat _ _ _ hj, l09Two_f w _ _ hs (isW_size h1) (isW_size h2) q (by omega), wrap_succ (by omega)]
        simp only [Option.bind_some, c, if_false]
        subst hq
        exact g1 k hk
      · obtain ⟨q, hq⟩ : ∃ q, q = k + d + 1 := ⟨_, rfl⟩
        rw [show k + (d + 1) + 1 = q + 1 by omega]
        simp only [impl_FirstTwo.l1]
        rw [if_pos (by omega), if_pos (by omega), if_pos (by omega), hdj, isCovered_two w _ _ hs h1 h2 q (by omega), wrap_succ (by omega)]
        simp only [Option.bind_some, c, if_false]
        subst hq
        exact g2 k hk

theorem ft_i0 (w : ByteArray) (hw : isW w = true) (l : List ByteArray) (hl : l.length ≤ 100) (hall : ∀ x ∈ l, isW x = true) : ∀ (d i : Nat), i + d = l.length → ∃ r : List ByteArray × Int, r.1.length ≤ 2 ∧ (∀ k, 30000 + d * 200 < k → spec_FirstTwo.l0 k w l (i : Int) = some r) ∧ (∀ k, 30000 + d * 200 < k → impl_FirstTwo.l0 k w l l (l.length : Int) (i : Int) = some r) := by
  intro d
  induction d with
  | zero =>
    intro i hd
    refine ⟨([], 4), by simp, fun k hk => ?_, fun k hk => ?_⟩
    · obtain ⟨k, rfl⟩ : ∃ n, k = n + 1 := ⟨k - 1, by omega⟩
      simp only [spec_FirstTwo.l0]; rw [if_neg (by omega)]
    · obtain ⟨k, rfl⟩ : ∃ n, k = n + 1 := ⟨k - 1, by omega⟩
      simp only [impl_FirstTwo.l0]; rw [if_neg (by omega)]
  | succ d ih =>
    intro i hd
    obtain ⟨o, ho, g1, g2⟩ := ft_i1 w hw l hl hall i (by omega) d 0 (by omega)
    obtain ⟨r, hr, h1, h2⟩ := ih (i + 1) (by omega)
    refine ⟨o.getD r, ?_, fun k hk => ?_, fun k hk => ?_⟩
    · cases o with
      | none => exact hr
      | some q => exact ho q rfl
    · obtain ⟨k, rfl⟩ : ∃ n, k = n + d + 1 + 1 := ⟨k - d - 2, by omega⟩
      simp only [spec_FirstTwo.l0]
      rw [if_pos (by omega), wrap_succ (by omega)]
      have g := g1 k (by omega)
      rw [Nat.add_zero] at g
      rw [g]
      cases o with
      | none => exact h1 k (by omega)
      | some q => rfl
    · obtain ⟨k, rfl⟩ : ∃ n, k = n + d + 1 + 1 := ⟨k - d - 2, by omega⟩
      simp only [impl_FirstTwo.l0]
      rw [if_pos (by omega), if_pos (by omega), if_pos (by omega), wrap_succ (by omega), if_pos (by omega), if_pos (by omega), Int.toNat_natCast, rdOf_nat _ _ _ (by omega)]
      have g := g2 k (by omega)
      simp only [Option.bind_some]
      rw [show (0 : Int) = ((0 : Nat) : Int) from rfl, g]
      cases o with
      | none => exact h2 k (by omega)
      | some q => rfl

theorem FnExactFirstTwo : laws_FnExactFirstTwo.Pure := by
  intro w m hw hm
  refine ev_get ?_
  unfold laws_FnExactFirstTwo.f
  by_cases hgw : (w.size : Int) > 1048576
  · simp only [hgw, if_true]; exact ev_of rfl
  simp only [hgw, if_false]
  suffices h : ∃ r : List ByteArray × Int, r.1.length ≤ 4000000000000 ∧ Ev (fun k => spec_FirstTwo.f k w m) r ∧ Ev (fun k => impl_FirstTwo.f k w m) r by
    obtain ⟨r, hr, h1, h2⟩ := h
    obtain ⟨q, m1, m2⟩ := markS_ev r.1 hr
    refine ev_bnd h1 (ev_bnd h2 (ev_bnd (eqS_ev r.1 hr) ?_))
    simp only [if_true, bne_false]
    refine ev_suc ?_
    simp only [laws_FnExactFirstTwo.j0]
    refine ev_bnd m1 (ev_bnd m2 ?_)
    simp only [show ¬ ((r.1.length : Int) + 1 < 0) by omega, if_false, if_true]
    refine ev_bnd h2 (ev_bnd (eqS_ev r.1 hr) ?_)
    simp only [if_true, bne_false]
    refine ev_suc ?_
    simp only [laws_FnExactFirstTwo.j1]
    refine ev_bnd m2 ?_
    simp only [show ¬ ((r.1.length : Int) + 1 < 0) by omega, if_false, if_true]
    exact ev_of rfl
  unfold spec_FirstTwo.f impl_FirstTwo.f impl_FirstTwo_1.f impl_isCoverLength.f
  simp only [within_f, wordCode_f, Option.bind_some]
  by_cases h0 : codeW (inR m 1 60) [w] = 0
  · obtain ⟨n, rfl, hn0, hn⟩ := range_nat h0 (by omega)
    have hs := sz_word h0
    have hw1 : isW w = true := by have := (codeW_zero.1 h0).1; simpa using this
    have hl := fac_length_le w n
    obtain ⟨r, hr, g1, g2⟩ := ft_i0 w hw1 (fac w n) (by omega) (fun x hx => by obtain ⟨_, _, i, j, rfl⟩ := fac_of hx; exact isW_extract hw1 _ _) (fac w n).length 0 (by omega)
    refine ⟨r, by omega, ev_bnd (l09Length_ev w _ (by omega)) ?_, ?_⟩
    · simp only [h0, if_true]
      exact ev_bnd (spec_factors_ev w n (by omega) (by omega)) ⟨60000, fun k hk => g1 k (by omega)⟩
    · simp only [h0, if_true]
      exact ev_bnd (impl_factors_ev w n (by omega) (by omega)) ⟨60000, fun k hk => g2 k (by omega)⟩
  · refine ⟨([], codeW (inR m 1 60) [w]), by simp, ev_bnd (l09Length_ev w _ (by omega)) ?_, ?_⟩
    · simp only [h0, if_false]; exact ev_of rfl
    · simp only [h0, if_false]; exact ev_of rfl

end Go.Proofs.Ytcelidihilpmjaa.Pure
