/- The program's Bispecial and the reference's Bispecial return the same words and the same code: the factors of a length that go on (on both sides) in at least two ways; and what the program returned stays as it was marked. -/
import Derived.Test.YtbhhnjlnlmemmaaPFLibX
import Derived.Test.YtbhhnjlnlmemmaaPFLibK
import Derived.Test.YtbhhnjlnlmemmaaPFLibS
import Derived.Test.YtbhhnjlnlmemmaaPFx31
namespace Go.Proofs.Ytbhhnjlnlmemmaa.Pure
open Go.RowKit Go.Proofs.Ytbhhnjlnlmemmaa.PF Go.Proofs.YtbhhnjlnlmemmaaW.PrintWords Go.Proofs.YtbhhnjlnlmemmaaW.PrintLast
set_option linter.unusedSimpArgs false
set_option linter.unusedVariables false

/-- The program's RightSpecial and LeftSpecial. -/
theorem bi_right (w : ByteArray) (m : Int) (hw : w.size ≤ 9000000000000000000) : Ev (fun k => impl_RightSpecial.f k w m) (if codeW (inR m 0 60) [w] = 0 then (spc w m.toNat true, 0) else ([], codeW (inR m 0 60) [w])) := by
  unfold impl_RightSpecial.f impl_RightSpecial_1.f
  simp only [isLength_f, Option.bind_some, wordCode_f]
  by_cases h0 : codeW (inR m 0 60) [w] = 0
  · obtain ⟨n, rfl, hn0, hn⟩ := range_nat h0 (by omega)
    simp only [h0, if_true]
    exact ev_bnd (impl_special_ev w n true (fun _ => strings_HasPrefix.f) (sz_word h0) (by omega) (fun _ => prefix_cut (by omega))) (ev_of rfl)
  · simp only [h0, if_false]; exact ev_of rfl
theorem bi_left (w : ByteArray) (m : Int) (hw : w.size ≤ 9000000000000000000) : Ev (fun k => impl_LeftSpecial.f k w m) (if codeW (inR m 0 60) [w] = 0 then (spc w m.toNat false, 0) else ([], codeW (inR m 0 60) [w])) := by
  unfold impl_LeftSpecial.f impl_LeftSpecial_1.f
  simp only [isLength_f, Option.bind_some, wordCode_f]
  by_cases h0 : codeW (inR m 0 60) [w] = 0
  · obtain ⟨n, rfl, hn0, hn⟩ := range_nat h0 (by omega)
    simp only [h0, if_true]
    exact ev_bnd (impl_special_ev w n false (fun _ => strings_HasSuffix.f) (sz_word h0) (by omega) (fun _ => suffix_cut (by omega))) (ev_of rfl)
  · simp only [h0, if_false]; exact ev_of rfl

theorem bi_l1 (rs ls : List ByteArray) (hr : rs.length ≤ 1000000) (hl : ls.length ≤ 1000000) (i : Nat) (hi : i < rs.length) (x : ByteArray) (hx : rs[i] = x) : ∀ (d k j : Nat) (acc : List ByteArray), j + d = ls.length → acc.length + d ≤ 8000000000000 →
    spec_Bispecial.l1 (k + d + 1) rs ls acc (i : Int) (j : Int) = spec_Bispecial.l0 k rs ls (acc ++ (ls.drop j).filter fun y => decide (x = y)) ((i + 1 : Nat) : Int) := by
  intro d
  induction d with
  | zero =>
    intro k j acc hd ha
    simp only [spec_Bispecial.l1]
    rw [if_neg (by omega), wrap_succ (by omega), List.drop_eq_nil_of_le (by omega)]
    simp
  | succ d ih =>
    intro k j acc hd ha
    obtain ⟨q, hq⟩ : ∃ q, q = k + d + 1 := ⟨_, rfl⟩
    rw [show k + (d + 1) + 1 = q + 1 by omega]
    simp only [spec_Bispecial.l1]
    rw [if_pos (by omega), if_pos (by omega), if_pos (by omega), if_pos (by omega), rdOf_nat _ rs i hi, hx, rdOf_nat _ ls j (by omega), wrap_succ (i := j) (by omega), List.drop_eq_getElem_cons (l := ls) (i := j) (by omega), List.filter_cons]
    subst hq
    by_cases c : x = ls[j]
    · rw [if_pos (by rw [c]), if_pos (by omega), if_pos (by simp [c]), ih k (j + 1) _ (by omega) (by simp; omega), c]
      simp
    · rw [if_neg (by rw [ba_toList_inj]; exact c), if_neg (by simp [c]), ih k (j + 1) _ (by omega) (by omega)]

theorem filter_one : ∀ (ls : List ByteArray) (x : ByteArray), ls.Nodup → (ls.filter fun y => decide (x = y)) = if x ∈ ls then [x] else []
  | [], x, _ => by simp
  | y :: ls, x, h => by
    obtain ⟨h1, h2⟩ := List.nodup_cons.1 h
    rw [List.filter_cons, filter_one ls x h2]
    by_cases e : x = y
    · subst e; simp [h1]
    · simp [e]

theorem bi_l0 (rs ls : List ByteArray) (hr : rs.length ≤ 1000000) (hl : ls.length ≤ 1000000) (hnd : ls.Nodup) : ∀ (d k i : Nat) (acc : List ByteArray), i + d = rs.length → acc.length ≤ i → d * (ls.length + 3) < k →
    spec_Bispecial.l0 k rs ls acc (i : Int) = some (acc ++ (rs.drop i).filter (fun x => decide (x ∈ ls)), 0) := by
  intro d
  induction d with
  | zero =>
    intro k i acc hd ha hk
    obtain ⟨k, rfl⟩ : ∃ n, k = n + 1 := ⟨k - 1, by omega⟩
    simp only [spec_Bispecial.l0]
    rw [if_neg (by omega), List.drop_eq_nil_of_le (by omega)]; simp
  | succ d ih =>
    intro k i acc hd ha hk
    rw [Nat.succ_mul] at hk
    obtain ⟨k, rfl⟩ : ∃ n, k = n + ls.length + 1 + 1 := ⟨k - ls.length - 2, by omega⟩
    have h1 := bi_l1 rs ls hr hl i (by omega) _ rfl ls.length k 0 acc (by omega) (by omega)
    rw [List.drop_zero, filter_one ls _ hnd] at h1
    simp only [spec_Bispecial.l0]
    rw [if_pos (by omega), show (0 : Int) = ((0 : Nat) : Int) from rfl, h1, List.drop_eq_getElem_cons (l := rs) (i := i) (by omega), List.filter_cons]
    by_cases c : rs[i] ∈ ls
    · rw [if_pos c, if_pos (by simp [c]), ih k (i + 1) _ (by omega) (by simp; omega) (by omega)]; simp
    · rw [if_neg c, if_neg (by simp [c]), List.append_nil, ih k (i + 1) _ (by omega) (by omega) (by omega)]; rfl

theorem FnExactBispecial : laws_FnExactBispecial.Pure := by
  intro w m hw hm
  refine ev_get ?_
  unfold laws_FnExactBispecial.f
  by_cases hg : (w.size : Int) > 1048576
  · simp only [hg, if_true]; exact ev_of rfl
  simp only [hg, if_false]
  suffices h : ∃ r : List ByteArray × Int, r.1.length ≤ 4000000000000 ∧ Ev (fun k => spec_Bispecial.f k w m) r ∧ Ev (fun k => impl_Bispecial.f k w m) r by
    obtain ⟨r, hr, h1, h2⟩ := h
    obtain ⟨q, m1, m2⟩ := markS_ev r.1 hr
    refine ev_bnd h1 (ev_bnd h2 (ev_bnd (eqS_ev r.1 hr) ?_))
    simp only [if_true, bne_false]
    refine ev_suc ?_
    simp only [laws_FnExactBispecial.j0]
    refine ev_bnd m1 (ev_bnd m2 ?_)
    simp only [show ¬ ((r.1.length : Int) + 1 < 0) by omega, if_false, if_true]
    refine ev_bnd h2 (ev_bnd (eqS_ev r.1 hr) ?_)
    simp only [if_true, bne_false]
    refine ev_suc ?_
    simp only [laws_FnExactBispecial.j1]
    refine ev_bnd m2 ?_
    simp only [show ¬ ((r.1.length : Int) + 1 < 0) by omega, if_false, if_true]
    exact ev_of rfl
  unfold spec_Bispecial.f impl_Bispecial.f
  have hR := bi_right w m (by omega)
  have hL := bi_left w m (by omega)
  by_cases h0 : codeW (inR m 0 60) [w] = 0
  · simp only [h0, if_true] at hR hL
    obtain ⟨n, rfl, hn0, hn⟩ := range_nat h0 (by omega)
    rw [Int.toNat_natCast] at hR hL
    have hs := sz_word h0
    have hl := spc_length w n true
    have hl2 := spc_length w n false
    have hf := List.length_filter_le (fun x => decide (x ∈ spc w n false)) (spc w n true)
    refine ⟨((spc w n true).filter (fun x => decide (x ∈ spc w n false)), 0), by show ((spc w n true).filter _).length ≤ _; omega, ev_bnd (l05Code_ev w _ (by omega)) ?_, ?_⟩
    · simp only [h0, if_true]
      refine ev_bnd (spec_special_ev w n true hs (by omega)) (ev_bnd (spec_special_ev w n false hs (by omega)) ⟨(spc w n true).length * ((spc w n false).length + 3) + 1, fun k hk => ?_⟩)
      have h := bi_l0 (spc w n true) (spc w n false) (by omega) (by omega) (SS_nodup (spc_SS w n false)) (spc w n true).length k 0 [] (by omega) (by simp) (by omega)
      exact h
    · refine ev_bnd hR ?_
      simp only [if_true]
      refine ev_bnd hL (ev_bnd (a := (spc w n true).filter (fun x => decide (x ∈ spc w n false))) ⟨(spc w n false).length + 1, fun k hk => ?_⟩ (ev_of rfl))
      show filterP _ _ = _
      rw [filterP_some (q := fun x => !decide (x ∈ spc w n false)) _ (fun x hx => by
        show impl_Bispecial_1.f k x (spc w n false) = _
        unfold impl_Bispecial_1.f
        rw [contains_f _ x (by omega) k (by omega)]; rfl)]
      simp only [Bool.not_not]
  · simp only [h0, if_false] at hR hL
    refine ⟨([], codeW (inR m 0 60) [w]), by simp, ev_bnd (l05Code_ev w _ (by omega)) ?_, ev_bnd hR ?_⟩
    · simp only [h0, if_false]; exact ev_of rfl
    · simp only [h0, if_false]; exact ev_of rfl

end Go.Proofs.Ytbhhnjlnlmemmaa.Pure
