/- What the best border is, and which two words cover a word: the program's functions and the reference's. -/
import Derived.Test.YtcfphjjdbccnoaaGreatPFLibSe
import Derived.Test.YtcfphjjdbccnoaaGreatPFLibY3
import Derived.Test.YtcfphjjdbccnoaaGreatPFx5
import Derived.Test.YtcfphjjdbccnoaaGreatPFx2
import Derived.Test.YtcfphjjdbccnoaaGreatPFx6
import Derived.Test.YtcfphjjdbccnoaaGreatPFx3
import Derived.Test.YtcfphjjdbccnoaaGreatPFx7
import Derived.Test.YtcfphjjdbccnoaaGreatPFx3
namespace Go.Proofs.YtcfphjjdbccnoaaGreat.PF
open Go.RowKit Go.Proofs.YtcfphjjdbccnoaaGreatW.PrintWords Go.Proofs.YtcfphjjdbccnoaaGreatW.PrintLast Go.Proofs.YtcfphjjdbccnoaaGreatW.PrintMore
set_option linter.unusedVariables false
set_option linter.unusedSimpArgs false
set_option maxRecDepth 20000

/-- A border that covers so many letters. -/
def BB (w b : ByteArray) (M : Nat) : Prop := ∃ q, 1 ≤ q ∧ q < w.size ∧ b = w.extract 0 q ∧ w.extract 0 q = w.extract (w.size - q) w.size ∧ M = (cov w b).countP id
theorem bb_count (w b u : ByteArray) (M : Nat) (m : Nat) (l : List Bool) (hl : l.length ≤ 1000) (hm : m ≤ 1000) : ∀ (d k i c : Nat), i + d = l.length → c ≤ i →
  impl_BestBorder.l1 (k + d + 1) w b (M : Int) (m : Int) u (c : Int) l (l.length : Int) (i : Int) = if c + (l.drop i).countP id > M then impl_BestBorder.l0 k w u ((c + (l.drop i).countP id : Nat) : Int) ((m + 1 : Nat) : Int) else impl_BestBorder.l0 k w b (M : Int) ((m + 1 : Nat) : Int) := by
 intro d
 induction d with
 | zero =>
  intro k i c hd hc
  simp only [impl_BestBorder.l1]
  rw [if_neg (by omega), List.drop_eq_nil_of_le (by omega), wrap_succ (by omega), List.countP_nil]
  simp only [Nat.add_zero]
  by_cases h : c > M
  ·
   rw [if_pos (by omega), if_pos h]
  ·
   rw [if_neg (by omega), if_neg h]
 | succ d ih =>
  intro k i c hd hc
  obtain ⟨q, hq⟩ : ∃ q, q = k + d + 1 := ⟨_, rfl⟩
  rw [show k + (d + 1) + 1 = q + 1 by omega]
  simp only [impl_BestBorder.l1]
  rw [if_pos (by omega), if_pos (by omega), if_pos (by omega), rdOf_nat _ _ _ (by omega), wrap_succ (i := i) (by omega), wrap_succ (i := c) (by omega), List.drop_eq_getElem_cons (l := l) (i := i) (by omega), List.countP_cons]
  subst hq
  by_cases e : l[i] = true
  ·
   rw [if_pos e, ih k (i + 1) (c + 1) (by omega) (by omega)]
   simp only [e, id, if_true, Nat.add_assoc, Nat.add_comm 1]
  ·
   rw [if_neg e, ih k (i + 1) c (by omega) (by omega)]
   simp only [Bool.not_eq_true] at e
   simp only [e, id, Bool.false_eq_true, if_false, Nat.add_zero]
theorem bb_loop (w : ByteArray) (hw : isW w = true) : ∀ (d m : Nat) (b : ByteArray) (M : Nat), m + d = w.size → 1 ≤ m → (M = 0 ↔ b.toList = ([] : List UInt8)) → (M = 0 ∨ BB w b M) → ∃ r : ByteArray × Int × Int, (r.2.2 = 0 → ∃ M : Nat, r.2.1 = M ∧ BB w r.1 M) ∧ (∀ k, 20000 + d * 100 < k → spec_BestBorder.l0 k w b (M : Int) (m : Int) = some r) ∧ (∀ k, 20000 + d * 100 < k → impl_BestBorder.l0 k w b (M : Int) (m : Int) = some r) := by
 have hs := isW_size hw
 intro d
 induction d with
 | zero =>
  intro m b M hd hm hM hB
  refine ⟨if M = 0 then (⟨#[]⟩, 0, 4) else (b, (M : Int), 0), fun h => ?_, fun k hk => ?_, fun k hk => ?_⟩
  ·
   by_cases e : M = 0
   ·
    rw [if_pos e] at h; exact absurd h (by decide)
   ·
    rw [if_neg e]; exact ⟨M, rfl, hB.resolve_left e⟩
  ·
   obtain ⟨k, rfl⟩ : ∃ n, k = n + 1 := ⟨k - 1, by omega⟩
   simp only [spec_BestBorder.l0]; rw [if_neg (by omega)]
   by_cases h : M = 0
   ·
    rw [if_pos (by omega), if_pos h]
   ·
    rw [if_neg (by omega), if_neg h]
  ·
   obtain ⟨k, rfl⟩ : ∃ n, k = n + 1 := ⟨k - 1, by omega⟩
   simp only [impl_BestBorder.l0]; rw [if_neg (by omega)]
   by_cases h : M = 0
   ·
    rw [if_pos (hM.1 h), if_pos h]
   ·
    rw [if_neg (fun e => h (hM.2 e)), if_neg h]
 | succ d ih =>
  intro m b M hd hm hM hB
  have hz : (w.extract 0 m).size = m := by rw [ByteArray.size_extract]; omega
  have hS : ∀ (k : Nat), spec_BestBorder.l0 (k + 1) w b (M : Int) (m : Int) = if w.extract 0 m = w.extract (w.size - m) w.size then ((spec_l09Places.f k w (w.extract 0 m)).bind fun t207 => (spec_l09Count.f k t207).bind fun t210 => if t210 > (M : Int) then spec_BestBorder.l0 k w (w.extract 0 m) t210 ((m + 1 : Nat) : Int) else spec_BestBorder.l0 k w b (M : Int) ((m + 1 : Nat) : Int)) else spec_BestBorder.l0 k w b (M : Int) ((m + 1 : Nat) : Int) := by
   intro k
   simp only [spec_BestBorder.l0, ba_toList_inj]
   rw [wrap_nat (n := w.size - m) (by omega) (by omega), if_pos (by omega), if_pos (by omega), if_pos (by omega), if_pos (by omega), if_pos (by omega), Int.toNat_natCast, Int.toNat_natCast, wrap_succ (by omega)]
  have hI : ∀ (k : Nat), impl_BestBorder.l0 (k + 1) w b (M : Int) (m : Int) = if w.extract (w.size - m) w.size = w.extract 0 m then ((impl_covered.f k w [w.extract 0 m]).bind fun t220 => impl_BestBorder.l1 k w b (M : Int) (m : Int) (w.extract 0 m) 0 t220 (t220.length : Int) 0) else impl_BestBorder.l0 k w b (M : Int) ((m + 1 : Nat) : Int) := by
   intro k
   simp only [impl_BestBorder.l0]
   rw [if_pos (by omega), if_pos (by omega), if_pos (by omega), Int.toNat_natCast, hasSuffix_f _ _ (by omega), wrap_succ (by omega), hz]
   simp only [Option.bind_some, decide_eq_true_eq, show m ≤ w.size by omega, true_and]
  by_cases c : w.extract 0 m = w.extract (w.size - m) w.size
  ·
   have hcl := cov_length w (w.extract 0 m)
   by_cases h : (cov w (w.extract 0 m)).countP id > M
   ·
    obtain ⟨r, h0, h1, h2⟩ := ih (m + 1) (w.extract 0 m) ((cov w (w.extract 0 m)).countP id) (by omega) (by omega) ⟨fun e => by omega, fun e => by rw [toList_eq] at e; have := congrArg List.length e; rw [Array.length_toList, List.length_nil] at this; have h3 : (w.extract 0 m).size = 0 := this; omega⟩ (.inr ⟨m, hm, by omega, rfl, c, rfl⟩)
    refine ⟨r, h0, fun k hk => ?_, fun k hk => ?_⟩
    ·
     obtain ⟨k, rfl⟩ : ∃ n, k = n + 1 := ⟨k - 1, by omega⟩
     rw [hS, if_pos c, spec_places9 w _ hs (by omega) k (by omega)]
     simp only [Option.bind_some]
     rw [count_f _ (by omega) k (by omega)]
     simp only [Option.bind_some]
     rw [if_pos (by omega)]; exact h1 k (by omega)
    ·
     obtain ⟨k, rfl⟩ : ∃ n, k = n + (cov w (w.extract 0 m)).length + 1 + 1 := ⟨k - (cov w (w.extract 0 m)).length - 2, by omega⟩
     rw [hI, if_pos c.symm, covered_one w _ hs (isW_extract hw _ _) _ (by omega)]
     simp only [Option.bind_some]
     have h3 := bb_count w b (w.extract 0 m) M m (cov w (w.extract 0 m)) (by omega) (by omega) (cov w (w.extract 0 m)).length k 0 0 (by omega) (by omega)
     rw [List.drop_zero, Nat.zero_add, if_pos h] at h3
     rw [show (0 : Int) = ((0 : Nat) : Int) from rfl, h3]; exact h2 k (by omega)
   ·
    obtain ⟨r, h0, h1, h2⟩ := ih (m + 1) b M (by omega) (by omega) hM hB
    refine ⟨r, h0, fun k hk => ?_, fun k hk => ?_⟩
    ·
     obtain ⟨k, rfl⟩ : ∃ n, k = n + 1 := ⟨k - 1, by omega⟩
     rw [hS, if_pos c, spec_places9 w _ hs (by omega) k (by omega)]
     simp only [Option.bind_some]
     rw [count_f _ (by omega) k (by omega)]
     simp only [Option.bind_some]
     rw [if_neg (by omega)]; exact h1 k (by omega)
    ·
     obtain ⟨k, rfl⟩ : ∃ n, k = n + (cov w (w.extract 0 m)).length + 1 + 1 := ⟨k - (cov w (w.extract 0 m)).length - 2, by omega⟩
     rw [hI, if_pos c.symm, covered_one w _ hs (isW_extract hw _ _) _ (by omega)]
     simp only [Option.bind_some]
     have h3 := bb_count w b (w.extract 0 m) M m (cov w (w.extract 0 m)) (by omega) (by omega) (cov w (w.extract 0 m)).length k 0 0 (by omega) (by omega)
     rw [List.drop_zero, Nat.zero_add, if_neg h] at h3
     rw [show (0 : Int) = ((0 : Nat) : Int) from rfl, h3]; exact h2 k (by omega)
  ·
   obtain ⟨r, h0, h1, h2⟩ := ih (m + 1) b M (by omega) (by omega) hM hB
   refine ⟨r, h0, fun k hk => ?_, fun k hk => ?_⟩
   ·
    obtain ⟨k, rfl⟩ : ∃ n, k = n + 1 := ⟨k - 1, by omega⟩
    rw [hS, if_neg c]; exact h1 k (by omega)
   ·
    obtain ⟨k, rfl⟩ : ∃ n, k = n + 1 := ⟨k - 1, by omega⟩
    rw [hI, if_neg (fun e => c e.symm)]; exact h2 k (by omega)
theorem bestBorder_ev (w : ByteArray) (hw : w.size ≤ 100000) : ∃ r : ByteArray × Int × Int, (r.2.2 = 0 → isW w = true ∧ ∃ M : Nat, r.2.1 = M ∧ BB w r.1 M) ∧ Ev (fun k => spec_BestBorder.f k w) r ∧ Ev (fun k => impl_BestBorder.f k w) r := by
 unfold spec_BestBorder.f impl_BestBorder.f impl_always.f
 simp only [wordCode_f, Option.bind_some]
 by_cases h0 : isW w = true
 ·
  have hs := isW_size h0
  have hc : codeW true [w] = 0 := codeW_zero.2 ⟨by simp [h0], rfl⟩
  by_cases hz : w.size = 0
  ·
   refine ⟨(⟨#[]⟩, 0, 4), fun h => absurd h (by decide), ev_bnd (l01Is_ev w (by omega)) ?_, ?_⟩
   ·
    simp only [h0, if_true]
    refine ev_suc ?_
    simp only [spec_BestBorder.l0, show ¬ ((1 : Int) < (w.size : Int)) by omega, if_false, if_true]; exact ev_of rfl
   ·
    simp only [hc, if_true]
    refine ev_suc ?_
    simp only [impl_BestBorder.l0, show ¬ ((1 : Int) < (w.size : Int)) by omega, if_false]
    refine ev_of ?_
    rw [if_pos (by rw [toList_eq])]
  ·
   obtain ⟨r, g0, g1, g2⟩ := bb_loop w h0 (w.size - 1) 1 ⟨#[]⟩ 0 (by omega) (by omega) ⟨fun _ => by rw [toList_eq], fun _ => rfl⟩ (.inl rfl)
   refine ⟨r, fun h => ⟨h0, g0 h⟩, ev_bnd (l01Is_ev w (by omega)) ?_, ?_⟩
   ·
    simp only [h0, if_true]; exact ⟨30000, fun k hk => g1 k (by omega)⟩
   ·
    simp only [hc, if_true]; exact ⟨30000, fun k hk => g2 k (by omega)⟩
 ·
  have hc : codeW true [w] = 1 := by simp [codeW, h0]
  refine ⟨(⟨#[]⟩, 0, 1), fun h => absurd h (by decide), ev_bnd (l01Is_ev w (by omega)) ?_, ?_⟩
  ·
   simp only [h0, if_false]; exact ev_of rfl
  ·
   simp only [hc, show ¬ ((1 : Int) = 0) by omega, if_false]; exact ev_of rfl

/-- The first two words of a list that cover a word together. -/
def TwoOf (w : ByteArray) (l : List ByteArray) (r : List ByteArray × Int) : Prop := r.2 = 0 → ∃ i j, ∃ hi : i < l.length, ∃ hj : j < l.length, i < j ∧ r.1 = [l[i], l[j]] ∧ isC2 w l[i] l[j] = true
theorem ft_i1 (w : ByteArray) (hw : isW w = true) (l : List ByteArray) (hl : l.length ≤ 100) (hall : ∀ x ∈ l, isW x = true) (i : Nat) (hi : i < l.length) : ∀ (d j : Nat), i + 1 + j + d = l.length → ∃ o : Option (List ByteArray × Int), (∀ r, o = some r → r.1.length ≤ 2 ∧ TwoOf w l r) ∧
  (∀ k, 20000 < k → spec_FirstTwo.l1 (k + d + 1) w l (i : Int) ((i + 1 + j : Nat) : Int) = match o with | some r => some r | none => spec_FirstTwo.l0 k w l ((i + 1 : Nat) : Int)) ∧
  (∀ k, 20000 < k → impl_FirstTwo.l1 (k + d + 1) w l l[i] l (l.length : Int) (i : Int) (l.drop (i + 1)) ((l.drop (i + 1)).length : Int) (j : Int) = match o with | some r => some r | none => impl_FirstTwo.l0 k w l l (l.length : Int) ((i + 1 : Nat) : Int)) := by
 have hs := isW_size hw
 have hdl : (l.drop (i + 1)).length = l.length - (i + 1) := List.length_drop
 intro d
 induction d with
 | zero =>
  intro j hd
  refine ⟨none, fun r h => (by cases h), fun k hk => ?_, fun k hk => ?_⟩
  ·
   simp only [spec_FirstTwo.l1]; rw [if_neg (by omega), wrap_succ (by omega)]
  ·
   simp only [impl_FirstTwo.l1]; rw [if_neg (by omega), wrap_succ (by omega)]
 | succ d ih =>
  intro j hd
  have hj : i + 1 + j < l.length := by omega
  have h1 : isW l[i] = true := hall _ (List.getElem_mem _)
  have h2 : isW l[i + 1 + j] = true := hall _ (List.getElem_mem _)
  have hdj : rdOf ByteArray.empty (l.drop (i + 1)) (j : Int) = l[i + 1 + j] := by rw [rdOf_nat _ _ _ (by omega), List.getElem_drop]
  by_cases c : isC2 w l[i] l[i + 1 + j] = true
  ·
   refine ⟨some ([l[i], l[i + 1 + j]], 0), fun r h => by obtain rfl := Option.some.inj h; exact ⟨by simp, fun _ => ⟨i, i + 1 + j, hi, hj, by omega, rfl, c⟩⟩, fun k hk => ?_, fun k hk => ?_⟩
   ·
    obtain ⟨q, hq⟩ : ∃ q, q = k + d + 1 := ⟨_, rfl⟩
    rw [show k + (d + 1) + 1 = q + 1 by omega]
    simp only [spec_FirstTwo.l1]
    rw [if_pos (by omega), if_pos (by omega), if_pos (by omega), if_pos (by omega), rdOf_nat _ _ _ hi, rdOf_nat _ _ _ hj, l09Two_f w _ _ hs (isW_size h1) (isW_size h2) q (by omega)]
    simp only [Option.bind_some, c, if_true]
   ·
    obtain ⟨q, hq⟩ : ∃ q, q = k + d + 1 := ⟨_, rfl⟩
    rw [show k + (d + 1) + 1 = q + 1 by omega]
    simp only [impl_FirstTwo.l1]
    rw [if_pos (by omega), if_pos (by omega), if_pos (by omega), hdj, isCovered_two w _ _ hs h1 h2 q (by omega)]
    simp only [Option.bind_some, c, if_true]
  ·
   obtain ⟨o, ho, g1, g2⟩ := ih (j + 1) (by omega)
   refine ⟨o, ho, fun k hk => ?_, fun k hk => ?_⟩
   ·
    obtain ⟨q, hq⟩ : ∃ q, q = k + d + 1 := ⟨_, rfl⟩
    rw [show k + (d + 1) + 1 = q + 1 by omega]
    simp only [spec_FirstTwo.l1]
    rw [if_pos (by omega), if_pos (by omega), if_pos (by omega), if_pos (by omega), rdOf_nat _ _ _ hi, rdOf_nat _ _ _ hj, l09Two_f w _ _ hs (isW_size h1) (isW_size h2) q (by omega), wrap_succ (by omega)]
    simp only [Option.bind_some, c, if_false]
    subst hq
    exact g1 k hk
   ·
    obtain ⟨q, hq⟩ : ∃ q, q = k + d + 1 := ⟨_, rfl⟩
    rw [show k + (d + 1) + 1 = q + 1 by omega]
    simp only [impl_FirstTwo.l1]
    rw [if_pos (by omega), if_pos (by omega), if_pos (by omega), hdj, isCovered_two w _ _ hs h1 h2 q (by omega), wrap_succ (by omega)]
    simp only [Option.bind_some, c, if_false]
    subst hq
    exact g2 k hk
theorem ft_i0 (w : ByteArray) (hw : isW w = true) (l : List ByteArray) (hl : l.length ≤ 100) (hall : ∀ x ∈ l, isW x = true) : ∀ (d i : Nat), i + d = l.length → ∃ r : List ByteArray × Int, (r.1.length ≤ 2 ∧ TwoOf w l r) ∧ (∀ k, 30000 + d * 200 < k → spec_FirstTwo.l0 k w l (i : Int) = some r) ∧ (∀ k, 30000 + d * 200 < k → impl_FirstTwo.l0 k w l l (l.length : Int) (i : Int) = some r) := by
 intro d
 induction d with
 | zero =>
  intro i hd
  refine ⟨([], 4), ⟨by simp, fun h => absurd h (by decide)⟩, fun k hk => ?_, fun k hk => ?_⟩
  ·
   obtain ⟨k, rfl⟩ : ∃ n, k = n + 1 := ⟨k - 1, by omega⟩
   simp only [spec_FirstTwo.l0]; rw [if_neg (by omega)]
  ·
   obtain ⟨k, rfl⟩ : ∃ n, k = n + 1 := ⟨k - 1, by omega⟩
   simp only [impl_FirstTwo.l0]; rw [if_neg (by omega)]
 | succ d ih =>
  intro i hd
  obtain ⟨o, ho, g1, g2⟩ := ft_i1 w hw l hl hall i (by omega) d 0 (by omega)
  obtain ⟨r, hr, h1, h2⟩ := ih (i + 1) (by omega)
  refine ⟨o.getD r, ?_, fun k hk => ?_, fun k hk => ?_⟩
  ·
   cases o with
   | none => exact hr
   | some q => exact ho q rfl
  ·
   obtain ⟨k, rfl⟩ : ∃ n, k = n + d + 1 + 1 := ⟨k - d - 2, by omega⟩
   simp only [spec_FirstTwo.l0]
   rw [if_pos (by omega), wrap_succ (by omega)]
   have g := g1 k (by omega)
   rw [Nat.add_zero] at g
   rw [g]
   cases o with
   | none => exact h1 k (by omega)
   | some q => rfl
  ·
   obtain ⟨k, rfl⟩ : ∃ n, k = n + d + 1 + 1 := ⟨k - d - 2, by omega⟩
   simp only [impl_FirstTwo.l0]
   rw [if_pos (by omega), if_pos (by omega), if_pos (by omega), wrap_succ (by omega), if_pos (by omega), if_pos (by omega), Int.toNat_natCast, rdOf_nat _ _ _ (by omega)]
   have g := g2 k (by omega)
   simp only [Option.bind_some]
   rw [show (0 : Int) = ((0 : Nat) : Int) from rfl, g]
   cases o with
   | none => exact h2 k (by omega)
   | some q => rfl
theorem firstTwo_ev (w : ByteArray) (m : Int) (hw : w.size ≤ 100000) : ∃ r : List ByteArray × Int, r.1.length ≤ 4000000000000 ∧ (r.2 = 0 → isW w = true ∧ ∃ n : Nat, 1 ≤ n ∧ ∃ i j, ∃ hi : i < (fac w n).length, ∃ hj : j < (fac w n).length, i < j ∧ r.1 = [(fac w n)[i], (fac w n)[j]] ∧ isC2 w (fac w n)[i] (fac w n)[j] = true) ∧ Ev (fun k => spec_FirstTwo.f k w m) r ∧ Ev (fun k => impl_FirstTwo.f k w m) r := by
 unfold spec_FirstTwo.f impl_FirstTwo.f impl_FirstTwo_1.f impl_isCoverLength.f
 simp only [within_f, wordCode_f, Option.bind_some]
 by_cases h0 : codeW (inR m 1 60) [w] = 0
 ·
  obtain ⟨n, rfl, hn0, hn⟩ := range_nat h0 (by omega)
  have hs := sz_word h0
  have hw1 : isW w = true := by have := (codeW_zero.1 h0).1; simpa using this
  have hl := fac_length_le w n
  obtain ⟨r, hr, g1, g2⟩ := ft_i0 w hw1 (fac w n) (by omega) (fun x hx => by obtain ⟨_, _, i, j, rfl⟩ := fac_of hx; exact isW_extract hw1 _ _) (fac w n).length 0 (by omega)
  refine ⟨r, by have := hr.1; omega, fun h => ⟨hw1, n, by omega, hr.2 h⟩, ev_bnd (l09Length_ev w _ (by omega)) ?_, ?_⟩
  ·
   simp only [h0, if_true]
   exact ev_bnd (spec_factors_ev w n (by omega) (by omega)) ⟨60000, fun k hk => g1 k (by omega)⟩
  ·
   simp only [h0, if_true]
   exact ev_bnd (impl_factors_ev w n (by omega) (by omega)) ⟨60000, fun k hk => g2 k (by omega)⟩
 ·
  refine ⟨([], codeW (inR m 1 60) [w]), by simp, fun h => absurd h h0, ev_bnd (l09Length_ev w _ (by omega)) ?_, ?_⟩
  ·
   simp only [h0, if_false]; exact ev_of rfl
  ·
   simp only [h0, if_false]; exact ev_of rfl

/-- The code of a word and two words that are to cover it. -/
def cod3 (w u v : ByteArray) : Int := codeW (filled [u, v]) (w :: [u, v])
theorem cod3_of {w u v : ByteArray} (h1 : isW w = true) (h2 : isW u = true) (h3 : 0 < u.size) (h4 : isW v = true) (h5 : 0 < v.size) : cod3 w u v = 0 := by
 refine codeW_zero.2 ⟨by simp [h1, h2, h4], ?_⟩
 have e1 : ¬ u.toList = ([] : List UInt8) := fun e => by have := (empty_iff u).1 e; omega
 have e2 : ¬ v.toList = ([] : List UInt8) := fun e => by have := (empty_iff v).1 e; omega
 simp [filled, e1, e2]
theorem coveredByTwo_ev (w u v : ByteArray) (hw : w.size ≤ 100000) (hu : u.size ≤ 100000) (hv : v.size ≤ 100000) : ∃ r : Bool × Int, (cod3 w u v = 0 → r = (isC2 w u v, 0)) ∧ Ev (fun k => spec_CoveredByTwo.f k w u v) r ∧ Ev (fun k => impl_CoveredByTwo.f k w u v) r := by
 unfold spec_CoveredByTwo.f impl_CoveredByTwo.f
 have hcode := l09Code_ev w [u, v] (by omega) (by simp) (fun v hv => by simp only [List.mem_cons, List.not_mem_nil, or_false] at hv; rcases hv with rfl | rfl; all_goals omega)
 simp only [coverCode_f _ _ w [u, v] (by simp), Bool.true_and, Option.bind_some]
 by_cases h0 : codeW (filled [u, v]) (w :: [u, v]) = 0
 ·
  have hall0 := (codeW_zero.1 h0).1
  rw [List.all_eq_true] at hall0
  have hw1 : isW w = true := hall0 w (by simp)
  have hs := isW_size hw1
  have hall : ∀ x ∈ [u, v], isW x = true := fun x hx => hall0 x (List.mem_cons_of_mem _ hx)
  have hu1 : isW u = true := hall u (by simp)
  have hu2 := isW_size hu1
  have hv1 : isW v = true := hall v (by simp)
  have hv2 := isW_size hv1
  refine ⟨(isC2 w u v, 0), fun _ => rfl, ev_bnd hcode ?_, ?_⟩
  ·
   simp only [h0, if_true]
   exact ev_bnd ⟨10001, fun k hk => l09Two_f w u v hs hu2 hv2 k (by omega)⟩ (ev_of rfl)
  ·
   simp only [h0, if_true]
   exact ev_bnd ⟨10001, fun k hk => isCovered_two w u v hs hu1 hv1 k (by omega)⟩ (ev_of rfl)
 ·
  refine ⟨(false, codeW (filled [u, v]) (w :: [u, v])), fun h => absurd h h0, ev_bnd hcode ?_, ?_⟩
  ·
   simp only [h0, if_false]; exact ev_of rfl
  ·
   simp only [h0, if_false]; exact ev_of rfl


end Go.Proofs.YtcfphjjdbccnoaaGreat.PF
