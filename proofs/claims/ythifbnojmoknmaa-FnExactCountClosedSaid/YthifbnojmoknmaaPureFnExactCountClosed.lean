/- The program's CountClosed and the reference's CountClosed return the same two numbers and the same code: how many different factors are closed, and how many are privileged. -/
import Derived.Test.YthifbnojmoknmaaPFLibCl
import Derived.Test.YthifbnojmoknmaaPFLibF
import Derived.Test.YthifbnojmoknmaaPFLibQ
import Derived.Test.YthifbnojmoknmaaPFx14
namespace Go.Proofs.Ythifbnojmoknmaa.Pure
open Go.RowKit Go.Proofs.Ythifbnojmoknmaa.PF Go.Proofs.YthifbnojmoknmaaW.PrintWords Go.Proofs.YthifbnojmoknmaaW.PrintLast
set_option linter.unusedSimpArgs false
set_option linter.unusedVariables false
set_option maxRecDepth 20000

/-- How many words of a list are as told. -/
def cntB (q : ByteArray → Bool) : List ByteArray → Nat
  | [] => 0
  | x :: l => (if q x = true then 1 else 0) + cntB q l
theorem cntB_le (q : ByteArray → Bool) : ∀ l, cntB q l ≤ l.length
  | [] => Nat.le_refl _
  | x :: l => by have := cntB_le q l; rw [cntB, List.length_cons]; split <;> omega

/-- The numbers of closed and of privileged factors, from a length on. -/
def ccF (P : ByteArray → Bool) (w : ByteArray) : Nat → Nat → Nat → Nat → Int × Int × Int
  | 0, _, c, p => ((c : Int), (p : Int), 0)
  | d + 1, m, c, p => ccF P w d (m + 1) (c + cntB clo (fac w m)) (p + cntB P (fac w m))

theorem impl_cc1 (P : ByteArray → Bool) (hP : ∀ (x : ByteArray) (k : Nat), x.size ≤ 60 → 300 < k → impl_isPrivileged.f k x = some (P x)) (w : ByteArray) (hw : w.size ≤ 60) (m : Nat) (l : List ByteArray) (hl : ∀ x ∈ l, x.size ≤ 60) (hll : l.length ≤ 100) : ∀ (d k i c p : Nat), i + d = l.length → c + d ≤ 100000 → p + d ≤ 100000 → m ≤ 100 → 400 < k →
    impl_CountClosed.l1 (k + d + 1) w (c : Int) (p : Int) (m : Int) l (l.length : Int) (i : Int) = impl_CountClosed.l0 k w ((c + cntB clo (l.drop i) : Nat) : Int) ((p + cntB P (l.drop i) : Nat) : Int) ((m + 1 : Nat) : Int) := by
  intro d
  induction d with
  | zero =>
    intro k i c p hd hc hp hm hk
    simp only [impl_CountClosed.l1]
    rw [if_neg (by omega), List.drop_eq_nil_of_le (by omega), wrap_succ (by omega)]; rfl
  | succ d ih =>
    intro k i c p hd hc hp hm hk
    obtain ⟨q, hq⟩ : ∃ q, q = k + d + 1 := ⟨_, rfl⟩
    rw [show k + (d + 1) + 1 = q + 1 by omega]
    have hx : l[i]'(by omega) ∈ l := List.getElem_mem _
    have hs := hl _ hx
    simp only [impl_CountClosed.l1]
    rw [if_pos (by omega), if_pos (by omega), if_pos (by omega), rdOf_nat _ l i (by omega), isClosed_f _ hs q (by omega)]
    simp only [Option.bind_some]
    rw [hP _ q hs (by omega), List.drop_eq_getElem_cons (by omega : i < l.length)]
    simp only [Option.bind_some, cntB]
    have hw1 : wrap64 ((i : Int) + 1) = ((i + 1 : Nat) : Int) := wrap_succ (by omega)
    have hwc : wrap64 ((c : Int) + 1) = ((c + 1 : Nat) : Int) := wrap_succ (by omega)
    have hwp : wrap64 ((p : Int) + 1) = ((p + 1 : Nat) : Int) := wrap_succ (by omega)
    rw [hw1, hwc, hwp]
    subst hq
    have e1 : c + 1 + cntB clo (l.drop (i + 1)) = c + (1 + cntB clo (l.drop (i + 1))) := by omega
    have e2 : p + 1 + cntB P (l.drop (i + 1)) = p + (1 + cntB P (l.drop (i + 1))) := by omega
    have g1 : i + 1 + d = l.length := by omega
    have g2 : c + d ≤ 100000 := Nat.le_of_succ_le hc
    have g3 : c + 1 + d ≤ 100000 := by rw [Nat.add_right_comm]; exact hc
    have g4 : p + d ≤ 100000 := Nat.le_of_succ_le hp
    have g5 : p + 1 + d ≤ 100000 := by rw [Nat.add_right_comm]; exact hp
    clear hw1 hwc hwp
    cases h1 : clo l[i] <;> cases h2 : P l[i]
    · simp only [Bool.false_eq_true, if_false, Nat.zero_add]; exact ih k (i + 1) c p g1 g2 g4 hm hk
    · simp only [Bool.false_eq_true, if_false, if_true, Nat.zero_add]; rw [ih k (i + 1) c (p + 1) g1 g2 g5 hm hk, e2]
    · simp only [Bool.false_eq_true, if_false, if_true, Nat.zero_add]; rw [ih k (i + 1) (c + 1) p g1 g3 g4 hm hk, e1]
    · simp only [if_true]; rw [ih k (i + 1) (c + 1) (p + 1) g1 g3 g5 hm hk, e1, e2]

theorem spec_cc2 (P : ByteArray → Bool) (hP : ∀ (x : ByteArray) (k : Nat), x.size ≤ 60 → 6500 < k → spec_l04Closed.f k x true = some (P x)) (w : ByteArray) (hw : w.size ≤ 60) (m : Nat) (l : List ByteArray) (hl : ∀ x ∈ l, x.size ≤ 60) (hll : l.length ≤ 100) : ∀ (d k i c p : Nat), i + d = l.length → c + d ≤ 100000 → p + d ≤ 100000 → m ≤ 100 → 7000 < k →
    spec_CountClosed.l2 (k + d + 1) w (c : Int) (p : Int) (m : Int) l (i : Int) = spec_CountClosed.l0 k w ((c + cntB clo (l.drop i) : Nat) : Int) ((p + cntB P (l.drop i) : Nat) : Int) ((m + 1 : Nat) : Int) := by
  intro d
  induction d with
  | zero =>
    intro k i c p hd hc hp hm hk
    simp only [spec_CountClosed.l2]
    rw [if_neg (by omega), List.drop_eq_nil_of_le (by omega), wrap_succ (by omega)]; rfl
  | succ d ih =>
    intro k i c p hd hc hp hm hk
    obtain ⟨q, hq⟩ : ∃ q, q = k + d + 1 := ⟨_, rfl⟩
    rw [show k + (d + 1) + 1 = q + 1 by omega]
    have hx : l[i]'(by omega) ∈ l := List.getElem_mem _
    have hs := hl _ hx
    simp only [spec_CountClosed.l2]
    rw [if_pos (by omega), if_pos (by omega), rdOf_nat _ l i (by omega), closed_f 60 _ false q hs hs (by omega)]
    simp only [Option.bind_some]
    rw [hP _ q hs (by omega), List.drop_eq_getElem_cons (by omega : i < l.length)]
    simp only [Option.bind_some, cntB, if_true, Bool.false_eq_true, if_false]
    have hw1 : wrap64 ((i : Int) + 1) = ((i + 1 : Nat) : Int) := wrap_succ (by omega)
    have hwc : wrap64 ((c : Int) + 1) = ((c + 1 : Nat) : Int) := wrap_succ (by omega)
    have hwp : wrap64 ((p : Int) + 1) = ((p + 1 : Nat) : Int) := wrap_succ (by omega)
    rw [hw1, hwc, hwp]
    subst hq
    have e1 : c + 1 + cntB clo (l.drop (i + 1)) = c + (1 + cntB clo (l.drop (i + 1))) := by omega
    have e2 : p + 1 + cntB P (l.drop (i + 1)) = p + (1 + cntB P (l.drop (i + 1))) := by omega
    have g1 : i + 1 + d = l.length := by omega
    have g2 : c + d ≤ 100000 := Nat.le_of_succ_le hc
    have g3 : c + 1 + d ≤ 100000 := by rw [Nat.add_right_comm]; exact hc
    have g4 : p + d ≤ 100000 := Nat.le_of_succ_le hp
    have g5 : p + 1 + d ≤ 100000 := by rw [Nat.add_right_comm]; exact hp
    clear hw1 hwc hwp
    cases h1 : clo l[i] <;> cases h2 : P l[i]
    · simp only [Bool.false_eq_true, if_false, Nat.zero_add]; exact ih k (i + 1) c p g1 g2 g4 hm hk
    · simp only [Bool.false_eq_true, if_false, if_true, Nat.zero_add]; rw [ih k (i + 1) c (p + 1) g1 g2 g5 hm hk, e2]
    · simp only [Bool.false_eq_true, if_false, if_true, Nat.zero_add]; rw [ih k (i + 1) (c + 1) p g1 g3 g4 hm hk, e1]
    · simp only [if_true]; rw [ih k (i + 1) (c + 1) (p + 1) g1 g3 g5 hm hk, e1, e2]

theorem spec_cc1 (w : ByteArray) (hw : w.size ≤ 60) (m : Nat) (hm : m ≤ 61) (c p : Int) : ∀ (d k i : Nat) (acc : List ByteArray), i + d = plc w m → acc.length ≤ i → 200 < k →
    spec_CountClosed.l1 (k + d + 1) w c p (m : Int) (canon acc) (i : Int) = spec_CountClosed.l2 k w c p (m : Int) (canon (acc ++ fcsFrom w m d i)) 0 := by
  intro d
  induction d with
  | zero =>
    intro k i acc hd ha hk
    unfold plc at hd
    simp only [spec_CountClosed.l1]
    rw [wrap_nat (n := i + m) (by omega) (by omega), if_neg (by omega)]
    simp [fcsFrom]
  | succ d ih =>
    intro k i acc hd ha hk
    have hd' := hd
    unfold plc at hd'
    obtain ⟨q, hq⟩ : ∃ q, q = k + d + 1 := ⟨_, rfl⟩
    rw [show k + (d + 1) + 1 = q + 1 by omega]
    simp only [spec_CountClosed.l1]
    rw [wrap_nat (n := i + m) (by omega) (by omega), if_pos (by omega), if_pos (by omega), if_pos (by omega), Int.toNat_natCast, Int.toNat_natCast, put_ev acc _ (by omega) q (by omega), wrap_succ (by omega)]
    simp only [Option.bind_some]
    subst hq
    rw [ih k (i + 1) _ (by omega) (by simp; omega) hk, fcsFrom]
    simp

theorem fac_small (w : ByteArray) (hw : w.size ≤ 60) (m : Nat) : ∀ x ∈ fac w m, x.size ≤ 60 := by
  intro x hx
  obtain ⟨j, h1, rfl⟩ := (mem_fac w m x).1 hx
  rw [ByteArray.size_extract]; omega

theorem impl_cc0 (P : ByteArray → Bool) (hP : ∀ (x : ByteArray) (k : Nat), x.size ≤ 60 → 300 < k → impl_isPrivileged.f k x = some (P x)) (w : ByteArray) (hw : w.size ≤ 60) : ∀ (d k m c p : Nat), m + d = w.size + 1 → 1 ≤ m → c ≤ m * 100 → p ≤ m * 100 → d * 100 + 1000 < k → impl_CountClosed.l0 k w (c : Int) (p : Int) (m : Int) = some (ccF P w d m c p) := by
  intro d
  induction d with
  | zero =>
    intro k m c p hd hm hc hp hk
    obtain ⟨k, rfl⟩ : ∃ n, k = n + 1 := ⟨k - 1, by omega⟩
    simp only [impl_CountClosed.l0]
    rw [if_neg (by omega)]; rfl
  | succ d ih =>
    intro k m c p hd hm hc hp hk
    have hfl := fac_length_le w m
    have h1 := cntB_le clo (fac w m)
    have h2 := cntB_le P (fac w m)
    obtain ⟨k, rfl⟩ : ∃ n, k = (n + (fac w m).length + 1) + 1 := ⟨k - (fac w m).length - 2, by omega⟩
    obtain ⟨q, hq⟩ : ∃ q, q = k + (fac w m).length + 1 := ⟨_, rfl⟩
    have hf : impl_factors.f q w (m : Int) = some (fac w m) := by
      have h := impl_factors_loop w m (by omega) (by omega) (plc w m) q 0 [] (by omega) rfl (by unfold plc; omega)
      exact h
    have hl := impl_cc1 P hP w hw m (fac w m) (fac_small w hw m) (by omega) (fac w m).length k 0 c p (by omega) (by omega) (by omega) (by omega) (by omega)
    rw [← hq] at hl ⊢
    simp only [impl_CountClosed.l0]
    rw [if_pos (by omega), hf]
    simp only [Option.bind_some]
    rw [show (0 : Int) = ((0 : Nat) : Int) from rfl, hl, List.drop_zero, ih k (m + 1) _ _ (by omega) (by omega) (by omega) (by omega) (by omega), ccF]

theorem spec_cc0 (P : ByteArray → Bool) (hP : ∀ (x : ByteArray) (k : Nat), x.size ≤ 60 → 6500 < k → spec_l04Closed.f k x true = some (P x)) (w : ByteArray) (hw : w.size ≤ 60) : ∀ (d k m c p : Nat), m + d = w.size + 1 → 1 ≤ m → c ≤ m * 100 → p ≤ m * 100 → d * 200 + 8000 < k → spec_CountClosed.l0 k w (c : Int) (p : Int) (m : Int) = some (ccF P w d m c p) := by
  intro d
  induction d with
  | zero =>
    intro k m c p hd hm hc hp hk
    obtain ⟨k, rfl⟩ : ∃ n, k = n + 1 := ⟨k - 1, by omega⟩
    simp only [spec_CountClosed.l0]
    rw [if_neg (by omega)]; rfl
  | succ d ih =>
    intro k m c p hd hm hc hp hk
    have hfl := fac_length_le w m
    have hpl : plc w m ≤ 61 := by unfold plc; omega
    have h1 := cntB_le clo (fac w m)
    have h2 := cntB_le P (fac w m)
    obtain ⟨k, rfl⟩ : ∃ n, k = ((n + (fac w m).length + 1) + plc w m + 1) + 1 := ⟨k - (fac w m).length - plc w m - 3, by omega⟩
    have hl1 := spec_cc1 w hw m (by omega) (c : Int) (p : Int) (plc w m) (k + (fac w m).length + 1) 0 [] (by omega) (by simp) (by omega)
    have hl := spec_cc2 P hP w hw m (fac w m) (fac_small w hw m) (by omega) (fac w m).length k 0 c p (by omega) (by omega) (by omega) (by omega) (by omega)
    simp only [spec_CountClosed.l0]
    rw [canon_nil, List.nil_append] at hl1
    rw [if_pos (by omega), show (0 : Int) = ((0 : Nat) : Int) from rfl, hl1, show canon (fcsFrom w m (plc w m) 0) = fac w m from rfl, show (0 : Int) = ((0 : Nat) : Int) from rfl, hl, List.drop_zero, ih k (m + 1) _ _ (by omega) (by omega) (by omega) (by omega) (by omega), ccF]

theorem pvi (x : ByteArray) (k : Nat) (hx : x.size ≤ 60) (hk : 300 < k) : impl_isPrivileged.f k x = some (prv 61 x) := isPriv_f 60 x k hx hx (by omega)
theorem pvs (x : ByteArray) (k : Nat) (hx : x.size ≤ 60) (hk : 6500 < k) : spec_l04Closed.f k x true = some (prv 61 x) := closed_f 60 x true k hx hx (by omega)

theorem FnExactCountClosed : laws_FnExactCountClosed.Pure := by
  intro w hw
  refine ev_get ?_
  unfold laws_FnExactCountClosed.f
  by_cases hgw : (w.size : Int) > 1048576
  · simp only [hgw, if_true]; exact ev_of rfl
  simp only [hgw, if_false]
  suffices h : ∃ r : Int × Int × Int, Ev (fun k => spec_CountClosed.f k w) r ∧ Ev (fun k => impl_CountClosed.f k w) r by
    obtain ⟨r, h1, h2⟩ := h
    refine ev_bnd h1 (ev_bnd h2 ?_)
    simp only [if_true]; exact ev_of rfl
  unfold spec_CountClosed.f impl_CountClosed.f impl_always.f
  simp only [wordCode_f, Option.bind_some]
  by_cases h0 : isW w = true
  · have hs := isW_size h0
    have hc : codeW true [w] = 0 := codeW_zero.2 ⟨by simp [h0], rfl⟩
    refine ⟨ccF (prv 61) w w.size 1 0 0, ev_bnd (l01Is_ev w (by omega)) ?_, ?_⟩
    · simp only [h0, if_true]
      exact ⟨30000, fun k hk => spec_cc0 _ pvs w hs w.size k 1 0 0 (by omega) (by omega) (by omega) (by omega) (by omega)⟩
    · simp only [hc, if_true]
      exact ⟨30000, fun k hk => impl_cc0 _ pvi w hs w.size k 1 0 0 (by omega) (by omega) (by omega) (by omega) (by omega)⟩
  · have hc : codeW true [w] = 1 := by simp [codeW, h0]
    refine ⟨(0, 0, 1), ev_bnd (l01Is_ev w (by omega)) ?_, ?_⟩
    · simp only [h0, if_false]; exact ev_of rfl
    · simp only [hc, show ¬ ((1 : Int) = 0) by omega, if_false]; exact ev_of rfl

end Go.Proofs.Ythifbnojmoknmaa.Pure
