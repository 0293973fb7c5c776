/- All palindromes of a word: the program's list and the reference's list. -/
import Derived.Test.YthifbnojmoknmaaPFLibO
import Derived.Test.YthifbnojmoknmaaPFLibF
import Derived.Test.YthifbnojmoknmaaPFLibFp
import Derived.Test.YthifbnojmoknmaaPFx11
import Derived.Test.YthifbnojmoknmaaPFx7
namespace Go.Proofs.Ythifbnojmoknmaa.PF
open Go.RowKit Go.Proofs.YthifbnojmoknmaaW.PrintWords Go.Proofs.YthifbnojmoknmaaW.PrintLast Go.Proofs.YthifbnojmoknmaaW.PrintMore
set_option linter.unusedVariables false
set_option linter.unusedSimpArgs false

/-- The palindromes of a length, in order. -/
def pals (w : ByteArray) (m : Nat) : List ByteArray := (fac w m).filter isPal
def palsFrom (w : ByteArray) : Nat → Nat → List ByteArray
  | 0, _ => []
  | d + 1, m => pals w m ++ palsFrom w d (m + 1)
def palAll (w : ByteArray) : List ByteArray := palsFrom w w.size 1

theorem pals_length (w : ByteArray) (m : Nat) : (pals w m).length ≤ w.size + 1 := by
  have h1 := List.length_filter_le isPal (fac w m)
  have h2 := fac_length_le w m
  unfold pals; omega
theorem palsFrom_length (w : ByteArray) (hw : w.size ≤ 60) : ∀ d m, (palsFrom w d m).length ≤ d * 61
  | 0, _ => Nat.le_refl _
  | d + 1, m => by
    have h1 := pals_length w m
    have h2 := palsFrom_length w hw d (m + 1)
    rw [palsFrom, List.length_append]; omega
theorem palAll_length (w : ByteArray) (hw : w.size ≤ 60) : (palAll w).length ≤ 60 * 61 := by
  have := palsFrom_length w hw w.size 1
  unfold palAll
  have h : w.size * 61 ≤ 60 * 61 := Nat.mul_le_mul_right _ hw
  omega

theorem canon_filter (w : ByteArray) (m : Nat) : canon ((fcs w m).filter isPal) = pals w m := by
  refine (canon_eq (List.Pairwise.filter _ (fac_SS w m)) fun x => ?_).symm
  rw [List.mem_filter, List.mem_filter, fac, mem_canon]

theorem all_l1 (w : ByteArray) (hw : w.size ≤ 60) (m : Nat) (hm : m ≤ 61) (l : List ByteArray) (hl : l.length ≤ 1000000) : ∀ (d k i : Nat) (acc : List ByteArray), i + d = plc w m → acc.length ≤ i → 200 < k →
    spec_l04All.l1 (k + d + 1) w l (m : Int) (canon acc) (i : Int) = spec_l04All.l0 k w (l ++ canon (acc ++ (fcsFrom w m d i).filter isPal)) ((m + 1 : Nat) : Int) := by
  intro d
  induction d with
  | zero =>
    intro k i acc hd ha hk
    have hc := canon_length_le acc
    unfold plc at hd
    simp only [spec_l04All.l1]
    rw [wrap_nat (n := i + m) (by omega) (by omega), if_neg (by omega), if_pos (by omega), wrap_succ (by omega)]
    simp [fcsFrom]
  | succ d ih =>
    intro k i acc hd ha hk
    have hd' := hd
    unfold plc at hd'
    obtain ⟨q, hq⟩ : ∃ q, q = k + d + 1 := ⟨_, rfl⟩
    rw [show k + (d + 1) + 1 = q + 1 by omega]
    simp only [spec_l04All.l1]
    rw [wrap_nat (n := i + m) (by omega) (by omega), if_pos (by omega), if_pos (by omega), if_pos (by omega), Int.toNat_natCast, Int.toNat_natCast, l04Is_f _ (by rw [ByteArray.size_extract]; omega) q (by rw [ByteArray.size_extract]; omega), wrap_succ (by omega)]
    simp only [Option.bind_some]
    rw [fcsFrom, List.filter_cons]
    by_cases c : isPal (w.extract i (i + m)) = true
    · rw [if_pos c, if_pos c, put_ev acc _ (by omega) q (by omega)]
      simp only [Option.bind_some]
      subst hq
      rw [ih k (i + 1) _ (by omega) (by simp; omega) hk]; simp
    · rw [if_neg c, if_neg c]
      subst hq
      rw [ih k (i + 1) _ (by omega) (by omega) hk]

theorem all_l0 (w : ByteArray) (hw : w.size ≤ 60) : ∀ (d k m : Nat) (l : List ByteArray), m + d = w.size + 1 → 1 ≤ m → l.length ≤ m * 61 → d * 100 + 1000 < k →
    spec_l04All.l0 k w l (m : Int) = some (l ++ palsFrom w d m) := by
  intro d
  induction d with
  | zero =>
    intro k m l hd hm hl hk
    obtain ⟨k, rfl⟩ : ∃ n, k = n + 1 := ⟨k - 1, by omega⟩
    simp only [spec_l04All.l0]
    rw [if_neg (by omega)]; simp [palsFrom]
  | succ d ih =>
    intro k m l hd hm hl hk
    have hpl : plc w m ≤ 61 := by unfold plc; omega
    obtain ⟨k, rfl⟩ : ∃ n, k = n + plc w m + 1 + 1 := ⟨k - plc w m - 2, by omega⟩
    have h1 := all_l1 w hw m (by omega) l (by omega) (plc w m) k 0 [] (by omega) (by simp) (by omega)
    have h2 := pals_length w m
    simp only [spec_l04All.l0]
    rw [canon_nil, List.nil_append] at h1
    rw [if_pos (by omega), show (0 : Int) = ((0 : Nat) : Int) from rfl, h1, show canon ((fcsFrom w m (plc w m) 0).filter isPal) = pals w m from canon_filter w m, ih k (m + 1) _ (by omega) (by omega) (by rw [List.length_append]; omega) (by omega), palsFrom]
    simp
theorem l04All_f (w : ByteArray) (hw : w.size ≤ 60) (k : Nat) (hk : 8000 < k) : spec_l04All.f k w = some (palAll w) := by
  have h := all_l0 w hw w.size k 1 [] (by omega) (by omega) (by simp) (by omega)
  exact h
theorem pal_l0 (w : ByteArray) (hw : w.size ≤ 60) : ∀ (d k m : Nat) (l : List ByteArray), m + d = w.size + 1 → 1 ≤ m → l.length ≤ m * 61 → d + 1000 < k →
    impl_palindromes.l0 k w l (m : Int) = some (l ++ palsFrom w d m) := by
  intro d
  induction d with
  | zero =>
    intro k m l hd hm hl hk
    obtain ⟨k, rfl⟩ : ∃ n, k = n + 1 := ⟨k - 1, by omega⟩
    simp only [impl_palindromes.l0]
    rw [if_neg (by omega)]; simp [palsFrom]
  | succ d ih =>
    intro k m l hd hm hl hk
    obtain ⟨k, rfl⟩ : ∃ n, k = n + 1 := ⟨k - 1, by omega⟩
    have hf : impl_factors.f k w (m : Int) = some (fac w m) := by
      have h := impl_factors_loop w m (by omega) (by omega) (plc w m) k 0 [] (by omega) rfl (by unfold plc; omega)
      exact h
    have hdel : slices_DeleteFunc_string_string.f k (fac w m) (fun z0_ => impl_palindromes_1.f z0_) = some (pals w m) := by
      show filterP _ _ = _
      rw [filterP_some (q := fun u => !isPal u) _ (fun u hu => by
        obtain ⟨j, h1, rfl⟩ := (mem_fac w m u).1 hu
        show impl_palindromes_1.f _ = _
        unfold impl_palindromes_1.f
        rw [isPal_f _ (by rw [ByteArray.size_extract]; omega)]; rfl)]
      simp only [Bool.not_not]; rfl
    have h2 := pals_length w m
    simp only [impl_palindromes.l0]
    rw [if_pos (by omega), hf]
    simp only [Option.bind_some]
    rw [hdel]
    simp only [Option.bind_some]
    rw [if_pos (by omega), wrap_succ (by omega), ih k (m + 1) _ (by omega) (by omega) (by rw [List.length_append]; omega) (by omega), palsFrom]
    simp
theorem palindromes_f (w : ByteArray) (hw : w.size ≤ 60) (k : Nat) (hk : 2000 < k) : impl_palindromes.f k w = some (palAll w) := by
  have h := pal_l0 w hw w.size k 1 [] (by omega) (by omega) (by simp) (by omega)
  exact h

end Go.Proofs.Ythifbnojmoknmaa.PF
