/- The test of words and range, and the counts of factors, of the program and of the reference. -/
import Derived.Test.YtbhhnjlnlmemmaaPFLibG
import Derived.Test.YtbhhnjlnlmemmaaPFLibF
import Derived.Test.YtbhhnjlnlmemmaaPFx10
import Derived.Test.YtbhhnjlnlmemmaaPFx10
namespace Go.Proofs.Ytbhhnjlnlmemmaa.PF
open Go.RowKit Go.Proofs.YtbhhnjlnlmemmaaW.PrintWords Go.Proofs.YtbhhnjlnlmemmaaW.PrintLast Go.Proofs.YtbhhnjlnlmemmaaW.PrintMore
set_option linter.unusedVariables false
set_option linter.unusedSimpArgs false

theorem sz_word {w : ByteArray} {l : List ByteArray} {b : Bool} (h : codeW b (w :: l) = 0) : w.size ≤ 60 := by
  have := (codeW_zero.1 h).1
  simp only [List.all_cons, Bool.and_eq_true] at this
  exact isW_size this.1
theorem sz_word2 {w v : ByteArray} {l : List ByteArray} {b : Bool} (h : codeW b (w :: v :: l) = 0) : v.size ≤ 60 := by
  have := (codeW_zero.1 h).1
  simp only [List.all_cons, Bool.and_eq_true] at this
  exact isW_size this.2.1
theorem range_nat {l : List ByteArray} {m lo hi : Int} (h : codeW (inR m lo hi) l = 0) (h0 : 0 ≤ lo) : ∃ n : Nat, m = n ∧ lo ≤ (n : Int) ∧ (n : Int) ≤ hi := by
  have := inR_iff.1 (codeW_zero.1 h).2
  exact ⟨m.toNat, by omega, by omega, by omega⟩
theorem codeW_le {b : Bool} {l : List ByteArray} : codeW b l = 0 ∨ codeW b l = 1 ∨ codeW b l = 2 := by unfold codeW; split <;> (try split) <;> simp

/-- The numbers of factors of lengths i, i + 1, ... -/
def numF (w : ByteArray) : Nat → Nat → List Int
  | 0, _ => []
  | d + 1, i => ((fac w i).length : Int) :: numF w d (i + 1)
theorem numF_length (w : ByteArray) : ∀ d i, (numF w d i).length = d
  | 0, _ => rfl
  | d + 1, i => by rw [numF, List.length_cons, numF_length w d]

theorem numbers_loop (w : ByteArray) (hw : w.size ≤ 60) (K : Nat) (hK : ∀ m : Nat, m ≤ 60 → ∀ k, K ≤ k → spec_l01Factors.f k w (m : Int) = some (fac w m)) : ∀ (d k i : Nat) (acc : List Int), i + d = w.size + 1 → acc.length = i → d + K < k →
    spec_l05Numbers.l0 k w acc (i : Int) = some (acc ++ numF w d i) := by
  intro d
  induction d with
  | zero =>
    intro k i acc hd ha hk
    obtain ⟨k, rfl⟩ : ∃ n, k = n + 1 := ⟨k - 1, by omega⟩
    simp only [spec_l05Numbers.l0]
    rw [if_neg (by omega)]; simp [numF]
  | succ d ih =>
    intro k i acc hd ha hk
    obtain ⟨k, rfl⟩ : ∃ n, k = n + 1 := ⟨k - 1, by omega⟩
    simp only [spec_l05Numbers.l0]
    rw [if_pos (by omega), hK i (by omega) k (by omega)]
    simp only [Option.bind_some]
    rw [if_pos (by omega), wrap_succ (by omega), ih k (i + 1) _ (by omega) (by simp [ha]) (by omega)]
    simp [numF]

theorem complexity_loop (w : ByteArray) (hw : w.size ≤ 60) (K : Nat) (hK : ∀ m : Nat, m ≤ 60 → ∀ k, K ≤ k → impl_factors.f k w (m : Int) = some (fac w m)) : ∀ (d k i : Nat) (acc : List Int), i + d = w.size + 1 → acc.length = i → d + K < k →
    impl_complexity.l0 k w acc ((w.size : Int) + 1) (i : Int) = some (acc ++ numF w d i) := by
  intro d
  induction d with
  | zero =>
    intro k i acc hd ha hk
    obtain ⟨k, rfl⟩ : ∃ n, k = n + 1 := ⟨k - 1, by omega⟩
    simp only [impl_complexity.l0]
    rw [if_neg (by omega)]; simp [numF]
  | succ d ih =>
    intro k i acc hd ha hk
    obtain ⟨k, rfl⟩ : ∃ n, k = n + 1 := ⟨k - 1, by omega⟩
    simp only [impl_complexity.l0]
    rw [if_pos (by omega), hK i (by omega) k (by omega)]
    simp only [Option.bind_some]
    rw [if_pos (by omega), wrap_succ (by omega), ih k (i + 1) _ (by omega) (by simp [ha]) (by omega)]
    simp [numF]

theorem numbers_ev (w : ByteArray) (hw : w.size ≤ 60) : Ev (fun k => spec_l05Numbers.f k w) (numF w (w.size + 1) 0) := by
  refine ⟨w.size + 1000, fun k hk => ?_⟩
  have hK : ∀ m : Nat, m ≤ 60 → ∀ k, 2 * w.size + 10 ≤ k → spec_l01Factors.f k w (m : Int) = some (fac w m) := fun m hm k hk => by
    have h := spec_factors_loop w m (by omega) (by omega) (plc w m) (k - plc w m) 0 [] (by omega) rfl (by unfold plc; omega)
    rw [show k - plc w m + plc w m = k by unfold plc; omega, canon_nil] at h
    exact h
  have h := numbers_loop w hw (2 * w.size + 10) hK (w.size + 1) k 0 [] (by omega) rfl (by omega)
  exact h

theorem complexity_ev (w : ByteArray) (hw : w.size ≤ 60) : Ev (fun k => impl_complexity.f k w) (numF w (w.size + 1) 0) := by
  refine ⟨w.size + 1000, fun k hk => ?_⟩
  have hK : ∀ m : Nat, m ≤ 60 → ∀ k, w.size + 2 ≤ k → impl_factors.f k w (m : Int) = some (fac w m) := fun m hm k hk => by
    have h := impl_factors_loop w m (by omega) (by omega) (plc w m) k 0 [] (by omega) rfl (by unfold plc; omega)
    exact h
  have h := complexity_loop w hw (w.size + 2) hK (w.size + 1) k 0 [] (by omega) rfl (by omega)
  show impl_complexity.f k w = _
  unfold impl_complexity.f
  rw [wrap_id (by omega) (by omega)]
  exact h

end Go.Proofs.Ytbhhnjlnlmemmaa.PF
