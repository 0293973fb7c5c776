/- The covers of a word. -/
import Derived.Test.YtcfphjjdbccnoaaGreatPFLibY
import Derived.Test.YtcfphjjdbccnoaaGreatPFx5
namespace Go.Proofs.YtcfphjjdbccnoaaGreat.PF
open Go.RowKit Go.Proofs.YtcfphjjdbccnoaaGreatW.PrintWords Go.Proofs.YtcfphjjdbccnoaaGreatW.PrintLast Go.Proofs.YtcfphjjdbccnoaaGreatW.PrintMore
set_option linter.unusedVariables false
set_option linter.unusedSimpArgs false

/-! ### pieces of words -/
theorem bytes_extract (w : ByteArray) (i j : Nat) : bytesOf (w.extract i j) = ((bytesOf w).take j).drop i := by
 simp [bytesOf, ByteArray.data_extract, List.map_drop, List.map_take, List.drop_take]
theorem isW_extract {w : ByteArray} (h : isW w = true) (i j : Nat) : isW (w.extract i j) = true := by
 simp only [isW, Bool.and_eq_true, decide_eq_true_eq, List.all_eq_true] at h ⊢
 refine ⟨by rw [ByteArray.size_extract]; omega, fun x hx => h.2 x ?_⟩
 rw [bytes_extract] at hx
 exact List.mem_of_mem_take (List.mem_of_mem_drop hx)

/-! ### covers -/
theorem isCovered_one (w u : ByteArray) (hw : w.size ≤ 60) (hu : isW u = true) (k : Nat) (hk : 10000 < k) : impl_isCovered.f k w [u] = some (isC w u) := by
 unfold impl_isCovered.f
 rw [covered_one w u hw hu k (by omega)]
 simp only [Option.bind_some]
 rw [containsB_f _ (by rw [cov_length]; omega) k (by rw [cov_length]; omega)]
 simp only [Option.bind_some, Bool.not_not]; rfl

def cvF (w : ByteArray) : Nat → Nat → List ByteArray
 | 0, _ => []
 | d + 1, m => if isC w (w.extract 0 m) = true then w.extract 0 m :: cvF w d (m + 1) else cvF w d (m + 1)
/-- The covers of a word, by length. -/
def cvs (w : ByteArray) : List ByteArray := cvF w w.size 1
theorem cvF_length (w : ByteArray) : ∀ d m, (cvF w d m).length ≤ d
 | 0, _ => Nat.le_refl _
 | d + 1, m => by
  have := cvF_length w d (m + 1)
  rw [cvF]; split
  ·
   rw [List.length_cons]; omega
  ·
   omega
theorem cvs_length (w : ByteArray) : (cvs w).length ≤ w.size := cvF_length w _ _

theorem impl_covers_loop (w : ByteArray) (hw : isW w = true) : ∀ (d k m : Nat) (acc : List ByteArray), m + d = w.size + 1 → acc.length ≤ m → 10000 + d < k → impl_covers.l0 k w acc (m : Int) = some (acc ++ cvF w d m) := by
 have hs := isW_size hw
 intro d
 induction d with
 | zero =>
  intro k m acc hd ha hk
  obtain ⟨k, rfl⟩ : ∃ n, k = n + 1 := ⟨k - 1, by omega⟩
  simp only [impl_covers.l0]
  rw [if_neg (by omega)]; simp [cvF]
 | succ d ih =>
  intro k m acc hd ha hk
  obtain ⟨k, rfl⟩ : ∃ n, k = n + 1 := ⟨k - 1, by omega⟩
  simp only [impl_covers.l0]
  rw [if_pos (by omega), if_pos (by omega), Int.toNat_natCast, isCovered_one w _ hs (isW_extract hw _ _) k (by omega), wrap_succ (by omega)]
  simp only [Option.bind_some]
  by_cases c : isC w (w.extract 0 m) = true
  ·
   rw [if_pos c, if_pos (by omega), ih k (m + 1) _ (by omega) (by simp; omega) (by omega), cvF, if_pos c]; simp
  ·
   rw [if_neg c, ih k (m + 1) _ (by omega) (by omega) (by omega), cvF, if_neg c]
theorem impl_covers_f (w : ByteArray) (hw : isW w = true) (k : Nat) (hk : 10100 < k) : impl_covers.f k w = some (cvs w) := by
 have hs := isW_size hw
 have h := impl_covers_loop w hw w.size k 1 [] (by omega) (by simp) (by omega)
 exact h

/-! ### a word covers itself -/
theorem allT_of {l : List Bool} (h : ∀ j, j < l.length → l.getD j false = true) : allT l = true := by
 rw [allT, List.all_eq_true]
 intro x hx
 obtain ⟨j, hj, rfl⟩ := List.getElem_of_mem hx
 have := h j hj
 rw [List.getD_eq_getElem?_getD, List.getElem?_eq_getElem hj] at this
 exact this
theorem allT_get {l : List Bool} (h : allT l = true) (j : Nat) (hj : j < l.length) : l.getD j false = true := by
 rw [allT, List.all_eq_true] at h
 rw [List.getD_eq_getElem?_getD, List.getElem?_eq_getElem hj]
 exact h _ (List.getElem_mem _)
theorem extract_all (w : ByteArray) : w.extract 0 w.size = w := by simp
theorem plcs_has (w v : ByteArray) : ∀ (d i j : Nat), i ≤ j → j < i + d → j + v.size ≤ w.size → w.extract j (j + v.size) = v → (j : Int) ∈ plcs w v d i
 | 0, i, j, h1, h2, _, _ => by omega
 | d + 1, i, j, h1, h2, h3, h4 => by
  rw [plcs]
  by_cases e : j = i
  ·
   subst e; rw [if_pos ⟨h3, h4⟩]; simp
  ·
   have := plcs_has w v d (i + 1) j (by omega) (by omega) h3 h4
   split
   ·
    simp [this]
   ·
    exact this
theorem isC_self (w : ByteArray) : isC w w = true := by
 refine allT_of fun j hj => ?_
 rw [cov_length] at hj
 rw [cov, covP, setAll_get]
 have h0 : ((0 : Nat) : Int) ∈ places w w := plcs_has w w _ 0 0 (by omega) (by omega) (by omega) (by rw [Nat.zero_add]; exact extract_all w)
 have : (places w w).any (fun p => decide (p.toNat ≤ j ∧ j < p.toNat + w.size ∧ j < (List.replicate w.size false).length)) = true := List.any_eq_true.2 ⟨_, h0, by rw [List.length_replicate]; simp; omega⟩
 rw [this]; simp
theorem cvF_pos (w : ByteArray) : ∀ (d m : Nat), m + d = w.size + 1 → 0 < d → 0 < (cvF w d m).length
 | 0, _, _, h => by omega
 | d + 1, m, h, _ => by
  rw [cvF]
  by_cases c : isC w (w.extract 0 m) = true
  ·
   rw [if_pos c]; simp
  ·
   rw [if_neg c]
   by_cases hd : d = 0
   ·
    subst hd
    rw [show m = w.size by omega, extract_all, isC_self] at c
    exact absurd rfl c
   ·
    exact cvF_pos w d (m + 1) (by omega) (by omega)
theorem cvs_pos (w : ByteArray) (h : 0 < w.size) : 0 < (cvs w).length := cvF_pos w w.size 1 (by omega) h

end Go.Proofs.YtcfphjjdbccnoaaGreat.PF
