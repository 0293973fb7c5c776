/- Seeds: the program's test and the reference's test. -/
import Derived.Test.YtoadancbpgignaaPFLibY2
import Derived.Test.YtoadancbpgignaaPFLibHs
import Derived.Test.YtoadancbpgignaaPFx4
namespace Go.Proofs.Ytoadancbpgignaa.PF
open Go.RowKit Go.Proofs.YtoadancbpgignaaW.PrintWords Go.Proofs.YtoadancbpgignaaW.PrintLast Go.Proofs.YtoadancbpgignaaW.PrintMore
set_option linter.unusedVariables false
set_option linter.unusedSimpArgs false

/-- The greatest number up to m that passes a test. -/
def bord (c : Nat → Bool) : Nat → Option Nat
 | 0 => none
 | m + 1 => if c (m + 1) = true then some (m + 1) else bord c m
def seedP (w u : ByteArray) (m : Nat) : Bool := decide (w.extract 0 m = u.extract (u.size - m) u.size)
def seedS (w u : ByteArray) (m : Nat) : Bool := decide (w.extract (w.size - m) w.size = u.extract 0 m)
def putP (c : List Bool) : Option Nat → List Bool
 | none => c
 | some m => setR m 0 c
def putS (n : Nat) (c : List Bool) : Option Nat → List Bool
 | none => c
 | some m => setR m (n - m) c
def isSd (w u : ByteArray) : Bool := allT (putS w.size (putP (cov w u) (bord (seedP w u) (u.size - 1))) (bord (seedS w u) (u.size - 1)))
theorem putP_length (c : List Bool) (o : Option Nat) : (putP c o).length = c.length := by cases o <;> simp [putP, setR_length]
theorem putS_length (n : Nat) (c : List Bool) (o : Option Nat) : (putS n c o).length = c.length := by cases o <;> simp [putS, setR_length]

/-! ### the reference -/
theorem i_l1 (w u : ByteArray) (m : Nat) (hm : m ≤ 60) : ∀ (d k i : Nat) (c : List Bool), i + d = m → m ≤ c.length → impl_isSeed.l1 (k + d + 1) w u c (m : Int) (i : Int) = impl_isSeed.j2 k w u (setR d i c) := by
 intro d
 induction d with
 | zero =>
  intro k i c hd hc
  simp only [impl_isSeed.l1]; rw [if_neg (by omega)]; rfl
 | succ d ih =>
  intro k i c hd hc
  obtain ⟨q, hq⟩ : ∃ q, q = k + d + 1 := ⟨_, rfl⟩
  rw [show k + (d + 1) + 1 = q + 1 by omega]
  simp only [impl_isSeed.l1]
  rw [if_pos (by omega), if_pos (by omega), if_pos (by omega), wrap_succ (by omega), Int.toNat_natCast]
  subst hq
  rw [ih k (i + 1) _ (by omega) (by rw [List.length_set]; exact hc)]; rfl
theorem i_l0 (w u : ByteArray) (hu : u.size ≤ w.size) (hw : w.size ≤ 60) : ∀ (m k : Nat) (c : List Bool), m < u.size → c.length = w.size → ∃ k', k ≤ k' ∧ impl_isSeed.l0 (k + m + 100) w u c (m : Int) = impl_isSeed.j2 k' w u (putP c (bord (seedP w u) m)) := by
 intro m
 induction m with
 | zero =>
  intro k c hm hc
  refine ⟨k + 99, by omega, ?_⟩
  rw [show k + 0 + 100 = (k + 99) + 1 by omega]
  generalize k + 99 = q
  simp only [impl_isSeed.l0]; rw [if_neg (by omega)]; rfl
 | succ m ih =>
  intro k c hm hc
  rw [show k + (m + 1) + 100 = (k + m + 100) + 1 by omega]
  obtain ⟨q, hq⟩ : ∃ q, q = k + m + 100 := ⟨_, rfl⟩
  rw [← hq]
  have hz : (u.extract (u.size - (m + 1)) u.size).size = m + 1 := by rw [ByteArray.size_extract]; omega
  simp only [impl_isSeed.l0]
  rw [wrap_nat (x := (u.size : Int) - ((m + 1 : Nat) : Int)) (n := u.size - (m + 1)) (by omega) (by omega), wrap_nat (x := ((m + 1 : Nat) : Int) - 1) (n := m) (by omega) (by omega), if_pos (by omega), if_pos (by omega), if_pos (by omega), Int.toNat_natCast, hasPrefix_f _ _ (by omega), hz]
  simp only [Option.bind_some, show m + 1 ≤ w.size by omega, true_and]
  by_cases e : w.extract 0 (m + 1) = u.extract (u.size - (m + 1)) u.size
  ·
   refine ⟨k + 98, by omega, ?_⟩
   rw [if_pos (by simp [e]), show q = (k + 98) + (m + 1) + 1 by omega, show (0 : Int) = ((0 : Nat) : Int) from rfl, i_l1 w u (m + 1) (by omega) (m + 1) (k + 98) 0 c (by omega) (by omega), bord, if_pos (by simp [seedP, e])]; rfl
  ·
   rw [if_neg (by simp [e]), hq, bord, if_neg (by simp [seedP, e])]
   exact ih k c (by omega) hc
/-- The last places of n are marked, from the last one down. -/
def setD (n : Nat) : Nat → Nat → List Bool → List Bool
 | 0, _, c => c
 | d + 1, i, c => setD n d (i + 1) (c.set (n - 1 - i) true)
theorem setD_length (n : Nat) : ∀ d i c, (setD n d i c).length = c.length
 | 0, _, _ => rfl
 | d + 1, i, c => by rw [setD, setD_length n d, List.length_set]
theorem setD_get (n : Nat) : ∀ (d i : Nat) (c : List Bool) (j : Nat), i + d ≤ n → c.length = n → (setD n d i c).getD j false = (c.getD j false || decide (n - (i + d) ≤ j ∧ j < n - i))
 | 0, i, c, j, h, hc => by rw [setD, decide_eq_false (by omega)]; simp
 | d + 1, i, c, j, h, hc => by
  rw [setD, setD_get n d (i + 1) _ j (by omega) (by rw [List.length_set]; exact hc), List.getD_eq_getElem?_getD, List.getD_eq_getElem?_getD, List.getElem?_set]
  by_cases e : n - 1 - i = j
  ·
   subst e
   rw [decide_eq_true (show n - (i + (d + 1)) ≤ n - 1 - i ∧ n - 1 - i < n - i by omega), if_pos rfl, if_pos (by omega)]; simp
  ·
   rw [if_neg e]
   congr 1
   rw [decide_eq_decide]; omega
theorem setD_eq (n m : Nat) (c : List Bool) (hc : c.length = n) (hm : m ≤ n) : setD n m 0 c = setR m (n - m) c := by
 refine List.ext_getElem (by rw [setD_length, setR_length]) fun j h1 h2 => ?_
 rw [setD_length] at h1
 have e1 := setD_get n m 0 c j (by omega) hc
 have e2 := setR_get m (n - m) c j
 rw [List.getD_eq_getElem?_getD, List.getElem?_eq_getElem (by rw [setD_length]; exact h1)] at e1
 rw [List.getD_eq_getElem?_getD, List.getElem?_eq_getElem h2] at e2
 simp only [Option.getD_some] at e1 e2
 rw [e1, e2]
 congr 1
 rw [decide_eq_decide]; omega
theorem i_l3 (w : ByteArray) (hw : w.size ≤ 60) (m : Nat) (hm : m ≤ w.size) : ∀ (d k i : Nat) (c : List Bool), i + d = m → c.length = w.size → impl_isSeed.l3 (k + 100 + d + 1) w c (m : Int) (i : Int) = some (allT (setD w.size d i c)) := by
 intro d
 induction d with
 | zero =>
  intro k i c hd hc
  obtain ⟨q, hq⟩ : ∃ q, q = k + 100 := ⟨_, rfl⟩
  rw [show k + 100 + 0 + 1 = q + 1 by omega]
  simp only [impl_isSeed.l3]
  rw [if_neg (by omega), containsB_f c (by omega) _ (by omega)]
  simp only [Option.bind_some, setD, Bool.not_not]
 | succ d ih =>
  intro k i c hd hc
  obtain ⟨q, hq⟩ : ∃ q, q = k + 100 + d + 1 := ⟨_, rfl⟩
  rw [show k + 100 + (d + 1) + 1 = q + 1 by omega]
  simp only [impl_isSeed.l3]
  rw [wrap_nat (x := (w.size : Int) - 1) (n := w.size - 1) (by omega) (by omega), wrap_nat (n := w.size - 1 - i) (by omega) (by omega), if_pos (by omega), if_pos (by omega), if_pos (by omega), wrap_succ (by omega), Int.toNat_natCast]
  subst hq
  rw [ih k (i + 1) _ (by omega) (by rw [List.length_set]; exact hc)]; rfl
theorem i_l2 (w u : ByteArray) (hu : u.size ≤ w.size) (hw : w.size ≤ 60) : ∀ (m k : Nat) (c : List Bool), m < u.size → c.length = w.size → 300 + m < k → impl_isSeed.l2 k w u c (m : Int) = some (allT (putS w.size c (bord (seedS w u) m))) := by
 intro m
 induction m with
 | zero =>
  intro k c hm hc hk
  obtain ⟨k, rfl⟩ : ∃ n, k = n + 1 := ⟨k - 1, by omega⟩
  simp only [impl_isSeed.l2]
  rw [if_neg (by omega), containsB_f c (by omega) _ (by omega)]
  simp only [Option.bind_some, bord, putS, Bool.not_not]
 | succ m ih =>
  intro k c hm hc hk
  obtain ⟨k, rfl⟩ : ∃ n, k = n + 1 := ⟨k - 1, by omega⟩
  have hz : (u.extract 0 (m + 1)).size = m + 1 := by rw [ByteArray.size_extract]; omega
  simp only [impl_isSeed.l2]
  rw [wrap_nat (x := ((m + 1 : Nat) : Int) - 1) (n := m) (by omega) (by omega), if_pos (by omega), if_pos (by omega), if_pos (by omega), Int.toNat_natCast, hasSuffix_f _ _ (by omega), hz]
  simp only [Option.bind_some, show m + 1 ≤ w.size by omega, true_and]
  by_cases e : w.extract (w.size - (m + 1)) w.size = u.extract 0 (m + 1)
  ·
   rw [if_pos (by simp [e]), show k = (k - 100 - (m + 1) - 1) + 100 + (m + 1) + 1 by omega, show (0 : Int) = ((0 : Nat) : Int) from rfl, i_l3 w hw (m + 1) (by omega) (m + 1) _ 0 c (by omega) hc, setD_eq w.size (m + 1) c hc (by omega), bord, if_pos (by simp [seedS, e])]; rfl
  ·
   rw [if_neg (by simp [e]), bord, if_neg (by simp [seedS, e])]
   exact ih k c (by omega) hc (by omega)
theorem isSeed_f (w u : ByteArray) (hu : u.size ≤ w.size) (hw : w.size ≤ 60) (hu1 : isW u = true) (h1 : 1 ≤ u.size) (k : Nat) (hk : 20000 < k) : impl_isSeed.f k w u = some (isSd w u) := by
 unfold impl_isSeed.f
 rw [covered_one w u hw hu1 k (by omega)]
 simp only [Option.bind_some]
 rw [wrap_nat (n := u.size - 1) (by omega) (by omega), show k = (k - (u.size - 1) - 100) + (u.size - 1) + 100 by omega]
 obtain ⟨k', hk', h⟩ := i_l0 w u hu hw (u.size - 1) (k - (u.size - 1) - 100) (cov w u) (by omega) (cov_length w u)
 rw [h]
 obtain ⟨k', rfl⟩ : ∃ n, k' = n + 1 := ⟨k' - 1, by omega⟩
 simp only [impl_isSeed.j2]
 rw [wrap_nat (n := u.size - 1) (by omega) (by omega), i_l2 w u hu hw _ k' _ (by omega) (by rw [putP_length, cov_length]) (by omega)]
 rfl

end Go.Proofs.Ytoadancbpgignaa.PF
