/- The fewest palindromes that make a word: the program's table and the reference's table, and the words that are cut out by them. -/
import Derived.Test.YthifbnojmoknmaaPFLibO
import Derived.Test.YthifbnojmoknmaaPFLibQ
import Derived.Test.YthifbnojmoknmaaPFx4
import Derived.Test.YthifbnojmoknmaaPFx2
namespace Go.Proofs.Ythifbnojmoknmaa.PF
open Go.RowKit Go.Proofs.YthifbnojmoknmaaW.PrintWords Go.Proofs.YthifbnojmoknmaaW.PrintLast Go.Proofs.YthifbnojmoknmaaW.PrintMore
set_option linter.unusedVariables false
set_option linter.unusedSimpArgs false
set_option maxRecDepth 20000

/-- The ends of the first part of the word from place i on: the least number of parts, and the last end with which it is so. -/
def minR (w : ByteArray) (T : Nat → Int) (i : Nat) : Nat → Nat → Int × Int → Int × Int
  | 0, _, c => c
  | d + 1, m, c => minR w T i d (m + 1) (if isPal (w.extract i m) = true ∧ 1 + T m ≤ c.1 then (1 + T m, (m : Int)) else c)

/-- Both tables after d places from the end. -/
def tabs (w : ByteArray) : Nat → List Int × List Int
  | 0 => (List.replicate (w.size + 1) 0, List.replicate (w.size + 1) 0)
  | d + 1 =>
    let t := tabs w d
    let i := w.size - (d + 1)
    let c := minR w (fun j => rd t.1 (j : Int)) i (w.size - i) (i + 1) ((w.size : Int) + 1, rd t.2 (i : Int))
    (t.1.set i c.1, t.2.set i c.2)

theorem tabs_length (w : ByteArray) : ∀ d, (tabs w d).1.length = w.size + 1 ∧ (tabs w d).2.length = w.size + 1
  | 0 => by simp [tabs]
  | d + 1 => by
    have h := tabs_length w d
    simp only [tabs, List.length_set]
    exact h

theorem rd_set_ne (l : List Int) (i j : Nat) (x : Int) (h : i ≠ j) : rd (l.set i x) (j : Int) = rd l (j : Int) := by
  simp only [rd, Int.toNat_natCast, List.getD_eq_getElem?_getD]
  rw [List.getElem?_set_ne h]
theorem rd_set_eq (l : List Int) (i : Nat) (x : Int) (h : i < l.length) : rd (l.set i x) (i : Int) = x := by
  simp [rd, h]

/-- What is so of the least number and of the end that goes with it: some of the ends up to m have been looked at. -/
structure RowUp (w : ByteArray) (T : Nat → Int) (i m : Nat) (c : Int × Int) : Prop where
  lo : (i : Int) < c.2
  hi : c.2 < (m : Int)
  pal : isPal (w.extract i c.2.toNat) = true
  eq : 1 + T c.2.toNat = c.1
  best : ∀ e : Nat, i < e → e < m → isPal (w.extract i e) = true → c.1 ≤ 1 + T e ∧ (1 + T e = c.1 → (e : Int) ≤ c.2)

theorem minR_row (w : ByteArray) (T : Nat → Int) (i : Nat) : ∀ (d m : Nat) (c : Int × Int), RowUp w T i m c → RowUp w T i (m + d) (minR w T i d m c)
  | 0, m, c, h => h
  | d + 1, m, c, h => by
    rw [minR, show m + (d + 1) = (m + 1) + d by omega]
    refine minR_row w T i d (m + 1) _ ?_
    have him : (i : Int) < (m : Int) := by have := h.lo; have := h.hi; omega
    by_cases hc : isPal (w.extract i m) = true ∧ 1 + T m ≤ c.1
    · rw [if_pos hc]
      refine ⟨him, by show (m : Int) < ((m + 1 : Nat) : Int); omega, by show isPal (w.extract i (m : Int).toNat) = true; rw [Int.toNat_natCast]; exact hc.1, by show 1 + T (m : Int).toNat = _; rw [Int.toNat_natCast], fun e h1 h2 h3 => ?_⟩
      by_cases hem : e = m
      · subst hem; exact ⟨Int.le_refl _, fun _ => Int.le_refl _⟩
      · have hb := h.best e h1 (by omega) h3
        exact ⟨by show 1 + T m ≤ _; omega, fun _ => by show (e : Int) ≤ (m : Int); omega⟩
    · rw [if_neg hc]
      refine ⟨h.lo, by have := h.hi; omega, h.pal, h.eq, fun e h1 h2 h3 => ?_⟩
      by_cases hem : e = m
      · subst hem
        have : ¬ 1 + T e ≤ c.1 := fun g => hc ⟨h3, g⟩
        exact ⟨by omega, fun g => by omega⟩
      · exact h.best e h1 (by omega) h3

theorem one_pal (w : ByteArray) (i : Nat) (h : i < w.size) : isPal (w.extract i (i + 1)) = true := by
  have hs : (w.extract i (i + 1)).toList.length = 1 := by
    rw [toList_eq, Array.length_toList]; show (w.extract i (i + 1)).size = 1; rw [ByteArray.size_extract]; omega
  unfold isPal
  generalize (w.extract i (i + 1)).toList = l at hs
  match l, hs with
  | [x], _ => simp

/-- Place i of the tables is as it has to be. -/
def RowOk (w : ByteArray) (L E : List Int) (i : Nat) : Prop := RowUp w (fun j => rd L (j : Int)) i (w.size + 1) (rd L (i : Int), rd E (i : Int)) ∧ 0 ≤ rd L (i : Int) ∧ rd L (i : Int) ≤ (w.size : Int) - (i : Int)

theorem tabs_ok (w : ByteArray) : ∀ d, d ≤ w.size → rd (tabs w d).1 (w.size : Int) = 0 ∧ ∀ i, w.size - d ≤ i → i < w.size → RowOk w (tabs w d).1 (tabs w d).2 i := by
  intro d
  induction d with
  | zero =>
    intro hd
    refine ⟨?_, fun i h1 h2 => by omega⟩
    simp [tabs, rd]
  | succ d ih =>
    intro hd
    obtain ⟨h0, h1⟩ := ih (by omega)
    have hlen := tabs_length w d
    obtain ⟨i, hi⟩ : ∃ i, i = w.size - (d + 1) := ⟨_, rfl⟩
    simp only [tabs]
    rw [← hi]
    generalize (tabs w d).1 = L at h0 h1 hlen
    generalize (tabs w d).2 = E at h1 hlen
    have hT : ∀ j, i < j → j ≤ w.size → 0 ≤ rd L (j : Int) ∧ rd L (j : Int) ≤ (w.size : Int) - (j : Int) := fun j hj hj2 => by
      by_cases c : j = w.size
      · subst c; rw [h0]; omega
      · exact (h1 j (by omega) (by omega)).2
    have hstart : RowUp w (fun j => rd L (j : Int)) i (i + 2) (if isPal (w.extract i (i + 1)) = true ∧ 1 + rd L ((i + 1 : Nat) : Int) ≤ (w.size : Int) + 1 then (1 + rd L ((i + 1 : Nat) : Int), ((i + 1 : Nat) : Int)) else ((w.size : Int) + 1, rd E (i : Int))) := by
      have ht := hT (i + 1) (by omega) (by omega)
      rw [if_pos ⟨one_pal w i (by omega), by omega⟩]
      refine ⟨by show (i : Int) < ((i + 1 : Nat) : Int); omega, by show ((i + 1 : Nat) : Int) < ((i + 2 : Nat) : Int); omega, by show isPal (w.extract i ((i + 1 : Nat) : Int).toNat) = true; rw [Int.toNat_natCast]; exact one_pal w i (by omega), by show 1 + rd L ((((i + 1 : Nat) : Int).toNat : Nat) : Int) = _; rw [Int.toNat_natCast], fun e g1 g2 g3 => ?_⟩
      obtain rfl : e = i + 1 := by omega
      exact ⟨Int.le_refl _, fun _ => Int.le_refl _⟩
    have hrow := minR_row w (fun j => rd L (j : Int)) i (w.size - i - 1) (i + 2) _ hstart
    rw [show i + 2 + (w.size - i - 1) = w.size + 1 by omega] at hrow
    have hm : minR w (fun j => rd L (j : Int)) i (w.size - i) (i + 1) ((w.size : Int) + 1, rd E (i : Int)) = minR w (fun j => rd L (j : Int)) i (w.size - i - 1) (i + 2) (if isPal (w.extract i (i + 1)) = true ∧ 1 + rd L ((i + 1 : Nat) : Int) ≤ (w.size : Int) + 1 then (1 + rd L ((i + 1 : Nat) : Int), ((i + 1 : Nat) : Int)) else ((w.size : Int) + 1, rd E (i : Int))) := by
      rw [show w.size - i = (w.size - i - 1) + 1 by omega, minR]
      rfl
    rw [hm]
    generalize minR w (fun j => rd L (j : Int)) i (w.size - i - 1) (i + 2) _ = c at hrow
    obtain ⟨c1, c2⟩ := c
    refine ⟨by rw [rd_set_ne _ _ _ _ (by omega)]; exact h0, fun j hj1 hj2 => ?_⟩
    have hb1 := hrow.best (i + 1) (by omega) (by omega) (one_pal w i (by omega))
    have hq := hrow.eq
    have hlo := hrow.lo
    have hhi := hrow.hi
    simp only at hb1 hq hlo hhi
    have hbt := hT (i + 1) (by omega) (by omega)
    have hbe := hT c2.toNat (by omega) (by omega)
    by_cases hji : j = i
    · subst hji
      unfold RowOk
      rw [rd_set_eq _ _ _ (by omega), rd_set_eq _ _ _ (by omega)]
      refine ⟨⟨hrow.lo, hrow.hi, hrow.pal, ?_, fun e g1 g2 g3 => ?_⟩, by omega, by omega⟩
      · show 1 + rd (L.set j c1) (c2.toNat : Int) = c1
        rw [rd_set_ne _ _ _ _ (by omega)]; exact hq
      · show c1 ≤ 1 + rd (L.set j c1) (e : Int) ∧ (1 + rd (L.set j c1) (e : Int) = c1 → _)
        rw [rd_set_ne _ _ _ _ (by omega)]; exact hrow.best e g1 g2 g3
    · have hr := h1 j (by omega) hj2
      unfold RowOk at hr ⊢
      rw [rd_set_ne _ _ _ _ (fun e => hji e.symm), rd_set_ne _ _ _ _ (fun e => hji e.symm)]
      have hrl := hr.1.lo
      have hrq := hr.1.eq
      simp only at hrl hrq
      refine ⟨⟨hr.1.lo, hr.1.hi, hr.1.pal, ?_, fun e g1 g2 g3 => ?_⟩, hr.2⟩
      · show 1 + rd (L.set i c1) (((rd E (j : Int)).toNat : Nat) : Int) = _
        rw [rd_set_ne _ _ _ _ (by omega)]; exact hrq
      · show _ ≤ 1 + rd (L.set i c1) (e : Int) ∧ (1 + rd (L.set i c1) (e : Int) = _ → _)
        rw [rd_set_ne _ _ _ _ (by omega)]; exact hr.1.best e g1 g2 g3

end Go.Proofs.Ythifbnojmoknmaa.PF
