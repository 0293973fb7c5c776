/- Words that fit patterns: what it says, in plain terms. -/
import Derived.Test.YtgoccddcbooabaaPFLibE
namespace Go.Proofs.Ytgoccddcbooabaa.PF
open Go.RowKit Go.Proofs.YtgoccddcbooabaaW.PrintWords Go.Proofs.YtgoccddcbooabaaW.PrintLast Go.Proofs.YtgoccddcbooabaaW.PrintMore
set_option linter.unusedVariables false
set_option linter.unusedSimpArgs false

def vg (vs : List ByteArray) (v : Nat) : ByteArray := vs.getD v ByteArray.empty

/-- Does the word from place a on fit the rest of a pattern (its variables) with some values, ending at a place that is as told, at most hi? -/
def mE (w : ByteArray) (hi : Nat) (D : Nat → Bool) : List Nat → List ByteArray → Nat → Bool
  | [], _, a => D a
  | v :: p, vs, a =>
    if (vg vs v).size = 0 then (List.range (hi - a)).any fun t => mE w hi D p (vs.set v (w.extract a (a + 1 + t))) (a + 1 + t)
    else decide (a + (vg vs v).size ≤ hi ∧ w.extract a (a + (vg vs v).size) = vg vs v) && mE w hi D p vs (a + (vg vs v).size)

theorem mE_end (w : ByteArray) (hi : Nat) (D : Nat → Bool) : ∀ (p : List Nat) (vs : List ByteArray) (a : Nat), a ≤ hi → mE w hi D p vs a = true → ∃ e, D e = true ∧ a + p.length ≤ e ∧ e ≤ hi := by
  intro p
  induction p with
  | nil => exact fun vs a ha h => ⟨a, h, by simp, ha⟩
  | cons v p ih =>
    intro vs a ha h
    rw [mE] at h
    split at h
    · obtain ⟨t, ht, h⟩ := List.any_eq_true.1 h
      rw [List.mem_range] at ht
      obtain ⟨e, h1, h2, h3⟩ := ih _ _ (by omega) h
      exact ⟨e, h1, by simp; omega, h3⟩
    · rw [Bool.and_eq_true, decide_eq_true_eq] at h
      obtain ⟨e, h1, h2, h3⟩ := ih _ _ (by omega) h.2
      exact ⟨e, h1, by simp; omega, h3⟩

theorem mE_short (w : ByteArray) (hi : Nat) (D : Nat → Bool) (p : List Nat) (vs : List ByteArray) (a : Nat) (ha : a ≤ hi) (h : hi < a + p.length) : mE w hi D p vs a = false := by
  by_cases c : mE w hi D p vs a = true
  · obtain ⟨e, h1, h2, h3⟩ := mE_end w hi D p vs a ha c
    omega
  · simpa using c

theorem mE_mono (w : ByteArray) (hi hi' : Nat) (D D' : Nat → Bool) (hh : hi ≤ hi') (hD : ∀ e, D e = true → D' e = true) : ∀ (p : List Nat) (vs : List ByteArray) (a : Nat), mE w hi D p vs a = true → mE w hi' D' p vs a = true := by
  intro p
  induction p with
  | nil => exact fun vs a h => hD _ h
  | cons v p ih =>
    intro vs a h
    rw [mE] at h ⊢
    split at h
    · rename_i c
      rw [if_pos c]
      obtain ⟨t, ht, h⟩ := List.any_eq_true.1 h
      rw [List.mem_range] at ht
      exact List.any_eq_true.2 ⟨t, List.mem_range.2 (by omega), ih _ _ h⟩
    · rename_i c
      rw [if_neg c]
      rw [Bool.and_eq_true, decide_eq_true_eq] at h ⊢
      exact ⟨⟨by omega, h.1.2⟩, ih _ _ h.2⟩

theorem mE_congr (w : ByteArray) (hi : Nat) (D D' : Nat → Bool) : ∀ (p : List Nat) (vs : List ByteArray) (a : Nat), a ≤ hi → (∀ e, a ≤ e → e ≤ hi → D e = D' e) → mE w hi D p vs a = mE w hi D' p vs a := by
  intro p
  induction p with
  | nil => exact fun vs a ha h => h a (Nat.le_refl _) ha
  | cons v p ih =>
    intro vs a ha h
    rw [mE, mE]
    split
    · rw [Bool.eq_iff_iff, List.any_eq_true, List.any_eq_true]
      constructor
      · rintro ⟨t, ht, g⟩
        have ht' := List.mem_range.1 ht
        exact ⟨t, ht, by rw [← ih _ _ (by omega) (fun e h1 h2 => h e (by omega) h2)]; exact g⟩
      · rintro ⟨t, ht, g⟩
        have ht' := List.mem_range.1 ht
        exact ⟨t, ht, by rw [ih _ _ (by omega) (fun e h1 h2 => h e (by omega) h2)]; exact g⟩
    · by_cases c : a + (vg vs v).size ≤ hi ∧ w.extract a (a + (vg vs v).size) = vg vs v
      · rw [ih _ _ c.1 (fun e h1 h2 => h e (by omega) h2)]
      · rw [decide_eq_false c, Bool.false_and, Bool.false_and]

/-- A factor of a word. -/
theorem mE_shift (w : ByteArray) (i n : Nat) (hin : i ≤ n) (hn : n ≤ w.size) (D : Nat → Bool) : ∀ (p : List Nat) (vs : List ByteArray) (a : Nat), a ≤ n - i →
    mE (w.extract i n) (n - i) D p vs a = mE w n (fun e => D (e - i)) p vs (i + a) := by
  intro p
  induction p with
  | nil => intro vs a ha; show D a = D (i + a - i); rw [Nat.add_sub_cancel_left]
  | cons v p ih =>
    intro vs a ha
    have hex : ∀ b, b ≤ n - i → (w.extract i n).extract a b = w.extract (i + a) (i + b) := fun b hb => by
      rw [ByteArray.extract_extract, Nat.min_eq_left (by omega)]
    rw [mE, mE]
    split
    · rw [show n - (i + a) = n - i - a by omega, Bool.eq_iff_iff, List.any_eq_true, List.any_eq_true]
      constructor
      · rintro ⟨t, ht, g⟩
        have ht' := List.mem_range.1 ht
        refine ⟨t, ht, ?_⟩
        rw [hex _ (by omega), ih _ _ (by omega)] at g
        rw [show i + a + 1 + t = i + (a + 1 + t) by omega]; exact g
      · rintro ⟨t, ht, g⟩
        have ht' := List.mem_range.1 ht
        refine ⟨t, ht, ?_⟩
        rw [hex _ (by omega), ih _ _ (by omega)]
        rw [show i + a + 1 + t = i + (a + 1 + t) by omega] at g; exact g
    · by_cases c : a + (vg vs v).size ≤ n - i ∧ (w.extract i n).extract a (a + (vg vs v).size) = vg vs v
      · have c2 := c.2
        rw [hex _ c.1] at c2
        rw [decide_eq_true c, decide_eq_true (show i + a + (vg vs v).size ≤ n ∧ w.extract (i + a) (i + a + (vg vs v).size) = vg vs v from ⟨by omega, by rw [Nat.add_assoc]; exact c2⟩), Bool.true_and, Bool.true_and, ih _ _ c.1, Nat.add_assoc]
      · rw [decide_eq_false c, decide_eq_false (show ¬ (i + a + (vg vs v).size ≤ n ∧ w.extract (i + a) (i + a + (vg vs v).size) = vg vs v) from fun g => c ⟨by omega, by rw [hex _ (by omega), ← Nat.add_assoc]; exact g.2⟩), Bool.false_and, Bool.false_and]

/-- Where some beginning fits: at the end of one of them. -/
theorem mE_some (w : ByteArray) (hi : Nat) : ∀ (p : List Nat) (vs : List ByteArray) (a : Nat), a ≤ hi → mE w hi (fun _ => true) p vs a = true → ∃ n, a ≤ n ∧ n ≤ hi ∧ mE w n (fun e => decide (e = n)) p vs a = true := by
  intro p
  induction p with
  | nil => exact fun vs a ha _ => ⟨a, Nat.le_refl _, ha, by simp [mE]⟩
  | cons v p ih =>
    intro vs a ha h
    rw [mE] at h
    split at h
    · rename_i c
      obtain ⟨t, ht, h⟩ := List.any_eq_true.1 h
      rw [List.mem_range] at ht
      obtain ⟨n, h0, h1, h2⟩ := ih _ _ (by omega) h
      refine ⟨n, by omega, h1, ?_⟩
      rw [mE, if_pos c]
      exact List.any_eq_true.2 ⟨t, List.mem_range.2 (by omega), h2⟩
    · rename_i c
      rw [Bool.and_eq_true, decide_eq_true_eq] at h
      obtain ⟨n, h0, h1, h2⟩ := ih _ _ h.1.1 h.2
      refine ⟨n, by omega, h1, ?_⟩
      rw [mE, if_neg c, Bool.and_eq_true, decide_eq_true_eq]
      exact ⟨⟨h0, h.1.2⟩, h2⟩

end Go.Proofs.Ytgoccddcbooabaa.PF
