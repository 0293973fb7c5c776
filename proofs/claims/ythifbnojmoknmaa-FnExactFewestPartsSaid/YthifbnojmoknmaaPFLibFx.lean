/- The fewest palindromes that make a word: what the program and the reference return. -/
import Derived.Test.YthifbnojmoknmaaPFLibFw
namespace Go.Proofs.Ythifbnojmoknmaa.PF
open Go.RowKit Go.Proofs.YthifbnojmoknmaaW.PrintWords Go.Proofs.YthifbnojmoknmaaW.PrintLast Go.Proofs.YthifbnojmoknmaaW.PrintMore
set_option linter.unusedVariables false
set_option linter.unusedSimpArgs false
set_option maxRecDepth 20000

theorem mn_le (a b : Int) (h : b ≤ a) : mn a b = b := by unfold mn; split <;> omega
theorem mn_ge (a b : Int) (h : ¬ b ≤ a) : mn a b = a := by unfold mn; split <;> omega

theorem minR_bound (w : ByteArray) (T : Nat → Int) (i : Nat) (b : Int) : ∀ (d m : Nat) (c : Int × Int), 0 ≤ c.1 → c.1 ≤ b → (∀ j, m ≤ j → j < m + d → 0 ≤ T j) → 0 ≤ (minR w T i d m c).1 ∧ (minR w T i d m c).1 ≤ b
  | 0, _, c, h0, h1, _ => ⟨h0, h1⟩
  | d + 1, m, c, h0, h1, h => by
    rw [minR]
    have hm := h m (Nat.le_refl _) (by omega)
    have h' : ∀ j, m + 1 ≤ j → j < m + 1 + d → 0 ≤ T j := fun j g1 g2 => h j (by omega) (by omega)
    by_cases hc : isPal (w.extract i m) = true ∧ 1 + T m ≤ c.1
    · rw [if_pos hc]; exact minR_bound w T i b d (m + 1) _ (by show 0 ≤ 1 + T m; omega) (by show 1 + T m ≤ b; omega) h'
    · rw [if_neg hc]; exact minR_bound w T i b d (m + 1) _ h0 h1 h'

theorem set_set (l : List Int) (i : Nat) (x y : Int) : (l.set i x).set i y = l.set i y := List.set_set ..

/-- One row of the program's table. -/
theorem impl_row (w : ByteArray) (hw : w.size ≤ 60) (L E : List Int) (hL : L.length = w.size + 1) (hE : E.length = w.size + 1) (i : Nat) (hi : i < w.size) (f : Nat → Int) (hf : ∀ j : Nat, rd L (j : Int) = f j) (hT : ∀ j : Nat, i < j → j ≤ w.size → 0 ≤ f j ∧ f j ≤ 1000) :
    ∀ (d k m : Nat) (c : Int × Int), m + d = w.size + 1 → i < m → 0 ≤ c.1 → c.1 ≤ 1000 → 100 < k →
    impl_FewestParts.l1 (k + d + 1) w (w.size : Int) (L.set i c.1) (E.set i c.2) (i : Int) (m : Int) =
      impl_FewestParts.l0 k w (w.size : Int) (L.set i (minR w f i d m c).1) (E.set i (minR w f i d m c).2) ((i : Int) - 1) := by
  intro d
  induction d with
  | zero =>
    intro k m c hd hm h0 h1 hk
    simp only [impl_FewestParts.l1]
    rw [if_neg (by omega), wrap_id (by omega) (by omega)]; rfl
  | succ d ih =>
    intro k m c hd hm h0 h1 hk
    obtain ⟨c1, c2⟩ := c
    simp only at h0 h1
    obtain ⟨q, hq⟩ : ∃ q, q = k + d + 1 := ⟨_, rfl⟩
    have hms : m ≤ w.size := by omega
    have hTm := hT m hm hms
    have a1 : (m : Int) ≤ (w.size : Int) := by omega
    have a2 : (0 : Int) ≤ (i : Int) := by omega
    have a3 : (i : Int) ≤ (m : Int) := by omega
    have a4 : (0 : Int) ≤ (m : Int) := by omega
    have a5 : (m : Int) < (L.length : Int) := by omega
    have a6 : (i : Int) < (L.length : Int) := by omega
    have a7 : i < L.length := by omega
    have a8 : i ≠ m := by omega
    have a9 : (i : Int) < (E.length : Int) := by omega
    have n1 : m + 1 + d = w.size + 1 := by omega
    have n2 : i < m + 1 := by omega
    have n3 : 0 ≤ 1 + f m := by omega
    have n5 : 1 + f m ≤ 9223372036854775807 := by omega
    have n6 : -9223372036854775808 ≤ 1 + f m := by omega
    have hsz : (w.extract i m).size ≤ 1000000 := by rw [ByteArray.size_extract]; omega
    have hsz2 : (w.extract i m).size < q := by rw [ByteArray.size_extract]; omega
    have hw1 : wrap64 ((m : Int) + 1) = ((m + 1 : Nat) : Int) := wrap_succ (by omega)
    rw [show k + (d + 1) + 1 = q + 1 by rw [hq]; rfl]
    simp only [impl_FewestParts.l1]
    rw [if_pos a1, if_pos a2, if_pos a3, if_pos a1, Int.toNat_natCast, Int.toNat_natCast, isPal_f _ hsz, hw1, rd_set_ne _ _ _ _ a8, rd_set_eq _ _ _ a7, hf]
    simp only [Option.bind_some, List.length_set]
    rw [minR]
    subst hq
    by_cases hp : isPal (w.extract i m) = true
    · rw [if_pos hp, if_pos a4, if_pos a5, if_pos a6, wrap_id n6 n5]
      by_cases hc : 1 + f m ≤ c1
      · rw [if_pos hc, if_pos a9, if_pos ⟨hp, hc⟩, set_set, set_set]
        exact ih k (m + 1) (1 + f m, (m : Int)) n1 n2 n3 (Int.le_trans hc h1) hk
      · rw [if_neg hc, if_neg (fun h => hc h.2)]
        exact ih k (m + 1) (c1, c2) n1 n2 h0 h1 hk
    · rw [if_neg hp, if_neg (fun h => hp h.1)]
      exact ih k (m + 1) (c1, c2) n1 n2 h0 h1 hk

/-- One row of the reference's table. -/
theorem spec_row (w : ByteArray) (hw : w.size ≤ 60) (L : List Int) (hL : L.length = w.size + 1) (i : Nat) (hi : i < w.size) (f : Nat → Int) (hf : ∀ j : Nat, rd L (j : Int) = f j) (hT : ∀ j : Nat, i < j → j ≤ w.size → 0 ≤ f j ∧ f j ≤ 1000) :
    ∀ (d k m : Nat) (c : Int × Int), m + d = w.size + 1 → i < m → 0 ≤ c.1 → c.1 ≤ 1000 → 100 < k →
    spec_FewestParts.l1 (k + d + 1) w (w.size : Int) (L.set i c.1) (i : Int) (m : Int) =
      spec_FewestParts.l0 k w (w.size : Int) (L.set i (minR w f i d m c).1) ((i : Int) - 1) := by
  intro d
  induction d with
  | zero =>
    intro k m c hd hm h0 h1 hk
    simp only [spec_FewestParts.l1]
    rw [if_neg (by omega), wrap_id (by omega) (by omega)]; rfl
  | succ d ih =>
    intro k m c hd hm h0 h1 hk
    obtain ⟨c1, c2⟩ := c
    simp only at h0 h1
    obtain ⟨q, hq⟩ : ∃ q, q = k + d + 1 := ⟨_, rfl⟩
    have hms : m ≤ w.size := by omega
    have hTm := hT m hm hms
    have a1 : (m : Int) ≤ (w.size : Int) := by omega
    have a2 : (0 : Int) ≤ (i : Int) := by omega
    have a3 : (i : Int) ≤ (m : Int) := by omega
    have a4 : (0 : Int) ≤ (m : Int) := by omega
    have a5 : (m : Int) < (L.length : Int) := by omega
    have a6 : (i : Int) < (L.length : Int) := by omega
    have a7 : i < L.length := by omega
    have a8 : i ≠ m := by omega
    have a9 := a6
    have n1 : m + 1 + d = w.size + 1 := by omega
    have n2 : i < m + 1 := by omega
    have n3 : 0 ≤ 1 + f m := by omega
    have n5 : 1 + f m ≤ 9223372036854775807 := by omega
    have n6 : -9223372036854775808 ≤ 1 + f m := by omega
    have hsz : (w.extract i m).size ≤ 1000000 := by rw [ByteArray.size_extract]; omega
    have hsz2 : (w.extract i m).size < q := by rw [ByteArray.size_extract]; omega
    have hw1 : wrap64 ((m : Int) + 1) = ((m + 1 : Nat) : Int) := wrap_succ (by omega)
    rw [show k + (d + 1) + 1 = q + 1 by rw [hq]; rfl]
    simp only [spec_FewestParts.l1]
    rw [if_pos a1, if_pos a2, if_pos a3, if_pos a1, Int.toNat_natCast, Int.toNat_natCast, l04Is_f _ hsz q hsz2, hw1, rd_set_ne _ _ _ _ a8, rd_set_eq _ _ _ a7, hf]
    simp only [Option.bind_some, List.length_set]
    rw [minR]
    subst hq
    by_cases hp : isPal (w.extract i m) = true
    · rw [if_pos hp, if_pos a6, if_pos a4, if_pos a5, wrap_id n6 n5, set_set]
      by_cases hc : 1 + f m ≤ c1
      · rw [mn_le _ _ hc, if_pos ⟨hp, hc⟩]
        exact ih k (m + 1) (1 + f m, (m : Int)) n1 n2 n3 (Int.le_trans hc h1) hk
      · rw [mn_ge _ _ hc, if_neg (fun h => hc h.2)]
        exact ih k (m + 1) (c1, c2) n1 n2 h0 h1 hk
    · rw [if_neg hp, if_neg (fun h => hp h.1)]
      exact ih k (m + 1) (c1, c2) n1 n2 h0 h1 hk

theorem tabs_small (w : ByteArray) (hw : w.size ≤ 60) (d : Nat) (hd : d ≤ w.size) (j : Nat) (h1 : w.size - d ≤ j) (h2 : j ≤ w.size) : 0 ≤ rd (tabs w d).1 (j : Int) ∧ rd (tabs w d).1 (j : Int) ≤ 1000 := by
  obtain ⟨h0, h⟩ := tabs_ok w d hd
  by_cases c : j = w.size
  · subst c; rw [h0]; omega
  · have := (h j h1 (by omega)).2; omega

theorem set_rd_self (l : List Int) (i : Nat) (h : i < l.length) : l.set i (rd l (i : Int)) = l := by
  rw [rd_nat l i h]; exact List.set_getElem_self h

theorem impl_rows (w : ByteArray) (hw : w.size ≤ 60) (X : Nat) (hX : 200 ≤ X) : ∀ (e d k : Nat), e + d = w.size → e * 100 + X < k →
    ∃ k', X < k' ∧ impl_FewestParts.l0 k w (w.size : Int) (tabs w d).1 (tabs w d).2 ((e : Int) - 1) = impl_FewestParts.l0 k' w (w.size : Int) (tabs w w.size).1 (tabs w w.size).2 (-1) := by
  intro e
  induction e with
  | zero =>
    intro d k hd hk
    obtain rfl : d = w.size := by omega
    exact ⟨k, by omega, rfl⟩
  | succ e ih =>
    intro d k hd hk
    have hlen := tabs_length w d
    have hie : w.size - (d + 1) = e := by omega
    obtain ⟨k, rfl⟩ : ∃ n, k = (n + (w.size - e) + 1) + 1 := ⟨k - (w.size - e) - 2, by omega⟩
    obtain ⟨q, hq⟩ : ∃ q, q = k + (w.size - e) + 1 := ⟨_, rfl⟩
    have hrow := impl_row w hw (tabs w d).1 (tabs w d).2 hlen.1 hlen.2 e (by omega) _ (fun j => rfl) (fun j h1 h2 => tabs_small w hw d (by omega) j (by omega) h2) (w.size - e) k (e + 1) ((w.size : Int) + 1, rd (tabs w d).2 (e : Int)) (by omega) (by omega) (by show (0 : Int) ≤ (w.size : Int) + 1; omega) (by show (w.size : Int) + 1 ≤ 1000; omega) (by omega)
    simp only at hrow
    rw [set_rd_self _ _ (by omega)] at hrow
    have hnext : tabs w (d + 1) = ((tabs w d).1.set e (minR w (fun j => rd (tabs w d).1 (j : Int)) e (w.size - e) (e + 1) ((w.size : Int) + 1, rd (tabs w d).2 (e : Int))).1, (tabs w d).2.set e (minR w (fun j => rd (tabs w d).1 (j : Int)) e (w.size - e) (e + 1) ((w.size : Int) + 1, rd (tabs w d).2 (e : Int))).2) := by
      simp only [tabs]; rw [hie]
    obtain ⟨k', h1, h2⟩ := ih (d + 1) k (by omega) (by omega)
    refine ⟨k', by omega, ?_⟩
    rw [← h2, hnext]
    rw [← hq] at hrow ⊢
    simp only [impl_FewestParts.l0]
    rw [show ((e + 1 : Nat) : Int) - 1 = (e : Int) by omega, if_pos (by omega), if_pos (by omega), if_pos (by omega), Int.toNat_natCast, wrap_id (x := (w.size : Int) + 1) (by omega) (by omega), show wrap64 ((e : Int) + 1) = ((e + 1 : Nat) : Int) from wrap_succ (by omega), hrow]

theorem spec_rows (w : ByteArray) (hw : w.size ≤ 60) (X : Nat) (hX : 200 ≤ X) : ∀ (e d k : Nat), e + d = w.size → e * 100 + X < k →
    ∃ k', X < k' ∧ spec_FewestParts.l0 k w (w.size : Int) (tabs w d).1 ((e : Int) - 1) = spec_FewestParts.l0 k' w (w.size : Int) (tabs w w.size).1 (-1) := by
  intro e
  induction e with
  | zero =>
    intro d k hd hk
    obtain rfl : d = w.size := by omega
    exact ⟨k, by omega, rfl⟩
  | succ e ih =>
    intro d k hd hk
    have hlen := tabs_length w d
    have hie : w.size - (d + 1) = e := by omega
    obtain ⟨k, rfl⟩ : ∃ n, k = (n + (w.size - e) + 1) + 1 := ⟨k - (w.size - e) - 2, by omega⟩
    obtain ⟨q, hq⟩ : ∃ q, q = k + (w.size - e) + 1 := ⟨_, rfl⟩
    have hrow := spec_row w hw (tabs w d).1 hlen.1 e (by omega) _ (fun j => rfl) (fun j h1 h2 => tabs_small w hw d (by omega) j (by omega) h2) (w.size - e) k (e + 1) ((w.size : Int) + 1, rd (tabs w d).2 (e : Int)) (by omega) (by omega) (by show (0 : Int) ≤ (w.size : Int) + 1; omega) (by show (w.size : Int) + 1 ≤ 1000; omega) (by omega)
    simp only at hrow
    have hnext : (tabs w (d + 1)).1 = (tabs w d).1.set e (minR w (fun j => rd (tabs w d).1 (j : Int)) e (w.size - e) (e + 1) ((w.size : Int) + 1, rd (tabs w d).2 (e : Int))).1 := by
      simp only [tabs]; rw [hie]
    obtain ⟨k', h1, h2⟩ := ih (d + 1) k (by omega) (by omega)
    refine ⟨k', by omega, ?_⟩
    rw [← h2, hnext]
    rw [← hq] at hrow ⊢
    simp only [spec_FewestParts.l0]
    rw [show ((e + 1 : Nat) : Int) - 1 = (e : Int) by omega, if_pos (by omega), if_pos (by omega), if_pos (by omega), Int.toNat_natCast, wrap_id (x := (w.size : Int) + 1) (by omega) (by omega), show wrap64 ((e : Int) + 1) = ((e + 1 : Nat) : Int) from wrap_succ (by omega), hrow]

/-- The parts that the table of ends cuts out. -/
def cuts (w : ByteArray) (E : List Int) : Nat → Nat → List ByteArray
  | 0, _ => []
  | d + 1, i => if i < w.size then w.extract i (rd E (i : Int)).toNat :: cuts w E d (rd E (i : Int)).toNat else []
theorem cuts_length (w : ByteArray) (E : List Int) : ∀ d i, (cuts w E d i).length ≤ d
  | 0, _ => Nat.le_refl _
  | d + 1, i => by
    rw [cuts]; split
    · have := cuts_length w E d (rd E (i : Int)).toNat
      rw [List.length_cons]; omega
    · exact Nat.zero_le _

theorem impl_cut (w : ByteArray) (hw : w.size ≤ 60) (L E : List Int) (hE : E.length = w.size + 1) (hok : ∀ i, i < w.size → RowOk w L E i) : ∀ (d k i : Nat) (acc : List ByteArray), w.size < i + d → acc.length ≤ i → i ≤ w.size → d < k →
    impl_FewestParts.l2 k w (w.size : Int) E acc (i : Int) = some (acc ++ cuts w E d i, 0) := by
  intro d
  induction d with
  | zero => intro k i acc hd ha hi hk; omega
  | succ d ih =>
    intro k i acc hd ha hi hk
    obtain ⟨k, rfl⟩ : ∃ n, k = n + 1 := ⟨k - 1, by omega⟩
    simp only [impl_FewestParts.l2]
    rw [cuts]
    by_cases h : i < w.size
    · have hr := hok i h
      have hlo := hr.1.lo
      have hhi := hr.1.hi
      simp only at hlo hhi
      rw [if_pos (by omega), if_pos (by omega), if_pos (by omega), if_pos (by omega), if_pos (by omega), if_pos (by omega), if_pos h, Int.toNat_natCast]
      obtain ⟨j, hj⟩ : ∃ j : Nat, rd E (i : Int) = j := ⟨(rd E (i : Int)).toNat, by omega⟩
      rw [hj, Int.toNat_natCast, ih k j _ (by omega) (by simp; omega) (by omega) (by omega)]
      simp
    · rw [if_neg (by omega), if_neg h]; simp

theorem spec_find (w : ByteArray) (hw : w.size ≤ 60) (L : List Int) (hL : L.length = w.size + 1) (f : Nat → Int) (hf : ∀ j : Nat, rd L (j : Int) = f j) (hs : ∀ j : Nat, j ≤ w.size → 0 ≤ f j ∧ f j ≤ 1000) (i j : Nat) (hi : i < w.size) (hlo : i < j) (hhi : j ≤ w.size)
    (hpal : isPal (w.extract i j) = true) (heq : f i = 1 + f j) (hbest : ∀ e : Nat, i < e → e < w.size + 1 → isPal (w.extract i e) = true → f i = 1 + f e → e ≤ j) (acc : List ByteArray) (ha : acc.length ≤ 100) :
    ∀ (d k : Nat), j + d ≤ w.size → 100 < k → spec_FewestParts.l3 (k + d + 1) w (w.size : Int) L acc (i : Int) ((j + d : Nat) : Int) = spec_FewestParts.l2 k w (w.size : Int) L (acc ++ [w.extract i j]) (j : Int) := by
  have hlen : acc.length < 8796093022208 := by omega
  intro d
  induction d with
  | zero =>
    intro k hd hk
    have hsz : (w.extract i j).size ≤ 1000000 := by rw [ByteArray.size_extract]; omega
    have hsz2 : (w.extract i j).size < k := by rw [ByteArray.size_extract]; omega
    have hsj := hs j hhi
    have a1 : (j : Int) > (i : Int) := by omega
    have a2 : (0 : Int) ≤ (i : Int) := by omega
    have a3 : (i : Int) ≤ (j : Int) := by omega
    have a4 : (j : Int) ≤ (w.size : Int) := by omega
    have a5 : (i : Int) < (L.length : Int) := by omega
    have a6 : (0 : Int) ≤ (j : Int) := by omega
    have a7 : (j : Int) < (L.length : Int) := by omega
    have n5 : 1 + f j ≤ 9223372036854775807 := by omega
    have n6 : -9223372036854775808 ≤ 1 + f j := by omega
    simp only [Nat.add_zero, spec_FewestParts.l3]
    rw [if_pos a1, if_pos a2, if_pos a3, if_pos a4, Int.toNat_natCast, Int.toNat_natCast, l04Is_f _ hsz k hsz2]
    simp only [Option.bind_some]
    rw [if_pos hpal, if_pos a5, if_pos a6, if_pos a7, hf, hf, wrap_id n6 n5, if_pos heq, if_pos hlen]
  | succ d ih =>
    intro k hd hk
    obtain ⟨q, hq⟩ : ∃ q, q = k + d + 1 := ⟨_, rfl⟩
    obtain ⟨m, hm⟩ : ∃ m, m = j + (d + 1) := ⟨_, rfl⟩
    have hsj := hs m (by omega)
    have hsz : (w.extract i m).size ≤ 1000000 := by rw [ByteArray.size_extract]; omega
    have hsz2 : (w.extract i m).size < q := by rw [ByteArray.size_extract]; omega
    have a1 : (m : Int) > (i : Int) := by omega
    have a2 : (0 : Int) ≤ (i : Int) := by omega
    have a3 : (i : Int) ≤ (m : Int) := by omega
    have a4 : (m : Int) ≤ (w.size : Int) := by omega
    have a5 : (i : Int) < (L.length : Int) := by omega
    have a6 : (0 : Int) ≤ (m : Int) := by omega
    have a7 : (m : Int) < (L.length : Int) := by omega
    have n5 : 1 + f m ≤ 9223372036854775807 := by omega
    have n6 : -9223372036854775808 ≤ 1 + f m := by omega
    have b1 : i < m := by omega
    have b2 : m < w.size + 1 := by omega
    have b3 : ¬ m ≤ j := by omega
    have hih := ih k (by omega) hk
    have hw1 : wrap64 ((m : Int) - 1) = ((j + d : Nat) : Int) := wrap_nat (by omega) (by omega)
    rw [← hq] at hih
    rw [← hm, show k + (d + 1) + 1 = q + 1 by rw [hq]; rfl]
    simp only [spec_FewestParts.l3]
    rw [if_pos a1, if_pos a2, if_pos a3, if_pos a4, Int.toNat_natCast, Int.toNat_natCast, l04Is_f _ hsz q hsz2, hw1]
    simp only [Option.bind_some]
    by_cases hp : isPal (w.extract i m) = true
    · rw [if_pos hp, if_pos a5, if_pos a6, if_pos a7, hf, hf, wrap_id n6 n5, if_neg (fun e => b3 (hbest m b1 b2 hp e))]
      exact hih
    · rw [if_neg hp]; exact hih

theorem spec_cut (w : ByteArray) (hw : w.size ≤ 60) (L E : List Int) (hL : L.length = w.size + 1) (hok : ∀ i, i < w.size → RowOk w L E i) (hs : ∀ j : Nat, j ≤ w.size → 0 ≤ rd L (j : Int) ∧ rd L (j : Int) ≤ 1000) : ∀ (d k i : Nat) (acc : List ByteArray), w.size < i + d → acc.length ≤ i → i ≤ w.size → d * 100 + 200 < k →
    spec_FewestParts.l2 k w (w.size : Int) L acc (i : Int) = some (acc ++ cuts w E d i, 0) := by
  intro d
  induction d with
  | zero => intro k i acc hd ha hi hk; omega
  | succ d ih =>
    intro k i acc hd ha hi hk
    rw [cuts]
    by_cases h : i < w.size
    · obtain ⟨j, hj, hlo, hhi, hpal, heq, hbest⟩ : ∃ j : Nat, rd E (i : Int) = j ∧ i < j ∧ j ≤ w.size ∧ isPal (w.extract i j) = true ∧ rd L (i : Int) = 1 + rd L (j : Int) ∧ (∀ e : Nat, i < e → e < w.size + 1 → isPal (w.extract i e) = true → rd L (i : Int) = 1 + rd L (e : Int) → e ≤ j) := by
        have hr := (hok i h).1
        have hlo := hr.lo
        have hhi := hr.hi
        have hpal := hr.pal
        have heq := hr.eq
        have hbest := hr.best
        simp only at hlo hhi hpal heq hbest
        generalize rd E (i : Int) = x at hlo hhi hpal heq hbest
        obtain ⟨j, rfl⟩ : ∃ j : Nat, x = j := ⟨x.toNat, by omega⟩
        rw [Int.toNat_natCast] at hpal heq
        exact ⟨j, rfl, Int.ofNat_lt.1 hlo, Nat.lt_succ_iff.1 (Int.ofNat_lt.1 hhi), hpal, heq.symm, fun e h1 h2 h3 h4 => Int.ofNat_le.1 ((hbest e h1 h2 h3).2 h4.symm)⟩
      obtain ⟨k, rfl⟩ : ∃ n, k = (n + (w.size - j) + 1) + 1 := ⟨k - (w.size - j) - 2, by omega⟩
      have hf := spec_find w hw L hL (fun j => rd L (j : Int)) (fun _ => rfl) hs i j h hlo hhi hpal heq hbest acc (by omega) (w.size - j) k (by omega) (by omega)
      rw [show j + (w.size - j) = w.size by omega] at hf
      have hih := ih k j (acc ++ [w.extract i j]) (by omega) (by rw [List.length_append]; show acc.length + 1 ≤ j; omega) hhi (by omega)
      have hz : (i : Int) < (w.size : Int) := by omega
      obtain ⟨q, hq⟩ : ∃ q, q = k + (w.size - j) + 1 := ⟨_, rfl⟩
      rw [← hq] at hf ⊢
      simp only [spec_FewestParts.l2]
      rw [if_pos hz, hf, if_pos h, hj, Int.toNat_natCast, hih, List.append_assoc]
      rfl
    · obtain ⟨k, rfl⟩ : ∃ n, k = n + 1 := ⟨k - 1, by omega⟩
      simp only [spec_FewestParts.l2]
      rw [if_neg (by omega), if_neg h, List.append_nil]

/-- The parts. -/
def partsW (w : ByteArray) : List ByteArray := cuts w (tabs w w.size).2 (w.size + 1) 0
theorem partsW_length (w : ByteArray) (hw : w.size ≤ 60) : (partsW w).length ≤ 61 := by have := cuts_length w (tabs w w.size).2 (w.size + 1) 0; unfold partsW; omega

theorem impl_fewest (w : ByteArray) (hw : w.size ≤ 60) (k : Nat) (hk : 20000 < k) : impl_FewestParts.l0 k w (w.size : Int) (List.replicate (w.size + 1) 0) (List.replicate (w.size + 1) 0) ((w.size : Int) - 1) = some (partsW w, 0) := by
  have hlen := tabs_length w w.size
  obtain ⟨_, hok⟩ := tabs_ok w w.size (Nat.le_refl _)
  obtain ⟨k', h1, h2⟩ := impl_rows w hw 8000 (by omega) w.size 0 k (by omega) (by omega)
  simp only [tabs] at h2
  rw [h2]
  obtain ⟨k', rfl⟩ : ∃ n, k' = n + 1 := ⟨k' - 1, by omega⟩
  simp only [impl_FewestParts.l0]
  rw [if_neg (by omega)]
  exact impl_cut w hw _ _ hlen.2 (fun i hi => hok i (by omega) hi) (w.size + 1) k' 0 [] (by omega) (by simp) (by omega) (by omega)
theorem spec_fewest (w : ByteArray) (hw : w.size ≤ 60) (k : Nat) (hk : 20000 < k) : spec_FewestParts.l0 k w (w.size : Int) (List.replicate (w.size + 1) 0) ((w.size : Int) - 1) = some (partsW w, 0) := by
  have hlen := tabs_length w w.size
  obtain ⟨_, hok⟩ := tabs_ok w w.size (Nat.le_refl _)
  obtain ⟨k', h1, h2⟩ := spec_rows w hw 8000 (by omega) w.size 0 k (by omega) (by omega)
  simp only [tabs] at h2
  rw [h2]
  obtain ⟨k', rfl⟩ : ∃ n, k' = n + 1 := ⟨k' - 1, by omega⟩
  simp only [spec_FewestParts.l0]
  rw [if_neg (by omega)]
  exact spec_cut w hw _ _ hlen.1 (fun i hi => hok i (by omega) hi) (fun j hj => tabs_small w hw w.size (Nat.le_refl _) j (by omega) hj) (w.size + 1) k' 0 [] (by omega) (by simp) (by omega) (by omega)

end Go.Proofs.Ythifbnojmoknmaa.PF
