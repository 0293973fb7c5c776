/- Plain facts on the library's sort of letters: what the printed functions compute is what the plain functions compute. -/
import Derived.Test.YtippkbjdifmdnaaPFx2
import Derived.Test.YtippkbjdifmdnaaPFx4
import Derived.Test.YtippkbjdifmdnaaPFx4
import Derived.Test.YtippkbjdifmdnaaPFx5
import Derived.Test.YtippkbjdifmdnaaPFx6
import Derived.Test.YtippkbjdifmdnaaPFx7
import Derived.Sort.LotC
import Derived.Sort.LotA
namespace Go.Proofs.Ytippkbjdifmdnaa.PF
open Go.RowKit Go.Sort Go.Proofs.YtippkbjdifmdnaaW.PrintWords Go.Proofs.YtippkbjdifmdnaaW.PrintLast Go.Proofs.YtippkbjdifmdnaaW.PrintMore
set_option linter.unusedVariables false
set_option linter.unusedSimpArgs false

theorem wS {x : Int} (h0 : -9223372036854775808 ≤ x) (h1 : x ≤ 9223372036854775807) : wrap64 x = x := by
  unfold wrap64; omega
theorem wN {x : Int} {n : Nat} (h : x = n) (hn : n ≤ 9223372036854775807) : wrap64 x = (n : Int) := by rw [h, wS (by omega) (by omega)]
theorem ltS (x y : Int) : cmp_Less_byte.f x y = some (ltInt x y) := by
  simp [cmp_Less_byte.f, cmp_isNaN_byte.f, ltInt]
theorem rdA (d : Array Int) (i : Nat) : rd d.toList (i : Int) = d[i]! := by
  simp only [rd, Int.toNat_natCast, List.getD_eq_getElem?_getD, Array.getElem?_toList, getElem!_def]
  cases d[i]? <;> rfl
theorem swA (d : Array Int) (i j : Nat) : (d.toList.set i d[j]!).set j d[i]! = (swp d i j).toList := by
  simp [swp]

/-! ### insertionSort -/
theorem ins1 (a b i : Nat) : ∀ (j : Nat) (d : Array Int) (r : List Int), j < d.size → d.size < 4611686018427387904 →
    (∃ k, slices_insertionSortOrdered_byte.l0 k (insInner ltInt a j d).toList a b (wrap64 ((i : Int) + 1)) = some r) → ∃ k, slices_insertionSortOrdered_byte.l1 k d.toList a b i (j : Int) = some r
  | 0, d, r, hj, hs, ⟨k, h⟩ => ⟨k + 1, by
    unfold slices_insertionSortOrdered_byte.l1
    rw [if_neg (by omega)]
    exact h⟩
  | j + 1, d, r, hj, hs, ⟨k, h⟩ => by
    by_cases hc : j + 1 > a
    · have e1 : wrap64 (((j + 1 : Nat) : Int) - 1) = (j : Int) := wN (by omega) (by omega)
      have c1 : ((j + 1 : Nat) : Int) > (a : Int) := by omega
      have c2 : 0 ≤ ((j + 1 : Nat) : Int) := by omega
      have c3 : ((j + 1 : Nat) : Int) < (d.size : Int) := by omega
      have c4 : 0 ≤ (j : Int) := by omega
      have c5 : (j : Int) < (d.size : Int) := by omega
      by_cases hl : ltInt d[j + 1]! d[j]! = true
      · have e2 : insInner ltInt a (j + 1) d = insInner ltInt a j (swp d (j + 1) j) := by
          rw [insInner, if_pos (by simp [hc, hl])]
        rw [e2] at h
        obtain ⟨k', h'⟩ := ins1 a b i j (swp d (j + 1) j) r (by rw [size_swp]; omega) (by rw [size_swp]; exact hs) ⟨k, h⟩
        refine ⟨k' + 1, ?_⟩
        unfold slices_insertionSortOrdered_byte.l1
        simp only [e1, Array.length_toList, rdA, ltS, Option.bind_some, Int.toNat_natCast, if_pos c1, if_pos c2, if_pos c3, if_pos c4, if_pos c5, hl, if_true, swA]
        exact h'
      · have e2 : insInner ltInt a (j + 1) d = d := by
          rw [insInner, if_neg (by simp [hl])]
        rw [e2] at h
        refine ⟨k + 1, ?_⟩
        unfold slices_insertionSortOrdered_byte.l1
        simp only [e1, Array.length_toList, rdA, ltS, Option.bind_some, Int.toNat_natCast, if_pos c1, if_pos c2, if_pos c3, if_pos c4, if_pos c5, hl, if_false, swA, Bool.false_eq_true]
        exact h
    · have e2 : insInner ltInt a (j + 1) d = d := by
        rw [insInner, if_neg (by simp [hc])]
      rw [e2] at h
      refine ⟨k + 1, ?_⟩
      unfold slices_insertionSortOrdered_byte.l1
      rw [if_neg (by omega)]
      exact h

theorem size_insInner (a : Nat) : ∀ (j : Nat) (d : Array Int), (insInner ltInt a j d).size = d.size
  | 0, d => rfl
  | j + 1, d => by
    rw [insInner]
    split
    · rw [size_insInner a j, size_swp]
    · rfl

theorem ins0 (a b : Nat) : ∀ (n i : Nat) (d : Array Int), b - i ≤ n → b ≤ d.size → d.size < 4611686018427387904 → ∃ k, slices_insertionSortOrdered_byte.l0 k d.toList a b (i : Int) = some (insOuter ltInt a b i d).toList := by
  intro n
  induction n with
  | zero =>
    intro i d h1 h2 h3
    refine ⟨1, ?_⟩
    rw [insOuter, if_neg (by omega)]
    unfold slices_insertionSortOrdered_byte.l0
    rw [if_neg (by omega)]
  | succ n ih =>
    intro i d h1 h2 h3
    rw [insOuter]
    by_cases hi : i < b
    · rw [if_pos hi]
      have e1 : wrap64 ((i : Int) + 1) = ((i + 1 : Nat) : Int) := wN (by omega) (by omega)
      obtain ⟨k, h⟩ := ih (i + 1) (insInner ltInt a i d) (by omega) (by rw [size_insInner]; exact h2) (by rw [size_insInner]; exact h3)
      obtain ⟨k', h'⟩ := ins1 a b i i d _ (by omega) h3 ⟨k, by rw [e1]; exact h⟩
      refine ⟨k' + 1, ?_⟩
      unfold slices_insertionSortOrdered_byte.l0
      rw [if_pos (by omega)]
      exact h'
    · rw [if_neg hi]
      refine ⟨1, ?_⟩
      unfold slices_insertionSortOrdered_byte.l0
      rw [if_neg (by omega)]

theorem same_ins (l : List Int) (a b : Nat) (hab : a ≤ b) (hb : b ≤ l.length) (hn : l.length < 4611686018427387904) : ∃ k, slices_insertionSortOrdered_byte.f k l (a : Int) (b : Int) = some (insertionSort ltInt l.toArray a b).toList := by
  obtain ⟨k, h⟩ := ins0 a b (b - (a + 1)) (a + 1) l.toArray (Nat.le_refl _) (by simpa using hb) (by simpa using hn)
  refine ⟨k, ?_⟩
  unfold slices_insertionSortOrdered_byte.f
  rw [show wrap64 ((a : Int) + 1) = ((a + 1 : Nat) : Int) from wN (by omega) (by omega)]
  exact h

/-! ### reverseRange -/
theorem rev0 : ∀ (n i j : Nat) (d : Array Int), j - i ≤ n → j < d.size ∨ j ≤ i → d.size < 4611686018427387904 → i < 4611686018427387904 → ∃ k, slices_reverseRangeOrdered_byte.l0 k d.toList (i : Int) (j : Int) = some (reverseLoop i j d).toList := by
  intro n
  induction n with
  | zero =>
    intro i j d h1 h2 h3 h4
    refine ⟨1, ?_⟩
    rw [reverseLoop, if_neg (by omega)]
    unfold slices_reverseRangeOrdered_byte.l0
    rw [if_neg (by omega)]
  | succ n ih =>
    intro i j d h1 h2 h3 h4
    rw [reverseLoop]
    by_cases hi : i < j
    · rw [if_pos hi]
      have e1 : wrap64 ((i : Int) + 1) = ((i + 1 : Nat) : Int) := wN (by omega) (by omega)
      have e2 : wrap64 ((j : Int) - 1) = ((j - 1 : Nat) : Int) := wN (by omega) (by omega)
      obtain ⟨k, h⟩ := ih (i + 1) (j - 1) (swp d i j) (by omega) (by rw [size_swp]; omega) (by rw [size_swp]; exact h3) (by omega)
      have c1 : (i : Int) < (j : Int) := by omega
      have c2 : 0 ≤ (j : Int) := by omega
      have c3 : (j : Int) < (d.size : Int) := by omega
      have c4 : 0 ≤ (i : Int) := by omega
      have c5 : (i : Int) < (d.size : Int) := by omega
      refine ⟨k + 1, ?_⟩
      unfold slices_reverseRangeOrdered_byte.l0
      simp only [e1, e2, Array.length_toList, rdA, Int.toNat_natCast, if_pos c1, if_pos c2, if_pos c3, if_pos c4, if_pos c5, swA]
      exact h
    · rw [if_neg hi]
      refine ⟨1, ?_⟩
      unfold slices_reverseRangeOrdered_byte.l0
      rw [if_neg (by omega)]

theorem same_rev (l : List Int) (a b : Nat) (hab : a ≤ b) (hb : b ≤ l.length) (hn : l.length < 4611686018427387904) : ∃ k, slices_reverseRangeOrdered_byte.f k l (a : Int) (b : Int) = some (reverseRange l.toArray a b).toList := by
  by_cases h0 : b = 0
  · subst h0
    have ha : a = 0 := by omega
    subst ha
    refine ⟨1, ?_⟩
    unfold slices_reverseRangeOrdered_byte.f reverseRange
    rw [show wrap64 (((0 : Nat) : Int) - 1) = -1 from wS (by omega) (by omega), reverseLoop, if_neg (by omega)]
    unfold slices_reverseRangeOrdered_byte.l0
    rw [if_neg (by omega)]
  · obtain ⟨k, h⟩ := rev0 (b - 1 - a) a (b - 1) l.toArray (Nat.le_refl _) (.inl (by simp; omega)) (by simpa using hn) (by omega)
    refine ⟨k, ?_⟩
    unfold slices_reverseRangeOrdered_byte.f
    rw [show wrap64 ((b : Int) - 1) = ((b - 1 : Nat) : Int) from wN (by omega) (by omega)]
    exact h

/-! ### siftDown, heapSort -/
theorem upO {α : Type} {f : Nat → Option α} (h : ∀ k, LeO (f k) (f (k + 1))) {r : α} : ∀ (m k : Nat), f k = some r → f (k + m) = some r
  | 0, k, h1 => h1
  | m + 1, k, h1 => h (k + m) r (upO h m k h1)

theorem size_sift (hi first : Nat) : ∀ (n root : Nat) (d : Array Int), hi - root ≤ n → (siftDown ltInt hi first root d).size = d.size := by
  intro n
  induction n with
  | zero => intro root d h; rw [siftDown, dif_pos (by omega)]
  | succ n ih =>
    intro root d h
    rw [siftDown]
    split
    · rfl
    · split
      · split
        · rfl
        · split
          · rw [ih _ _ (by omega), size_swp]
          · rfl
      · split
        · rfl
        · rw [ih _ _ (by omega), size_swp]

theorem wA {a b : Nat} (h : a + b ≤ 9223372036854775807) : wrap64 ((a : Int) + (b : Int)) = ((a + b : Nat) : Int) := wN (by omega) h
theorem w1 {a : Nat} (h : a + 1 ≤ 9223372036854775807) : wrap64 ((a : Int) + 1) = ((a + 1 : Nat) : Int) := wN (by omega) h
theorem w2 {a : Nat} (h : 2 * a ≤ 9223372036854775807) : wrap64 (2 * (a : Int)) = ((2 * a : Nat) : Int) := wN (by omega) h
theorem wP {a : Nat} (h : a + 1 ≤ 9223372036854775807) : wrap64 (((a + 1 : Nat) : Int) - 1) = (a : Int) := wN (by omega) (by omega)

/-- The second half of a round of siftDown. -/
theorem sift1 (hi first root c : Nat) (d : Array Int) (t : Bool) (c' : Nat) (hc : c' = if t then c + 1 else c) (q1 : first + root < d.size) (q2 : first + c' < d.size) (q3 : d.size < 4611686018427387904)
    (h : ∃ k, slices_siftDownOrdered_byte.l0 k (swp d (first + root) (first + c')).toList (hi : Int) (first : Int) (c' : Int) = some (siftDown ltInt hi first c' (swp d (first + root) (first + c'))).toList) :
    ∃ k, slices_siftDownOrdered_byte.j1 k d.toList (hi : Int) (first : Int) (root : Int) (c : Int) t =
      some (if (!ltInt d[first + root]! d[first + c']!) = true then d else siftDown ltInt hi first c' (swp d (first + root) (first + c'))).toList := by
  have g2 : 0 ≤ ((first + root : Nat) : Int) := Int.natCast_nonneg _
  have g3 : ((first + root : Nat) : Int) < (d.size : Int) := Int.ofNat_lt.2 q1
  have g4 : 0 ≤ ((first + c' : Nat) : Int) := Int.natCast_nonneg _
  have g5 : ((first + c' : Nat) : Int) < (d.size : Int) := Int.ofNat_lt.2 q2
  have m1 : first + root ≤ 9223372036854775807 := by omega
  have m2 : first + c' ≤ 9223372036854775807 := by omega
  cases t
  · obtain rfl : c' = c := by simpa using hc
    by_cases hl : ltInt d[first + root]! d[first + c']! = true
    · obtain ⟨k, h⟩ := h
      refine ⟨k + 1, ?_⟩
      unfold slices_siftDownOrdered_byte.j1
      simp only [wA m1, wA m2, Bool.false_eq_true, if_false, Array.length_toList, rdA, ltS, Option.bind_some, Int.toNat_natCast, g2, g3, g4, g5, hl, if_true, swA, Bool.not_true]
      exact h
    · have hl' : ltInt d[first + root]! d[first + c']! = false := by simpa using hl
      refine ⟨1, ?_⟩
      unfold slices_siftDownOrdered_byte.j1
      simp only [wA m1, wA m2, Bool.false_eq_true, if_false, Array.length_toList, rdA, ltS, Option.bind_some, Int.toNat_natCast, g2, g3, g4, g5, hl', if_true, swA, Bool.not_false]
  · obtain rfl : c' = c + 1 := by simpa using hc
    have m3 : c + 1 ≤ 9223372036854775807 := by omega
    by_cases hl : ltInt d[first + root]! d[first + (c + 1)]! = true
    · obtain ⟨k, h⟩ := h
      refine ⟨k + 1, ?_⟩
      unfold slices_siftDownOrdered_byte.j1
      simp only [w1 m3, wA m1, wA m2, Bool.false_eq_true, if_false, Array.length_toList, rdA, ltS, Option.bind_some, Int.toNat_natCast, g2, g3, g4, g5, hl, if_true, swA, Bool.not_true]
      exact h
    · have hl' : ltInt d[first + root]! d[first + (c + 1)]! = false := by simpa using hl
      refine ⟨1, ?_⟩
      unfold slices_siftDownOrdered_byte.j1
      simp only [w1 m3, wA m1, wA m2, Bool.false_eq_true, if_false, Array.length_toList, rdA, ltS, Option.bind_some, Int.toNat_natCast, g2, g3, g4, g5, hl', if_true, swA, Bool.not_false]

theorem sift0 (hi first : Nat) : ∀ (n root : Nat) (d : Array Int), hi - root ≤ n → root ≤ hi → first + hi ≤ d.size → d.size < 4611686018427387904 →
    ∃ k, slices_siftDownOrdered_byte.l0 k d.toList (hi : Int) (first : Int) (root : Int) = some (siftDown ltInt hi first root d).toList := by
  intro n
  induction n with
  | zero =>
    intro root d h1 h2 h3 h4
    have m1 : 2 * root ≤ 9223372036854775807 := by omega
    have m2 : 2 * root + 1 ≤ 9223372036854775807 := by omega
    have g1 : ((2 * root + 1 : Nat) : Int) ≥ (hi : Int) := by omega
    refine ⟨1, ?_⟩
    rw [siftDown, dif_pos (by omega)]
    unfold slices_siftDownOrdered_byte.l0
    rw [w2 m1, w1 m2, if_pos g1]
  | succ n ih =>
    intro root d h1 h2 h3 h4
    have m1 : 2 * root ≤ 9223372036854775807 := by omega
    have m2 : 2 * root + 1 ≤ 9223372036854775807 := by omega
    rw [siftDown]
    by_cases hc : 2 * root + 1 ≥ hi
    · have g1 : ((2 * root + 1 : Nat) : Int) ≥ (hi : Int) := by omega
      refine ⟨1, ?_⟩
      rw [dif_pos hc]
      unfold slices_siftDownOrdered_byte.l0
      rw [w2 m1, w1 m2, if_pos g1]
    · rw [dif_neg hc]
      have g1 : ¬ (((2 * root + 1 : Nat) : Int) ≥ (hi : Int)) := by omega
      have m3 : 2 * root + 1 + 1 ≤ 9223372036854775807 := by omega
      have m4 : first + (2 * root + 1) ≤ 9223372036854775807 := by omega
      have m5 : first + (2 * root + 1) + 1 ≤ 9223372036854775807 := by omega
      have q1 : first + root < d.size := by omega
      have q2 : first + (2 * root + 1) < d.size := by omega
      have g4 : 0 ≤ ((first + (2 * root + 1) : Nat) : Int) := Int.natCast_nonneg _
      have g5 : ((first + (2 * root + 1) : Nat) : Int) < (d.size : Int) := Int.ofNat_lt.2 q2
      obtain ⟨k0, h0⟩ := sift1 hi first root (2 * root + 1) d false (2 * root + 1) rfl q1 q2 h4 (ih (2 * root + 1) (swp d (first + root) (first + (2 * root + 1))) (by omega) (by omega) (by rw [size_swp]; exact h3) (by rw [size_swp]; exact h4))
      by_cases h5 : 2 * root + 2 < hi
      · have q3 : first + (2 * root + 1) + 1 < d.size := by omega
        have q4 : first + (2 * root + 2) < d.size := by omega
        have g6 : 0 ≤ ((first + (2 * root + 1) + 1 : Nat) : Int) := Int.natCast_nonneg _
        have g7 : ((first + (2 * root + 1) + 1 : Nat) : Int) < (d.size : Int) := Int.ofNat_lt.2 q3
        have g8 : ((2 * root + 1 + 1 : Nat) : Int) < (hi : Int) := by omega
        have g9 : 2 * root + 1 + 1 < hi := h5
        cases hl : ltInt d[first + (2 * root + 1)]! d[first + (2 * root + 1) + 1]!
        · simp only [g9, decide_true, Bool.and_false, Bool.false_eq_true, if_false]
          refine ⟨k0 + 1, ?_⟩
          unfold slices_siftDownOrdered_byte.l0
          simp only [w2 m1, w1 m2, w1 m3, wA m4, w1 m5, g1, g8, Array.length_toList, rdA, ltS, Option.bind_some, g4, g5, g6, g7, hl, if_true, if_false]
          exact h0
        · obtain ⟨k, h⟩ := sift1 hi first root (2 * root + 1) d true (2 * root + 2) rfl q1 q4 h4 (ih (2 * root + 2) (swp d (first + root) (first + (2 * root + 2))) (by omega) (by omega) (by rw [size_swp]; exact h3) (by rw [size_swp]; exact h4))
          simp only [g9, decide_true, Bool.and_true, if_true, h5, dif_pos]
          refine ⟨k + 1, ?_⟩
          unfold slices_siftDownOrdered_byte.l0
          simp only [w2 m1, w1 m2, w1 m3, wA m4, w1 m5, g1, g8, Array.length_toList, rdA, ltS, Option.bind_some, g4, g5, g6, g7, hl, if_true, if_false]
          exact h
      · have g8 : ¬ (((2 * root + 1 + 1 : Nat) : Int) < (hi : Int)) := by omega
        have g9 : ¬ (2 * root + 1 + 1 < hi) := h5
        simp only [g9, decide_false, Bool.false_and, Bool.false_eq_true, if_false]
        refine ⟨k0 + 1, ?_⟩
        unfold slices_siftDownOrdered_byte.l0
        simp only [w2 m1, w1 m2, w1 m3, g1, g8, if_false]
        exact h0

theorem siftF (hi first root : Nat) (d : Array Int) (h2 : root ≤ hi) (h3 : first + hi ≤ d.size) (h4 : d.size < 4611686018427387904) :
    ∃ k, slices_siftDownOrdered_byte.f k d.toList (root : Int) (hi : Int) (first : Int) = some (siftDown ltInt hi first root d).toList := sift0 hi first _ root d (Nat.le_refl _) h2 h3 h4

theorem size_pop (first : Nat) : ∀ (m : Nat) (d : Array Int), (heapPop ltInt first m d).size = d.size
  | 0, d => rfl
  | m + 1, d => by rw [heapPop, size_pop first m, size_sift _ _ _ _ _ (Nat.le_refl _), size_swp]
theorem size_build (hi first : Nat) : ∀ (m : Nat) (d : Array Int), (heapBuild ltInt hi first m d).size = d.size
  | 0, d => rfl
  | m + 1, d => by rw [heapBuild, size_build hi first m, size_sift _ _ _ _ _ (Nat.le_refl _)]

theorem pop1 (a : Nat) : ∀ (m : Nat) (d : Array Int) (x : Int), x = (m : Int) - 1 → a + m ≤ d.size → d.size < 4611686018427387904 → ∃ k, slices_heapSortOrdered_byte.l1 k d.toList (a : Int) 0 x = some (heapPop ltInt a m d).toList
  | 0, d, x, hx, hm, hs => ⟨1, by
    unfold slices_heapSortOrdered_byte.l1
    rw [if_neg (by omega)]
    rfl⟩
  | m + 1, d, x, hx, hm, hs => by
    obtain rfl : x = (m : Int) := by omega
    obtain ⟨k1, h1⟩ := siftF m a 0 (swp d a (a + m)) (by omega) (by rw [size_swp]; omega) (by rw [size_swp]; exact hs)
    obtain ⟨k2, h2⟩ := pop1 a m (siftDown ltInt m a 0 (swp d a (a + m))) (wrap64 ((m : Int) - 1)) (wS (by omega) (by omega)) (by rw [size_sift _ _ _ _ _ (Nat.le_refl _), size_swp]; omega) (by rw [size_sift _ _ _ _ _ (Nat.le_refl _), size_swp]; exact hs)
    have e1 : wrap64 ((a : Int) + (m : Int)) = ((a + m : Nat) : Int) := wN (by omega) (by omega)
    have g1 : (m : Int) ≥ 0 := by omega
    have g2 : 0 ≤ ((a + m : Nat) : Int) := by omega
    have g3 : ((a + m : Nat) : Int) < (d.size : Int) := by omega
    have g4 : 0 ≤ (a : Int) := by omega
    have g5 : (a : Int) < (d.size : Int) := by omega
    have h1' := upO (fun k => slices_siftDownOrdered_byte.mono (swp d a (a + m)).toList ((0 : Nat) : Int) (m : Int) (a : Int) k) k2 k1 h1
    have h2' := upO (fun k => (slices_heapSortOrdered_byte.mono_l k).2 (siftDown ltInt m a 0 (swp d a (a + m))).toList (a : Int) 0 (wrap64 ((m : Int) - 1))) k1 k2 h2
    rw [Nat.add_comm k2 k1] at h2'
    refine ⟨k1 + k2 + 1, ?_⟩
    unfold slices_heapSortOrdered_byte.l1
    simp only [e1, if_pos g1, Array.length_toList, rdA, Int.toNat_natCast, if_pos g2, if_pos g3, if_pos g4, if_pos g5, swA]
    rw [show (0 : Int) = ((0 : Nat) : Int) from rfl, h1', Option.bind_some, heapPop]
    exact h2'

theorem build0 (a hi : Nat) (r : List Int) : ∀ (m : Nat) (d : Array Int) (x : Int), x = (m : Int) - 1 → m ≤ hi + 1 → a + hi ≤ d.size → d.size < 4611686018427387904 →
    (∃ k, slices_heapSortOrdered_byte.l1 k (heapBuild ltInt hi a m d).toList (a : Int) 0 (wrap64 ((hi : Int) - 1)) = some r) → ∃ k, slices_heapSortOrdered_byte.l0 k d.toList (a : Int) 0 (hi : Int) x = some r
  | 0, d, x, hx, hm, hd, hs, ⟨k, h⟩ => ⟨k + 1, by
    unfold slices_heapSortOrdered_byte.l0
    rw [if_neg (by omega)]
    exact h⟩
  | m + 1, d, x, hx, hm, hd, hs, h => by
    obtain rfl : x = (m : Int) := by omega
    rw [heapBuild] at h
    obtain ⟨k1, h1⟩ := siftF hi a m d (by omega) hd hs
    obtain ⟨k2, h2⟩ := build0 a hi r m (siftDown ltInt hi a m d) (wrap64 ((m : Int) - 1)) (wS (by omega) (by omega)) (by omega) (by rw [size_sift _ _ _ _ _ (Nat.le_refl _)]; exact hd) (by rw [size_sift _ _ _ _ _ (Nat.le_refl _)]; exact hs) h
    have g1 : (m : Int) ≥ 0 := by omega
    have h1' := upO (fun k => slices_siftDownOrdered_byte.mono d.toList (m : Int) (hi : Int) (a : Int) k) k2 k1 h1
    have h2' := upO (fun k => (slices_heapSortOrdered_byte.mono_l k).1 (siftDown ltInt hi a m d).toList (a : Int) 0 (hi : Int) (wrap64 ((m : Int) - 1))) k1 k2 h2
    rw [Nat.add_comm k2 k1] at h2'
    refine ⟨k1 + k2 + 1, ?_⟩
    unfold slices_heapSortOrdered_byte.l0
    rw [if_pos g1, h1', Option.bind_some]
    exact h2'

theorem same_heap (l : List Int) (a b : Nat) (hab : a ≤ b) (hb : b ≤ l.length) (hn : l.length < 4611686018427387904) : ∃ k, slices_heapSortOrdered_byte.f k l (a : Int) (b : Int) = some (heapSort ltInt l.toArray a b).toList := by
  have e1 : wrap64 ((b : Int) - (a : Int)) = ((b - a : Nat) : Int) := wN (by omega) (by omega)
  have e2 : wrap64 (Int.tdiv (wrap64 (((b - a : Nat) : Int) - 1)) 2) = (((b - a - 1) / 2 + 1 : Nat) : Int) - 1 := by
    by_cases h0 : b - a = 0
    · rw [h0, show wrap64 (((0 : Nat) : Int) - 1) = -1 from wS (by omega) (by omega), show Int.tdiv (-1) 2 = 0 from rfl, wS (by omega) (by omega)]
      rfl
    · rw [show wrap64 (((b - a : Nat) : Int) - 1) = ((b - a - 1 : Nat) : Int) from wN (by omega) (by omega), show Int.tdiv ((b - a - 1 : Nat) : Int) 2 = (((b - a - 1) / 2 : Nat) : Int) from by rw [Int.tdiv_eq_ediv_of_nonneg (by omega)]; omega, wS (by omega) (by omega)]
      omega
  have hz : (heapBuild ltInt (b - a) a ((b - a - 1) / 2 + 1) l.toArray).size = l.length := by rw [size_build]; simp
  obtain ⟨k, h⟩ := build0 a (b - a) (heapSort ltInt l.toArray a b).toList ((b - a - 1) / 2 + 1) l.toArray _ rfl (by omega) (by simp; omega) (by simpa using hn)
    (pop1 a (b - a) (heapBuild ltInt (b - a) a ((b - a - 1) / 2 + 1) l.toArray) (wrap64 (((b - a : Nat) : Int) - 1)) (wS (by omega) (by omega)) (by rw [hz]; omega) (by rw [hz]; exact hn))
  refine ⟨k, ?_⟩
  unfold slices_heapSortOrdered_byte.f
  rw [e1, e2]
  exact h

/-! ### the partitions -/
theorem scanUp_go (p : Int → Bool) (d : Array Int) (j i : Nat) (h : i ≤ j) (hp : p d[i]! = true) : scanUp p d j i = scanUp p d j (i + 1) := by
  rw [scanUp, if_pos (by simp [h, hp])]
theorem scanUp_stop (p : Int → Bool) (d : Array Int) (j i : Nat) (h : i ≤ j → p d[i]! = false) : scanUp p d j i = i := by
  rw [scanUp, if_neg (by
    intro hc
    simp only [Bool.and_eq_true, decide_eq_true_eq] at hc
    rw [h hc.1] at hc
    exact absurd hc.2 (by simp))]
theorem scanDown_go (p : Int → Bool) (d : Array Int) (i j : Nat) (h : i ≤ j + 1) (hp : p d[j + 1]! = true) : scanDown p d i (j + 1) = scanDown p d i j := by
  rw [scanDown, if_pos (by simp [h, hp])]
theorem scanDown_stop (p : Int → Bool) (d : Array Int) (i j : Nat) (h : i ≤ j → p d[j]! = false) : scanDown p d i j = j := by
  cases j with
  | zero => rfl
  | succ j =>
    rw [scanDown, if_neg (by
      intro hc
      simp only [Bool.and_eq_true, decide_eq_true_eq] at hc
      rw [h hc.1] at hc
      exact absurd hc.2 (by simp))]

/-- The upward scan of partitionEqual. -/
theorem peq1 (a j : Nat) (d : Array Int) (r : Int × List Int) (ha : a < d.size) (hj : j < d.size) (hs : d.size < 4611686018427387904) : ∀ (n i : Nat), j + 1 - i ≤ n →
    (∃ k, slices_partitionEqualOrdered_byte.j2 k d.toList (a : Int) ((scanUp (fun x => !ltInt d[a]! x) d j i : Nat) : Int) (j : Int) = some r) → i ≤ 4611686018427387904 →
    ∃ k, slices_partitionEqualOrdered_byte.l1 k d.toList (a : Int) (i : Int) (j : Int) = some r := by
  intro n
  induction n with
  | zero =>
    intro i hn ⟨k, h⟩ hi
    rw [scanUp_stop _ _ _ _ (fun h => by omega)] at h
    refine ⟨k + 1, ?_⟩
    unfold slices_partitionEqualOrdered_byte.l1
    rw [if_neg (by omega)]
    exact h
  | succ n ih =>
    intro i hn hh hi
    by_cases hij : i ≤ j
    · have g1 : (i : Int) ≤ (j : Int) := by omega
      have g2 : 0 ≤ (a : Int) := Int.natCast_nonneg _
      have g3 : (a : Int) < (d.size : Int) := by omega
      have g4 : 0 ≤ (i : Int) := Int.natCast_nonneg _
      have g5 : (i : Int) < (d.size : Int) := by omega
      have m1 : i + 1 ≤ 9223372036854775807 := by omega
      cases hl : ltInt d[a]! d[i]!
      · rw [scanUp_go _ _ _ _ hij (by simp [hl])] at hh
        obtain ⟨k, h⟩ := ih (i + 1) (by omega) hh (by omega)
        refine ⟨k + 1, ?_⟩
        unfold slices_partitionEqualOrdered_byte.l1
        simp only [g1, g2, g3, g4, g5, Array.length_toList, rdA, ltS, Option.bind_some, hl, if_true, if_false, Bool.false_eq_true, w1 m1]
        exact h
      · rw [scanUp_stop _ _ _ _ (fun _ => by simp [hl])] at hh
        obtain ⟨k, h⟩ := hh
        refine ⟨k + 1, ?_⟩
        unfold slices_partitionEqualOrdered_byte.l1
        simp only [g1, g2, g3, g4, g5, Array.length_toList, rdA, ltS, Option.bind_some, hl, if_true, if_false]
        exact h
    · obtain ⟨k, h⟩ := hh
      rw [scanUp_stop _ _ _ _ (fun h => by omega)] at h
      refine ⟨k + 1, ?_⟩
      unfold slices_partitionEqualOrdered_byte.l1
      rw [if_neg (by omega)]
      exact h

/-- The downward scan of partitionEqual, and what stands behind it. -/
theorem peq2 (a i : Nat) (d : Array Int) (r : Int × List Int) (ha : a < d.size) (hi : 1 ≤ i) (hi2 : i ≤ 4611686018427387904) (hs : d.size < 4611686018427387904) : ∀ (j : Nat), j < d.size →
    (scanDown (fun x => ltInt d[a]! x) d i j < i → r = ((i : Int), d.toList)) →
    (¬ scanDown (fun x => ltInt d[a]! x) d i j < i → ∃ k, slices_partitionEqualOrdered_byte.l0 k (swp d i (scanDown (fun x => ltInt d[a]! x) d i j)).toList (a : Int) ((i + 1 : Nat) : Int) ((scanDown (fun x => ltInt d[a]! x) d i j - 1 : Nat) : Int) = some r) →
    ∃ k, slices_partitionEqualOrdered_byte.l2 k d.toList (a : Int) (i : Int) (j : Int) = some r := by
  intro j
  induction j with
  | zero =>
    intro hj h1 h2
    have e : scanDown (fun x => ltInt d[a]! x) d i 0 = 0 := rfl
    rw [e] at h1 h2
    refine ⟨1, ?_⟩
    unfold slices_partitionEqualOrdered_byte.l2
    rw [if_neg (by omega), if_pos (by omega), h1 (by omega)]
  | succ j ih =>
    intro hj h1 h2
    by_cases hij : i ≤ j + 1
    · have g1 : (i : Int) ≤ ((j + 1 : Nat) : Int) := by omega
      have g2 : 0 ≤ (a : Int) := Int.natCast_nonneg _
      have g3 : (a : Int) < (d.size : Int) := by omega
      have g4 : 0 ≤ ((j + 1 : Nat) : Int) := Int.natCast_nonneg _
      have g5 : ((j + 1 : Nat) : Int) < (d.size : Int) := by omega
      have g6 : ¬ ((i : Int) > ((j + 1 : Nat) : Int)) := by omega
      have g7 : 0 ≤ (i : Int) := Int.natCast_nonneg _
      have g8 : (i : Int) < (d.size : Int) := by omega
      have m1 : i + 1 ≤ 9223372036854775807 := by omega
      have m2 : j + 1 ≤ 9223372036854775807 := by omega
      cases hl : ltInt d[a]! d[j + 1]!
      · rw [scanDown_stop _ _ _ _ (fun _ => by simp [hl])] at h1 h2
        obtain ⟨k, h⟩ := h2 (by omega)
        rw [Nat.add_sub_cancel] at h
        refine ⟨k + 1, ?_⟩
        unfold slices_partitionEqualOrdered_byte.l2
        simp only [g1, g2, g3, g4, g5, g6, g7, g8, Array.length_toList, rdA, ltS, Option.bind_some, hl, if_true, if_false, Bool.false_eq_true, w1 m1, wP m2, Int.toNat_natCast, swA]
        exact h
      · rw [scanDown_go _ _ _ _ hij (by simp [hl])] at h1 h2
        obtain ⟨k, h⟩ := ih (by omega) h1 h2
        refine ⟨k + 1, ?_⟩
        unfold slices_partitionEqualOrdered_byte.l2
        simp only [g1, g2, g3, g4, g5, Array.length_toList, rdA, ltS, Option.bind_some, hl, if_true, wP m2]
        exact h
    · rw [scanDown_stop _ _ _ _ (fun h => by omega)] at h1 h2
      refine ⟨1, ?_⟩
      unfold slices_partitionEqualOrdered_byte.l2
      rw [if_neg (by omega), if_pos (by omega), h1 (by omega)]

theorem peq0 (a : Nat) : ∀ (n i j : Nat) (d : Array Int), j + 1 - i ≤ n → 1 ≤ i → i ≤ d.size → a < d.size → j < d.size → d.size < 4611686018427387904 →
    ∃ k, slices_partitionEqualOrdered_byte.l0 k d.toList (a : Int) (i : Int) (j : Int) = some (((partEqLoop ltInt a i j d).1 : Int), (partEqLoop ltInt a i j d).2.toList) := by
  intro n
  induction n with
  | zero =>
    intro i j d h1 h2 h3 h4 h5 h6
    have e1 : scanUp (fun x => !ltInt d[a]! x) d j i = i := scanUp_stop _ _ _ _ (fun h => by omega)
    have e2 : scanDown (fun x => ltInt d[a]! x) d i j = j := scanDown_stop _ _ _ _ (fun h => by omega)
    obtain ⟨k, h⟩ := peq2 a i d (((partEqLoop ltInt a i j d).1 : Int), (partEqLoop ltInt a i j d).2.toList) h4 h2 (by omega) h6 j h5 (fun _ => by rw [partEqLoop_eq, e1, e2, if_pos (by omega)]) (fun h => by omega)
    obtain ⟨k1, hh⟩ := peq1 a j d _ h4 h5 h6 0 i (by omega) ⟨k + 1, by rw [e1]; unfold slices_partitionEqualOrdered_byte.j2; exact h⟩ (by omega)
    exact ⟨k1 + 1, by unfold slices_partitionEqualOrdered_byte.l0; exact hh⟩
  | succ n ih =>
    intro i j d h1 h2 h3 h4 h5 h6
    have b1 := scanUp_spec (fun x => !ltInt d[a]! x) d j _ i rfl
    generalize hi2 : scanUp (fun x => !ltInt d[a]! x) d j i = i2 at b1
    have b2 := scanDown_spec (fun x => ltInt d[a]! x) d i2 j
    have hi2s : i2 ≤ d.size := by
      by_cases hij : i ≤ j + 1
      · have := b1.2.1 hij; omega
      · have : i2 = i := by rw [← hi2]; exact scanUp_stop _ _ _ _ (fun h => by omega)
        omega
    have hq : i ≤ i2 := b1.1
    have hj2 : scanDown (fun x => ltInt d[a]! x) d i2 j ≤ j := b2.1
    clear b1 b2
    obtain ⟨k, h⟩ := peq2 a i2 d (((partEqLoop ltInt a i j d).1 : Int), (partEqLoop ltInt a i j d).2.toList) h4 (by omega) (by omega) h6 j h5
      (fun hlt => by rw [partEqLoop_eq, hi2, if_pos hlt])
      (fun hlt => by
        obtain ⟨k, h⟩ := ih (i2 + 1) (scanDown (fun x => ltInt d[a]! x) d i2 j - 1) (swp d i2 (scanDown (fun x => ltInt d[a]! x) d i2 j)) (by omega) (by omega) (by rw [size_swp]; omega) (by rw [size_swp]; exact h4) (by rw [size_swp]; omega) (by rw [size_swp]; exact h6)
        refine ⟨k, ?_⟩
        rw [h, partEqLoop_eq ltInt a i j d, hi2, if_neg hlt])
    obtain ⟨k1, hh⟩ := peq1 a j d _ h4 h5 h6 (j + 1 - i) i (Nat.le_refl _) ⟨k + 1, by rw [hi2]; unfold slices_partitionEqualOrdered_byte.j2; exact h⟩ (by omega)
    exact ⟨k1 + 1, by unfold slices_partitionEqualOrdered_byte.l0; exact hh⟩

theorem same_peq (l : List Int) (a b p : Nat) (hap : a ≤ p) (hpb : p < b) (hb : b ≤ l.length) (hn : l.length < 4611686018427387904) :
    ∃ k, slices_partitionEqualOrdered_byte.f k l (a : Int) (b : Int) (p : Int) = some (((partitionEqual ltInt l.toArray a b p).1 : Int), (partitionEqual ltInt l.toArray a b p).2.toList) := by
  have hz : l.toArray.size = l.length := by simp
  obtain ⟨k, h⟩ := peq0 a (b - 1 + 1 - (a + 1)) (a + 1) (b - 1) (swp l.toArray a p) (Nat.le_refl _) (by omega) (by rw [size_swp, hz]; omega) (by rw [size_swp, hz]; omega) (by rw [size_swp, hz]; omega) (by rw [size_swp, hz]; exact hn)
  have g1 : 0 ≤ (p : Int) := Int.natCast_nonneg _
  have g2 : (p : Int) < (l.length : Int) := by omega
  have g3 : 0 ≤ (a : Int) := Int.natCast_nonneg _
  have g4 : (a : Int) < (l.length : Int) := by omega
  have m1 : a + 1 ≤ 9223372036854775807 := by omega
  have m2 : wrap64 ((b : Int) - 1) = ((b - 1 : Nat) : Int) := wN (by omega) (by omega)
  have e := swA l.toArray a p
  rw [← rdA, ← rdA] at e
  simp only [List.toList_toArray] at e
  refine ⟨k, ?_⟩
  unfold slices_partitionEqualOrdered_byte.f
  simp only [g1, g2, g3, g4, if_true, w1 m1, m2, Int.toNat_natCast, e]
  exact h

/-- An upward scan of partition (the first). -/
theorem prt_l0 (a j : Nat) (d : Array Int) (r : Int × Bool × List Int) (ha : a < d.size) (hj : j < d.size) (hs : d.size < 4611686018427387904) : ∀ (n i : Nat), j + 1 - i ≤ n →
    (∃ k, slices_partitionOrdered_byte.j1 k d.toList (a : Int) ((scanUp (fun x => ltInt x d[a]!) d j i : Nat) : Int) (j : Int) = some r) → i ≤ 4611686018427387904 →
    ∃ k, slices_partitionOrdered_byte.l0 k d.toList (a : Int) (i : Int) (j : Int) = some r := by
  intro n
  induction n with
  | zero =>
    intro i hn ⟨k, h⟩ hi
    rw [scanUp_stop _ _ _ _ (fun h => by omega)] at h
    refine ⟨k + 1, ?_⟩
    unfold slices_partitionOrdered_byte.l0
    rw [if_neg (by omega)]
    exact h
  | succ n ih =>
    intro i hn hh hi
    by_cases hij : i ≤ j
    · have g1 : (i : Int) ≤ (j : Int) := by omega
      have g2 : 0 ≤ (a : Int) := Int.natCast_nonneg _
      have g3 : (a : Int) < (d.size : Int) := by omega
      have g4 : 0 ≤ (i : Int) := Int.natCast_nonneg _
      have g5 : (i : Int) < (d.size : Int) := by omega
      have m1 : i + 1 ≤ 9223372036854775807 := by omega
      cases hl : ltInt d[i]! d[a]!
      · rw [scanUp_stop _ _ _ _ (fun _ => by simp [hl])] at hh
        obtain ⟨k, h⟩ := hh
        refine ⟨k + 1, ?_⟩
        unfold slices_partitionOrdered_byte.l0
        simp only [g1, g2, g3, g4, g5, Array.length_toList, rdA, ltS, Option.bind_some, hl, if_true, if_false, Bool.false_eq_true]
        exact h
      · rw [scanUp_go _ _ _ _ hij (by simp [hl])] at hh
        obtain ⟨k, h⟩ := ih (i + 1) (by omega) hh (by omega)
        refine ⟨k + 1, ?_⟩
        unfold slices_partitionOrdered_byte.l0
        simp only [g1, g2, g3, g4, g5, Array.length_toList, rdA, ltS, Option.bind_some, hl, if_true, w1 m1]
        exact h
    · obtain ⟨k, h⟩ := hh
      rw [scanUp_stop _ _ _ _ (fun h => by omega)] at h
      refine ⟨k + 1, ?_⟩
      unfold slices_partitionOrdered_byte.l0
      rw [if_neg (by omega)]
      exact h

/-- An upward scan of partition (the later). -/
theorem prt_l3 (a j : Nat) (d : Array Int) (r : Int × Bool × List Int) (ha : a < d.size) (hj : j < d.size) (hs : d.size < 4611686018427387904) : ∀ (n i : Nat), j + 1 - i ≤ n →
    (∃ k, slices_partitionOrdered_byte.j6 k d.toList (a : Int) ((scanUp (fun x => ltInt x d[a]!) d j i : Nat) : Int) (j : Int) = some r) → i ≤ 4611686018427387904 →
    ∃ k, slices_partitionOrdered_byte.l3 k d.toList (a : Int) (i : Int) (j : Int) = some r := by
  intro n
  induction n with
  | zero =>
    intro i hn ⟨k, h⟩ hi
    rw [scanUp_stop _ _ _ _ (fun h => by omega)] at h
    refine ⟨k + 1, ?_⟩
    unfold slices_partitionOrdered_byte.l3
    rw [if_neg (by omega)]
    exact h
  | succ n ih =>
    intro i hn hh hi
    by_cases hij : i ≤ j
    · have g1 : (i : Int) ≤ (j : Int) := by omega
      have g2 : 0 ≤ (a : Int) := Int.natCast_nonneg _
      have g3 : (a : Int) < (d.size : Int) := by omega
      have g4 : 0 ≤ (i : Int) := Int.natCast_nonneg _
      have g5 : (i : Int) < (d.size : Int) := by omega
      have m1 : i + 1 ≤ 9223372036854775807 := by omega
      cases hl : ltInt d[i]! d[a]!
      · rw [scanUp_stop _ _ _ _ (fun _ => by simp [hl])] at hh
        obtain ⟨k, h⟩ := hh
        refine ⟨k + 1, ?_⟩
        unfold slices_partitionOrdered_byte.l3
        simp only [g1, g2, g3, g4, g5, Array.length_toList, rdA, ltS, Option.bind_some, hl, if_true, if_false, Bool.false_eq_true]
        exact h
      · rw [scanUp_go _ _ _ _ hij (by simp [hl])] at hh
        obtain ⟨k, h⟩ := ih (i + 1) (by omega) hh (by omega)
        refine ⟨k + 1, ?_⟩
        unfold slices_partitionOrdered_byte.l3
        simp only [g1, g2, g3, g4, g5, Array.length_toList, rdA, ltS, Option.bind_some, hl, if_true, w1 m1]
        exact h
    · obtain ⟨k, h⟩ := hh
      rw [scanUp_stop _ _ _ _ (fun h => by omega)] at h
      refine ⟨k + 1, ?_⟩
      unfold slices_partitionOrdered_byte.l3
      rw [if_neg (by omega)]
      exact h

/-- The later downward scan, and what stands behind it. -/
theorem prt_l4 (a i : Nat) (d : Array Int) (r : Int × Bool × List Int) (ha : a < d.size) (hi : 1 ≤ i) (hi2 : i ≤ 4611686018427387904) (hs : d.size < 4611686018427387904) : ∀ (j : Nat), j < d.size →
    (scanDown (fun x => !ltInt x d[a]!) d i j < i → r = ((scanDown (fun x => !ltInt x d[a]!) d i j : Int), false, (swp d (scanDown (fun x => !ltInt x d[a]!) d i j) a).toList)) →
    (¬ scanDown (fun x => !ltInt x d[a]!) d i j < i → ∃ k, slices_partitionOrdered_byte.l2 k (swp d i (scanDown (fun x => !ltInt x d[a]!) d i j)).toList (a : Int) ((i + 1 : Nat) : Int) ((scanDown (fun x => !ltInt x d[a]!) d i j - 1 : Nat) : Int) = some r) →
    ∃ k, slices_partitionOrdered_byte.l4 k d.toList (a : Int) (i : Int) (j : Int) = some r := by
  intro j
  induction j with
  | zero =>
    intro hj h1 h2
    have e : scanDown (fun x => !ltInt x d[a]!) d i 0 = 0 := rfl
    rw [e] at h1 h2
    have g1 : ¬ ((i : Int) ≤ ((0 : Nat) : Int)) := by omega
    have g2 : 0 ≤ (a : Int) := Int.natCast_nonneg _
    have g3 : (a : Int) < (d.size : Int) := by omega
    have g4 : 0 ≤ ((0 : Nat) : Int) := Int.natCast_nonneg _
    have g5 : ((0 : Nat) : Int) < (d.size : Int) := by omega
    have g6 : (i : Int) > ((0 : Nat) : Int) := by omega
    refine ⟨1, ?_⟩
    unfold slices_partitionOrdered_byte.l4
    rw [if_neg g1, if_pos g6]
    simp only [g2, g3, g4, g5, Array.length_toList, rdA, if_true, Int.toNat_natCast, swA]
    rw [h1 (by omega)]
  | succ j ih =>
    intro hj h1 h2
    have g2 : 0 ≤ (a : Int) := Int.natCast_nonneg _
    have g3 : (a : Int) < (d.size : Int) := by omega
    have g4 : 0 ≤ ((j + 1 : Nat) : Int) := Int.natCast_nonneg _
    have g5 : ((j + 1 : Nat) : Int) < (d.size : Int) := by omega
    by_cases hij : i ≤ j + 1
    · have g1 : (i : Int) ≤ ((j + 1 : Nat) : Int) := by omega
      have g6 : ¬ ((i : Int) > ((j + 1 : Nat) : Int)) := by omega
      have g7 : 0 ≤ (i : Int) := Int.natCast_nonneg _
      have g8 : (i : Int) < (d.size : Int) := by omega
      have m1 : i + 1 ≤ 9223372036854775807 := by omega
      have m2 : j + 1 ≤ 9223372036854775807 := by omega
      cases hl : ltInt d[j + 1]! d[a]!
      · rw [scanDown_go _ _ _ _ hij (by simp [hl])] at h1 h2
        obtain ⟨k, h⟩ := ih (by omega) h1 h2
        refine ⟨k + 1, ?_⟩
        unfold slices_partitionOrdered_byte.l4
        simp only [g1, g2, g3, g4, g5, Array.length_toList, rdA, ltS, Option.bind_some, hl, if_true, if_false, Bool.false_eq_true, wP m2]
        exact h
      · rw [scanDown_stop _ _ _ _ (fun _ => by simp [hl])] at h1 h2
        obtain ⟨k, h⟩ := h2 (by omega)
        rw [Nat.add_sub_cancel] at h
        refine ⟨k + 1, ?_⟩
        unfold slices_partitionOrdered_byte.l4
        simp only [g1, g2, g3, g4, g5, g6, g7, g8, Array.length_toList, rdA, ltS, Option.bind_some, hl, if_true, if_false, w1 m1, wP m2, Int.toNat_natCast, swA]
        exact h
    · have g1 : ¬ ((i : Int) ≤ ((j + 1 : Nat) : Int)) := by omega
      have g6 : (i : Int) > ((j + 1 : Nat) : Int) := by omega
      rw [scanDown_stop _ _ _ _ (fun h => by omega)] at h1 h2
      refine ⟨1, ?_⟩
      unfold slices_partitionOrdered_byte.l4
      rw [if_neg g1, if_pos g6]
      simp only [g2, g3, g4, g5, Array.length_toList, rdA, if_true, Int.toNat_natCast, swA]
      rw [h1 (by omega)]

/-- The first downward scan. -/
theorem prt_l1 (a i : Nat) (d : Array Int) (r : Int × Bool × List Int) (ha : a < d.size) (hi : 1 ≤ i) (hs : d.size < 4611686018427387904) : ∀ (j : Nat), j < d.size →
    (∃ k, slices_partitionOrdered_byte.j3 k d.toList (a : Int) (i : Int) ((scanDown (fun x => !ltInt x d[a]!) d i j : Nat) : Int) = some r) →
    ∃ k, slices_partitionOrdered_byte.l1 k d.toList (a : Int) (i : Int) (j : Int) = some r := by
  intro j
  induction j with
  | zero =>
    intro hj ⟨k, h⟩
    have e : scanDown (fun x => !ltInt x d[a]!) d i 0 = 0 := rfl
    rw [e] at h
    have g1 : ¬ ((i : Int) ≤ ((0 : Nat) : Int)) := by omega
    refine ⟨k + 1, ?_⟩
    unfold slices_partitionOrdered_byte.l1
    rw [if_neg g1]
    exact h
  | succ j ih =>
    intro hj hh
    have g2 : 0 ≤ (a : Int) := Int.natCast_nonneg _
    have g3 : (a : Int) < (d.size : Int) := by omega
    have g4 : 0 ≤ ((j + 1 : Nat) : Int) := Int.natCast_nonneg _
    have g5 : ((j + 1 : Nat) : Int) < (d.size : Int) := by omega
    have m2 : j + 1 ≤ 9223372036854775807 := by omega
    by_cases hij : i ≤ j + 1
    · have g1 : (i : Int) ≤ ((j + 1 : Nat) : Int) := by omega
      cases hl : ltInt d[j + 1]! d[a]!
      · rw [scanDown_go _ _ _ _ hij (by simp [hl])] at hh
        obtain ⟨k, h⟩ := ih (by omega) hh
        refine ⟨k + 1, ?_⟩
        unfold slices_partitionOrdered_byte.l1
        simp only [g1, g2, g3, g4, g5, Array.length_toList, rdA, ltS, Option.bind_some, hl, if_true, if_false, Bool.false_eq_true, wP m2]
        exact h
      · rw [scanDown_stop _ _ _ _ (fun _ => by simp [hl])] at hh
        obtain ⟨k, h⟩ := hh
        refine ⟨k + 1, ?_⟩
        unfold slices_partitionOrdered_byte.l1
        simp only [g1, g2, g3, g4, g5, Array.length_toList, rdA, ltS, Option.bind_some, hl, if_true]
        exact h
    · have g1 : ¬ ((i : Int) ≤ ((j + 1 : Nat) : Int)) := by omega
      rw [scanDown_stop _ _ _ _ (fun h => by omega)] at hh
      obtain ⟨k, h⟩ := hh
      refine ⟨k + 1, ?_⟩
      unfold slices_partitionOrdered_byte.l1
      rw [if_neg g1]
      exact h

/-- What partition returns behind its loop. -/
def prtR (a : Nat) (x : Nat × Array Int) : Int × Bool × List Int := ((x.1 : Int), false, (swp x.2 x.1 a).toList)

theorem prt_l2 (a : Nat) : ∀ (n i j : Nat) (d : Array Int), j + 1 - i ≤ n → 1 ≤ i → i ≤ d.size → a < d.size → j < d.size → d.size < 4611686018427387904 →
    ∃ k, slices_partitionOrdered_byte.l2 k d.toList (a : Int) (i : Int) (j : Int) = some (prtR a (partLoop ltInt a i j d)) := by
  intro n
  induction n with
  | zero =>
    intro i j d h1 h2 h3 h4 h5 h6
    have e1 : scanUp (fun x => ltInt x d[a]!) d j i = i := scanUp_stop _ _ _ _ (fun h => by omega)
    have e2 : scanDown (fun x => !ltInt x d[a]!) d i j = j := scanDown_stop _ _ _ _ (fun h => by omega)
    obtain ⟨k, h⟩ := prt_l4 a i d (prtR a (partLoop ltInt a i j d)) h4 h2 (by omega) h6 j h5 (fun _ => by rw [partLoop_eq, e1, e2, if_pos (by omega)]; rfl) (fun h => by omega)
    obtain ⟨k1, hh⟩ := prt_l3 a j d _ h4 h5 h6 0 i (by omega) ⟨k + 1, by rw [e1]; unfold slices_partitionOrdered_byte.j6; exact h⟩ (by omega)
    exact ⟨k1 + 1, by unfold slices_partitionOrdered_byte.l2; exact hh⟩
  | succ n ih =>
    intro i j d h1 h2 h3 h4 h5 h6
    have b1 := scanUp_spec (fun x => ltInt x d[a]!) d j _ i rfl
    generalize hi2 : scanUp (fun x => ltInt x d[a]!) d j i = i2 at b1
    have b2 := scanDown_spec (fun x => !ltInt x d[a]!) d i2 j
    have hi2s : i2 ≤ d.size := by
      by_cases hij : i ≤ j + 1
      · have := b1.2.1 hij; omega
      · have : i2 = i := by rw [← hi2]; exact scanUp_stop _ _ _ _ (fun h => by omega)
        omega
    have hq : i ≤ i2 := b1.1
    have hj2 : scanDown (fun x => !ltInt x d[a]!) d i2 j ≤ j := b2.1
    clear b1 b2
    obtain ⟨k, h⟩ := prt_l4 a i2 d (prtR a (partLoop ltInt a i j d)) h4 (by omega) (by omega) h6 j h5
      (fun hlt => by rw [partLoop_eq, hi2, if_pos hlt]; rfl)
      (fun hlt => by
        obtain ⟨k, h⟩ := ih (i2 + 1) (scanDown (fun x => !ltInt x d[a]!) d i2 j - 1) (swp d i2 (scanDown (fun x => !ltInt x d[a]!) d i2 j)) (by omega) (by omega) (by rw [size_swp]; omega) (by rw [size_swp]; exact h4) (by rw [size_swp]; omega) (by rw [size_swp]; exact h6)
        refine ⟨k, ?_⟩
        rw [h, partLoop_eq ltInt a i j d, hi2, if_neg hlt])
    obtain ⟨k1, hh⟩ := prt_l3 a j d _ h4 h5 h6 (j + 1 - i) i (Nat.le_refl _) ⟨k + 1, by rw [hi2]; unfold slices_partitionOrdered_byte.j6; exact h⟩ (by omega)
    exact ⟨k1 + 1, by unfold slices_partitionOrdered_byte.l2; exact hh⟩

theorem prt_j3 (a i j : Nat) (d : Array Int) (h2 : 1 ≤ i) (h3 : i ≤ d.size) (h4 : a < d.size) (h5 : j < d.size) (h6 : d.size < 4611686018427387904) :
    ∃ k, slices_partitionOrdered_byte.j3 k d.toList (a : Int) (i : Int) (j : Int) = some (if i > j then ((j : Int), true, (swp d j a).toList) else prtR a (partLoop ltInt a (i + 1) (j - 1) (swp d i j))) := by
  have g2 : 0 ≤ (a : Int) := Int.natCast_nonneg _
  have g3 : (a : Int) < (d.size : Int) := by omega
  have g4 : 0 ≤ (j : Int) := Int.natCast_nonneg _
  have g5 : (j : Int) < (d.size : Int) := by omega
  by_cases hij : i > j
  · have g1 : (i : Int) > (j : Int) := by omega
    refine ⟨1, ?_⟩
    unfold slices_partitionOrdered_byte.j3
    rw [if_pos hij]
    simp only [g1, g2, g3, g4, g5, Array.length_toList, rdA, if_true, Int.toNat_natCast, swA]
  · have g1 : ¬ ((i : Int) > (j : Int)) := by omega
    have g7 : 0 ≤ (i : Int) := Int.natCast_nonneg _
    have g8 : (i : Int) < (d.size : Int) := by omega
    have m1 : i + 1 ≤ 9223372036854775807 := by omega
    have m2 : wrap64 ((j : Int) - 1) = ((j - 1 : Nat) : Int) := wN (by omega) (by omega)
    obtain ⟨k, h⟩ := prt_l2 a (j - 1 + 1 - (i + 1)) (i + 1) (j - 1) (swp d i j) (Nat.le_refl _) (Nat.le_add_left 1 i) (by rw [size_swp]; exact Nat.lt_of_le_of_lt (Nat.le_of_not_lt hij) h5) (by rw [size_swp]; exact h4) (by rw [size_swp]; exact Nat.lt_of_le_of_lt (Nat.sub_le _ _) h5) (by rw [size_swp]; exact h6)
    refine ⟨k + 1, ?_⟩
    unfold slices_partitionOrdered_byte.j3
    rw [if_neg hij]
    simp only [g1, g2, g3, g4, g5, g7, g8, Array.length_toList, rdA, if_true, if_false, Int.toNat_natCast, swA, w1 m1, m2]
    exact h

theorem same_prt (l : List Int) (a b p : Nat) (hap : a ≤ p) (hpb : p < b) (hb : b ≤ l.length) (hn : l.length < 4611686018427387904) :
    ∃ k, slices_partitionOrdered_byte.f k l (a : Int) (b : Int) (p : Int) = some (((partition ltInt l.toArray a b p).1 : Int), (partition ltInt l.toArray a b p).2.1, (partition ltInt l.toArray a b p).2.2.toList) := by
  have hz : (swp l.toArray a p).size = l.length := by rw [size_swp]; simp
  generalize hd : swp l.toArray a p = d at hz
  have b1 := scanUp_spec (fun x => ltInt x d[a]!) d (b - 1) _ (a + 1) rfl
  generalize hi2 : scanUp (fun x => ltInt x d[a]!) d (b - 1) (a + 1) = i2 at b1
  have b2 := scanDown_spec (fun x => !ltInt x d[a]!) d i2 (b - 1)
  generalize hj2 : scanDown (fun x => !ltInt x d[a]!) d i2 (b - 1) = j2 at b2
  have q1 : a + 1 ≤ i2 := b1.1
  have q2 : i2 ≤ d.size := by have := b1.2.1 (by omega); omega
  have q3 : j2 ≤ b - 1 := b2.1
  clear b1 b2
  obtain ⟨k, h⟩ := prt_j3 a i2 j2 d (by omega) q2 (by omega) (by omega) (by omega)
  obtain ⟨k1, h1⟩ := prt_l1 a i2 d _ (by omega) (by omega) (by omega) (b - 1) (by omega) ⟨k, by rw [hj2]; exact h⟩
  obtain ⟨k2, h2⟩ := prt_l0 a (b - 1) d _ (by omega) (by omega) (by omega) _ (a + 1) (Nat.le_refl _) ⟨k1 + 1, by rw [hi2]; unfold slices_partitionOrdered_byte.j1; exact h1⟩ (by omega)
  have g1 : 0 ≤ (p : Int) := Int.natCast_nonneg _
  have g2 : (p : Int) < (l.length : Int) := by omega
  have g3 : 0 ≤ (a : Int) := Int.natCast_nonneg _
  have g4 : (a : Int) < (l.length : Int) := by omega
  have m1 : a + 1 ≤ 9223372036854775807 := by omega
  have m2 : wrap64 ((b : Int) - 1) = ((b - 1 : Nat) : Int) := wN (by omega) (by omega)
  have e := swA l.toArray a p
  rw [← rdA, ← rdA] at e
  simp only [List.toList_toArray] at e
  have e3 : (((partition ltInt l.toArray a b p).1 : Int), (partition ltInt l.toArray a b p).2.1, (partition ltInt l.toArray a b p).2.2.toList) = (if i2 > j2 then ((j2 : Int), true, (swp d j2 a).toList) else prtR a (partLoop ltInt a (i2 + 1) (j2 - 1) (swp d i2 j2))) := by
    unfold partition
    simp only [hd, hi2, hj2]
    split <;> rfl
  rw [e3]
  refine ⟨k2, ?_⟩
  unfold slices_partitionOrdered_byte.f
  simp only [g1, g2, g3, g4, if_true, w1 m1, m2, Int.toNat_natCast, e]
  rw [hd]
  exact h2

/-! ### partialInsertionSort -/
theorem size_shiftDown : ∀ (j : Nat) (d : Array Int), (shiftDown ltInt j d).size = d.size
  | 0, d => rfl
  | j + 1, d => by
    rw [shiftDown]
    split
    · rfl
    · rw [size_shiftDown j, size_swp]
theorem size_shiftUp (b : Nat) : ∀ (n j : Nat) (d : Array Int), b - j ≤ n → (shiftUp ltInt b j d).size = d.size := by
  intro n
  induction n with
  | zero => intro j d h; rw [shiftUp, if_neg (by omega)]
  | succ n ih =>
    intro j d h
    rw [shiftUp]
    split
    · split
      · rfl
      · rw [ih _ _ (by omega), size_swp]
    · rfl
theorem scan_range (d : Array Int) (b : Nat) : ∀ (n i : Nat), b - i ≤ n → i ≤ b → i ≤ scanSorted ltInt d b i ∧ scanSorted ltInt d b i ≤ b := by
  intro n
  induction n with
  | zero =>
    intro i h hb
    rw [scanSorted, if_neg (by simp; omega)]
    exact ⟨Nat.le_refl _, hb⟩
  | succ n ih =>
    intro i h hb
    rw [scanSorted]
    split
    · rename_i hc
      simp only [Bool.and_eq_true, decide_eq_true_eq] at hc
      have := ih (i + 1) (by omega) (by omega)
      omega
    · exact ⟨Nat.le_refl _, hb⟩

section
variable (a b : Nat) (r : Bool × List Int)
theorem pin_l3 (i s : Nat) : ∀ (n j : Nat) (d : Array Int), b - j ≤ n → 1 ≤ j → b ≤ d.size → d.size < 4611686018427387904 →
    (∃ k, slices_partialInsertionSortOrdered_byte.l0 k (shiftUp ltInt b j d).toList (a : Int) (b : Int) (i : Int) (wrap64 ((s : Int) + 1)) = some r) →
    ∃ k, slices_partialInsertionSortOrdered_byte.l3 k d.toList (a : Int) (b : Int) (i : Int) (s : Int) (j : Int) = some r := by
  intro n
  induction n with
  | zero =>
    intro j d h1 h2 h3 h4 ⟨k, h⟩
    rw [shiftUp, if_neg (by omega)] at h
    have g1 : ¬ ((j : Int) < (b : Int)) := by omega
    refine ⟨k + 1, ?_⟩
    unfold slices_partialInsertionSortOrdered_byte.l3
    rw [if_neg g1]
    exact h
  | succ n ih =>
    intro j d h1 h2 h3 h4 hh
    rw [shiftUp] at hh
    by_cases hj : j < b
    · rw [if_pos hj] at hh
      obtain ⟨j', rfl⟩ : ∃ j', j = j' + 1 := ⟨j - 1, by omega⟩
      rw [Nat.add_sub_cancel] at hh
      have g1 : ((j' + 1 : Nat) : Int) < (b : Int) := by omega
      have g2 : 0 ≤ ((j' + 1 : Nat) : Int) := Int.natCast_nonneg _
      have g3 : ((j' + 1 : Nat) : Int) < (d.size : Int) := by omega
      have g4 : 0 ≤ (j' : Int) := Int.natCast_nonneg _
      have g5 : (j' : Int) < (d.size : Int) := by omega
      have m1 : j' + 1 ≤ 9223372036854775807 := by omega
      have m2 : j' + 1 + 1 ≤ 9223372036854775807 := by omega
      cases hl : ltInt d[j' + 1]! d[j']!
      · rw [if_pos (by simp [hl])] at hh
        obtain ⟨k, h⟩ := hh
        refine ⟨k + 1, ?_⟩
        unfold slices_partialInsertionSortOrdered_byte.l3
        simp only [wP m1, g1, g2, g3, g4, g5, Array.length_toList, rdA, ltS, Option.bind_some, hl, if_true, if_false, Bool.false_eq_true]
        exact h
      · rw [if_neg (by simp [hl])] at hh
        obtain ⟨k, h⟩ := ih (j' + 1 + 1) (swp d (j' + 1) j') (by omega) (by omega) (by rw [size_swp]; exact h3) (by rw [size_swp]; exact h4) hh
        refine ⟨k + 1, ?_⟩
        unfold slices_partialInsertionSortOrdered_byte.l3
        simp only [wP m1, w1 m2, g1, g2, g3, g4, g5, Array.length_toList, rdA, ltS, Option.bind_some, hl, if_true, Int.toNat_natCast, swA]
        exact h
    · rw [if_neg hj] at hh
      obtain ⟨k, h⟩ := hh
      have g1 : ¬ ((j : Int) < (b : Int)) := by omega
      refine ⟨k + 1, ?_⟩
      unfold slices_partialInsertionSortOrdered_byte.l3
      rw [if_neg g1]
      exact h

theorem pin_j4 (i s : Nat) (d : Array Int) (hi : i ≤ b) (h3 : b ≤ d.size) (h4 : d.size < 4611686018427387904)
    (hh : ∃ k, slices_partialInsertionSortOrdered_byte.l0 k (fixUp ltInt b i d).toList (a : Int) (b : Int) (i : Int) (wrap64 ((s : Int) + 1)) = some r) :
    ∃ k, slices_partialInsertionSortOrdered_byte.j4 k d.toList (a : Int) (b : Int) (i : Int) (s : Int) = some r := by
  have m1 : wrap64 ((b : Int) - (i : Int)) = ((b - i : Nat) : Int) := wN (by omega) (by omega)
  unfold fixUp at hh
  by_cases hc : b - i ≥ 2
  · rw [if_pos hc] at hh
    have m2 : i + 1 ≤ 9223372036854775807 := Nat.le_trans (Nat.succ_le_of_lt (Nat.lt_of_sub_pos (Nat.lt_of_lt_of_le Nat.zero_lt_two hc))) (Nat.le_trans h3 (Nat.le_trans (Nat.le_of_lt h4) (by decide)))
    obtain ⟨k, h⟩ := pin_l3 a b r i s (b - (i + 1)) (i + 1) d (Nat.le_refl _) (Nat.le_add_left 1 i) h3 h4 hh
    have g1 : ((b - i : Nat) : Int) ≥ 2 := Int.ofNat_le.2 hc
    refine ⟨k + 1, ?_⟩
    unfold slices_partialInsertionSortOrdered_byte.j4
    rw [m1, if_pos g1, w1 m2]
    exact h
  · rw [if_neg hc] at hh
    obtain ⟨k, h⟩ := hh
    have g1 : ¬ (((b - i : Nat) : Int) ≥ 2) := fun h => hc (Int.ofNat_le.1 h)
    refine ⟨k + 1, ?_⟩
    unfold slices_partialInsertionSortOrdered_byte.j4
    rw [m1, if_neg g1]
    exact h

theorem pin_l2 (i s : Nat) : ∀ (j : Nat) (d : Array Int), j < d.size → d.size < 4611686018427387904 →
    (∃ k, slices_partialInsertionSortOrdered_byte.j4 k (shiftDown ltInt j d).toList (a : Int) (b : Int) (i : Int) (s : Int) = some r) →
    ∃ k, slices_partialInsertionSortOrdered_byte.l2 k d.toList (a : Int) (b : Int) (i : Int) (s : Int) (j : Int) = some r
  | 0, d, h1, h2, ⟨k, h⟩ => ⟨k + 1, by
    have g1 : ¬ (((0 : Nat) : Int) ≥ 1) := by omega
    unfold slices_partialInsertionSortOrdered_byte.l2
    rw [if_neg g1]
    exact h⟩
  | j + 1, d, h1, h2, hh => by
    rw [shiftDown] at hh
    have g1 : ((j + 1 : Nat) : Int) ≥ 1 := by omega
    have g2 : 0 ≤ ((j + 1 : Nat) : Int) := Int.natCast_nonneg _
    have g3 : ((j + 1 : Nat) : Int) < (d.size : Int) := by omega
    have g4 : 0 ≤ (j : Int) := Int.natCast_nonneg _
    have g5 : (j : Int) < (d.size : Int) := by omega
    have m1 : j + 1 ≤ 9223372036854775807 := by omega
    cases hl : ltInt d[j + 1]! d[j]!
    · rw [if_pos (by simp [hl])] at hh
      obtain ⟨k, h⟩ := hh
      refine ⟨k + 1, ?_⟩
      unfold slices_partialInsertionSortOrdered_byte.l2
      simp only [wP m1, g1, g2, g3, g4, g5, Array.length_toList, rdA, ltS, Option.bind_some, hl, if_true, if_false, Bool.false_eq_true]
      exact h
    · rw [if_neg (by simp [hl])] at hh
      obtain ⟨k, h⟩ := pin_l2 i s j (swp d (j + 1) j) (by rw [size_swp]; omega) (by rw [size_swp]; exact h2) hh
      refine ⟨k + 1, ?_⟩
      unfold slices_partialInsertionSortOrdered_byte.l2
      simp only [wP m1, g1, g2, g3, g4, g5, Array.length_toList, rdA, ltS, Option.bind_some, hl, if_true, Int.toNat_natCast, swA]
      exact h

theorem pin_l1 (s : Nat) (d : Array Int) (h3 : b ≤ d.size) (h4 : d.size < 4611686018427387904) : ∀ (n i : Nat), b - i ≤ n → 1 ≤ i →
    (∃ k, slices_partialInsertionSortOrdered_byte.j2 k d.toList (a : Int) (b : Int) ((scanSorted ltInt d b i : Nat) : Int) (s : Int) = some r) →
    ∃ k, slices_partialInsertionSortOrdered_byte.l1 k d.toList (a : Int) (b : Int) (i : Int) (s : Int) = some r := by
  intro n
  induction n with
  | zero =>
    intro i h1 h2 ⟨k, h⟩
    rw [scanSorted, if_neg (by simp; omega)] at h
    have g1 : ¬ ((i : Int) < (b : Int)) := by omega
    refine ⟨k + 1, ?_⟩
    unfold slices_partialInsertionSortOrdered_byte.l1
    rw [if_neg g1]
    exact h
  | succ n ih =>
    intro i h1 h2 hh
    rw [scanSorted] at hh
    by_cases hj : i < b
    · obtain ⟨j', rfl⟩ : ∃ j', i = j' + 1 := ⟨i - 1, by omega⟩
      rw [Nat.add_sub_cancel] at hh
      have g1 : ((j' + 1 : Nat) : Int) < (b : Int) := by omega
      have g2 : 0 ≤ ((j' + 1 : Nat) : Int) := Int.natCast_nonneg _
      have g3 : ((j' + 1 : Nat) : Int) < (d.size : Int) := by omega
      have g4 : 0 ≤ (j' : Int) := Int.natCast_nonneg _
      have g5 : (j' : Int) < (d.size : Int) := by omega
      have m1 : j' + 1 ≤ 9223372036854775807 := by omega
      have m2 : j' + 1 + 1 ≤ 9223372036854775807 := by omega
      cases hl : ltInt d[j' + 1]! d[j']!
      · rw [if_pos (by simp [hl, hj])] at hh
        obtain ⟨k, h⟩ := ih (j' + 1 + 1) (by omega) (by omega) hh
        refine ⟨k + 1, ?_⟩
        unfold slices_partialInsertionSortOrdered_byte.l1
        simp only [wP m1, w1 m2, g1, g2, g3, g4, g5, Array.length_toList, rdA, ltS, Option.bind_some, hl, if_true, if_false, Bool.false_eq_true]
        exact h
      · rw [if_neg (by simp [hl])] at hh
        obtain ⟨k, h⟩ := hh
        refine ⟨k + 1, ?_⟩
        unfold slices_partialInsertionSortOrdered_byte.l1
        simp only [wP m1, g1, g2, g3, g4, g5, Array.length_toList, rdA, ltS, Option.bind_some, hl, if_true]
        exact h
    · rw [if_neg (by simp; omega)] at hh
      obtain ⟨k, h⟩ := hh
      have g1 : ¬ ((i : Int) < (b : Int)) := by omega
      refine ⟨k + 1, ?_⟩
      unfold slices_partialInsertionSortOrdered_byte.l1
      rw [if_neg g1]
      exact h

theorem pin_j2 (i s : Nat) (d : Array Int) (ha : a < i) (hi : i ≤ b) (h3 : b ≤ d.size) (h4 : d.size < 4611686018427387904)
    (q1 : i = b → r = (true, d.toList)) (q2 : i ≠ b → b - a < 50 → r = (false, d.toList))
    (q3 : i ≠ b → ¬ b - a < 50 → ∃ k, slices_partialInsertionSortOrdered_byte.l0 k (fixUp ltInt b i (fixDown ltInt a i (swp d i (i - 1)))).toList (a : Int) (b : Int) (i : Int) (wrap64 ((s : Int) + 1)) = some r) :
    ∃ k, slices_partialInsertionSortOrdered_byte.j2 k d.toList (a : Int) (b : Int) (i : Int) (s : Int) = some r := by
  by_cases hib : i = b
  · have g1 : (i : Int) = (b : Int) := by omega
    refine ⟨1, ?_⟩
    unfold slices_partialInsertionSortOrdered_byte.j2
    rw [if_pos g1, q1 hib]
  · have g1 : ¬ ((i : Int) = (b : Int)) := by omega
    by_cases h50 : b - a < 50
    · have g2 : ((b - a : Nat) : Int) < 50 := by omega
      have m1 : wrap64 ((b : Int) - (a : Int)) = ((b - a : Nat) : Int) := wN (by omega) (by omega)
      refine ⟨1, ?_⟩
      unfold slices_partialInsertionSortOrdered_byte.j2
      rw [if_neg g1, m1, if_pos g2, q2 hib h50]
    · have g2 : ¬ (((b - a : Nat) : Int) < 50) := by omega
      have hsz := size_swp d i (i - 1)
      have hsd : (fixDown ltInt a i (swp d i (i - 1))).size = d.size := by
        unfold fixDown
        split
        · rw [size_shiftDown, hsz]
        · exact hsz
      obtain ⟨k4, h44⟩ := pin_j4 a b r i s (fixDown ltInt a i (swp d i (i - 1))) hi (by rw [hsd]; exact h3) (by rw [hsd]; exact h4) (q3 hib h50)
      obtain ⟨i', rfl⟩ : ∃ i', i = i' + 1 := ⟨i - 1, by omega⟩
      rw [Nat.add_sub_cancel] at h44 hsd hsz
      have g3 : 0 ≤ (i' : Int) := Int.natCast_nonneg _
      have g4 : (i' : Int) < (d.size : Int) := by omega
      have g5 : 0 ≤ ((i' + 1 : Nat) : Int) := Int.natCast_nonneg _
      have g6 : ((i' + 1 : Nat) : Int) < (d.size : Int) := by omega
      have n1 : i' + 1 ≤ 9223372036854775807 := by omega
      have n2 : i' < (swp d (i' + 1) i').size := by rw [hsz]; omega
      by_cases hia : i' + 1 - a ≥ 2
      · have e : fixDown ltInt a (i' + 1) (swp d (i' + 1) i') = shiftDown ltInt i' (swp d (i' + 1) i') := by
          unfold fixDown
          rw [if_pos hia]
          rfl
        rw [e] at h44
        obtain ⟨k2, h2⟩ := pin_l2 a b r (i' + 1) s i' (swp d (i' + 1) i') n2 (by rw [hsz]; exact h4) ⟨k4, h44⟩
        have g7 : ((i' + 1 - a : Nat) : Int) ≥ 2 := by omega
        have m1 : wrap64 ((b : Int) - (a : Int)) = ((b - a : Nat) : Int) := wN (by omega) (by omega)
        have m2 : wrap64 (((i' + 1 : Nat) : Int) - (a : Int)) = ((i' + 1 - a : Nat) : Int) := wN (by clear m1; omega) (by clear m1; omega)
        refine ⟨k2 + 1, ?_⟩
        unfold slices_partialInsertionSortOrdered_byte.j2
        simp only [g1, m1, g2, g3, g4, g5, g6, m2, g7, wP n1, Array.length_toList, rdA, Option.bind_some, if_true, if_false, Int.toNat_natCast, swA]
        exact h2
      · have e : fixDown ltInt a (i' + 1) (swp d (i' + 1) i') = swp d (i' + 1) i' := by
          unfold fixDown
          rw [if_neg hia]
        rw [e] at h44
        have g7 : ¬ (((i' + 1 - a : Nat) : Int) ≥ 2) := by omega
        have m1 : wrap64 ((b : Int) - (a : Int)) = ((b - a : Nat) : Int) := wN (by omega) (by omega)
        have m2 : wrap64 (((i' + 1 : Nat) : Int) - (a : Int)) = ((i' + 1 - a : Nat) : Int) := wN (by clear m1; omega) (by clear m1; omega)
        refine ⟨k4 + 1, ?_⟩
        unfold slices_partialInsertionSortOrdered_byte.j2
        simp only [g1, m1, g2, g3, g4, g5, g6, m2, g7, wP n1, Array.length_toList, rdA, Option.bind_some, if_true, if_false, Int.toNat_natCast, swA]
        exact h44
end

theorem pin_l0 (a b : Nat) : ∀ (m s i : Nat) (d : Array Int), s + m = 5 → a < i → i ≤ b → b ≤ d.size → d.size < 4611686018427387904 →
    ∃ k, slices_partialInsertionSortOrdered_byte.l0 k d.toList (a : Int) (b : Int) (i : Int) (s : Int) = some ((partialIns ltInt a b m i d).2, (partialIns ltInt a b m i d).1.toList)
  | 0, s, i, d, hs, ha, hi, h3, h4 => ⟨1, by
    have g1 : ¬ ((s : Int) < 5) := by omega
    unfold slices_partialInsertionSortOrdered_byte.l0
    rw [if_neg g1]
    rfl⟩
  | m + 1, s, i, d, hs, ha, hi, h3, h4 => by
    have hr := scan_range d b _ i (Nat.le_refl _) hi
    have e := partialIns_succ (lt := ltInt) a b m i d
    generalize hq : scanSorted ltInt d b i = i2 at hr e
    have hz : (fixUp ltInt b i2 (fixDown ltInt a i2 (swp d i2 (i2 - 1)))).size = d.size := by
      have h5 : (fixDown ltInt a i2 (swp d i2 (i2 - 1))).size = d.size := by
        unfold fixDown
        split
        · rw [size_shiftDown, size_swp]
        · exact size_swp _ _ _
      unfold fixUp
      split
      · rw [size_shiftUp b _ _ _ (Nat.le_refl _), h5]
      · exact h5
    obtain ⟨k2, h2⟩ := pin_j2 a b ((partialIns ltInt a b (m + 1) i d).2, (partialIns ltInt a b (m + 1) i d).1.toList) i2 s d (by omega) hr.2 h3 h4
      (fun h => by rw [e, if_pos h]) (fun h h5 => by rw [e, if_neg h, if_pos h5])
      (fun h h5 => by
        obtain ⟨k, hk⟩ := pin_l0 a b m (s + 1) i2 (fixUp ltInt b i2 (fixDown ltInt a i2 (swp d i2 (i2 - 1)))) (by omega) (by omega) hr.2 (by rw [hz]; exact h3) (by rw [hz]; exact h4)
        refine ⟨k, ?_⟩
        rw [e, if_neg h, if_neg h5, w1 (by omega)]
        exact hk)
    obtain ⟨k1, h1⟩ := pin_l1 a b _ s d h3 h4 _ i (Nat.le_refl _) (by omega) ⟨k2, by rw [hq]; exact h2⟩
    have g1 : (s : Int) < 5 := by omega
    refine ⟨k1 + 1, ?_⟩
    unfold slices_partialInsertionSortOrdered_byte.l0
    rw [if_pos g1]
    exact h1

theorem same_pin (l : List Int) (a b : Nat) (hab : a < b) (hb : b ≤ l.length) (hn : l.length < 4611686018427387904) :
    ∃ k, slices_partialInsertionSortOrdered_byte.f k l (a : Int) (b : Int) = some ((partialInsertionSort ltInt l.toArray a b).2, (partialInsertionSort ltInt l.toArray a b).1.toList) := by
  obtain ⟨k, h⟩ := pin_l0 a b 5 0 (a + 1) l.toArray rfl (Nat.lt_succ_self _) hab (by simpa using hb) (by simpa using hn)
  have m1 : a + 1 ≤ 9223372036854775807 := by omega
  refine ⟨k, ?_⟩
  unfold slices_partialInsertionSortOrdered_byte.f
  rw [w1 m1]
  exact h

end Go.Proofs.Ytippkbjdifmdnaa.PF
