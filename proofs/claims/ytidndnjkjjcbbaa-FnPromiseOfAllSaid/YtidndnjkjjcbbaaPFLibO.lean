/- Palindromes: the program's test and the reference's test. -/
import Derived.Test.YtidndnjkjjcbbaaPFLibE
import Derived.Test.YtidndnjkjjcbbaaPFGivR
import Derived.Test.YtidndnjkjjcbbaaPFx1
import Derived.Test.YtidndnjkjjcbbaaPFx0
namespace Go.Proofs.Ytidndnjkjjcbbaa.PF
open Go.RowKit Go.Proofs.YtidndnjkjjcbbaaW.PrintWords Go.Proofs.YtidndnjkjjcbbaaW.PrintLast Go.Proofs.YtidndnjkjjcbbaaW.PrintMore
set_option linter.unusedVariables false
set_option linter.unusedSimpArgs false

def isPal (a : ByteArray) : Bool := decide (a.toList = a.toList.reverse)

theorem rev_toList (a : ByteArray) : (rev a).toList = a.toList.reverse := by
  rw [toList_eq, toList_eq]
  simp only [rev, strOfNums, bytesOf]
  rw [← List.map_reverse, List.map_map]
  have h : ((fun n : Int => UInt8.ofNat n.toNat) ∘ fun b : UInt8 => (b.toNat : Int)) = id := funext fun b => by simp
  rw [h, List.map_id]

theorem isPal_f (a : ByteArray) (ha : a.size ≤ 1000000) : impl_isPalindrome.f a = some (isPal a) := by
  unfold impl_isPalindrome.f impl_reversed.f
  rw [if_pos (by omega)]
  simp only [Option.bind_some, rev_toList]
  rw [isPal]
  congr 1
  by_cases h : a.toList = a.toList.reverse
  · rw [decide_eq_true h]; exact beq_iff_eq.2 h
  · rw [decide_eq_false h]; exact beq_eq_false_iff_ne.2 h

theorem pal_loop (a : ByteArray) (ha : a.size ≤ 1000000) : ∀ (d k i : Nat), a.size ≤ i + d → i ≤ a.size → d < k → ∃ b, spec_l04Is.l0 k a (i : Int) ((a.size : Int) - 1 - i) = some b ∧ (b = true ↔ ∀ t : Nat, i ≤ t → 2 * t + 1 < a.size → bt a (t : Int) = bt a ((a.size - 1 - t : Nat) : Int)) := by
  intro d
  induction d with
  | zero =>
    intro k i hd hi hk
    obtain ⟨k, rfl⟩ : ∃ n, k = n + 1 := ⟨k - 1, by omega⟩
    refine ⟨true, ?_, ⟨fun _ t h1 h2 => by omega, fun _ => rfl⟩⟩
    simp only [spec_l04Is.l0]; rw [if_neg (by omega)]
  | succ d ih =>
    intro k i hd hi hk
    obtain ⟨k, rfl⟩ : ∃ n, k = n + 1 := ⟨k - 1, by omega⟩
    by_cases h : 2 * i + 1 < a.size
    · obtain ⟨b, h1, h2⟩ := ih k (i + 1) (by omega) (by omega) (by omega)
      have hj : ((a.size : Int) - 1 - i) = ((a.size - 1 - i : Nat) : Int) := by omega
      by_cases c : bt a (i : Int) = bt a ((a.size - 1 - i : Nat) : Int)
      · refine ⟨b, ?_, ?_⟩
        · simp only [spec_l04Is.l0]
          rw [if_pos (by omega), if_pos (by omega), if_pos (by omega), if_pos (by omega), if_pos (by omega), hj, if_pos c, wrap_succ (by omega), wrap_id (x := ((a.size - 1 - i : Nat) : Int) - 1) (by omega) (by omega), ← h1]
          congr 1; omega
        · rw [h2]
          constructor
          · intro g t ht1 ht2
            by_cases e : t = i
            · subst e; exact c
            · exact g t (by omega) ht2
          · exact fun g t ht1 ht2 => g t (by omega) ht2
      · refine ⟨false, ?_, ⟨fun g => (by cases g), fun g => absurd (g i (Nat.le_refl _) h) c⟩⟩
        simp only [spec_l04Is.l0]
        rw [if_pos (by omega), if_pos (by omega), if_pos (by omega), if_pos (by omega), if_pos (by omega), hj, if_neg c]
    · refine ⟨true, ?_, ⟨fun _ t h1 h2 => by omega, fun _ => rfl⟩⟩
      simp only [spec_l04Is.l0]; rw [if_neg (by omega)]

theorem bt_eq (a : ByteArray) (t : Nat) (h : t < a.toList.length) : bt a (t : Int) = ((a.toList[t]).toNat : Int) := by
  have h' : t < a.size := by rw [toList_eq, Array.length_toList] at h; exact h
  simp only [bt, Int.toNat_natCast, h', dite_true]
  congr 2
  simp only [toList_eq, Array.getElem_toList]; rfl

theorem l04Is_f (a : ByteArray) (ha : a.size ≤ 1000000) (k : Nat) (hk : a.size < k) : spec_l04Is.f k a = some (isPal a) := by
  obtain ⟨b, h1, h2⟩ := pal_loop a ha a.size k 0 (by omega) (by omega) hk
  unfold spec_l04Is.f
  rw [wrap_id (by omega) (by omega), show (a.size : Int) - 1 = (a.size : Int) - 1 - ((0 : Nat) : Int) by omega, show (0 : Int) = ((0 : Nat) : Int) from rfl, h1]
  congr 1
  have hl : a.toList.length = a.size := by rw [toList_eq, Array.length_toList]; rfl
  rw [Bool.eq_iff_iff, h2, isPal, decide_eq_true_eq]
  constructor
  · intro g
    refine List.ext_getElem (by simp) fun t ht1 ht2 => ?_
    rw [List.getElem_reverse]
    have key : ∀ t : Nat, 2 * t + 1 < a.size → ∀ (x : t < a.toList.length) (y : a.size - 1 - t < a.toList.length), a.toList[t] = a.toList[a.size - 1 - t] := fun t h x y => by
      have := g t (Nat.zero_le _) h
      rw [bt_eq a t x, bt_eq a _ y] at this
      exact UInt8.toNat_inj.1 (by omega)
    have e : a.toList.length - 1 - t = a.size - 1 - t := by omega
    simp only [e]
    rcases Nat.lt_trichotomy (2 * t + 1) a.size with h | h | h
    · exact key t h _ _
    · congr 1; omega
    · have := key (a.size - 1 - t) (by omega) (by omega) (by omega)
      rw [this]; congr 1; omega
  · intro g t _ ht
    have x : t < a.toList.length := by omega
    have y : a.size - 1 - t < a.toList.length := by omega
    rw [bt_eq a t x, bt_eq a _ y]
    have e : a.toList[t] = a.toList.reverse[t]'(by simp; omega) := by congr 1
    rw [e, List.getElem_reverse]
    congr 2
    simp only [hl]

end Go.Proofs.Ytidndnjkjjcbbaa.PF
