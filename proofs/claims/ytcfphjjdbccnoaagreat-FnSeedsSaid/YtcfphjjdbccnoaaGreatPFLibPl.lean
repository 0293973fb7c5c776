/- Prefixes, and the places of a word in a word. -/
import Derived.Test.YtcfphjjdbccnoaaGreatPFLibW
import Derived.Test.YtcfphjjdbccnoaaGreatPFx2
import Derived.Test.YtcfphjjdbccnoaaGreatPFx1
namespace Go.Proofs.YtcfphjjdbccnoaaGreat.PF
open Go.RowKit Go.Proofs.YtcfphjjdbccnoaaGreatW.PrintWords Go.Proofs.YtcfphjjdbccnoaaGreatW.PrintLast Go.Proofs.YtcfphjjdbccnoaaGreatW.PrintMore
set_option linter.unusedVariables false
set_option linter.unusedSimpArgs false

theorem ba_toList_inj {a b : ByteArray} : (a.toList = b.toList) = (a = b) := propext ba_inj

theorem hasPrefix_f (a b : ByteArray) (ha : a.size ≤ 9000000000000000000) : strings_HasPrefix.f a b = some (decide (b.size ≤ a.size ∧ a.extract 0 b.size = b)) := by
 unfold strings_HasPrefix.f stringslite_HasPrefix.f
 by_cases h : b.size ≤ a.size
 ·
  simp only [show (a.size : Int) ≥ (b.size : Int) by omega, show (0 : Int) ≤ (b.size : Int) by omega, if_true, show (b.size : Int) ≤ (a.size : Int) by omega, Int.toNat_natCast, Option.bind_some, h, true_and]
  rw [Bool.beq_eq_decide_eq]
  simp only [ba_toList_inj]
 ·
  simp only [show ¬ (a.size : Int) ≥ (b.size : Int) by omega, if_false, Option.bind_some, h, false_and, decide_false]

theorem hasPrefix_at (w v : ByteArray) (i : Nat) (hi : i ≤ w.size) (hw : w.size ≤ 9000000000000000000) : strings_HasPrefix.f (w.extract i w.size) v = some (decide (i + v.size ≤ w.size ∧ w.extract i (i + v.size) = v)) := by
 rw [hasPrefix_f _ _ (by rw [ByteArray.size_extract]; omega)]
 congr 1
 rw [decide_eq_decide, ByteArray.size_extract, ByteArray.extract_extract]
 constructor
 ·
  rintro ⟨h1, h2⟩
  have : i + v.size ≤ w.size := by omega
  refine ⟨this, ?_⟩
  rwa [Nat.add_zero, Nat.min_eq_left this] at h2
 ·
  rintro ⟨h1, h2⟩
  refine ⟨by omega, ?_⟩
  rwa [Nat.add_zero, Nat.min_eq_left h1]

/-- The places from i on. -/
def plcs (w v : ByteArray) : Nat → Nat → List Int
 | 0, _ => []
 | d + 1, i => if i + v.size ≤ w.size ∧ w.extract i (i + v.size) = v then (i : Int) :: plcs w v d (i + 1) else plcs w v d (i + 1)
def places (w v : ByteArray) : List Int := plcs w v (w.size + 1) 0

theorem plcs_nil (w v : ByteArray) : ∀ d i, w.size < i + v.size → plcs w v d i = []
 | 0, _, _ => rfl
 | d + 1, i, h => by rw [plcs, if_neg (fun c => by omega), plcs_nil w v d (i + 1) (by omega)]
theorem plcs_length (w v : ByteArray) : ∀ d i, (plcs w v d i).length ≤ d
 | 0, _ => Nat.le_refl _
 | d + 1, i => by
  have := plcs_length w v d (i + 1)
  rw [plcs]; split
  ·
   rw [List.length_cons]; omega
  ·
   omega
theorem plcs_mem (w v : ByteArray) (x : Int) : ∀ d i, x ∈ plcs w v d i → ∃ j : Nat, x = j ∧ i ≤ j ∧ j + v.size ≤ w.size ∧ w.extract j (j + v.size) = v
 | 0, _, h => by cases h
 | d + 1, i, h => by
  rw [plcs] at h
  split at h
  ·
   rename_i c
   rcases List.mem_cons.1 h with e | h
   ·
    exact ⟨i, e, Nat.le_refl _, c.1, c.2⟩
   ·
    obtain ⟨j, h1, h2, h3⟩ := plcs_mem w v x d (i + 1) h
    exact ⟨j, h1, by omega, h3⟩
  ·
   obtain ⟨j, h1, h2, h3⟩ := plcs_mem w v x d (i + 1) h
   exact ⟨j, h1, by omega, h3⟩
theorem plcs_sorted (w v : ByteArray) : ∀ d i, (plcs w v d i).Pairwise (· < ·)
 | 0, _ => List.Pairwise.nil
 | d + 1, i => by
  rw [plcs]; split
  ·
   refine List.pairwise_cons.2 ⟨fun y hy => ?_, plcs_sorted w v d (i + 1)⟩
   obtain ⟨j, h1, h2, _⟩ := plcs_mem w v y d (i + 1) hy
   omega
  ·
   exact plcs_sorted w v d (i + 1)

theorem places_length (w v : ByteArray) : (places w v).length ≤ w.size + 1 := plcs_length w v _ _

theorem spec_places_loop (w v : ByteArray) (hw : w.size ≤ 60) (hv : v.size ≤ 60) : ∀ (d k i : Nat) (acc : List Int), i + d = w.size + 1 → acc.length ≤ i → d < k →
  spec_l01Places.l0 k w v acc (i : Int) = some (acc ++ plcs w v d i) := by
 intro d
 induction d with
 | zero =>
  intro k i acc hd ha hk
  obtain ⟨k, rfl⟩ : ∃ n, k = n + 1 := ⟨k - 1, by omega⟩
  simp only [spec_l01Places.l0]
  rw [wrap_id (by omega) (by omega), if_neg (by omega)]
  simp [plcs]
 | succ d ih =>
  intro k i acc hd ha hk
  obtain ⟨k, rfl⟩ : ∃ n, k = n + 1 := ⟨k - 1, by omega⟩
  simp only [spec_l01Places.l0]
  rw [wrap_nat (n := i + v.size) (by omega) (by omega)]
  by_cases h : i + v.size ≤ w.size
  ·
   rw [if_pos (by omega), if_pos (by omega), if_pos (by omega), wrap_succ (by omega), Int.toNat_natCast, Int.toNat_natCast]
   by_cases c : w.extract i (i + v.size) = v
   ·
    rw [if_pos (by rw [c]), if_pos (by omega), ih k (i + 1) _ (by omega) (by simp; omega) (by omega), plcs, if_pos ⟨h, c⟩]
    simp
   ·
    rw [if_neg (by rw [ba_toList_inj]; exact c), ih k (i + 1) _ (by omega) (by omega) (by omega), plcs, if_neg (fun e => c e.2)]
  ·
   rw [if_neg (by omega), plcs_nil w v _ _ (by omega)]; simp

theorem spec_places_ev (w v : ByteArray) (hw : w.size ≤ 60) (hv : v.size ≤ 60) : Ev (fun k => spec_l01Places.f k w v) (places w v) :=
 ⟨w.size + 2, fun k hk => by
  have h := spec_places_loop w v hw hv (w.size + 1) k 0 [] (by omega) (by simp) (by omega)
  exact h⟩

theorem impl_places_loop (w v : ByteArray) (hw : w.size ≤ 60) (hv : v.size ≤ 60) : ∀ (d k i : Nat) (acc : List Int), i + d = w.size + 1 → acc.length ≤ i → d < k →
  impl_places.l0 k w v acc ((w.size : Int) + 1) (i : Int) = some (acc ++ plcs w v d i) := by
 intro d
 induction d with
 | zero =>
  intro k i acc hd ha hk
  obtain ⟨k, rfl⟩ : ∃ n, k = n + 1 := ⟨k - 1, by omega⟩
  simp only [impl_places.l0]
  rw [if_neg (by omega)]
  simp [plcs]
 | succ d ih =>
  intro k i acc hd ha hk
  obtain ⟨k, rfl⟩ : ∃ n, k = n + 1 := ⟨k - 1, by omega⟩
  simp only [impl_places.l0]
  rw [if_pos (by omega), if_pos (by omega), if_pos (by omega), wrap_succ (by omega), Int.toNat_natCast, hasPrefix_at w v i (by omega) (by omega)]
  simp only [Option.bind_some, decide_eq_true_eq]
  by_cases c : i + v.size ≤ w.size ∧ w.extract i (i + v.size) = v
  ·
   rw [if_pos c, if_pos (by omega), ih k (i + 1) _ (by omega) (by simp; omega) (by omega), plcs, if_pos c]
   simp
  ·
   rw [if_neg c, ih k (i + 1) _ (by omega) (by omega) (by omega), plcs, if_neg c]

theorem impl_places_ev (w v : ByteArray) (hw : w.size ≤ 60) (hv : v.size ≤ 60) : Ev (fun k => impl_places.f k w v) (places w v) :=
 ⟨w.size + 2, fun k hk => by
  have h := impl_places_loop w v hw hv (w.size + 1) k 0 [] (by omega) (by simp) (by omega)
  show impl_places.f k w v = _
  unfold impl_places.f
  rw [wrap_id (by omega) (by omega)]
  exact h⟩

end Go.Proofs.YtcfphjjdbccnoaaGreat.PF
