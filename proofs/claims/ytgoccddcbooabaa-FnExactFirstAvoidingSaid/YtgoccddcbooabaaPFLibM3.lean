/- Words that have patterns, and words that end with them: the program's tests and the reference's tests. -/
import Derived.Test.YtgoccddcbooabaaPFLibM2
namespace Go.Proofs.Ytgoccddcbooabaa.PF
open Go.RowKit Go.Proofs.YtgoccddcbooabaaW.PrintWords Go.Proofs.YtgoccddcbooabaaW.PrintLast Go.Proofs.YtgoccddcbooabaaW.PrintMore
set_option linter.unusedVariables false
set_option linter.unusedSimpArgs false
set_option maxRecDepth 20000

def endsB (w p : ByteArray) : Bool := (List.range w.size).any fun i => fitB w p i w.size
def hasB (w p : ByteArray) : Bool := (List.range w.size).any fun i => mE w w.size (fun _ => true) (vars p) em3 i

theorem any_from (F : Nat → Bool) (n d : Nat) (h : d < n) (hb : F (n - 1 - d) = true) : (List.range n).any F = true := List.any_eq_true.2 ⟨n - 1 - d, List.mem_range.2 (by omega), hb⟩

/-- A walk upwards: what is found from i on. -/
def anyUp (F : Nat → Bool) : Nat → Nat → Bool
  | 0, _ => false
  | d + 1, i => F i || anyUp F d (i + 1)
theorem anyUp_range (F : Nat → Bool) : ∀ d i, anyUp F d i = (List.range d).any fun t => F (i + t)
  | 0, _ => rfl
  | d + 1, i => by
    rw [anyUp, anyUp_range F d (i + 1), List.range_succ_eq_map, List.any_cons, Nat.add_zero, List.any_map]
    congr 2
    funext t
    show _ = F _
    congr 1; simp only [Nat.succ_eq_add_one]; omega

theorem ends_up (w p : ByteArray) (hw : w.size ≤ 1000) (hp : okP p) (hs : p.size ≤ 8) : ∀ (d k i : Nat), i + d = w.size → d + 20 < k → impl_endsWith.l0 k w p (w.size : Int) (i : Int) = some (anyUp (fun i => fitB w p i w.size) d i) := by
  intro d
  induction d with
  | zero =>
    intro k i hd hk
    obtain ⟨k, rfl⟩ : ∃ n, k = n + 1 := ⟨k - 1, by omega⟩
    simp only [impl_endsWith.l0]
    rw [if_neg (by omega)]; rfl
  | succ d ih =>
    intro k i hd hk
    obtain ⟨k, rfl⟩ : ∃ n, k = n + 1 := ⟨k - 1, by omega⟩
    have hsw : (w.extract i w.size).size = w.size - i := by rw [ByteArray.size_extract]; omega
    have hw1 : wrap64 ((i : Int) + 1) = ((i + 1 : Nat) : Int) := wrap_succ (by omega)
    simp only [impl_endsWith.l0]
    rw [if_pos (by omega), if_pos (by omega), if_pos (by omega), Int.toNat_natCast, impl_fits_f _ p (by omega) hp k (by omega) (by omega), hsw, fitB_shift w p i w.size (by omega) (Nat.le_refl _), hw1, ih k (i + 1) (by omega) (by omega), anyUp]
    simp only [Option.bind_some]
    cases fitB w p i w.size <;> rfl
theorem endsWith_f (w p : ByteArray) (hw : w.size ≤ 1000) (hp : okP p) (hs : p.size ≤ 8) (k : Nat) (hk : w.size + 20 < k) : impl_endsWith.f k w p = some (endsB w p) := by
  have h := ends_up w p hw hp hs w.size k 0 (by omega) hk
  rw [anyUp_range] at h
  simp only [Nat.zero_add] at h
  exact h

theorem ends_down (w p : ByteArray) (hw : w.size ≤ 1000) (hp : okP p) (hs : p.size ≤ 8) : ∀ (i k : Nat), i ≤ w.size → i + 20000 < k → spec_l10Ends.l0 k w p ((i : Int) - 1) = some ((List.range i).any fun i => fitB w p i w.size) := by
  intro i
  induction i with
  | zero =>
    intro k hi hk
    obtain ⟨k, rfl⟩ : ∃ n, k = n + 1 := ⟨k - 1, by omega⟩
    simp only [spec_l10Ends.l0]
    rw [if_neg (by omega)]; rfl
  | succ i ih =>
    intro k hi hk
    obtain ⟨k, rfl⟩ : ∃ n, k = n + 1 := ⟨k - 1, by omega⟩
    have hsw : (w.extract i w.size).size = w.size - i := by rw [ByteArray.size_extract]; omega
    have e1 : ((i + 1 : Nat) : Int) - 1 = (i : Int) := by omega
    simp only [spec_l10Ends.l0]
    rw [e1, if_pos (by omega), if_pos (by omega), if_pos (by omega), Int.toNat_natCast, l10Fits_f _ p (by omega) hp hs k (by omega), hsw, fitB_shift w p i w.size (by omega) (Nat.le_refl _), wrap_id (by omega) (by omega), ih k (by omega) (by omega)]
    simp only [Option.bind_some]
    rw [List.range_succ, List.any_append]
    simp only [List.any_cons, List.any_nil, Bool.or_false]
    cases fitB w p i w.size
    · simp
    · simp
theorem l10Ends_f (w p : ByteArray) (hw : w.size ≤ 1000) (hp : okP p) (h1 : 1 ≤ p.size) (hs : p.size ≤ 8) (k : Nat) (hk : 30000 < k) : spec_l10Ends.f k w p = some (endsB w p) := by
  have hshort : ∀ t, w.size - p.size + 1 ≤ t → t < w.size → fitB w p t w.size = false := fun t ht ht2 => mE_short w w.size _ _ _ _ (by omega) (by rw [vars_length]; omega)
  unfold spec_l10Ends.f endsB
  rw [wrap_id (by omega) (by omega)]
  by_cases hle : p.size ≤ w.size
  · have h := ends_down w p hw hp hs (w.size - p.size + 1) k (by omega) (by omega)
    rw [any_cut _ (w.size - p.size + 1) w.size (by omega) hshort]
    rw [← h]
    congr 1; omega
  · obtain ⟨k, rfl⟩ : ∃ n, k = n + 1 := ⟨k - 1, by omega⟩
    simp only [spec_l10Ends.l0]
    rw [if_neg (by omega), any_cut _ 0 w.size (by omega) (fun t h1 h2 => show fitB w p t w.size = false from mE_short w w.size _ _ _ _ (by omega) (by rw [vars_length]; omega))]
    rfl

theorem has_up (w p : ByteArray) (hw : w.size ≤ 1000) (hp : okP p) (hs : p.size ≤ 8) : ∀ (d k i : Nat), i + d = w.size → d + 20 < k → impl_has.l0 k w p (w.size : Int) (i : Int) = some (anyUp (fun i => mE w w.size (fun _ => true) (vars p) em3 i) d i) := by
  intro d
  induction d with
  | zero =>
    intro k i hd hk
    obtain ⟨k, rfl⟩ : ∃ n, k = n + 1 := ⟨k - 1, by omega⟩
    simp only [impl_has.l0]
    rw [if_neg (by omega)]; rfl
  | succ d ih =>
    intro k i hd hk
    obtain ⟨k, rfl⟩ : ∃ n, k = n + 1 := ⟨k - 1, by omega⟩
    have hsw : (w.extract i w.size).size = w.size - i := by rw [ByteArray.size_extract]; omega
    have hw1 : wrap64 ((i : Int) + 1) = ((i + 1 : Nat) : Int) := wrap_succ (by omega)
    simp only [impl_has.l0]
    rw [if_pos (by omega), if_pos (by omega), if_pos (by omega), Int.toNat_natCast, impl_begins_f _ p (by omega) hp k (by omega) (by omega), hsw, mE_shift w i w.size (by omega) (Nat.le_refl _) _ _ _ 0 (Nat.zero_le _), Nat.add_zero, hw1, ih k (i + 1) (by omega) (by omega), anyUp]
    simp only [Option.bind_some]
    cases mE w w.size (fun _ => true) (vars p) em3 i <;> rfl
theorem impl_has_f (w p : ByteArray) (hw : w.size ≤ 1000) (hp : okP p) (hs : p.size ≤ 8) (k : Nat) (hk : w.size + 20 < k) : impl_has.f k w p = some (hasB w p) := by
  have h := has_up w p hw hp hs w.size k 0 (by omega) hk
  rw [anyUp_range] at h
  simp only [Nat.zero_add] at h
  exact h

theorem endsB_pre (w p : ByteArray) (n : Nat) (hn : n ≤ w.size) : endsB (w.extract 0 n) p = (List.range n).any fun i => fitB w p i n := by
  have hs : (w.extract 0 n).size = n := by rw [ByteArray.size_extract]; omega
  unfold endsB fitB
  rw [hs, Bool.eq_iff_iff, List.any_eq_true, List.any_eq_true]
  have key : ∀ i, i < n → mE (w.extract 0 n) n (fun e => decide (e = n)) (vars p) em3 i = mE w n (fun e => decide (e = n)) (vars p) em3 i := fun i hi => by
    have h := mE_shift w 0 n (Nat.zero_le _) hn (fun e => decide (e = n)) (vars p) em3 i (by omega)
    rw [Nat.sub_zero, Nat.zero_add] at h
    rw [h]
    rfl
  constructor
  · rintro ⟨i, hi, g⟩; exact ⟨i, hi, by rw [← key i (List.mem_range.1 hi)]; exact g⟩
  · rintro ⟨i, hi, g⟩; exact ⟨i, hi, by rw [key i (List.mem_range.1 hi)]; exact g⟩

theorem has_spec (w p : ByteArray) (hw : w.size ≤ 1000) (hp : okP p) (h1 : 1 ≤ p.size) (hs : p.size ≤ 8) : ∀ (d k n : Nat), n + d = w.size + 1 → d + 40000 < k → spec_l10Has.l0 k w p (n : Int) = some (anyUp (fun n => (List.range n).any fun i => fitB w p i n) d n) := by
  intro d
  induction d with
  | zero =>
    intro k n hd hk
    obtain ⟨k, rfl⟩ : ∃ m, k = m + 1 := ⟨k - 1, by omega⟩
    simp only [spec_l10Has.l0]
    rw [if_neg (by omega)]; rfl
  | succ d ih =>
    intro k n hd hk
    obtain ⟨k, rfl⟩ : ∃ m, k = m + 1 := ⟨k - 1, by omega⟩
    have hsw : (w.extract 0 n).size = n := by rw [ByteArray.size_extract]; omega
    have hw1 : wrap64 ((n : Int) + 1) = ((n + 1 : Nat) : Int) := wrap_succ (by omega)
    simp only [spec_l10Has.l0]
    rw [if_pos (by omega), if_pos (by omega), Int.toNat_natCast, l10Ends_f _ p (by omega) hp h1 hs k (by omega), endsB_pre w p n (by omega), hw1, ih k (n + 1) (by omega) (by omega), anyUp]
    simp only [Option.bind_some]
    cases (List.range n).any fun i => fitB w p i n <;> rfl

theorem l10Has_f (w p : ByteArray) (hw : w.size ≤ 1000) (hp : okP p) (h1 : 1 ≤ p.size) (hs : p.size ≤ 8) (k : Nat) (hk : 50000 < k) : spec_l10Has.f k w p = some (hasB w p) := by
  have key : ∀ d n, n + d = w.size + 1 → n ≤ p.size → anyUp (fun n => (List.range n).any fun i => fitB w p i n) d n = hasB w p := by
    intro d n hd hn
    rw [anyUp_range, Bool.eq_iff_iff, List.any_eq_true]
    unfold hasB
    rw [List.any_eq_true]
    constructor
    · rintro ⟨t, ht, g⟩
      have ht' := List.mem_range.1 ht
      obtain ⟨i, hi, g⟩ := List.any_eq_true.1 g
      have hi' := List.mem_range.1 hi
      exact ⟨i, List.mem_range.2 (by omega), mE_mono w (n + t) w.size _ _ (by omega) (fun _ _ => rfl) _ _ _ g⟩
    · rintro ⟨i, hi, g⟩
      have hi' := List.mem_range.1 hi
      obtain ⟨m, g0, g1, g2⟩ := mE_some w w.size _ _ _ (by omega) g
      obtain ⟨e, q1, q2, q3⟩ := mE_end w m _ _ _ _ g0 g2
      rw [vars_length] at q2
      refine ⟨m - n, List.mem_range.2 (by omega), List.any_eq_true.2 ⟨i, List.mem_range.2 (by omega), ?_⟩⟩
      rw [show n + (m - n) = m by omega]; exact g2
  unfold spec_l10Has.f
  by_cases hle : p.size ≤ w.size
  · rw [has_spec w p hw hp h1 hs (w.size + 1 - p.size) k p.size (by omega) (by omega), key _ _ (by omega) (Nat.le_refl _)]
  · obtain ⟨k, rfl⟩ : ∃ n, k = n + 1 := ⟨k - 1, by omega⟩
    simp only [spec_l10Has.l0]
    rw [if_neg (by omega)]
    have : hasB w p = false := by
      unfold hasB
      rw [any_cut _ 0 w.size (by omega) (fun t h1 h2 => mE_short w w.size _ _ _ _ (by omega) (by rw [vars_length]; omega))]
      rfl
    rw [this]

end Go.Proofs.Ytgoccddcbooabaa.PF
