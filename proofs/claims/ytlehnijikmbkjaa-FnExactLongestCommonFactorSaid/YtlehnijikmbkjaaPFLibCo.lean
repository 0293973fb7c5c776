/- The longest common factor of two words: the program's way and the reference's way. -/
import Derived.Test.YtlehnijikmbkjaaPFLibFs
import Derived.Test.YtlehnijikmbkjaaPFLibPs
import Derived.Test.YtlehnijikmbkjaaPFLibQ
import Derived.Test.YtlehnijikmbkjaaPFGivX
import Derived.Test.YtlehnijikmbkjaaPFx12
import Derived.Test.YtlehnijikmbkjaaPFx5
namespace Go.Proofs.Ytlehnijikmbkjaa.PF
open Go.RowKit Go.Proofs.YtlehnijikmbkjaaW.PrintWords Go.Proofs.YtlehnijikmbkjaaW.PrintLast Go.Proofs.YtlehnijikmbkjaaW.PrintMore
set_option linter.unusedVariables false
set_option linter.unusedSimpArgs false
set_option maxRecDepth 20000

/-- Does a word stand in another one? -/
def hasB (u x : ByteArray) : Bool := Lib.contains u.data.toList x.data.toList

theorem occ_iff (u x : ByteArray) (j : Nat) (hj : j ≤ u.size) : Lib.occAt u.data.toList x.data.toList j = true ↔ j + x.size ≤ u.size ∧ u.extract j (j + x.size) = x := by
  unfold Lib.occAt
  rw [List.isPrefixOf_iff_prefix, List.prefix_iff_eq_take]
  have hl : (u.data.toList.drop j).length = u.size - j := by rw [List.length_drop, Array.length_toList]; rfl
  have hv : x.data.toList.length = x.size := by rw [Array.length_toList]; rfl
  have key : (u.extract j (j + x.size)).data.toList = (u.data.toList.drop j).take x.data.toList.length := by
    rw [hv]
    simp only [ByteArray.data_extract, Array.toList_extract, List.extract_eq_take_drop]
    congr 1; omega
  constructor
  · intro h
    have hle : j + x.size ≤ u.size := by
      have := congrArg List.length h
      rw [List.length_take, hl, hv] at this; omega
    exact ⟨hle, ba_ext (by rw [key, ← h])⟩
  · rintro ⟨hle, h⟩
    rw [← key, h]

theorem hasB_iff (u x : ByteArray) : hasB u x = true ↔ ∃ j, j + x.size ≤ u.size ∧ u.extract j (j + x.size) = x := by
  unfold hasB Lib.contains
  rw [decide_eq_true_eq]
  have hl : u.data.toList.length = u.size := by rw [Array.length_toList]; rfl
  rcases Lib.index_spec u.data.toList x.data.toList with ⟨h1, h2⟩ | ⟨i, h1, h2, h3, _⟩
  · rw [h1]
    constructor
    · intro h; omega
    · rintro ⟨j, hj1, hj2⟩
      have := h2 j (by rw [hl]; omega)
      rw [(occ_iff u x j (by omega)).2 ⟨hj1, hj2⟩] at this; cases this
  · rw [h1]
    exact ⟨fun _ => ⟨i, (occ_iff u x i (by rw [← hl]; exact h2)).1 h3⟩, fun _ => by omega⟩

theorem plcs_of (w v : ByteArray) (j : Nat) (h : j + v.size ≤ w.size ∧ w.extract j (j + v.size) = v) : ∀ d i, i ≤ j → j < i + d → (j : Int) ∈ plcs w v d i
  | 0, i, h1, h2 => by omega
  | d + 1, i, h1, h2 => by
    rw [plcs]
    by_cases e : i = j
    · subst e; rw [if_pos h]; exact List.mem_cons_self
    · have := plcs_of w v j h d (i + 1) (by omega) (by omega)
      split
      · exact List.mem_cons_of_mem _ this
      · exact this
theorem places_pos (u x : ByteArray) : 0 < (places u x).length ↔ hasB u x = true := by
  rw [hasB_iff]
  constructor
  · intro h
    have hm := List.getElem_mem h
    obtain ⟨j, h1, h2, h3, h4⟩ := plcs_mem u x _ _ _ hm
    exact ⟨j, h3, h4⟩
  · rintro ⟨j, h1, h2⟩
    exact List.length_pos_of_mem (plcs_of u x j ⟨h1, h2⟩ (u.size + 1) 0 (Nat.zero_le _) (by omega))

/-- The first word of a list that stands in u. -/
def fnd (u : ByteArray) : List ByteArray → Option ByteArray
  | [] => none
  | x :: l => if hasB u x = true then some x else fnd u l
/-- The first one of the longest factors of at most so many letters that stand in u. -/
def lcf (w u : ByteArray) : Nat → ByteArray
  | 0 => ⟨#[]⟩
  | m + 1 => match fnd u (fac w (m + 1)) with
    | some x => x
    | none => lcf w u m

theorem fnd_none (u : ByteArray) : ∀ l : List ByteArray, (∀ x ∈ l, u.size < x.size) → fnd u l = none
  | [], _ => rfl
  | x :: l, h => by
    have hx := h x List.mem_cons_self
    have : ¬ hasB u x = true := fun e => by
      obtain ⟨j, h1, _⟩ := (hasB_iff u x).1 e
      omega
    rw [fnd, if_neg this]
    exact fnd_none u l fun y hy => h y (List.mem_cons_of_mem _ hy)
theorem fac_size (w : ByteArray) (m : Nat) : ∀ x ∈ fac w m, x.size = m := fun x hx => by
  obtain ⟨j, h1, rfl⟩ := (mem_fac w m x).1 hx
  rw [ByteArray.size_extract]; omega
theorem lcf_min (w u : ByteArray) : ∀ m, u.size ≤ m → lcf w u m = lcf w u u.size := by
  intro m
  induction m with
  | zero => intro h; rw [show u.size = 0 by omega]
  | succ m ih =>
    intro h
    by_cases e : u.size = m + 1
    · rw [e]
    · rw [lcf, fnd_none u _ (fun x hx => by rw [fac_size w (m + 1) x hx]; omega)]
      exact ih (by omega)

theorem impl_l1 (w u : ByteArray) (hu : u.size ≤ 60) (m : Int) (l : List ByteArray) (hl : l.length ≤ 1000) : ∀ (d k i : Nat), i + d = l.length →
    impl_LongestCommonFactor.l1 (k + d + 1) w u m l (l.length : Int) (i : Int) = (match fnd u (l.drop i) with | some x => some (x, 0) | none => impl_LongestCommonFactor.l0 k w u (wrap64 (m - 1))) := by
  intro d
  induction d with
  | zero =>
    intro k i hd
    simp only [impl_LongestCommonFactor.l1]
    rw [if_neg (by omega), List.drop_eq_nil_of_le (by omega)]; rfl
  | succ d ih =>
    intro k i hd
    obtain ⟨q, hq⟩ : ∃ q, q = k + d + 1 := ⟨_, rfl⟩
    have hi : i < l.length := by omega
    have hih := ih k (i + 1) (by omega)
    have a1 : (i : Int) < (l.length : Int) := by omega
    have a2 : (0 : Int) ≤ (i : Int) := by omega
    have a3 : i < 4611686018427387904 := by omega
    have hc : strings_Contains.f u l[i] = some (hasB u l[i]) := by unfold strings_Contains.f; rw [if_pos (by omega)]; rfl
    rw [← hq] at hih
    rw [show k + (d + 1) + 1 = q + 1 by rw [hq]; rfl]
    simp only [impl_LongestCommonFactor.l1]
    rw [if_pos a1, if_pos a2, if_pos a1, rdOf_nat _ l i hi, hc, List.drop_eq_getElem_cons hi, fnd]
    simp only [Option.bind_some]
    by_cases c : hasB u l[i] = true
    · rw [if_pos c, if_pos c]
    · rw [if_neg c, if_neg c, show wrap64 ((i : Int) + 1) = ((i + 1 : Nat) : Int) from wrap_succ a3, hih]

theorem impl_l0 (w u : ByteArray) (hw : w.size ≤ 60) (hu : u.size ≤ 60) : ∀ (m k : Nat), m ≤ w.size → m * 100 + 400 < k → impl_LongestCommonFactor.l0 k w u (m : Int) = some (lcf w u m, 0) := by
  have hfac : ∀ (q m : Nat), m ≤ 100 → 100 < q → impl_factors.f q w (m : Int) = some (fac w m) := fun q m hm hq => by
    have h := impl_factors_loop w m (by omega) (by omega) (plc w m) q 0 [] (by omega) rfl (by unfold plc; omega)
    exact h
  intro m
  induction m with
  | zero =>
    intro k hm hk
    obtain ⟨k, rfl⟩ : ∃ n, k = n + 1 + 1 := ⟨k - 2, by omega⟩
    have hmem : w.extract 0 0 ∈ fac w 0 := (mem_fac w 0 _).2 ⟨0, by omega, rfl⟩
    have hpos : 0 < (fac w 0).length := List.length_pos_of_mem hmem
    have hz : (fac w 0)[0] = (⟨#[]⟩ : ByteArray) := by
      have hs := fac_size w 0 _ (List.getElem_mem hpos)
      exact ba_ext (List.eq_nil_of_length_eq_zero (by rw [Array.length_toList]; exact hs))
    have hc : strings_Contains.f u (⟨#[]⟩ : ByteArray) = some true := by
      unfold strings_Contains.f
      rw [if_pos (by omega)]
      exact congrArg some ((hasB_iff u ⟨#[]⟩).2 ⟨0, by show 0 + 0 ≤ u.size; omega, by show u.extract 0 (0 + 0) = _; exact ba_ext (by simp)⟩)
    have a1 : (0 : Int) < ((fac w 0).length : Int) := by omega
    have h0 : rdOf ByteArray.empty (fac w 0) 0 = (⟨#[]⟩ : ByteArray) := by rw [show (0 : Int) = ((0 : Nat) : Int) from rfl, rdOf_nat _ _ 0 hpos, hz]
    simp only [impl_LongestCommonFactor.l0]
    rw [show ((0 : Nat) : Int) = 0 from rfl, show (0 : Int) = ((0 : Nat) : Int) from rfl, hfac (k + 1) 0 (by omega) (by omega)]
    simp only [Option.bind_some, impl_LongestCommonFactor.l1]
    rw [show ((0 : Nat) : Int) = 0 from rfl, if_pos a1, if_pos (Int.le_refl _), if_pos a1, h0, hc]
    rfl
  | succ m ih =>
    intro k hm hk
    have hfl := fac_length_le w (m + 1)
    obtain ⟨k, rfl⟩ : ∃ n, k = (n + (fac w (m + 1)).length + 1) + 1 := ⟨k - (fac w (m + 1)).length - 2, by omega⟩
    obtain ⟨q, hq⟩ : ∃ q, q = k + (fac w (m + 1)).length + 1 := ⟨_, rfl⟩
    have hl := impl_l1 w u hu ((m + 1 : Nat) : Int) (fac w (m + 1)) (by omega) (fac w (m + 1)).length k 0 (by omega)
    have hih := ih k (by omega) (by omega)
    have hfq := hfac q (m + 1) (by omega) (by omega)
    have hw1 : wrap64 (((m + 1 : Nat) : Int) - 1) = (m : Int) := wrap_nat (by omega) (by omega)
    rw [← hq] at hl ⊢
    simp only [impl_LongestCommonFactor.l0]
    rw [hfq]
    simp only [Option.bind_some]
    rw [show (0 : Int) = ((0 : Nat) : Int) from rfl, hl, List.drop_zero, hw1, hih, lcf]
    cases fnd u (fac w (m + 1)) <;> rfl

theorem spec_l1 (w u : ByteArray) (hu : u.size ≤ 60) (m : Int) (l : List ByteArray) (hl : l.length ≤ 1000) (hls : ∀ x ∈ l, x.size ≤ 60) : ∀ (d k i : Nat), i + d = l.length → 100 < k →
    spec_LongestCommonFactor.l1 (k + d + 1) w u m l (i : Int) = (match fnd u (l.drop i) with | some x => some (x, 0) | none => spec_LongestCommonFactor.l0 k w u (wrap64 (m - 1))) := by
  intro d
  induction d with
  | zero =>
    intro k i hd hk
    simp only [spec_LongestCommonFactor.l1]
    rw [if_neg (by omega), List.drop_eq_nil_of_le (by omega)]; rfl
  | succ d ih =>
    intro k i hd hk
    obtain ⟨q, hq⟩ : ∃ q, q = k + d + 1 := ⟨_, rfl⟩
    have hi : i < l.length := by omega
    have hih := ih k (i + 1) (by omega) hk
    have a1 : (i : Int) < (l.length : Int) := by omega
    have a2 : (0 : Int) ≤ (i : Int) := by omega
    have a3 : i < 4611686018427387904 := by omega
    have hpl : spec_l01Places.f q u l[i] = some (places u l[i]) := by
      have h := spec_places_loop u l[i] hu (hls _ (List.getElem_mem hi)) (u.size + 1) q 0 [] (by omega) (by simp) (by omega)
      exact h
    have hpp := places_pos u l[i]
    rw [← hq] at hih
    rw [show k + (d + 1) + 1 = q + 1 by rw [hq]; rfl]
    simp only [spec_LongestCommonFactor.l1]
    rw [if_pos a1, if_pos a2, rdOf_nat _ l i hi, hpl, List.drop_eq_getElem_cons hi, fnd]
    simp only [Option.bind_some]
    by_cases c : hasB u l[i] = true
    · rw [if_pos (show ((places u l[i]).length : Int) > 0 by have := hpp.2 c; omega), if_pos c]
    · rw [if_neg (show ¬ ((places u l[i]).length : Int) > 0 from fun h => c (hpp.1 (by omega))), if_neg c, show wrap64 ((i : Int) + 1) = ((i + 1 : Nat) : Int) from wrap_succ a3, hih]

theorem spec_l0 (w u : ByteArray) (hw : w.size ≤ 60) (hu : u.size ≤ 60) : ∀ (m k : Nat), m ≤ w.size → m * 100 + 500 < k → spec_LongestCommonFactor.l0 k w u (m : Int) = some (lcf w u m, 0) := by
  have hfac : ∀ (q m : Nat), m ≤ 100 → 200 < q → spec_l01Factors.f q w (m : Int) = some (fac w m) := fun q m hm hq => by
    have hpl : plc w m ≤ 61 := by unfold plc; omega
    have h := spec_factors_loop w m (by omega) (by omega) (plc w m) (q - plc w m) 0 [] (by omega) rfl (by omega)
    rw [show q - plc w m + plc w m = q by omega, canon_nil] at h
    exact h
  intro m
  induction m with
  | zero =>
    intro k hm hk
    obtain ⟨k, rfl⟩ : ∃ n, k = n + 1 := ⟨k - 1, by omega⟩
    simp only [spec_LongestCommonFactor.l0]
    rw [if_neg (by omega)]; rfl
  | succ m ih =>
    intro k hm hk
    have hfl := fac_length_le w (m + 1)
    obtain ⟨k, rfl⟩ : ∃ n, k = (n + (fac w (m + 1)).length + 1) + 1 := ⟨k - (fac w (m + 1)).length - 2, by omega⟩
    obtain ⟨q, hq⟩ : ∃ q, q = k + (fac w (m + 1)).length + 1 := ⟨_, rfl⟩
    have hl := spec_l1 w u hu ((m + 1 : Nat) : Int) (fac w (m + 1)) (by omega) (fun x hx => by rw [fac_size w (m + 1) x hx]; omega) (fac w (m + 1)).length k 0 (by omega) (by omega)
    have hih := ih k (by omega) (by omega)
    have hfq := hfac q (m + 1) (by omega) (by omega)
    have a1 : ((m + 1 : Nat) : Int) > 0 := by omega
    have hw1 : wrap64 (((m + 1 : Nat) : Int) - 1) = (m : Int) := wrap_nat (by omega) (by omega)
    rw [← hq] at hl ⊢
    simp only [spec_LongestCommonFactor.l0]
    rw [if_pos a1, hfq]
    simp only [Option.bind_some]
    rw [show (0 : Int) = ((0 : Nat) : Int) from rfl, hl, List.drop_zero, hw1, hih, lcf]
    cases fnd u (fac w (m + 1)) <;> rfl

end Go.Proofs.Ytlehnijikmbkjaa.PF
