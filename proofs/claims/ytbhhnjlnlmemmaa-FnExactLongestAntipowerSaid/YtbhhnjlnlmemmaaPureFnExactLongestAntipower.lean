/- The program's LongestAntipower and the reference's LongestAntipower return the same start, the same number of blocks and the same code: both count, from each place, the different blocks in a row, and keep the first longest run. -/
import Derived.Test.YtbhhnjlnlmemmaaPFLibK
import Derived.Test.YtbhhnjlnlmemmaaPFx8
namespace Go.Proofs.Ytbhhnjlnlmemmaa.Pure
open Go.RowKit Go.Proofs.Ytbhhnjlnlmemmaa.PF Go.Proofs.YtbhhnjlnlmemmaaW.PrintWords Go.Proofs.YtbhhnjlnlmemmaaW.PrintLast
set_option linter.unusedSimpArgs false
set_option linter.unusedVariables false

theorem number_loop (l : List ByteArray) (x : ByteArray) (hl : l.length ≤ 4000000000000) : ∀ (d k i : Nat), i + d = l.length → d < k → ∃ r, spec_l05Number.l0 k l x (i : Int) = some r ∧ (r < 0 ↔ ¬ x ∈ l.drop i) := by
  intro d
  induction d with
  | zero =>
    intro k i hd hk
    obtain ⟨k, rfl⟩ : ∃ n, k = n + 1 := ⟨k - 1, by omega⟩
    refine ⟨-1, ?_, ?_⟩
    · simp only [spec_l05Number.l0]; rw [if_neg (by omega)]
    · rw [List.drop_eq_nil_of_le (by omega)]; simp
  | succ d ih =>
    intro k i hd hk
    obtain ⟨k, rfl⟩ : ∃ n, k = n + 1 := ⟨k - 1, by omega⟩
    have hdr : l.drop i = rdOf ByteArray.empty l (i : Int) :: l.drop (i + 1) := by rw [rdOf_nat _ _ _ (by omega), List.drop_eq_getElem_cons (by omega)]
    by_cases c : rdOf ByteArray.empty l (i : Int) = x
    · refine ⟨i, ?_, ?_⟩
      · simp only [spec_l05Number.l0]
        rw [if_pos (by omega), if_pos (by omega), if_pos (by rw [c])]
      · rw [hdr, List.mem_cons]; exact ⟨fun _ => by omega, fun h => absurd (.inl c.symm) h⟩
    · obtain ⟨r, h1, h2⟩ := ih k (i + 1) (by omega) (by omega)
      refine ⟨r, ?_, ?_⟩
      · simp only [spec_l05Number.l0]
        rw [if_pos (by omega), if_pos (by omega), if_neg (by rw [ba_toList_inj]; exact c), wrap_succ (by omega), h1]
      · rw [h2, hdr, List.mem_cons]; exact ⟨fun h e => e.elim (fun e => c e.symm) h, fun h e => h (.inr e)⟩

theorem number_f (l : List ByteArray) (x : ByteArray) (hl : l.length ≤ 4000000000000) (k : Nat) (hk : l.length < k) : ∃ r, spec_l05Number.f k l x = some r ∧ (r < 0 ↔ ¬ x ∈ l) := by
  obtain ⟨r, h1, h2⟩ := number_loop l x hl l.length k 0 (by omega) (by omega)
  exact ⟨r, h1, by rw [List.drop_zero] at h2; exact h2⟩

theorem anti_loop (w : ByteArray) (hw : w.size ≤ 60) (m : Nat) (h1 : 1 ≤ m) (hm : m ≤ 60) : ∀ (d i : Nat) (acc : List ByteArray), w.size ≤ i + d → i ≤ 200 → acc.length ≤ i →
    ∃ r : Nat, (∀ k, 200 + d < k → spec_l05Anti.l0 k w (i : Int) (m : Int) acc = some (r : Int)) ∧ (∀ k, 200 + d < k → impl_antipower.l0 k w (i : Int) (m : Int) acc = some (r : Int)) ∧ (w.size < i + m → r = acc.length) := by
  intro d
  induction d with
  | zero =>
    intro i acc hd hi ha
    refine ⟨acc.length, fun k hk => ?_, fun k hk => ?_, fun _ => rfl⟩
    · obtain ⟨k, rfl⟩ : ∃ n, k = n + 1 := ⟨k - 1, by omega⟩
      simp only [spec_l05Anti.l0]; rw [wrap_nat (n := i + m) (by omega) (by omega), if_neg (by omega)]
    · obtain ⟨k, rfl⟩ : ∃ n, k = n + 1 := ⟨k - 1, by omega⟩
      simp only [impl_antipower.l0]; rw [wrap_nat (n := i + m) (by omega) (by omega), if_neg (by omega)]
  | succ d ih =>
    intro i acc hd hi ha
    by_cases hs : i + m ≤ w.size
    · by_cases c : w.extract i (i + m) ∈ acc
      · refine ⟨acc.length, fun k hk => ?_, fun k hk => ?_, fun h => by omega⟩
        · obtain ⟨k, rfl⟩ : ∃ n, k = n + 1 := ⟨k - 1, by omega⟩
          obtain ⟨t, t1, t2⟩ := number_f acc (w.extract i (i + m)) (by omega) k (by omega)
          simp only [spec_l05Anti.l0]
          rw [wrap_nat (n := i + m) (by omega) (by omega), if_pos (by omega), if_pos (by omega), if_pos (by omega), Int.toNat_natCast, Int.toNat_natCast, t1]
          simp only [Option.bind_some]
          rw [if_neg (fun h => t2.1 h c)]
        · obtain ⟨k, rfl⟩ : ∃ n, k = n + 1 := ⟨k - 1, by omega⟩
          simp only [impl_antipower.l0]
          rw [wrap_nat (n := i + m) (by omega) (by omega), if_pos (by omega), if_pos (by omega), if_pos (by omega), Int.toNat_natCast, Int.toNat_natCast, contains_f acc _ (by omega) k (by omega)]
          simp only [Option.bind_some, c, decide_true, if_true]
      · obtain ⟨r, g1, g2, _⟩ := ih (i + m) (acc ++ [w.extract i (i + m)]) (by omega) (by omega) (by simp; omega)
        refine ⟨r, fun k hk => ?_, fun k hk => ?_, fun h => by omega⟩
        · obtain ⟨k, rfl⟩ : ∃ n, k = n + 1 := ⟨k - 1, by omega⟩
          obtain ⟨t, t1, t2⟩ := number_f acc (w.extract i (i + m)) (by omega) k (by omega)
          simp only [spec_l05Anti.l0]
          rw [wrap_nat (n := i + m) (by omega) (by omega), if_pos (by omega), if_pos (by omega), if_pos (by omega), Int.toNat_natCast, Int.toNat_natCast, t1]
          simp only [Option.bind_some]
          rw [if_pos (t2.2 c), if_pos (by omega)]
          exact g1 k (by omega)
        · obtain ⟨k, rfl⟩ : ∃ n, k = n + 1 := ⟨k - 1, by omega⟩
          simp only [impl_antipower.l0]
          rw [wrap_nat (n := i + m) (by omega) (by omega), if_pos (by omega), if_pos (by omega), if_pos (by omega), Int.toNat_natCast, Int.toNat_natCast, contains_f acc _ (by omega) k (by omega)]
          simp only [Option.bind_some, c, decide_false, Bool.false_eq_true, if_false]
          rw [if_pos (by omega)]
          exact g2 k (by omega)
    · refine ⟨acc.length, fun k hk => ?_, fun k hk => ?_, fun _ => rfl⟩
      · obtain ⟨k, rfl⟩ : ∃ n, k = n + 1 := ⟨k - 1, by omega⟩
        simp only [spec_l05Anti.l0]; rw [wrap_nat (n := i + m) (by omega) (by omega), if_neg (by omega)]
      · obtain ⟨k, rfl⟩ : ∃ n, k = n + 1 := ⟨k - 1, by omega⟩
        simp only [impl_antipower.l0]; rw [wrap_nat (n := i + m) (by omega) (by omega), if_neg (by omega)]

/-- From a place on where no block fits, the program changes nothing. -/
theorem anti_tail (w : ByteArray) (hw : w.size ≤ 60) (m : Nat) (h1 : 1 ≤ m) (hm : m ≤ 60) : ∀ (d k i : Nat) (b c : Nat), i + d = w.size → w.size < i + m → 1000 + d < k →
    impl_LongestAntipower.l0 k w (b : Int) (c : Int) (w.size : Int) (i : Int) (m : Int) = some (if c = 0 then (0, 0, 4) else ((b : Int), (c : Int), 0)) := by
  intro d
  induction d with
  | zero =>
    intro k i b c hd hs hk
    obtain ⟨k, rfl⟩ : ∃ n, k = n + 1 := ⟨k - 1, by omega⟩
    simp only [impl_LongestAntipower.l0]
    rw [if_neg (by omega)]
    by_cases h : c = 0
    · rw [if_pos (by omega), if_pos h]
    · rw [if_neg (by omega), if_neg h]
  | succ d ih =>
    intro k i b c hd hs hk
    obtain ⟨k, rfl⟩ : ∃ n, k = n + 1 := ⟨k - 1, by omega⟩
    obtain ⟨r, _, g2, g3⟩ := anti_loop w hw m h1 hm w.size i [] (by omega) (by omega) (by simp)
    have g4 := g3 hs
    simp only [impl_LongestAntipower.l0]
    unfold impl_antipower.f
    rw [if_pos (by omega), g2 k (by omega)]
    simp only [Option.bind_some]
    rw [if_neg (by simp only [List.length_nil] at g4; omega), wrap_succ (by omega), ih k (i + 1) b c (by omega) (by omega) (by omega)]

theorem anti_all (w : ByteArray) (hw : w.size ≤ 60) (m : Nat) (h1 : 1 ≤ m) (hm : m ≤ 60) : ∀ (d i : Nat) (b c : Nat), i + d = w.size → ∃ r, (∀ k, 1000 + d < k → spec_LongestAntipower.l0 k w (m : Int) (b : Int) (c : Int) (i : Int) = some r) ∧ (∀ k, 1000 + d < k → impl_LongestAntipower.l0 k w (b : Int) (c : Int) (w.size : Int) (i : Int) (m : Int) = some r) := by
  intro d
  induction d with
  | zero =>
    intro i b c hd
    refine ⟨if c = 0 then (0, 0, 4) else ((b : Int), (c : Int), 0), fun k hk => ?_, fun k hk => anti_tail w hw m h1 hm 0 k i b c hd (by omega) hk⟩
    obtain ⟨k, rfl⟩ : ∃ n, k = n + 1 := ⟨k - 1, by omega⟩
    simp only [spec_LongestAntipower.l0]
    rw [wrap_nat (n := i + m) (by omega) (by omega), if_neg (by omega)]
    by_cases h : c = 0
    · rw [if_pos (by omega), if_pos h]
    · rw [if_neg (by omega), if_neg h]
  | succ d ih =>
    intro i b c hd
    by_cases hs : i + m ≤ w.size
    · obtain ⟨r, g1, g2, _⟩ := anti_loop w hw m h1 hm w.size i [] (by omega) (by omega) (by simp)
      by_cases hr : c < r
      · obtain ⟨q, q1, q2⟩ := ih (i + 1) i r (by omega)
        refine ⟨q, fun k hk => ?_, fun k hk => ?_⟩
        · obtain ⟨k, rfl⟩ : ∃ n, k = n + 1 := ⟨k - 1, by omega⟩
          simp only [spec_LongestAntipower.l0]
          unfold spec_l05Anti.f
          rw [wrap_nat (n := i + m) (by omega) (by omega), if_pos (by omega), g1 k (by omega)]
          simp only [Option.bind_some]
          rw [if_pos (by omega), wrap_succ (by omega), q1 k (by omega)]
        · obtain ⟨k, rfl⟩ : ∃ n, k = n + 1 := ⟨k - 1, by omega⟩
          simp only [impl_LongestAntipower.l0]
          unfold impl_antipower.f
          rw [if_pos (by omega), g2 k (by omega)]
          simp only [Option.bind_some]
          rw [if_pos (by omega), wrap_succ (by omega), q2 k (by omega)]
      · obtain ⟨q, q1, q2⟩ := ih (i + 1) b c (by omega)
        refine ⟨q, fun k hk => ?_, fun k hk => ?_⟩
        · obtain ⟨k, rfl⟩ : ∃ n, k = n + 1 := ⟨k - 1, by omega⟩
          simp only [spec_LongestAntipower.l0]
          unfold spec_l05Anti.f
          rw [wrap_nat (n := i + m) (by omega) (by omega), if_pos (by omega), g1 k (by omega)]
          simp only [Option.bind_some]
          rw [if_neg (by omega), wrap_succ (by omega), q1 k (by omega)]
        · obtain ⟨k, rfl⟩ : ∃ n, k = n + 1 := ⟨k - 1, by omega⟩
          simp only [impl_LongestAntipower.l0]
          unfold impl_antipower.f
          rw [if_pos (by omega), g2 k (by omega)]
          simp only [Option.bind_some]
          rw [if_neg (by omega), wrap_succ (by omega), q2 k (by omega)]
    · refine ⟨if c = 0 then (0, 0, 4) else ((b : Int), (c : Int), 0), fun k hk => ?_, fun k hk => anti_tail w hw m h1 hm (d + 1) k i b c hd (by omega) hk⟩
      obtain ⟨k, rfl⟩ : ∃ n, k = n + 1 := ⟨k - 1, by omega⟩
      simp only [spec_LongestAntipower.l0]
      rw [wrap_nat (n := i + m) (by omega) (by omega), if_neg (by omega)]
      by_cases h : c = 0
      · rw [if_pos (by omega), if_pos h]
      · rw [if_neg (by omega), if_neg h]

theorem FnExactLongestAntipower : laws_FnExactLongestAntipower.Pure := by
  intro w m hw hm
  refine ev_get ?_
  unfold laws_FnExactLongestAntipower.f
  by_cases hg : (w.size : Int) > 1048576
  · simp only [hg, if_true]; exact ev_of rfl
  simp only [hg, if_false]
  suffices h : ∃ r : Int × Int × Int, Ev (fun k => spec_LongestAntipower.f k w m) r ∧ Ev (fun k => impl_LongestAntipower.f k w m) r by
    obtain ⟨r, h1, h2⟩ := h
    refine ev_bnd h1 (ev_bnd h2 ?_)
    simp only [if_true]; exact ev_of rfl
  unfold spec_LongestAntipower.f impl_LongestAntipower.f impl_LongestAntipower_1.f
  simp only [within_f, Option.bind_some, wordCode_f]
  have hsp : ∀ r, Ev (fun k => if codeW (inR m 1 60) [w] = 0 then spec_LongestAntipower.l0 k w m 0 0 0 else some (0, 0, codeW (inR m 1 60) [w])) r → Ev (fun k => (spec_l05Code.f k w m).bind fun t176 => if t176 = 0 then spec_LongestAntipower.j0 k w m t176 (decide (m < 1)) else spec_LongestAntipower.j0 k w m t176 false) r := by
    intro r hr
    refine ev_bnd (l05Code_ev w _ (by omega)) ?_
    have hj : ∀ (x : Int) (b : Bool), (if b = true then 2 else x) = codeW (inR m 1 60) [w] → Ev (fun k => spec_LongestAntipower.j0 k w m x b) r := by
      intro x b hx
      refine ev_suc ?_
      simp only [spec_LongestAntipower.j0]
      cases b
      · simp only [Bool.false_eq_true, if_false] at hx ⊢
        refine ev_suc ?_
        simp only [spec_LongestAntipower.j1, hx]; exact hr
      · simp only [if_true] at hx ⊢
        refine ev_suc ?_
        simp only [spec_LongestAntipower.j1, hx]; exact hr
    by_cases h1 : isW w = true
    · by_cases h2 : inR m 0 60 = true
      · have h0 : codeW (inR m 0 60) [w] = 0 := codeW_zero.2 ⟨by simp [h1], h2⟩
        simp only [h0, if_true]
        refine hj _ _ ?_
        have h3 := inR_iff.1 h2
        by_cases h4 : m < 1
        · have : inR m 1 60 = false := by simp [inR]; omega
          simp [codeW, h1, h4, this]
        · have : inR m 1 60 = true := by simp [inR]; omega
          simp [codeW, h1, h4, this]
      · have h0 : codeW (inR m 0 60) [w] = 2 := by simp [codeW, h1, h2]
        have : inR m 1 60 = false := by
          have h5 : ¬ (0 ≤ m ∧ m ≤ 60) := fun h => h2 (inR_iff.2 h)
          simp [inR]; omega
        simp only [h0, show ¬ ((2 : Int) = 0) by omega, if_false]
        refine hj _ _ ?_
        simp [codeW, h1, this]
    · have h0 : codeW (inR m 0 60) [w] = 1 := by simp [codeW, h1]
      simp only [h0, show ¬ ((1 : Int) = 0) by omega, if_false]
      refine hj _ _ ?_
      simp [codeW, h1]
  by_cases h0 : codeW (inR m 1 60) [w] = 0
  · obtain ⟨n, rfl, hn0, hn⟩ := range_nat h0 (by omega)
    have hs := sz_word h0
    obtain ⟨r, g1, g2⟩ := anti_all w hs n (by omega) (by omega) w.size 0 0 0 (by omega)
    refine ⟨r, hsp r ?_, ?_⟩
    · simp only [h0, if_true]; exact ⟨1001 + w.size, fun k hk => g1 k (by omega)⟩
    · simp only [h0, if_true]; exact ⟨1001 + w.size, fun k hk => g2 k (by omega)⟩
  · refine ⟨(0, 0, codeW (inR m 1 60) [w]), hsp _ ?_, ?_⟩
    · simp only [h0, if_false]; exact ev_of rfl
    · simp only [h0, if_false]; exact ev_of rfl

end Go.Proofs.Ytbhhnjlnlmemmaa.Pure
