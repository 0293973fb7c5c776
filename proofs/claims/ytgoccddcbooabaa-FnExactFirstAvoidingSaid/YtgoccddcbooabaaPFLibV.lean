/- Words that avoid a pattern: how many there are, and the first of them: the program's way and the reference's way. -/
import Derived.Test.YtgoccddcbooabaaPFLibM3
import Derived.Test.YtgoccddcbooabaaPFGivV
import Derived.Test.YtgoccddcbooabaaPFx12
import Derived.Test.YtgoccddcbooabaaPFx12
import Derived.Test.YtgoccddcbooabaaPFx12
import Derived.Test.YtgoccddcbooabaaPFx13
import Derived.Test.YtgoccddcbooabaaPFx17
namespace Go.Proofs.Ytgoccddcbooabaa.PF
open Go.RowKit Go.Proofs.YtgoccddcbooabaaW.PrintWords Go.Proofs.YtgoccddcbooabaaW.PrintLast Go.Proofs.YtgoccddcbooabaaW.PrintMore
set_option linter.unusedVariables false
set_option linter.unusedSimpArgs false
set_option maxRecDepth 20000

def lt1 (i : Nat) : ByteArray := strOfNums (([(wrap64 (97 + (i : Int))) % 256] : List Int))
theorem lt1_size (i : Nat) : (lt1 i).size = 1 := rfl
theorem letter_f (i : Nat) : impl_letter.f (i : Int) = some (lt1 i) := rfl
theorem l01Letter_f (i : Nat) : spec_l01Letter.f (i : Int) = some (lt1 i) := rfl
theorem app_size (w : ByteArray) (i : Nat) : (w ++ lt1 i).size = w.size + 1 := by rw [ByteArray.size_append, lt1_size]

def sumTo (f : Nat → Nat) : Nat → Nat → Nat
  | 0, _ => 0
  | d + 1, i => f i + sumTo f d (i + 1)
theorem sumTo_le (f : Nat → Nat) (b : Nat) : ∀ d i, (∀ j, f j ≤ b) → sumTo f d i ≤ d * b
  | 0, _, _ => Nat.zero_le _
  | d + 1, i, h => by
    have h1 := h i
    have h2 := sumTo_le f b d (i + 1) h
    rw [sumTo, Nat.add_mul]; omega

/-- How many words of m letters more avoid the pattern. -/
def cntN (p : ByteArray) (K : Nat) : Nat → ByteArray → Nat
  | 0, _ => 1
  | m + 1, w => sumTo (fun i => if endsB (w ++ lt1 i) p = true then 0 else cntN p K m (w ++ lt1 i)) K 0
theorem cntN_le (p : ByteArray) (K : Nat) : ∀ m w, cntN p K m w ≤ K ^ m
  | 0, _ => Nat.le_refl _
  | m + 1, w => by
    rw [cntN, Nat.pow_succ, Nat.mul_comm]
    refine sumTo_le _ _ _ _ fun j => ?_
    show (if _ then _ else _) ≤ _
    split
    · exact Nat.zero_le _
    · exact cntN_le p K m _
theorem cntN_small (p : ByteArray) (K m : Nat) (w : ByteArray) (hK : K ≤ 3) (hm : m ≤ 9) : cntN p K m w ≤ 19683 :=
  Nat.le_trans (cntN_le p K m w) (Nat.le_trans (Nat.pow_le_pow_left hK m) (Nat.pow_le_pow_right (by omega) hm))

theorem spec_count (p : ByteArray) (hp : okP p) (h1 : 1 ≤ p.size) (hs : p.size ≤ 8) (K : Nat) (hK : K ≤ 3) : ∀ (m k : Nat) (w : ByteArray), m ≤ 9 → w.size + m ≤ 12 → m * 10 + 40000 < k → spec_l10Count.f k w p (K : Int) (m : Int) = some ((cntN p K m w : Nat) : Int) := by
  intro m
  induction m with
  | zero =>
    intro k w hm hw hk
    obtain ⟨k, rfl⟩ : ∃ n, k = n + 1 := ⟨k - 1, by omega⟩
    simp only [spec_l10Count.f]
    rw [if_pos (by omega)]; rfl
  | succ m ih =>
    intro k w hm hw hk
    have loop : ∀ (d k i acc : Nat), i + d = K → d + m * 10 + 40001 < k → acc + sumTo (fun i => if endsB (w ++ lt1 i) p = true then 0 else cntN p K m (w ++ lt1 i)) d i ≤ 1000000 →
        spec_l10Count.l0 k w p (K : Int) ((m + 1 : Nat) : Int) (acc : Int) (i : Int) = some ((acc + sumTo (fun i => if endsB (w ++ lt1 i) p = true then 0 else cntN p K m (w ++ lt1 i)) d i : Nat) : Int) := by
      intro d
      induction d with
      | zero =>
        intro k i acc hd hk hb
        obtain ⟨k, rfl⟩ : ∃ n, k = n + 1 := ⟨k - 1, by omega⟩
        simp only [spec_l10Count.l0]
        rw [if_neg (by omega)]; rfl
      | succ d ihd =>
        intro k i acc hd hk hb
        obtain ⟨k, rfl⟩ : ∃ n, k = n + 1 := ⟨k - 1, by omega⟩
        have hw1 : wrap64 ((i : Int) + 1) = ((i + 1 : Nat) : Int) := wrap_succ (by omega)
        have hsz := app_size w i
        simp only [spec_l10Count.l0]
        rw [if_pos (by omega), l01Letter_f]
        simp only [Option.bind_some]
        rw [if_pos (by rw [lt1_size]; omega), l10Ends_f _ p (by omega) hp h1 hs k (by omega)]
        simp only [Option.bind_some]
        rw [sumTo] at hb ⊢
        by_cases c : endsB (w ++ lt1 i) p = true
        · rw [if_pos c, hw1, ihd k (i + 1) acc (by omega) (by omega) (by rw [if_pos c] at hb; omega), if_pos c, Nat.zero_add]
        · rw [if_neg c, wrap_id (x := ((m + 1 : Nat) : Int) - 1) (by omega) (by omega), show ((m + 1 : Nat) : Int) - 1 = (m : Int) by omega, ih k _ (by omega) (by omega) (by omega)]
          simp only [Option.bind_some]
          rw [if_neg c] at hb ⊢
          rw [hw1, wrap_nat (n := acc + cntN p K m (w ++ lt1 i)) (by omega) (by omega), ihd k (i + 1) _ (by omega) (by omega) (by omega), Nat.add_assoc]
    obtain ⟨k, rfl⟩ : ∃ n, k = n + 1 := ⟨k - 1, by omega⟩
    simp only [spec_l10Count.f]
    rw [if_neg (by omega)]
    have hsm := cntN_small p K (m + 1) w hK hm
    rw [cntN] at hsm
    have h := loop K k 0 0 (by omega) (by omega) (by omega)
    rw [Nat.zero_add] at h
    exact h

theorem impl_count (p : ByteArray) (hp : okP p) (hs : p.size ≤ 8) (K : Nat) (hK : K ≤ 3) : ∀ (m k : Nat) (w : ByteArray) (s : Nat), m ≤ 9 → w.size + m ≤ 12 → m + 60 < k → s + cntN p K m w ≤ 1000000 →
    avoidP cntStep p K ((w.size + m : Nat) : Int) k w (s : Int) = some (false, ((s + cntN p K m w : Nat) : Int)) := by
  intro m
  induction m with
  | zero =>
    intro k w s hm hw hk hb
    obtain ⟨k, rfl⟩ : ∃ n, k = n + 1 := ⟨k - 1, by omega⟩
    simp only [avoidP]
    rw [cntN] at hb
    rw [if_pos (by omega)]
    unfold cntStep
    rw [show wrap64 ((s : Int) + 1) = ((s + 1 : Nat) : Int) from wrap_succ (by omega)]; rfl
  | succ m ih =>
    intro k w s hm hw hk hb
    obtain ⟨k, rfl⟩ : ∃ n, k = n + 1 := ⟨k - 1, by omega⟩
    simp only [avoidP]
    rw [if_neg (by omega), cntN]
    rw [cntN] at hb
    have loop : ∀ (d i s : Nat), s + sumTo (fun i => if endsB (w ++ lt1 i) p = true then 0 else cntN p K m (w ++ lt1 i)) d i ≤ 1000000 →
        orS (fun i s => (impl_letter.f (i : Int)).bind fun c => if w.size + c.size ≤ 9223372036854775807 then ((impl_endsWith.f k (w ++ c) p).bind fun b => if b = true then some (false, s) else avoidP cntStep p K ((w.size + (m + 1) : Nat) : Int) k (w ++ c) s) else none) d i (s : Int)
          = some (false, ((s + sumTo (fun i => if endsB (w ++ lt1 i) p = true then 0 else cntN p K m (w ++ lt1 i)) d i : Nat) : Int)) := by
      intro d
      induction d with
      | zero => intro i s h; rfl
      | succ d ihd =>
        intro i s h
        have hsz := app_size w i
        rw [orS, letter_f]
        simp only [Option.bind_some]
        rw [if_pos (by rw [lt1_size]; omega), endsWith_f _ p (by omega) hp hs k (by omega)]
        simp only [Option.bind_some]
        rw [sumTo] at h ⊢
        by_cases c : endsB (w ++ lt1 i) p = true
        · rw [if_pos c] at h ⊢
          simp only [Option.bind_some, Bool.false_eq_true, if_false]
          rw [ihd (i + 1) s (by omega), if_pos c, Nat.zero_add]
        · rw [if_neg c] at h ⊢
          have hrec := ih k (w ++ lt1 i) s (by omega) (by omega) (by omega) (by omega)
          rw [hsz, show w.size + 1 + m = w.size + (m + 1) by omega] at hrec
          rw [hrec]
          simp only [Option.bind_some, Bool.false_eq_true, if_false]
          rw [ihd (i + 1) _ (by omega), if_neg c, Nat.add_assoc]
    exact loop K 0 s (by omega)

def fstUp (f : Nat → Option ByteArray) : Nat → Nat → Option ByteArray
  | 0, _ => none
  | d + 1, i => match f i with
    | some x => some x
    | none => fstUp f d (i + 1)
/-- The first word of m letters more that avoids the pattern. -/
def fstN (p : ByteArray) (K : Nat) : Nat → ByteArray → Option ByteArray
  | 0, w => some w
  | m + 1, w => fstUp (fun i => if endsB (w ++ lt1 i) p = true then none else fstN p K m (w ++ lt1 i)) K 0

theorem spec_first (p : ByteArray) (hp : okP p) (h1 : 1 ≤ p.size) (hs : p.size ≤ 8) (K : Nat) (hK : K ≤ 3) : ∀ (m k : Nat) (w : ByteArray), m ≤ 12 → w.size + m ≤ 12 → m * 10 + 40000 < k →
    spec_l10First.f k w p (K : Int) (m : Int) = some (match fstN p K m w with | some x => (x, true) | none => (⟨#[]⟩, false)) := by
  intro m
  induction m with
  | zero =>
    intro k w hm hw hk
    obtain ⟨k, rfl⟩ : ∃ n, k = n + 1 := ⟨k - 1, by omega⟩
    simp only [spec_l10First.f]
    rw [if_pos (by omega)]; rfl
  | succ m ih =>
    intro k w hm hw hk
    have loop : ∀ (d k i : Nat), i + d = K → d + m * 10 + 40001 < k →
        spec_l10First.l0 k w p (K : Int) ((m + 1 : Nat) : Int) (i : Int) = some (match fstUp (fun i => if endsB (w ++ lt1 i) p = true then none else fstN p K m (w ++ lt1 i)) d i with | some x => (x, true) | none => (⟨#[]⟩, false)) := by
      intro d
      induction d with
      | zero =>
        intro k i hd hk
        obtain ⟨k, rfl⟩ : ∃ n, k = n + 1 := ⟨k - 1, by omega⟩
        simp only [spec_l10First.l0]
        rw [if_neg (by omega)]; rfl
      | succ d ihd =>
        intro k i hd hk
        obtain ⟨k, rfl⟩ : ∃ n, k = n + 1 := ⟨k - 1, by omega⟩
        have hw1 : wrap64 ((i : Int) + 1) = ((i + 1 : Nat) : Int) := wrap_succ (by omega)
        have hsz := app_size w i
        simp only [spec_l10First.l0]
        rw [if_pos (by omega), l01Letter_f]
        simp only [Option.bind_some]
        rw [if_pos (by rw [lt1_size]; omega), l10Ends_f _ p (by omega) hp h1 hs k (by omega)]
        simp only [Option.bind_some]
        rw [fstUp]
        by_cases c : endsB (w ++ lt1 i) p = true
        · rw [if_pos c, hw1, ihd k (i + 1) (by omega) (by omega), if_pos c]
        · rw [if_neg c, wrap_id (x := ((m + 1 : Nat) : Int) - 1) (by omega) (by omega), show ((m + 1 : Nat) : Int) - 1 = (m : Int) by omega, ih k _ (by omega) (by omega) (by omega), if_neg c]
          simp only [Option.bind_some]
          cases fstN p K m (w ++ lt1 i) with
          | some x => rfl
          | none =>
            simp only [Bool.false_eq_true, if_false]
            rw [hw1, ihd k (i + 1) (by omega) (by omega)]
    obtain ⟨k, rfl⟩ : ∃ n, k = n + 1 := ⟨k - 1, by omega⟩
    simp only [spec_l10First.f]
    rw [if_neg (by omega)]
    exact loop K k 0 (by omega) (by omega)

theorem impl_first (p : ByteArray) (hp : okP p) (hs : p.size ≤ 8) (K : Nat) (hK : K ≤ 3) : ∀ (m k : Nat) (w s : ByteArray), m ≤ 12 → w.size + m ≤ 12 → m + 60 < k →
    avoidP fstStep p K ((w.size + m : Nat) : Int) k w s = some (match fstN p K m w with | some x => (true, x) | none => (false, s)) := by
  intro m
  induction m with
  | zero =>
    intro k w s hm hw hk
    obtain ⟨k, rfl⟩ : ∃ n, k = n + 1 := ⟨k - 1, by omega⟩
    simp only [avoidP]
    rw [if_pos (by omega)]; rfl
  | succ m ih =>
    intro k w s hm hw hk
    obtain ⟨k, rfl⟩ : ∃ n, k = n + 1 := ⟨k - 1, by omega⟩
    simp only [avoidP]
    rw [if_neg (by omega), fstN]
    have loop : ∀ (d i : Nat),
        orS (fun i s => (impl_letter.f (i : Int)).bind fun c => if w.size + c.size ≤ 9223372036854775807 then ((impl_endsWith.f k (w ++ c) p).bind fun b => if b = true then some (false, s) else avoidP fstStep p K ((w.size + (m + 1) : Nat) : Int) k (w ++ c) s) else none) d i s
          = some (match fstUp (fun i => if endsB (w ++ lt1 i) p = true then none else fstN p K m (w ++ lt1 i)) d i with | some x => (true, x) | none => (false, s)) := by
      intro d
      induction d with
      | zero => intro i; rfl
      | succ d ihd =>
        intro i
        have hsz := app_size w i
        rw [orS, letter_f]
        simp only [Option.bind_some]
        rw [if_pos (by rw [lt1_size]; omega), endsWith_f _ p (by omega) hp hs k (by omega)]
        simp only [Option.bind_some]
        rw [fstUp]
        by_cases c : endsB (w ++ lt1 i) p = true
        · rw [if_pos c, if_pos c]
          simp only [Option.bind_some, Bool.false_eq_true, if_false]
          rw [ihd (i + 1)]
        · rw [if_neg c, if_neg c]
          have hrec := ih k (w ++ lt1 i) s (by omega) (by omega) (by omega)
          rw [hsz, show w.size + 1 + m = w.size + (m + 1) by omega] at hrec
          rw [hrec]
          cases fstN p K m (w ++ lt1 i) with
          | some x => rfl
          | none =>
            simp only [Option.bind_some, Bool.false_eq_true, if_false]
            rw [ihd (i + 1)]
    exact loop K 0

/-- Is a number in a range? -/
def inB (a lo hi : Int) : Bool := decide (lo ≤ a) && decide (a ≤ hi)
theorem within_f (a lo hi : Int) : impl_within.f a lo hi = some (inB a lo hi) := by
  unfold impl_within.f inB
  by_cases h : lo ≤ a
  · rw [if_pos h, decide_eq_true h, Bool.true_and]
  · rw [if_neg h, decide_eq_false h, Bool.false_and]
theorem l01In_f (a lo hi : Int) : spec_l01In.f a lo hi = some (inB a lo hi) := within_f a lo hi
theorem bothIn_f (K m n l : Int) : bothIn K m n l = some (inB K 1 m && inB n 0 l) := by
  unfold bothIn
  rw [within_f, within_f]
  simp only [Option.bind_some]
  cases inB K 1 m <;> rfl

def codeP (p : ByteArray) (b : Bool) : Int := if isP p = true then (if b = true then 0 else 2) else 1
theorem avoidCode_f (p : ByteArray) (b : Bool) : impl_avoidCode.f p b = some (codeP p b) := by
  unfold impl_avoidCode.f impl_IsPattern.f codeP
  simp only [Option.bind_some]
  split <;> (try split) <;> rfl
theorem sizes_ev (p : ByteArray) (hp : p.size ≤ 4000000000000000000) (K m n l : Int) : Ev (fun k => spec_l10Sizes.f k p K m n l) (codeP p (inB K 1 m && inB n 0 l)) := by
  unfold spec_l10Sizes.f codeP
  refine ev_bnd ⟨p.size + 1, fun k hk => l10Is_f p hp k (by omega)⟩ ?_
  by_cases h : isP p = true
  · simp only [h, if_true, l01In_f, Option.bind_some]
    cases inB K 1 m
    · simp only [Bool.false_eq_true, if_false, Bool.false_and]; exact ev_of rfl
    · simp only [if_true, Bool.true_and]
      cases inB n 0 l
      · simp only [Bool.false_eq_true, if_false]; exact ev_of rfl
      · simp only [if_true]; exact ev_of rfl
  · simp only [h, if_false]; exact ev_of rfl

end Go.Proofs.Ytgoccddcbooabaa.PF
