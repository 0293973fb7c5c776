/- Closed and privileged words: the program's test and the reference's test. -/
import Derived.Test.YthifbnojmoknmaaPFLibPi
import Derived.Test.YthifbnojmoknmaaPFGivP
import Derived.Test.YthifbnojmoknmaaPFx13
import Derived.Test.YthifbnojmoknmaaPFx13
namespace Go.Proofs.Ythifbnojmoknmaa.PF
open Go.RowKit Go.Proofs.YthifbnojmoknmaaW.PrintWords Go.Proofs.YthifbnojmoknmaaW.PrintLast Go.Proofs.YthifbnojmoknmaaW.PrintMore
set_option linter.unusedVariables false
set_option linter.unusedSimpArgs false
set_option maxRecDepth 20000

theorem plcs_append (w v : ByteArray) (d2 : Nat) : ∀ d1 i, plcs w v (d1 + d2) i = plcs w v d1 i ++ plcs w v d2 (i + d1)
  | 0, i => by rw [Nat.zero_add]; rfl
  | d1 + 1, i => by
    rw [show d1 + 1 + d2 = (d1 + d2) + 1 by omega, plcs, plcs, plcs_append w v d2 d1 (i + 1), show i + 1 + d1 = i + (d1 + 1) by omega]
    split <;> rfl

/-- A word with which another one ends as it begins: the places between. -/
def mids (w : ByteArray) (b : Nat) : List Int := plcs w (w.extract 0 b) (w.size - b - 1) 1

theorem size_pre (w : ByteArray) (b : Nat) (h : b ≤ w.size) : (w.extract 0 b).size = b := by rw [ByteArray.size_extract]; omega

theorem places_border (w : ByteArray) (b : Nat) (h1 : 1 ≤ b) (h2 : b < w.size) (hb : w.extract (w.size - b) w.size = w.extract 0 b) : (places w (w.extract 0 b)).length = (mids w b).length + 2 := by
  have hs := size_pre w b (by omega)
  unfold places mids
  rw [show w.size + 1 = 1 + ((w.size - b - 1) + (1 + b)) by omega, plcs_append, plcs_append, plcs_append]
  have e1 : plcs w (w.extract 0 b) 1 0 = [0] := by
    rw [plcs, if_pos ⟨by omega, by rw [hs, Nat.zero_add]⟩]; rfl
  have e2 : plcs w (w.extract 0 b) 1 (0 + 1 + (w.size - b - 1)) = [((w.size - b : Nat) : Int)] := by
    rw [show 0 + 1 + (w.size - b - 1) = w.size - b by omega, plcs, if_pos ⟨by omega, by rw [hs, show w.size - b + b = w.size by omega]; exact hb⟩]; rfl
  have e3 : plcs w (w.extract 0 b) b (0 + 1 + (w.size - b - 1) + 1) = [] := plcs_nil w _ _ _ (by omega)
  rw [e1, e2, e3]
  simp only [List.length_append, List.length_cons, List.length_nil, Nat.zero_add]
  omega

/-- A border that stands nowhere else. -/
def ret1 (w : ByteArray) (b : Nat) : Bool := decide (w.extract (w.size - b) w.size = w.extract 0 b ∧ mids w b = [])
/-- The lengths of them, from b on. -/
def retB (w : ByteArray) : Nat → Nat → List Nat
  | 0, _ => []
  | d + 1, b => if ret1 w b = true then b :: retB w d (b + 1) else retB w d (b + 1)
theorem retB_mem (w : ByteArray) (x : Nat) : ∀ d b, x ∈ retB w d b ↔ b ≤ x ∧ x < b + d ∧ ret1 w x = true
  | 0, b => by simp [retB]; omega
  | d + 1, b => by
    rw [retB]
    have ih := retB_mem w x d (b + 1)
    split
    · rename_i c
      rw [List.mem_cons, ih]
      constructor
      · rintro (rfl | ⟨h1, h2, h3⟩)
        · exact ⟨Nat.le_refl _, by omega, c⟩
        · exact ⟨by omega, by omega, h3⟩
      · rintro ⟨h1, h2, h3⟩
        by_cases e : x = b
        · exact .inl e
        · exact .inr ⟨by omega, by omega, h3⟩
    · rename_i c
      rw [ih]
      constructor
      · rintro ⟨h1, h2, h3⟩; exact ⟨by omega, by omega, h3⟩
      · rintro ⟨h1, h2, h3⟩
        have e : x ≠ b := fun e => c (e ▸ h3)
        exact ⟨by omega, by omega, h3⟩
theorem retB_length (w : ByteArray) : ∀ d b, (retB w d b).length ≤ d
  | 0, _ => Nat.le_refl _
  | d + 1, b => by
    have := retB_length w d (b + 1)
    rw [retB]; split
    · rw [List.length_cons]; omega
    · omega

/-- Is it privileged? -/
def prv : Nat → ByteArray → Bool
  | 0, _ => false
  | k + 1, w => decide (w.size ≤ 1) || (retB w (w.size - 1) 1).any fun b => prv k (w.extract 0 b)
def clo (w : ByteArray) : Bool := decide (w.size ≤ 1) || (retB w (w.size - 1) 1).any fun _ => true

/-- What is asked at most as deep as the word is long comes out the same. -/
theorem prv_deep : ∀ (k k' : Nat) (w : ByteArray), w.size < k → w.size < k' → prv k w = prv k' w := by
  intro k
  induction k with
  | zero => intro k' w h; omega
  | succ k ih =>
    intro k' w h h'
    obtain ⟨k', rfl⟩ : ∃ n, k' = n + 1 := ⟨k' - 1, by omega⟩
    rw [prv, prv]
    congr 1
    rw [Bool.eq_iff_iff, List.any_eq_true, List.any_eq_true]
    constructor
    · rintro ⟨b, hb, g⟩
      have hm := (retB_mem w b _ _).1 hb
      have hs := size_pre w b (by omega)
      exact ⟨b, hb, by rw [← ih k' _ (by omega) (by omega)]; exact g⟩
    · rintro ⟨b, hb, g⟩
      have hm := (retB_mem w b _ _).1 hb
      have hs := size_pre w b (by omega)
      exact ⟨b, hb, by rw [ih k' _ (by omega) (by omega)]; exact g⟩

theorem places_f (w v : ByteArray) (hw : w.size ≤ 60) (hv : v.size ≤ 60) (k : Nat) (hk : w.size + 2 ≤ k) : impl_places.f k w v = some (places w v) := by
  have h := impl_places_loop w v hw hv (w.size + 1) k 0 [] (by omega) (by simp) (by omega)
  unfold impl_places.f
  rw [wrap_id (by omega) (by omega)]
  exact h

theorem returns_loop (w : ByteArray) (hw : w.size ≤ 60) : ∀ (d k b : Nat) (acc : List ByteArray), b + d = w.size → 1 ≤ b → acc.length ≤ b → d + 100 < k →
    impl_returns.l0 k w acc (b : Int) = some (acc ++ (retB w d b).map fun b => w.extract 0 b) := by
  intro d
  induction d with
  | zero =>
    intro k b acc hd hb ha hk
    obtain ⟨k, rfl⟩ : ∃ n, k = n + 1 := ⟨k - 1, by omega⟩
    simp only [impl_returns.l0]
    rw [if_neg (by omega)]
    simp [retB]
  | succ d ih =>
    intro k b acc hd hb ha hk
    obtain ⟨k, rfl⟩ : ∃ n, k = n + 1 := ⟨k - 1, by omega⟩
    have hw1 : wrap64 ((b : Int) + 1) = ((b + 1 : Nat) : Int) := wrap_succ (by omega)
    have hs : wrap64 ((w.size : Int) - (b : Int)) = ((w.size - b : Nat) : Int) := wrap_nat (by omega) (by omega)
    simp only [impl_returns.l0]
    rw [if_pos (by omega), if_pos (by omega), if_pos (by omega), hs, if_pos (by omega), if_pos (by omega), Int.toNat_natCast, Int.toNat_natCast, hw1]
    rw [retB]
    by_cases c : w.extract (w.size - b) w.size = w.extract 0 b
    · rw [if_pos (by rw [c]), places_f w _ hw (by rw [size_pre w b (by omega)]; omega) k (by omega)]
      simp only [Option.bind_some]
      have hp := places_border w b hb (by omega) c
      by_cases c2 : mids w b = []
      · rw [if_pos (by rw [hp, c2]; rfl), if_pos (by omega), ih k (b + 1) _ (by omega) (by omega) (by simp; omega) (by omega), if_pos (by unfold ret1; exact decide_eq_true ⟨c, c2⟩)]
        simp
      · have : (mids w b).length ≠ 0 := fun e => c2 (List.eq_nil_of_length_eq_zero e)
        rw [if_neg (by omega), ih k (b + 1) _ (by omega) (by omega) (by omega) (by omega), if_neg (by unfold ret1; rw [decide_eq_false (fun h => c2 h.2)]; decide)]
    · rw [if_neg (fun e => c (ba_inj.1 e)), ih k (b + 1) _ (by omega) (by omega) (by omega) (by omega), if_neg (by unfold ret1; rw [decide_eq_false (fun h => c h.1)]; decide)]

theorem returns_f (w : ByteArray) (hw : w.size ≤ 60) (h1 : 1 < w.size) (k : Nat) (hk : 200 < k) : impl_returns.f k w = some ((retB w (w.size - 1) 1).map fun b => w.extract 0 b) := by
  have h := returns_loop w hw (w.size - 1) k 1 [] (by omega) (by omega) (by simp) (by omega)
  exact h

theorem isClosed_f (w : ByteArray) (hw : w.size ≤ 60) (k : Nat) (hk : 200 < k) : impl_isClosed.f k w = some (clo w) := by
  unfold impl_isClosed.f clo
  by_cases h : w.size ≤ 1
  · rw [if_pos (by omega), decide_eq_true h, Bool.true_or]
  · rw [if_neg (by omega), decide_eq_false h, Bool.false_or, returns_f w hw (by omega) k hk]
    simp only [Option.bind_some, List.length_map]
    congr 1
    cases retB w (w.size - 1) 1 with
    | nil => rfl
    | cons x l => simp

theorem idxP_some {α : Type} (p : α → Option Bool) (q : α → Bool) : ∀ (l : List α) (i : Int), 0 ≤ i → (∀ x ∈ l, p x = some (q x)) → ∃ j, idxP p i l = some j ∧ decide (0 ≤ j) = l.any q
  | [], i, hi, h => ⟨-1, rfl, rfl⟩
  | x :: l, i, hi, h => by
    have hx := h x List.mem_cons_self
    rw [idxP, hx, List.any_cons]
    cases hq : q x with
    | true => exact ⟨i, by simp, by rw [decide_eq_true hi]; rfl⟩
    | false =>
      obtain ⟨j, h1, h2⟩ := idxP_some p q l (i + 1) (by omega) fun y hy => h y (List.mem_cons_of_mem _ hy)
      exact ⟨j, by simpa using h1, by simpa using h2⟩

theorem isPriv_f : ∀ (n : Nat) (w : ByteArray) (k : Nat), w.size ≤ n → w.size ≤ 60 → n + 210 < k → impl_isPrivileged.f k w = some (prv (n + 1) w) := by
  intro n
  induction n with
  | zero =>
    intro w k hn hw hk
    obtain ⟨k, rfl⟩ : ∃ m, k = m + 1 := ⟨k - 1, by omega⟩
    simp only [impl_isPrivileged.f]
    rw [if_pos (by omega), prv, decide_eq_true (by omega), Bool.true_or]
  | succ n ih =>
    intro w k hn hw hk
    obtain ⟨k, rfl⟩ : ∃ m, k = m + 1 := ⟨k - 1, by omega⟩
    simp only [impl_isPrivileged.f]
    rw [prv]
    by_cases h : w.size ≤ 1
    · rw [if_pos h, decide_eq_true h, Bool.true_or]
    · rw [if_neg h, decide_eq_false h, Bool.false_or, returns_f w hw (by omega) k (by omega)]
      simp only [Option.bind_some]
      obtain ⟨j, h1, h2⟩ := idxP_some (impl_isPrivileged.f k) (prv (n + 1)) ((retB w (w.size - 1) 1).map fun b => w.extract 0 b) 0 (by omega) (fun x hx => by
        obtain ⟨b, hb, rfl⟩ := List.mem_map.1 hx
        have hm := (retB_mem w b _ _).1 hb
        have hs := size_pre w b (by omega)
        exact ih _ k (by omega) (by omega) (by omega))
      rw [h1]
      simp only [Option.bind_some]
      rw [h2, List.any_map]
      rfl

theorem twice_loop (w : ByteArray) (hw : w.size ≤ 60) (b : Nat) (hb1 : 1 ≤ b) (hb2 : b < w.size) : ∀ (d k i : Nat), i + d + b = w.size → d < k → spec_l04Twice.l0 k w (b : Int) (i : Int) = some (decide (plcs w (w.extract 0 b) d i = [])) := by
  intro d
  induction d with
  | zero =>
    intro k i hd hk
    obtain ⟨k, rfl⟩ : ∃ n, k = n + 1 := ⟨k - 1, by omega⟩
    simp only [spec_l04Twice.l0]
    rw [wrap_nat (n := i + b) (by omega) (by omega), if_neg (by omega)]; rfl
  | succ d ih =>
    intro k i hd hk
    obtain ⟨k, rfl⟩ : ∃ n, k = n + 1 := ⟨k - 1, by omega⟩
    have hw1 : wrap64 ((i : Int) + 1) = ((i + 1 : Nat) : Int) := wrap_succ (by omega)
    have hs := size_pre w b (by omega)
    simp only [spec_l04Twice.l0]
    rw [wrap_nat (n := i + b) (by omega) (by omega), if_pos (by omega), if_pos (by omega), if_pos (by omega), if_pos (by omega), if_pos (by omega), if_pos (by omega)]
    simp only [Int.toNat_natCast]
    rw [plcs, hs]
    by_cases c : w.extract i (i + b) = w.extract 0 b
    · rw [if_pos (by rw [c]), if_pos ⟨by omega, c⟩]; rfl
    · rw [if_neg (fun e => c (ba_inj.1 e)), hw1, ih k (i + 1) (by omega) (by omega), if_neg (fun e => c e.2)]
theorem twice_f (w : ByteArray) (hw : w.size ≤ 60) (b : Nat) (hb1 : 1 ≤ b) (hb2 : b < w.size) (k : Nat) (hk : 60 < k) : spec_l04Twice.f k w (b : Int) = some (decide (mids w b = [])) :=
  twice_loop w hw b hb1 hb2 (w.size - b - 1) k 1 (by omega) (by omega)

theorem closed_f : ∀ (n : Nat) (w : ByteArray) (pv : Bool) (k : Nat), w.size ≤ n → w.size ≤ 60 → n * 100 + 200 < k → spec_l04Closed.f k w pv = some (if pv = true then prv (n + 1) w else clo w) := by
  intro n
  induction n with
  | zero =>
    intro w pv k hn hw hk
    obtain ⟨k, rfl⟩ : ∃ m, k = m + 1 := ⟨k - 1, by omega⟩
    simp only [spec_l04Closed.f]
    rw [if_pos (by omega), prv, clo, decide_eq_true (by omega), Bool.true_or, Bool.true_or]
    split <;> rfl
  | succ n ih =>
    intro w pv k hn hw hk
    have loop : ∀ (d k b : Nat), b + d = w.size → 1 ≤ b → n * 100 + 201 + d < k →
        spec_l04Closed.l0 k w pv (b : Int) = some ((retB w d b).any fun b => if pv = true then prv (n + 1) (w.extract 0 b) else true) := by
      intro d
      induction d with
      | zero =>
        intro k b hd hb hk
        obtain ⟨k, rfl⟩ : ∃ m, k = m + 1 := ⟨k - 1, by omega⟩
        simp only [spec_l04Closed.l0]
        rw [if_neg (by omega)]; rfl
      | succ d ihd =>
        intro k b hd hb hk
        obtain ⟨k, rfl⟩ : ∃ m, k = m + 1 := ⟨k - 1, by omega⟩
        have hw1 : wrap64 ((b : Int) + 1) = ((b + 1 : Nat) : Int) := wrap_succ (by omega)
        have hs : wrap64 ((w.size : Int) - (b : Int)) = ((w.size - b : Nat) : Int) := wrap_nat (by omega) (by omega)
        have hsz := size_pre w b (by omega)
        simp only [spec_l04Closed.l0]
        rw [if_pos (by omega), if_pos (by omega), if_pos (by omega), hs, if_pos (by omega), if_pos (by omega), Int.toNat_natCast, Int.toNat_natCast, hw1, ihd k (b + 1) (by omega) (by omega) (by omega), retB]
        by_cases c : w.extract (w.size - b) w.size = w.extract 0 b
        · rw [if_pos (by rw [c]), twice_f w hw b hb (by omega) k (by omega)]
          simp only [Option.bind_some, decide_eq_true_eq]
          by_cases c2 : mids w b = []
          · rw [if_pos c2, if_pos (show ret1 w b = true by unfold ret1; exact decide_eq_true ⟨c, c2⟩), List.any_cons]
            cases pv with
            | false => simp
            | true =>
              simp only [if_true]
              rw [ih _ true k (by omega) (by omega) (by omega)]
              simp only [Option.bind_some, if_true]
              cases prv (n + 1) (w.extract 0 b) <;> simp
          · rw [if_neg c2, if_neg (show ¬ ret1 w b = true by unfold ret1; rw [decide_eq_false (fun h => c2 h.2)]; decide)]
        · rw [if_neg (fun e => c (ba_inj.1 e).symm), if_neg (show ¬ ret1 w b = true by unfold ret1; rw [decide_eq_false (fun h => c h.1)]; decide)]
    obtain ⟨k, rfl⟩ : ∃ m, k = m + 1 := ⟨k - 1, by omega⟩
    simp only [spec_l04Closed.f]
    by_cases h : w.size ≤ 1
    · rw [if_pos (by omega), prv, clo, decide_eq_true h, Bool.true_or, Bool.true_or]
      split <;> rfl
    · rw [if_neg (by omega), prv, clo, decide_eq_false h, Bool.false_or, Bool.false_or]
      have hl := loop (w.size - 1) k 1 (by omega) (by omega) (by omega)
      rw [show ((1 : Nat) : Int) = 1 from rfl] at hl
      rw [hl]
      cases pv <;> rfl

end Go.Proofs.Ythifbnojmoknmaa.PF
