/- Windows: the program's way and the reference's way. -/
import Derived.Test.YtlehnijikmbkjaaPFLibHb
import Derived.Test.YtlehnijikmbkjaaPFGivY
import Derived.Test.YtlehnijikmbkjaaPFx21
import Derived.Test.YtlehnijikmbkjaaPFx8
namespace Go.Proofs.Ytlehnijikmbkjaa.PF
open Go.RowKit Go.Proofs.YtlehnijikmbkjaaW.PrintWords Go.Proofs.YtlehnijikmbkjaaW.PrintLast Go.Proofs.YtlehnijikmbkjaaW.PrintMore
set_option linter.unusedVariables false
set_option linter.unusedSimpArgs false
set_option maxRecDepth 20000

theorem allP_mem {α : Type} (p : α → Option Bool) (q : α → Bool) : ∀ l : List α, (∀ x ∈ l, p x = some (q x)) → allP p l = some (l.all q)
  | [], _ => rfl
  | x :: l, h => by
    rw [allP, h x List.mem_cons_self, List.all_cons]
    simp only [Option.bind_some]
    cases q x with
    | true => rw [if_pos rfl, allP_mem p q l fun y hy => h y (List.mem_cons_of_mem _ hy), Bool.true_and]
    | false => rw [if_neg (by decide), Bool.false_and]

theorem fac_size' (w : ByteArray) (m : Nat) : ∀ x ∈ fac w m, x.size = m ∧ x.size ≤ w.size := fun x hx => by
  obtain ⟨j, h1, rfl⟩ := (mem_fac w m x).1 hx
  rw [ByteArray.size_extract]; omega

/-- Does each factor of length n have all of some words? -/
def wholeB (w : ByteArray) (n : Nat) (ws : List ByteArray) : Bool := (fac w n).all fun v => ws.all (hasB v)

theorem impl_whole (w : ByteArray) (hw : w.size ≤ 60) (n : Nat) (ws : List ByteArray) (k : Nat) : impl_areAll_string.f k (fac w n) (fun z0_ => impl_WindowOf_2.f k z0_ ws) = some (wholeB w n ws) := by
  unfold impl_areAll_string.f wholeB
  refine allP_mem _ _ _ fun v hv => ?_
  have hs := (fac_size' w n v hv).2
  unfold impl_WindowOf_2.f impl_hasAll.f
  rw [allP_mem _ (hasB v) ws fun x hx => by unfold strings_Contains.f; rw [if_pos (by omega)]; rfl]
  rfl

def allUp (F : Nat → Bool) : Nat → Nat → Bool
  | 0, _ => true
  | d + 1, i => F i && allUp F d (i + 1)
theorem allUp_iff (F : Nat → Bool) : ∀ d i, allUp F d i = true ↔ ∀ j, i ≤ j → j < i + d → F j = true
  | 0, i => by
    constructor
    · intro _ j h1 h2; omega
    · intro _; rfl
  | d + 1, i => by
    rw [allUp, Bool.and_eq_true, allUp_iff F d (i + 1)]
    constructor
    · rintro ⟨h1, h2⟩ j h3 h4
      by_cases e : j = i
      · rw [e]; exact h1
      · exact h2 j (by omega) (by omega)
    · intro h
      exact ⟨h i (Nat.le_refl _) (by omega), fun j h1 h2 => h j (by omega) (by omega)⟩

theorem whole_up (w : ByteArray) (n : Nat) (ws : List ByteArray) : allUp (fun i => ws.all (hasB (w.extract i (i + n)))) (plc w n) 0 = wholeB w n ws := by
  rw [Bool.eq_iff_iff, allUp_iff]
  unfold wholeB
  rw [List.all_eq_true]
  constructor
  · intro h v hv
    obtain ⟨j, h1, rfl⟩ := (mem_fac w n v).1 hv
    exact h j (Nat.zero_le _) (by unfold plc; omega)
  · intro h j _ h2
    unfold plc at h2
    exact h _ ((mem_fac w n _).2 ⟨j, by omega, rfl⟩)

theorem spec_w1 (w : ByteArray) (hw : w.size ≤ 60) (n : Nat) (ws : List ByteArray) (hl : ws.length ≤ 1000) (hls : ∀ x ∈ ws, x.size ≤ 60) (i : Nat) (hi : i + n ≤ w.size) : ∀ (d k j : Nat), j + d = ws.length → 100 < k →
    spec_l05Whole.l1 (k + d + 1) w (n : Int) ws (i : Int) (j : Int) = (if (ws.drop j).all (hasB (w.extract i (i + n))) = true then spec_l05Whole.l0 k w (n : Int) ws ((i + 1 : Nat) : Int) else some false) := by
  have hv : (w.extract i (i + n)).size ≤ 60 := by rw [ByteArray.size_extract]; omega
  have a4 : (0 : Int) ≤ (i : Int) := by omega
  have a5 : (i : Int) ≤ ((i + n : Nat) : Int) := by omega
  have a6 : ((i + n : Nat) : Int) ≤ (w.size : Int) := by omega
  have a7 : i < 4611686018427387904 := by omega
  have a8 : i + n ≤ 4611686018427387904 := by omega
  intro d
  induction d with
  | zero =>
    intro k j hd hk
    have a1 : ¬ (j : Int) < (ws.length : Int) := by omega
    simp only [spec_l05Whole.l1]
    rw [if_neg a1, List.drop_eq_nil_of_le (by omega), List.all_nil, if_pos rfl, show wrap64 ((i : Int) + 1) = ((i + 1 : Nat) : Int) from wrap_succ a7]
  | succ d ih =>
    intro k j hd hk
    obtain ⟨q, hq⟩ : ∃ q, q = k + d + 1 := ⟨_, rfl⟩
    have hj : j < ws.length := by omega
    have hih := ih k (j + 1) (by omega) hk
    have a1 : (j : Int) < (ws.length : Int) := by omega
    have a2 : (0 : Int) ≤ (j : Int) := by omega
    have a3 : j < 4611686018427387904 := by omega
    have hpl : spec_l01Places.f q (w.extract i (i + n)) ws[j] = some (places (w.extract i (i + n)) ws[j]) := by
      have h := spec_places_loop (w.extract i (i + n)) ws[j] hv (hls _ (List.getElem_mem hj)) ((w.extract i (i + n)).size + 1) q 0 [] (by omega) (by simp) (by omega)
      exact h
    have hpp := places_pos (w.extract i (i + n)) ws[j]
    rw [← hq] at hih
    rw [show k + (d + 1) + 1 = q + 1 by rw [hq]; rfl]
    simp only [spec_l05Whole.l1]
    rw [show wrap64 ((i : Int) + (n : Int)) = ((i + n : Nat) : Int) from wrap_nat rfl a8, if_pos a1, if_pos a4, if_pos a5, if_pos a6, if_pos a2, Int.toNat_natCast, Int.toNat_natCast, rdOf_nat _ ws j hj, hpl, List.drop_eq_getElem_cons hj, List.all_cons]
    simp only [Option.bind_some]
    by_cases c : hasB (w.extract i (i + n)) ws[j] = true
    · have := hpp.2 c
      rw [if_neg (show ¬ ((places (w.extract i (i + n)) ws[j]).length : Int) = 0 by omega), show wrap64 ((j : Int) + 1) = ((j + 1 : Nat) : Int) from wrap_succ a3, hih, c, Bool.true_and]
    · have c' : hasB (w.extract i (i + n)) ws[j] = false := by simpa using c
      have : ¬ 0 < (places (w.extract i (i + n)) ws[j]).length := fun h => c (hpp.1 h)
      rw [if_pos (show ((places (w.extract i (i + n)) ws[j]).length : Int) = 0 by omega), c', Bool.false_and, if_neg (by decide)]

theorem spec_w0 (w : ByteArray) (hw : w.size ≤ 60) (n : Nat) (hn : n ≤ 100) (ws : List ByteArray) (hl : ws.length ≤ 100) (hls : ∀ x ∈ ws, x.size ≤ 60) : ∀ (d k i : Nat), i + d = plc w n → d * 110 + 200 < k →
    spec_l05Whole.l0 k w (n : Int) ws (i : Int) = some (allUp (fun i => ws.all (hasB (w.extract i (i + n)))) d i) := by
  intro d
  induction d with
  | zero =>
    intro k i hd hk
    obtain ⟨k, rfl⟩ : ∃ q, k = q + 1 := ⟨k - 1, by omega⟩
    unfold plc at hd
    have a1 : ¬ ((i + n : Nat) : Int) ≤ (w.size : Int) := by omega
    have a8 : i + n ≤ 4611686018427387904 := by omega
    simp only [spec_l05Whole.l0]
    rw [show wrap64 ((i : Int) + (n : Int)) = ((i + n : Nat) : Int) from wrap_nat rfl a8, if_neg a1]; rfl
  | succ d ih =>
    intro k i hd hk
    have hd' := hd
    unfold plc at hd'
    obtain ⟨k, rfl⟩ : ∃ q, k = (q + ws.length + 1) + 1 := ⟨k - ws.length - 2, by omega⟩
    obtain ⟨q, hq⟩ : ∃ q, q = k + ws.length + 1 := ⟨_, rfl⟩
    have h1 := spec_w1 w hw n ws (by omega) hls i (by omega) ws.length k 0 (by omega) (by omega)
    have hih := ih k (i + 1) (by omega) (by omega)
    have a1 : ((i + n : Nat) : Int) ≤ (w.size : Int) := by omega
    have a8 : i + n ≤ 4611686018427387904 := by omega
    rw [← hq] at h1 ⊢
    simp only [spec_l05Whole.l0]
    rw [show wrap64 ((i : Int) + (n : Int)) = ((i + n : Nat) : Int) from wrap_nat rfl a8, if_pos a1, show (0 : Int) = ((0 : Nat) : Int) from rfl, h1, List.drop_zero, hih, allUp]
    cases ws.all (hasB (w.extract i (i + n))) with
    | true => rw [if_pos rfl, Bool.true_and]
    | false => rw [if_neg (by decide), Bool.false_and]

theorem spec_whole (w : ByteArray) (hw : w.size ≤ 60) (n : Nat) (hn : n ≤ 100) (ws : List ByteArray) (hl : ws.length ≤ 100) (hls : ∀ x ∈ ws, x.size ≤ 60) (k : Nat) (hk : 8000 < k) : spec_l05Whole.f k w (n : Int) ws = some (wholeB w n ws) := by
  have hp : plc w n ≤ 61 := by unfold plc; omega
  have h := spec_w0 w hw n hn ws hl hls (plc w n) k 0 (by omega) (by omega)
  rw [whole_up] at h
  exact h

/-- The window: the first length from n on. -/
def winF (w : ByteArray) (ws : List ByteArray) : Nat → Nat → Nat
  | 0, n => n
  | d + 1, n => if wholeB w n ws = true then n else winF w ws d (n + 1)

theorem whole_last (w : ByteArray) (m : Nat) : wholeB w w.size (fac w m) = true := by
  unfold wholeB
  rw [List.all_eq_true]
  intro v hv
  obtain ⟨j, h1, rfl⟩ := (mem_fac w w.size v).1 hv
  obtain rfl : j = 0 := by omega
  rw [List.all_eq_true]
  intro x hx
  obtain ⟨j, h2, rfl⟩ := (mem_fac w m x).1 hx
  have hs : (w.extract j (j + m)).size = m := by rw [ByteArray.size_extract]; omega
  have hw0 : w.extract 0 (0 + w.size) = w := by rw [Nat.zero_add]; exact ByteArray.extract_zero_size
  rw [hw0]
  exact (hasB_iff w _).2 ⟨j, by omega, by rw [hs]⟩

theorem impl_win (w : ByteArray) (hw : w.size ≤ 60) (m : Nat) : ∀ (d k n : Nat), n + d = w.size → d + 200 < k → impl_WindowOf.l0 k w (n : Int) (fac w m) = some (((winF w (fac w m) d n : Nat) : Int), (0 : Int)) := by
  have hfac : ∀ (q n : Nat), n ≤ 100 → 100 < q → impl_factors.f q w (n : Int) = some (fac w n) := fun q n hn hq => by
    have h := impl_factors_loop w n (by omega) (by omega) (plc w n) q 0 [] (by omega) rfl (by unfold plc; omega)
    exact h
  intro d
  induction d with
  | zero =>
    intro k n hd hk
    obtain ⟨k, rfl⟩ : ∃ q, k = q + 1 := ⟨k - 1, by omega⟩
    obtain rfl : n = w.size := by omega
    have hfq := hfac k w.size (by omega) (by omega)
    simp only [impl_WindowOf.l0]
    rw [hfq]
    simp only [Option.bind_some]
    rw [impl_whole w hw w.size _ k, whole_last]
    rfl
  | succ d ih =>
    intro k n hd hk
    obtain ⟨k, rfl⟩ : ∃ q, k = q + 1 := ⟨k - 1, by omega⟩
    have hfq := hfac k n (by omega) (by omega)
    have hih := ih k (n + 1) (by omega) (by omega)
    have a1 : n < 4611686018427387904 := by omega
    simp only [impl_WindowOf.l0]
    rw [hfq]
    simp only [Option.bind_some]
    rw [impl_whole w hw n _ k, winF]
    simp only [Option.bind_some]
    by_cases c : wholeB w n (fac w m) = true
    · rw [if_pos c, if_pos c]
    · rw [if_neg c, if_neg c, show wrap64 ((n : Int) + 1) = ((n + 1 : Nat) : Int) from wrap_succ a1, hih]

theorem spec_win (w : ByteArray) (hw : w.size ≤ 60) (m : Nat) (hl : (fac w m).length ≤ 100) : ∀ (d k n : Nat), n + d = w.size → d + 9000 < k → spec_WindowOf.l0 k w (fac w m) (n : Int) = some (((winF w (fac w m) d n : Nat) : Int), (0 : Int)) := by
  have hls : ∀ x ∈ fac w m, x.size ≤ 60 := fun x hx => by have := (fac_size' w m x hx).2; omega
  intro d
  induction d with
  | zero =>
    intro k n hd hk
    obtain ⟨k, rfl⟩ : ∃ q, k = q + 1 := ⟨k - 1, by omega⟩
    obtain rfl : n = w.size := by omega
    have h := spec_whole w hw w.size (by omega) (fac w m) hl hls k (by omega)
    simp only [spec_WindowOf.l0]
    rw [h, whole_last]
    rfl
  | succ d ih =>
    intro k n hd hk
    obtain ⟨k, rfl⟩ : ∃ q, k = q + 1 := ⟨k - 1, by omega⟩
    have h := spec_whole w hw n (by omega) (fac w m) hl hls k (by omega)
    have hih := ih k (n + 1) (by omega) (by omega)
    have a1 : n < 4611686018427387904 := by omega
    simp only [spec_WindowOf.l0]
    rw [h, winF]
    simp only [Option.bind_some]
    by_cases c : wholeB w n (fac w m) = true
    · rw [if_pos c, if_pos c]
    · rw [if_neg c, if_neg c, show wrap64 ((n : Int) + 1) = ((n + 1 : Nat) : Int) from wrap_succ a1, hih]

end Go.Proofs.Ytlehnijikmbkjaa.PF
