/- Words that fit patterns: the program's test and the reference's test. -/
import Derived.Test.YtgoccddcbooabaaPFLibM0
import Derived.Test.YtgoccddcbooabaaPFGivM
import Derived.Test.YtgoccddcbooabaaPFGivI
import Derived.Test.YtgoccddcbooabaaPFx0
import Derived.Test.YtgoccddcbooabaaPFx4
namespace Go.Proofs.Ytgoccddcbooabaa.PF
open Go.RowKit Go.Proofs.YtgoccddcbooabaaW.PrintWords Go.Proofs.YtgoccddcbooabaaW.PrintLast Go.Proofs.YtgoccddcbooabaaW.PrintMore
set_option linter.unusedVariables false
set_option linter.unusedSimpArgs false

theorem isP_loop (a : ByteArray) (ha : a.size ≤ 4000000000000000000) : ∀ (d k i : Nat), i + d = a.size → d < k → spec_l10Is.l0 k a (i : Int) = some ((decide (1 ≤ a.size) && decide (a.size ≤ 8)) && ((bytesOf a).drop i).all isVar) := by
  intro d
  induction d with
  | zero =>
    intro k i hd hk
    obtain ⟨k, rfl⟩ : ∃ n, k = n + 1 := ⟨k - 1, by omega⟩
    simp only [spec_l10Is.l0]
    rw [if_neg (by omega), List.drop_eq_nil_of_le (by rw [bytesOf_length]; omega), List.all_nil, Bool.and_true]
    by_cases h : 1 ≤ a.size
    · rw [if_pos (by omega), decide_eq_true h, Bool.true_and]; congr 1; exact decide_eq_decide.2 (by omega)
    · rw [if_neg (by omega), decide_eq_false h, Bool.false_and]
  | succ d ih =>
    intro k i hd hk
    obtain ⟨k, rfl⟩ : ∃ n, k = n + 1 := ⟨k - 1, by omega⟩
    simp only [spec_l10Is.l0]
    rw [if_pos (by omega), if_pos (by omega), drop_bytes a i (by omega), List.all_cons]
    by_cases h1 : bt a (i : Int) < 65
    · rw [if_pos h1, show isVar (bt a (i : Int)) = false by unfold isVar; rw [decide_eq_false (by omega)]; rfl, Bool.false_and, Bool.and_false]
    · rw [if_neg h1]
      by_cases h2 : bt a (i : Int) > 67
      · rw [if_pos h2, show isVar (bt a (i : Int)) = false by unfold isVar; rw [decide_eq_false (show ¬ bt a (i : Int) < 68 by omega), Bool.and_false], Bool.false_and, Bool.and_false]
      · rw [if_neg h2, show wrap64 ((i : Int) + 1) = ((i + 1 : Nat) : Int) from wrap_succ (by omega), ih k (i + 1) (by omega) (by omega),
          show isVar (bt a (i : Int)) = true by unfold isVar; rw [decide_eq_true (by omega), decide_eq_true (by omega)]; rfl, Bool.true_and]
theorem l10Is_f (a : ByteArray) (ha : a.size ≤ 4000000000000000000) (k : Nat) (hk : a.size < k) : spec_l10Is.f k a = some (isP a) := by
  have h := isP_loop a ha a.size k 0 (by omega) hk
  rw [List.drop_zero] at h
  exact h
theorem isP_size {a : ByteArray} (h : isP a = true) : 1 ≤ a.size ∧ a.size ≤ 8 := by
  simp only [isP, Bool.and_eq_true, decide_eq_true_eq] at h; exact h.1

/-- The variables of a pattern. -/
def vars (p : ByteArray) : List Nat := (bytesOf p).map fun c => (c - 65).toNat
theorem vars_length (p : ByteArray) : (vars p).length = p.size := by rw [vars, List.length_map, bytesOf_length]

/-- All its letters are variables. -/
def okP (p : ByteArray) : Prop := ∀ c ∈ bytesOf p, 65 ≤ c ∧ c < 68
theorem okP_of {p : ByteArray} (h : isP p = true) : okP p := by
  simp only [isP, Bool.and_eq_true, List.all_eq_true, isVar, decide_eq_true_eq] at h
  exact fun c hc => h.2 c hc
theorem bytes_cons (p : ByteArray) (h : 0 < p.size) : bytesOf p = bt p 0 :: bytesOf (p.extract 1 p.size) := by
  have h0 := drop_bytes p 0 h
  rw [List.drop_zero] at h0
  rw [h0]
  congr 1
  refine List.ext_getElem ?_ fun i h1 h2 => ?_
  · rw [List.length_drop, bytesOf_length, bytesOf_length, ByteArray.size_extract]; omega
  · rw [List.getElem_drop]
    simp only [bytesOf, List.getElem_map]
    rw [bytesOf_length, ByteArray.size_extract] at h2
    congr 2
    simp only [Array.getElem_toList, ByteArray.data_extract, Array.getElem_extract]
theorem vars_cons (p : ByteArray) (h : 0 < p.size) : vars p = (bt p 0 - 65).toNat :: vars (p.extract 1 p.size) := by
  rw [vars, bytes_cons p h, List.map_cons]; rfl
theorem okP_first {p : ByteArray} (hp : okP p) (h : 0 < p.size) : 65 ≤ bt p 0 ∧ bt p 0 < 68 := hp _ (by rw [bytes_cons p h]; exact List.mem_cons_self)
theorem okP_rest {p : ByteArray} (hp : okP p) (h : 0 < p.size) : okP (p.extract 1 p.size) := fun c hc => hp c (by rw [bytes_cons p h]; exact List.mem_cons_of_mem _ hc)

theorem rd_vg (vs : List ByteArray) (x : Int) : rdOf ByteArray.empty vs x = vg vs x.toNat := rfl

theorem hasPrefix_dec (w v : ByteArray) (i : Nat) (hi : i ≤ w.size) : Lib.hasPrefix (w.extract i w.size).data.toList v.data.toList = decide (i + v.size ≤ w.size ∧ w.extract i (i + v.size) = v) := by
  rw [Bool.eq_iff_iff, decide_eq_true_eq]
  unfold Lib.hasPrefix
  rw [List.isPrefixOf_iff_prefix, List.prefix_iff_eq_take]
  have hl : (w.extract i w.size).data.toList.length = w.size - i := by rw [Array.length_toList]; show (w.extract i w.size).size = _; rw [ByteArray.size_extract]; omega
  have hv : v.data.toList.length = v.size := by rw [Array.length_toList]; rfl
  have key : i + v.size ≤ w.size → (w.extract i (i + v.size)).data.toList = (w.extract i w.size).data.toList.take v.data.toList.length := fun hle => by
    rw [hv]
    simp only [ByteArray.data_extract, Array.toList_extract, List.extract_eq_take_drop]
    rw [List.take_take, Nat.min_eq_left (by omega)]
    congr 1; omega
  constructor
  · intro h
    have hle : i + v.size ≤ w.size := by
      have := congrArg List.length h
      rw [List.length_take, hl, hv] at this; omega
    exact ⟨hle, ba_ext (by rw [key hle, ← h])⟩
  · rintro ⟨hle, h⟩
    rw [← key hle, h]

theorem orP_some (f : Nat → Option Bool) (g : Nat → Bool) : ∀ d e, (∀ t, t < d → f (e + t) = some (g (e + t))) → orP f d e = some ((List.range d).any fun t => g (e + t)) := by
  intro d
  induction d with
  | zero => intro e h; rfl
  | succ d ih =>
    intro e h
    have h0 := h 0 (by omega)
    rw [Nat.add_zero] at h0
    rw [orP, h0, Option.bind_some, List.range_succ_eq_map, List.any_cons, Nat.add_zero, List.any_map]
    cases g e with
    | true => rfl
    | false =>
      simp only [Bool.false_eq_true, if_false, Bool.false_or]
      rw [ih (e + 1) (fun t ht => by rw [show e + 1 + t = e + (t + 1) by omega]; exact h (t + 1) (by omega))]
      congr 2
      funext t
      show g _ = g _
      congr 1
      simp only [Nat.succ_eq_add_one]; omega

theorem matchP_f (w : ByteArray) (D : Nat → Bool) : ∀ (k : Nat) (p : ByteArray) (vs : List ByteArray) (a : Nat), okP p → p.size < k → a ≤ w.size → matchP w (fun _ e => some (D e)) k p vs a = some (mE w w.size D (vars p) vs a) := by
  intro k
  induction k with
  | zero => intro p vs a hp hk; omega
  | succ k ih =>
    intro p vs a hp hk ha
    simp only [matchP]
    rw [if_pos ha]
    by_cases h0 : p.size = 0
    · rw [if_pos h0]
      have : vars p = [] := List.eq_nil_of_length_eq_zero (by rw [vars_length]; exact h0)
      rw [this]; rfl
    · have hpos : 0 < p.size := by omega
      have hsz : (p.extract 1 p.size).size = p.size - 1 := by rw [ByteArray.size_extract]; omega
      rw [if_neg h0, if_pos (okP_first hp hpos), vars_cons p hpos, mE, rd_vg]
      by_cases hv : (vg vs (bt p 0 - 65).toNat).size = 0
      · rw [if_pos hv, if_pos hv]
        exact orP_some _ (fun e => mE w w.size D (vars (p.extract 1 p.size)) (vs.set (bt p 0 - 65).toNat (w.extract a e)) e) _ _ fun t ht => ih _ _ _ (okP_rest hp hpos) (by omega) (by omega)
      · rw [if_neg hv, if_neg hv, hasPrefix_dec w _ a ha]
        by_cases c : a + (vg vs (bt p 0 - 65).toNat).size ≤ w.size ∧ w.extract a (a + (vg vs (bt p 0 - 65).toNat).size) = vg vs (bt p 0 - 65).toNat
        · rw [if_pos (decide_eq_true c), decide_eq_true c, Bool.true_and, ih _ _ _ (okP_rest hp hpos) (by omega) c.1]
        · rw [if_neg (by rw [decide_eq_false c]; decide), decide_eq_false c, Bool.false_and]

def em3 : List ByteArray := [ByteArray.empty, ByteArray.empty, ByteArray.empty]
/-- Does the word from place i to place n fit the pattern? -/
def fitB (w p : ByteArray) (i n : Nat) : Bool := mE w n (fun e => decide (e = n)) (vars p) em3 i

theorem impl_fits_f (w p : ByteArray) (hw : w.size ≤ 1000) (hp : okP p) (k : Nat) (hk : p.size < k) (hp2 : p.size ≤ 1000) : impl_fits.f k w p = some (fitB w p 0 w.size) := by
  unfold impl_fits.f
  rw [if_pos ⟨by omega, by omega⟩]
  exact matchP_f w (fun e => decide (e = w.size)) k p em3 0 hp hk (Nat.zero_le _)
theorem impl_begins_f (w p : ByteArray) (hw : w.size ≤ 1000) (hp : okP p) (k : Nat) (hk : p.size < k) (hp2 : p.size ≤ 1000) : impl_begins.f k w p = some (mE w w.size (fun _ => true) (vars p) em3 0) := by
  unfold impl_begins.f
  rw [if_pos ⟨by omega, by omega⟩]
  exact matchP_f w (fun _ => true) k p em3 0 hp hk (Nat.zero_le _)

/-- A factor that is taken out fits as it does in its place. -/
theorem fitB_shift (w p : ByteArray) (i n : Nat) (hin : i ≤ n) (hn : n ≤ w.size) : fitB (w.extract i n) p 0 (n - i) = fitB w p i n := by
  unfold fitB
  rw [mE_shift w i n hin hn _ _ _ 0 (Nat.zero_le _), Nat.add_zero]
  exact mE_congr w n _ _ _ _ i hin fun e h1 h2 => decide_eq_decide.2 (by omega)

end Go.Proofs.Ytgoccddcbooabaa.PF
