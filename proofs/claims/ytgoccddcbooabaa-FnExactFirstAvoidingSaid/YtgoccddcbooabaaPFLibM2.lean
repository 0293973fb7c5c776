/- Words that fit patterns: the reference's test, and the tests of ends and factors. -/
import Derived.Test.YtgoccddcbooabaaPFLibM
import Derived.Test.YtgoccddcbooabaaPFx9
import Derived.Test.YtgoccddcbooabaaPFx8
import Derived.Test.YtgoccddcbooabaaPFx10
import Derived.Test.YtgoccddcbooabaaPFx15
namespace Go.Proofs.Ytgoccddcbooabaa.PF
open Go.RowKit Go.Proofs.YtgoccddcbooabaaW.PrintWords Go.Proofs.YtgoccddcbooabaaW.PrintLast Go.Proofs.YtgoccddcbooabaaW.PrintMore
set_option linter.unusedVariables false
set_option linter.unusedSimpArgs false
set_option maxRecDepth 20000

theorem empty_iff (a : ByteArray) : a.toList = ([] : List UInt8) ↔ a.size = 0 := by
  rw [toList_eq]
  constructor
  · intro h; have := congrArg List.length h; rw [Array.length_toList] at this; exact this
  · intro h; exact List.eq_nil_of_length_eq_zero (by rw [Array.length_toList]; exact h)
theorem extract_all (w : ByteArray) : w.extract 0 w.size = w := ByteArray.extract_zero_size

theorem var_lt {p : ByteArray} (hp : okP p) (h : 0 < p.size) : ((bt p 0 - 65) % 256) = ((bt p 0 - 65).toNat : Int) ∧ (bt p 0 - 65).toNat < 3 := by
  have := okP_first hp h; omega

/-- A word that goes on at place n, with the values there. -/
theorem mE_rest (w : ByteArray) (n : Nat) (hn : n ≤ w.size) (p : List Nat) (vs : List ByteArray) : mE (w.extract n w.size) (w.size - n) (fun e => decide (e = w.size - n)) p vs 0 = mE w w.size (fun e => decide (e = w.size)) p vs n := by
  rw [mE_shift w n w.size hn (Nat.le_refl _) _ _ _ 0 (Nat.zero_le _), Nat.add_zero]
  exact mE_congr w w.size _ _ _ _ n hn fun e h1 h2 => decide_eq_decide.2 (by omega)

/-- What the reference's test comes to: whether the whole word fits. -/
def fitW (w : ByteArray) (vs : List ByteArray) (p : ByteArray) : Bool := mE w w.size (fun e => decide (e = w.size)) (vars p) vs 0

theorem any_cut (F : Nat → Bool) (a b : Nat) (h : a ≤ b) (hf : ∀ t, a ≤ t → t < b → F t = false) : (List.range b).any F = (List.range a).any F := by
  rw [Bool.eq_iff_iff, List.any_eq_true, List.any_eq_true]
  constructor
  · rintro ⟨t, ht, g⟩
    have ht' := List.mem_range.1 ht
    by_cases c : t < a
    · exact ⟨t, List.mem_range.2 c, g⟩
    · rw [hf t (by omega) ht'] at g; cases g
  · rintro ⟨t, ht, g⟩
    exact ⟨t, List.mem_range.2 (by have := List.mem_range.1 ht; omega), g⟩

theorem fit_loop (w p : ByteArray) (hw : w.size ≤ 1000) (hp : okP p) (hpos : 0 < p.size) (hle : p.size ≤ w.size) (vs : List ByteArray) (hvs : vs.length = 3) (v : Nat) (hv : v < 3) (K : Nat)
    (ih : ∀ (k : Nat) (n : Nat) (us : List ByteArray), K ≤ k → n ≤ w.size → us.length = 3 → ∃ out, spec_l10Fit.f k (w.extract n w.size) (p.extract 1 p.size) us = some (out, mE w w.size (fun e => decide (e = w.size)) (vars (p.extract 1 p.size)) us n)) :
    ∀ (d k n : Nat), n + d = w.size - p.size + 2 → 1 ≤ n → d + K < k → ∃ out, spec_l10Fit.l0 k w p vs (v : Int) (n : Int) = some (out, (List.range d).any fun t => mE w w.size (fun e => decide (e = w.size)) (vars (p.extract 1 p.size)) (vs.set v (w.extract 0 (n + t))) (n + t)) := by
  intro d
  induction d with
  | zero =>
    intro k n hd hn hk
    obtain ⟨k, rfl⟩ : ∃ m, k = m + 1 := ⟨k - 1, by omega⟩
    refine ⟨[], ?_⟩
    simp only [spec_l10Fit.l0]
    rw [wrap_id (x := (w.size : Int) - (p.size : Int)) (by omega) (by omega), wrap_id (by omega) (by omega), if_neg (by omega)]
    rfl
  | succ d ihd =>
    intro k n hd hn hk
    obtain ⟨k, rfl⟩ : ∃ m, k = m + 1 := ⟨k - 1, by omega⟩
    have hset : (([] ++ vs : List ByteArray).set ((v : Int)).toNat (w.extract 0 ((n : Int)).toNat)) = vs.set v (w.extract 0 n) := by simp
    obtain ⟨out, ho⟩ := ih k n (vs.set v (w.extract 0 n)) (by omega) (by omega) (by simp [hvs])
    have hw1 : wrap64 ((n : Int) + 1) = ((n + 1 : Nat) : Int) := wrap_succ (by omega)
    simp only [spec_l10Fit.l0]
    rw [wrap_id (x := (w.size : Int) - (p.size : Int)) (by omega) (by omega), wrap_id (x := (w.size : Int) - (p.size : Int) + 1) (by omega) (by omega), if_pos (by omega)]
    simp only [Option.bind_some, List.length_nil, Nat.zero_add, List.nil_append]
    rw [if_pos (by omega)]
    rw [if_pos (by omega), if_pos (by omega), if_pos (by omega), if_pos (by omega), if_pos (by omega)]
    simp only [Int.toNat_natCast]
    rw [ho]
    simp only [Option.bind_some]
    rw [List.range_succ_eq_map, List.any_cons, Nat.add_zero, List.any_map]
    cases hb : mE w w.size (fun e => decide (e = w.size)) (vars (p.extract 1 p.size)) (vs.set v (w.extract 0 n)) n with
    | true => exact ⟨out, rfl⟩
    | false =>
      obtain ⟨out2, h2⟩ := ihd k (n + 1) (by omega) (by omega) (by omega)
      refine ⟨out2, ?_⟩
      rw [if_neg (by simp), hw1, h2, Bool.false_or]
      congr 3
      funext t
      show _ = _
      simp only [Function.comp, Nat.succ_eq_add_one, show n + 1 + t = n + (t + 1) by omega]

theorem l10Fit_f : ∀ (m : Nat) (w p : ByteArray) (vs : List ByteArray) (k : Nat), p.size ≤ m → w.size ≤ 1000 → okP p → vs.length = 3 → m * 2000 + 2000 < k → ∃ out, spec_l10Fit.f k w p vs = some (out, fitW w vs p) := by
  intro m
  induction m with
  | zero =>
    intro w p vs k hm hw hp hvs hk
    obtain ⟨k, rfl⟩ : ∃ n, k = n + 1 := ⟨k - 1, by omega⟩
    have h0 : p.size = 0 := by omega
    refine ⟨vs, ?_⟩
    simp only [spec_l10Fit.f]
    rw [if_pos ((empty_iff p).2 h0)]
    have hv : vars p = [] := List.eq_nil_of_length_eq_zero (by rw [vars_length]; exact h0)
    unfold fitW
    rw [hv, mE]
    congr 2
    rw [Bool.eq_iff_iff, beq_iff_eq, empty_iff, decide_eq_true_eq]; omega
  | succ m ih =>
    intro w p vs k hm hw hp hvs hk
    obtain ⟨k, rfl⟩ : ∃ n, k = n + 1 := ⟨k - 1, by omega⟩
    by_cases h0 : p.size = 0
    · exact (ih w p vs (k + 1) (by omega) hw hp hvs (by omega))
    have hpos : 0 < p.size := by omega
    have hsz : (p.extract 1 p.size).size = p.size - 1 := by rw [ByteArray.size_extract]; omega
    by_cases hle : p.size ≤ w.size
    case neg =>
      refine ⟨[], ?_⟩
      simp only [spec_l10Fit.f]
      rw [if_neg (fun e => h0 ((empty_iff p).1 e)), if_pos (by omega)]
      have := mE_short w w.size (fun e => decide (e = w.size)) (vars p) vs 0 (Nat.zero_le _) (by rw [vars_length]; omega)
      unfold fitW; rw [this]
    obtain ⟨hv1, hv2⟩ := var_lt hp hpos
    generalize hvd : (bt p 0 - 65).toNat = v at hv1 hv2
    have hvars : vars p = v :: vars (p.extract 1 p.size) := by rw [vars_cons p hpos, hvd]
    have hrec : ∀ (k : Nat) (n : Nat) (us : List ByteArray), m * 2000 + 2000 < k → n ≤ w.size → us.length = 3 → ∃ out, spec_l10Fit.f k (w.extract n w.size) (p.extract 1 p.size) us = some (out, mE w w.size (fun e => decide (e = w.size)) (vars (p.extract 1 p.size)) us n) := by
      intro k n us hk hn hus
      have hsw : (w.extract n w.size).size = w.size - n := by rw [ByteArray.size_extract]; omega
      obtain ⟨out, h⟩ := ih (w.extract n w.size) (p.extract 1 p.size) us k (by omega) (by omega) (okP_rest hp hpos) hus hk
      refine ⟨out, ?_⟩
      rw [h]
      unfold fitW
      rw [hsw, mE_rest w n hn]
    simp only [spec_l10Fit.f]
    rw [if_neg (fun e => h0 ((empty_iff p).1 e)), if_neg (by omega), if_pos (by omega), hv1, if_pos (by omega), if_pos (by omega)]
    have hvg : rdOf ByteArray.empty vs (v : Int) = vg vs v := rd_vg vs (v : Int)
    rw [hvg]
    unfold fitW
    rw [hvars, mE]
    by_cases hz : (vg vs v).size = 0
    · rw [if_pos ((empty_iff _).2 hz), if_pos hz]
      obtain ⟨out, h⟩ := fit_loop w p hw hp hpos hle vs hvs v hv2 (m * 2000 + 2001) (fun k n us hk => hrec k n us (by omega)) (w.size - p.size + 1) k 1 (by omega) (by omega) (by omega)
      refine ⟨out, ?_⟩
      rw [show ((1 : Nat) : Int) = 1 from rfl] at h
      rw [h]
      congr 2
      rw [Nat.sub_zero, any_cut _ (w.size - p.size + 1) w.size (by omega) (fun t h1 h2 => mE_short w w.size _ _ _ _ (by omega) (by rw [vars_length]; omega))]
    · rw [if_neg (fun e => hz ((empty_iff _).1 e)), if_neg hz]
      by_cases hg : (vg vs v).size ≤ w.size
      · rw [if_neg (by omega), if_pos (by omega), if_pos (by omega)]
        simp only [Int.toNat_natCast]
        by_cases he : w.extract 0 (vg vs v).size = vg vs v
        · rw [if_pos (by rw [he]), if_pos (by omega)]
          obtain ⟨out, h⟩ := hrec k (vg vs v).size vs (by omega) hg hvs
          refine ⟨out, ?_⟩
          rw [h]
          simp only [Option.bind_some, Nat.zero_add]
          rw [decide_eq_true ⟨hg, he⟩, Bool.true_and]
        · refine ⟨[], ?_⟩
          rw [if_neg (fun e => he (ba_inj.1 e))]
          simp only [Nat.zero_add]
          rw [decide_eq_false (fun h => he h.2), Bool.false_and]
      · refine ⟨[], ?_⟩
        rw [if_pos (by omega)]
        simp only [Nat.zero_add]
        rw [decide_eq_false (fun h => hg h.1), Bool.false_and]

theorem l10Fits_f (w p : ByteArray) (hw : w.size ≤ 1000) (hp : okP p) (hs : p.size ≤ 8) (k : Nat) (hk : 20000 < k) : spec_l10Fits.f k w p = some (fitB w p 0 w.size) := by
  obtain ⟨out, h⟩ := l10Fit_f 8 w p em3 k hs hw hp rfl (by omega)
  unfold spec_l10Fits.f
  show (spec_l10Fit.f k w p em3).bind _ = _
  rw [h]
  rfl

end Go.Proofs.Ytgoccddcbooabaa.PF
