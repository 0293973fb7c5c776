/- Prefixes. -/
import Derived.Test.YtcelidihilpmjaaPFLibE
import Derived.Test.YtcelidihilpmjaaPFx15
namespace Go.Proofs.Ytcelidihilpmjaa.PF
open Go.RowKit Go.Proofs.YtcelidihilpmjaaW.PrintWords Go.Proofs.YtcelidihilpmjaaW.PrintLast Go.Proofs.YtcelidihilpmjaaW.PrintMore
set_option linter.unusedVariables false
set_option linter.unusedSimpArgs false

theorem ba_toList_inj {a b : ByteArray} : (a.toList = b.toList) = (a = b) := propext ba_inj

theorem hasPrefix_f (a b : ByteArray) (ha : a.size ≤ 9000000000000000000) : strings_HasPrefix.f a b = some (decide (b.size ≤ a.size ∧ a.extract 0 b.size = b)) := by
  unfold strings_HasPrefix.f stringslite_HasPrefix.f
  by_cases h : b.size ≤ a.size
  · simp only [show (a.size : Int) ≥ (b.size : Int) by omega, show (0 : Int) ≤ (b.size : Int) by omega, if_true, show (b.size : Int) ≤ (a.size : Int) by omega, Int.toNat_natCast, Option.bind_some, h, true_and]
    rw [Bool.beq_eq_decide_eq]
    simp only [ba_toList_inj]
  · simp only [show ¬ (a.size : Int) ≥ (b.size : Int) by omega, if_false, Option.bind_some, h, false_and, decide_false]

theorem hasPrefix_at (w v : ByteArray) (i : Nat) (hi : i ≤ w.size) (hw : w.size ≤ 9000000000000000000) : strings_HasPrefix.f (w.extract i w.size) v = some (decide (i + v.size ≤ w.size ∧ w.extract i (i + v.size) = v)) := by
  rw [hasPrefix_f _ _ (by rw [ByteArray.size_extract]; omega)]
  congr 1
  rw [decide_eq_decide, ByteArray.size_extract, ByteArray.extract_extract]
  constructor
  · rintro ⟨h1, h2⟩
    have : i + v.size ≤ w.size := by omega
    refine ⟨this, ?_⟩
    rwa [Nat.add_zero, Nat.min_eq_left this] at h2
  · rintro ⟨h1, h2⟩
    refine ⟨by omega, ?_⟩
    rwa [Nat.add_zero, Nat.min_eq_left h1]

end Go.Proofs.Ytcelidihilpmjaa.PF
