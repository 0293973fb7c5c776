/- Suffixes. -/
import Derived.Test.YtoadancbpgignaaPFLibPl
import Derived.Test.YtoadancbpgignaaPFx2
namespace Go.Proofs.Ytoadancbpgignaa.PF
open Go.RowKit Go.Proofs.YtoadancbpgignaaW.PrintWords Go.Proofs.YtoadancbpgignaaW.PrintLast Go.Proofs.YtoadancbpgignaaW.PrintMore
set_option linter.unusedVariables false
set_option linter.unusedSimpArgs false

theorem hasSuffix_f (a b : ByteArray) (ha : a.size ≤ 4000000000000000000) : strings_HasSuffix.f a b = some (decide (b.size ≤ a.size ∧ a.extract (a.size - b.size) a.size = b)) := by
 unfold strings_HasSuffix.f stringslite_HasSuffix.f
 by_cases h : b.size ≤ a.size
 ·
  rw [wrap_nat (n := a.size - b.size) (by omega) (by omega)]
  simp only [show (a.size : Int) ≥ (b.size : Int) by omega, show (0 : Int) ≤ ((a.size - b.size : Nat) : Int) by omega, if_true, show ((a.size - b.size : Nat) : Int) ≤ (a.size : Int) by omega, Int.toNat_natCast, Option.bind_some, h, true_and]
  rw [Bool.beq_eq_decide_eq]
  simp only [ba_toList_inj]
 ·
  simp only [show ¬ (a.size : Int) ≥ (b.size : Int) by omega, if_false, Option.bind_some, h, false_and, decide_false]

end Go.Proofs.Ytoadancbpgignaa.PF
