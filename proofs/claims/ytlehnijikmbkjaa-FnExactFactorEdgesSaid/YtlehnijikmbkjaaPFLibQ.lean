/- Codes: when they are none. -/
import Derived.Test.YtlehnijikmbkjaaPFLibE
namespace Go.Proofs.Ytlehnijikmbkjaa.PF
open Go.RowKit Go.Proofs.YtlehnijikmbkjaaW.PrintWords Go.Proofs.YtlehnijikmbkjaaW.PrintLast Go.Proofs.YtlehnijikmbkjaaW.PrintMore
set_option linter.unusedVariables false
set_option linter.unusedSimpArgs false

theorem codeW_zero {b : Bool} {l : List ByteArray} : codeW b l = 0 ↔ l.all isW = true ∧ b = true := by
  unfold codeW
  by_cases h : l.all isW = true <;> cases b <;> simp [h]

theorem sz_word {w : ByteArray} {l : List ByteArray} {b : Bool} (h : codeW b (w :: l) = 0) : w.size ≤ 60 := by
  have := (codeW_zero.1 h).1
  simp only [List.all_cons, Bool.and_eq_true] at this
  exact isW_size this.1
theorem sz_word2 {w v : ByteArray} {l : List ByteArray} {b : Bool} (h : codeW b (w :: v :: l) = 0) : v.size ≤ 60 := by
  have := (codeW_zero.1 h).1
  simp only [List.all_cons, Bool.and_eq_true] at this
  exact isW_size this.2.1
theorem codeW_le {b : Bool} {l : List ByteArray} : codeW b l = 0 ∨ codeW b l = 1 ∨ codeW b l = 2 := by unfold codeW; split <;> (try split) <;> simp

end Go.Proofs.Ytlehnijikmbkjaa.PF
