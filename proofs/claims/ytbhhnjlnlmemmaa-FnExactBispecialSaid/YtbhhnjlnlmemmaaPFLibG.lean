/- The codes of the reference, and equal lists of words. -/
import Derived.Test.YtbhhnjlnlmemmaaPFLibE
import Derived.Test.YtbhhnjlnlmemmaaPFx1
import Derived.Test.YtbhhnjlnlmemmaaPFx6
import Derived.Test.YtbhhnjlnlmemmaaPFx1
namespace Go.Proofs.Ytbhhnjlnlmemmaa.PF
open Go.RowKit Go.Proofs.YtbhhnjlnlmemmaaW.PrintWords Go.Proofs.YtbhhnjlnlmemmaaW.PrintLast Go.Proofs.YtbhhnjlnlmemmaaW.PrintMore
set_option linter.unusedVariables false
set_option linter.unusedSimpArgs false

theorem codeW_zero {b : Bool} {l : List ByteArray} : codeW b l = 0 ↔ l.all isW = true ∧ b = true := by
  unfold codeW
  by_cases h : l.all isW = true <;> cases b <;> simp [h]

theorem l05Code_ev (a : ByteArray) (m : Int) (ha : a.size ≤ 9000000000000000000) : Ev (fun k => spec_l05Code.f k a m) (codeW (inR m 0 60) [a]) := by
  unfold spec_l05Code.f
  refine ev_bnd (l01Is_ev a ha) ?_
  simp only [l01In_f, Option.bind_some]
  refine ev_of ?_
  unfold codeW
  by_cases h1 : isW a = true <;> by_cases h2 : inR m 0 60 = true <;> simp [h1, h2]

theorem l05Two_ev (a b : ByteArray) (ha : a.size ≤ 9000000000000000000) (hb : b.size ≤ 9000000000000000000) : Ev (fun k => spec_l05Two.f k a b) (codeW (b.toList != ([] : List UInt8)) [a, b]) := by
  unfold spec_l05Two.f
  refine ev_bnd (l01Is_ev a ha) ?_
  by_cases h1 : isW a = true
  · simp only [h1, if_true]
    refine ev_bnd (l01Is_ev b hb) ?_
    refine ev_suc ?_
    simp only [spec_l05Two.j0]
    refine ev_of ?_
    unfold codeW
    by_cases h2 : isW b = true <;> by_cases h3 : b.toList = ([] : List UInt8) <;> simp [h1, h2, h3]
  · simp only [h1, if_false]
    refine ev_suc ?_
    simp only [spec_l05Two.j0]
    refine ev_of ?_
    unfold codeW
    simp [h1]

end Go.Proofs.Ytbhhnjlnlmemmaa.PF
