/- Filters, and equal words. -/
import Derived.Test.YthifbnojmoknmaaPFLibE
import Derived.Test.YthifbnojmoknmaaPFGivB
namespace Go.Proofs.Ythifbnojmoknmaa.PF
open Go.RowKit Go.Proofs.YthifbnojmoknmaaW.PrintWords Go.Proofs.YthifbnojmoknmaaW.PrintLast Go.Proofs.YthifbnojmoknmaaW.PrintMore
set_option linter.unusedVariables false
set_option linter.unusedSimpArgs false

theorem filterP_some {α : Type} {p : α → Option Bool} {q : α → Bool} : ∀ (l : List α), (∀ x ∈ l, p x = some (q x)) → filterP p l = some (l.filter fun x => !q x)
  | [], _ => rfl
  | x :: l, h => by
    rw [filterP, h x (by simp), filterP_some l (fun y hy => h y (by simp [hy]))]
    simp only [Option.bind_some, List.filter_cons]
    cases q x <;> simp

instance baLaw : LawfulBEq ByteArray where
  eq_of_beq {a b} h := by
    cases a with | mk a => cases b with | mk b =>
    have : (a == b) = true := h
    rw [eq_of_beq this]
  rfl {a} := by
    cases a with | mk a =>
    show (a == a) = true
    exact BEq.rfl

end Go.Proofs.Ythifbnojmoknmaa.PF
