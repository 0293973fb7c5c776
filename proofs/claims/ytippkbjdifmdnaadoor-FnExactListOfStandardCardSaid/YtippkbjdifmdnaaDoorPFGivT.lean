/- Given for the print: a word repeated, by the library's contract. -/
import Derived.Test.YtippkbjdifmdnaaDoorPFGivA
import Derived.Test.YtippkbjdifmdnaaDoorShelf
namespace Go.Proofs.YtippkbjdifmdnaaDoor.PF
open Go.RowKit Go.Proofs.YtippkbjdifmdnaaDoorW.PrintWords Go.Proofs.YtippkbjdifmdnaaDoorW.PrintLast Go.Proofs.YtippkbjdifmdnaaDoorW.PrintMore
set_option linter.unusedVariables false
set_option linter.unusedSimpArgs false

/-- A word so many times. -/
def rep (s : ByteArray) (n : Nat) : ByteArray := ⟨(Lib.repeatL s.data.toList n).toArray⟩
def strings_Repeat.f (s : ByteArray) (n : Int) : Option ByteArray := if 0 ≤ n ∧ n ≤ 9223372036854775807 ∧ s.size * n.toNat ≤ 140737488355328 then some (rep s n.toNat) else none

theorem strings_Repeat.calls (a0 : ByteArray) (a1 : Int) (r : ByteArray) (w : World) (h : strings_Repeat.f a0 a1 = some r) :
    Calls Tryd.prog 22 #[.string a0, .int .i64 a1] w fun e w' => e = .returned (.string r) ∧ Below w.heap.size w w' := by
  unfold strings_Repeat.f at h
  split at h
  case isFalse => cases h
  rename_i hc
  obtain rfl := Option.some.inj h
  have hx := Tryd.strings_Repeat a0 a1.toNat w (by omega) hc.2.2
  rw [Int.toNat_of_nonneg hc.1] at hx
  exact hx

end Go.Proofs.YtippkbjdifmdnaaDoor.PF
