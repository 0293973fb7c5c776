/- Given for the print: a word's ends cut off by a set of letters, by the library's contract. -/
import Derived.Test.YtippkbjdifmdnaaDoorPFGivA
import Derived.Test.YtippkbjdifmdnaaDoorShelf
import Derived.Shelf.Strings.SlTrimAscii
namespace Go.Proofs.YtippkbjdifmdnaaDoor.PF
open Go.RowKit Go.Proofs.YtippkbjdifmdnaaDoorW.PrintWords Go.Proofs.YtippkbjdifmdnaaDoorW.PrintLast Go.Proofs.YtippkbjdifmdnaaDoorW.PrintMore
set_option linter.unusedVariables false
set_option linter.unusedSimpArgs false

def strings_Trim.f (s c : ByteArray) : Option ByteArray := if s.size ≤ 9223372036854775807 ∧ c.size < 4294967281 ∧ c.data.toList.all (fun b => decide (b.toNat < 128)) = true then some ⟨(Lib.trimS s.data.toList c.data.toList).toArray⟩ else none

theorem strings_Trim.calls (a0 a1 : ByteArray) (r : ByteArray) (w : World) (h : strings_Trim.f a0 a1 = some r) :
    Calls Tryd.prog 21 #[.string a0, .string a1] w fun e w' => e = .returned (.string r) ∧ Below w.heap.size w w' := by
  unfold strings_Trim.f at h
  split at h
  case isFalse => cases h
  rename_i hc
  obtain rfl := Option.some.inj h
  exact Any.strings_Trim_laid Tryd.lays160 (by kernel_rfl) a0 a1 w hc.1 hc.2.1 (ascii_of_all hc.2.2)

end Go.Proofs.YtippkbjdifmdnaaDoor.PF
