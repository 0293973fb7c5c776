/- Plain facts on words: order, sorted lists of words, what the tests of words come to. -/
import Derived.Test.YtippkbjdifmdnaaPFGivA
namespace Go.Proofs.Ytippkbjdifmdnaa.PF
open Go.RowKit Go.Proofs.YtippkbjdifmdnaaW.PrintWords Go.Proofs.YtippkbjdifmdnaaW.PrintLast Go.Proofs.YtippkbjdifmdnaaW.PrintMore
set_option linter.unusedVariables false
set_option linter.unusedSimpArgs false

theorem wrap_id {x : Int} (h0 : -9223372036854775808 ≤ x) (h1 : x ≤ 9223372036854775807) : wrap64 x = x := by
  unfold wrap64; omega

/-! ### order -/
theorem toList_eq (a : ByteArray) : a.toList = a.data.toList := ByteArray.toList_eq a
theorem ba_ext {a b : ByteArray} (h : a.data.toList = b.data.toList) : a = b := ByteArray.ext (Array.toList_inj.1 h)
theorem ba_inj {a b : ByteArray} : a.toList = b.toList ↔ a = b := ⟨fun h => ba_ext (by rw [← toList_eq, ← toList_eq]; exact h), fun h => by rw [h]⟩
theorem ba_mk (a : ByteArray) : (⟨a.data.toList.toArray⟩ : ByteArray) = a := by cases a; simp

theorem drop_bytes (a : ByteArray) (i : Nat) (h : i < a.size) : (bytesOf a).drop i = bt a (i : Int) :: (bytesOf a).drop (i + 1) := by
  rw [rd_drop _ i (by rw [bytesOf_length]; exact h), rd_bytesOf]

end Go.Proofs.Ytippkbjdifmdnaa.PF
