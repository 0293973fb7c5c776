/- Two laws that the walk lacks: Go's '>' and '<=' between strings, told by '<' with the sides exchanged. -/
import Derived.WalkKit
import Derived.Laws.Strings
namespace Go.Proofs.YtippkbjdifmdnaaZ

theorem less_tri : ∀ a b : List UInt8, (!(Op.bytesLess a b || a == b)) = Op.bytesLess b a
  | [], [] => rfl
  | [], _ :: _ => rfl
  | _ :: _, [] => rfl
  | a :: x, b :: y => by
    have ih := less_tri x y
    simp only [Op.bytesLess]
    rcases Nat.lt_trichotomy a.toNat b.toNat with h | h | h
    · have h1 : (a < b) := UInt8.lt_iff_toNat_lt.2 h
      have h2 : ¬ (b < a) := fun h' => by have := UInt8.lt_iff_toNat_lt.1 h'; omega
      have h3 : ¬ (b = a) := fun h' => by rw [h'] at h; omega
      simp [h1, h2, h3]
    · have h1 : a = b := UInt8.toNat_inj.1 h
      subst h1
      have h2 : ¬ (a < a) := fun h' => by have := UInt8.lt_iff_toNat_lt.1 h'; omega
      rw [← ih]
      simp [h2]
    · have h1 : ¬ (a < b) := fun h' => by have := UInt8.lt_iff_toNat_lt.1 h'; omega
      have h2 : (b < a) := UInt8.lt_iff_toNat_lt.2 h
      have h3 : ¬ (a = b) := fun h' => by rw [h'] at h; omega
      simp [h1, h2, h3]

@[go_sem] theorem gtr_strings (t : TypeId) (a b : ByteArray) : binOp .gtr t (.string a) (.string b) = pure (.bool (Op.bytesLess b.toList a.toList)) := by
  rw [← less_tri a.toList b.toList]; simp [binOp, Op.stringOp]
@[go_sem] theorem leq_strings (t : TypeId) (a b : ByteArray) : binOp .leq t (.string a) (.string b) = pure (.bool !(Op.bytesLess b.toList a.toList)) := by
  rw [← less_tri a.toList b.toList]; simp [binOp, Op.stringOp]
@[go_sem] theorem geq_strings (t : TypeId) (a b : ByteArray) : binOp .geq t (.string a) (.string b) = pure (.bool !(Op.bytesLess a.toList b.toList)) := by
  simp [binOp, Op.stringOp]

end Go.Proofs.YtippkbjdifmdnaaZ
