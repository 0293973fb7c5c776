/- Given for the print: a row of numbers copied, by the library's contracts. -/
import Derived.Test.YtippkbjdifmdnaaDoorPFGivA
import Derived.Test.YtippkbjdifmdnaaDoorShelf
namespace Go.Proofs.YtippkbjdifmdnaaDoor.PF
open Go.RowKit Go.Proofs.YtippkbjdifmdnaaDoorW.PrintWords Go.Proofs.YtippkbjdifmdnaaDoorW.PrintLast Go.Proofs.YtippkbjdifmdnaaDoorW.PrintMore
set_option linter.unusedVariables false
set_option linter.unusedSimpArgs false

/-- The same numbers. -/
def slices_Clone_int64_int64.f (l : List Int) : Option (List Int) := if l.length * 8 ≤ 140737488355328 then some l else none

theorem slices_Clone_int64_int64.calls (A0 : Option Addr) (c0 : Nat) (l0 : List Int) (r : List Int) (w : World) (hr0 : Kd.C (Kd.int .i64) w A0 l0.length l0) (hc0 : l0.length ≤ c0) (h : slices_Clone_int64_int64.f l0 = some r) :
    Calls Tryd.prog 24 #[.slice A0 l0.length c0] w fun e w' => ∃ v0_ : Value, e = .returned (v0_) ∧ Kd.R (Kd.int .i64) 2 w' w.heap.size (fun _ => True) v0_ r ∧ Below w.heap.size w w' := by
  unfold slices_Clone_int64_int64.f at h
  split at h
  case isFalse => cases h
  rename_i hc
  obtain rfl := Option.some.inj h
  clear h
  by_cases hl : l0 = []
  · subst hl
    cases A0 with
    | none =>
      refine (Tryd.slices_Clone_int_nil 0 c0 w).mono ?_
      rintro e w' ⟨rfl, rfl⟩
      exact ⟨_, rfl, Kd.R_nil _ _ _ _ _, Below.refl _ _⟩
    | some a =>
      refine (Tryd.slices_Clone_int_zero a c0 w).mono ?_
      rintro e w' ⟨v, rfl, ho, hv, hb⟩
      exact ⟨_, rfl, Kd.R_of_own ho (fun _ _ => trivial), hb⟩
  · have hp : 0 < l0.length := List.length_pos_iff.mpr hl
    obtain ⟨ad, rfl, h0⟩ := Kd.at_int hr0 0 (Int.le_refl _) (by omega)
    obtain ⟨b, off, sp⟩ := ad
    obtain rfl : sp = none := by
      cases sp with
      | none => rfl
      | some s =>
        exfalso
        simp only [Int.toNat_zero, Addr.add, if_true, World.cell?] at h0
        split at h0 <;> simp at h0
    refine (Tryd.slices_Clone_int b off l0.length c0 l0 w (Nat.le_refl _) hc ?_).mono ?_
    · intro j hj
      obtain ⟨ad, e, hx⟩ := Kd.at_int hr0 (j : Int) (by omega) (by omega)
      cases e
      rw [Addr.add_lit] at hx
      exact hx
    · rintro e w' ⟨v, rfl, ho, hv, hb⟩
      rw [List.take_length] at ho
      exact ⟨_, rfl, Kd.R_of_own ho (fun _ _ => trivial), hb⟩

end Go.Proofs.YtippkbjdifmdnaaDoor.PF
