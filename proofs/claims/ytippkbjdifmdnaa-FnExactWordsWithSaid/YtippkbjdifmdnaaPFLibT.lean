/- Lists of numbers: equal, copied. -/
import Derived.Test.YtippkbjdifmdnaaPFLibE
import Derived.Test.YtippkbjdifmdnaaPFx2
import Derived.Test.YtippkbjdifmdnaaPFx1
namespace Go.Proofs.Ytippkbjdifmdnaa.PF
open Go.RowKit Go.Proofs.YtippkbjdifmdnaaW.PrintWords Go.Proofs.YtippkbjdifmdnaaW.PrintLast Go.Proofs.YtippkbjdifmdnaaW.PrintMore
set_option linter.unusedVariables false
set_option linter.unusedSimpArgs false

theorem eqI_loop (l : List Int) (hl : l.length ≤ 4000000000000) : ∀ (d k i : Nat), i + d = l.length → d < k → laws_eqInt64S.l0 k l l (i : Int) = some true := by
  intro d
  induction d with
  | zero =>
    intro k i hd hk
    obtain ⟨k, rfl⟩ : ∃ m, k = m + 1 := ⟨k - 1, by omega⟩
    simp only [laws_eqInt64S.l0]; rw [if_neg (by omega)]
  | succ d ih =>
    intro k i hd hk
    obtain ⟨k, rfl⟩ : ∃ m, k = m + 1 := ⟨k - 1, by omega⟩
    simp only [laws_eqInt64S.l0]
    rw [if_pos (by omega), if_pos (by omega), if_pos (by omega), if_pos trivial, wrap_succ (by omega), ih k (i + 1) (by omega) (by omega)]

theorem eqI_ev (l : List Int) (hl : l.length ≤ 4000000000000) : Ev (fun k => laws_eqInt64S.f k l l) true :=
  ⟨l.length + 1, fun k hk => by
    have h := eqI_loop l hl l.length k 0 (by omega) (by omega)
    simp only [laws_eqInt64S.f, if_true]; exact h⟩

theorem toI_loop (l : List Int) (hl : l.length ≤ 30000000000000) : ∀ (d k i : Nat) (r : List Int), i + d = l.length → d < k → r.length = l.length → r.take i = l.take i → laws_toInt64S.l0 k l r (i : Int) = some l := by
  intro d
  induction d with
  | zero =>
    intro k i r hd hk hr ht
    obtain ⟨k, rfl⟩ : ∃ m, k = m + 1 := ⟨k - 1, by omega⟩
    simp only [laws_toInt64S.l0]
    rw [if_neg (by omega)]
    rw [List.take_of_length_le (by omega), List.take_of_length_le (by omega)] at ht
    rw [ht]
  | succ d ih =>
    intro k i r hd hk hr ht
    obtain ⟨k, rfl⟩ : ∃ m, k = m + 1 := ⟨k - 1, by omega⟩
    simp only [laws_toInt64S.l0]
    rw [if_pos (by omega), if_pos (by omega), if_pos (by omega), wrap_succ (by omega), Int.toNat_natCast]
    refine ih k (i + 1) _ (by omega) (by omega) (by rw [List.length_set]; exact hr) ?_
    rw [rd_nat l i (by omega)]
    have hi : i < r.length := by omega
    have hi2 : i < l.length := by omega
    rw [List.take_succ_eq_append_getElem (by rw [List.length_set]; exact hi), List.take_succ_eq_append_getElem hi2, List.take_set, List.getElem_set_self]
    rw [List.set_eq_of_length_le (by rw [List.length_take]; omega), ht]

theorem toI_ev (l : List Int) (hl : l.length ≤ 30000000000000) : Ev (fun k => laws_toInt64S.f k l) l :=
  ⟨l.length + 1, fun k hk => by
    have h := toI_loop l hl l.length k 0 (List.replicate l.length 0) (by omega) (by omega) (by simp) rfl
    simp only [laws_toInt64S.f]
    rw [if_pos (by omega), if_pos (by rw [Int.toNat_natCast]; omega), Int.toNat_natCast]; exact h⟩

end Go.Proofs.Ytippkbjdifmdnaa.PF
