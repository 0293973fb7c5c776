/- Lists of numbers: equal, marked and held. -/
import Derived.Test.YtcelidihilpmjaaPFLibE
import Derived.Test.YtcelidihilpmjaaPFx23
import Derived.Test.YtcelidihilpmjaaPFx23
import Derived.Test.YtcelidihilpmjaaPFx23
namespace Go.Proofs.Ytcelidihilpmjaa.PF
open Go.RowKit Go.Proofs.YtcelidihilpmjaaW.PrintWords Go.Proofs.YtcelidihilpmjaaW.PrintLast Go.Proofs.YtcelidihilpmjaaW.PrintMore
set_option linter.unusedVariables false
set_option linter.unusedSimpArgs false

theorem eqI_loop (l : List Int) (hl : l.length ≤ 4000000000000) : ∀ (d k i : Nat), i + d = l.length → d < k → laws_eqInt64S.l0 k l l (i : Int) = some true := by
  intro d
  induction d with
  | zero =>
    intro k i hd hk
    obtain ⟨k, rfl⟩ : ∃ m, k = m + 1 := ⟨k - 1, by omega⟩
    simp only [laws_eqInt64S.l0]; rw [if_neg (by omega)]
  | succ d ih =>
    intro k i hd hk
    obtain ⟨k, rfl⟩ : ∃ m, k = m + 1 := ⟨k - 1, by omega⟩
    simp only [laws_eqInt64S.l0]
    rw [if_pos (by omega), if_pos (by omega), if_pos (by omega), if_pos trivial, wrap_succ (by omega), ih k (i + 1) (by omega) (by omega)]

theorem eqI_ev (l : List Int) (hl : l.length ≤ 4000000000000) : Ev (fun k => laws_eqInt64S.f k l l) true :=
  ⟨l.length + 1, fun k hk => by
    have h := eqI_loop l hl l.length k 0 (by omega) (by omega)
    simp only [laws_eqInt64S.f, if_true]; exact h⟩

theorem markI_loop : ∀ (d k i : Nat) (l : List Int), i + d = l.length → l.length ≤ 4000000000000 → d < k → (∀ j, j < i → rd l (j : Int) = (j : Int) + 1) →
    ∃ r, (∀ k, d < k → laws_markInt64S.l0 k l ((i : Int) + 1) (i : Int) = some ((l.length : Int) + 1, r)) ∧ r.length = l.length ∧ (∀ j, j < l.length → rd r (j : Int) = (j : Int) + 1) := by
  intro d
  induction d with
  | zero =>
    intro k i l hd hl hk hj
    refine ⟨l, fun k hk => ?_, rfl, fun j h => hj j (by omega)⟩
    obtain ⟨k, rfl⟩ : ∃ m, k = m + 1 := ⟨k - 1, by omega⟩
    simp only [laws_markInt64S.l0]; rw [if_neg (by omega), show i = l.length by omega]
  | succ d ih =>
    intro k i l hd hl hk hj
    obtain ⟨r, h1, h2, h3⟩ := ih (d + 1) (i + 1) (l.set i ((i : Int) + 1)) (by rw [List.length_set]; omega) (by rw [List.length_set]; exact hl) (by omega) (fun j h => by
      rw [rd_nat _ _ (by rw [List.length_set]; omega), List.getElem_set]
      by_cases e : i = j
      · rw [if_pos e, e]
      · rw [if_neg e, ← rd_nat _ _ (by omega)]; exact hj j (by omega))
    rw [List.length_set] at h1 h2 h3
    refine ⟨r, fun k hk => ?_, h2, h3⟩
    obtain ⟨k, rfl⟩ : ∃ m, k = m + 1 := ⟨k - 1, by omega⟩
    simp only [laws_markInt64S.l0]
    rw [if_pos (by omega), if_pos (by omega), wrap_succ (i := i) (by omega), show wrap64 ((i : Int) + 1 + 1) = ((i + 1 : Nat) : Int) + 1 by rw [wrap_id (by omega) (by omega)]; omega]
    rw [Int.toNat_natCast, ← h1 k (by omega)]

theorem heldI_loop (r : List Int) (hl : r.length ≤ 4000000000000) (h : ∀ j, j < r.length → rd r (j : Int) = (j : Int) + 1) : ∀ (d k i : Nat), i + d = r.length → d < k → laws_heldInt64S.l0 k r ((i : Int) + 1) (i : Int) = some ((r.length : Int) + 1) := by
  intro d
  induction d with
  | zero =>
    intro k i hd hk
    obtain ⟨k, rfl⟩ : ∃ m, k = m + 1 := ⟨k - 1, by omega⟩
    simp only [laws_heldInt64S.l0]; rw [if_neg (by omega), show i = r.length by omega]
  | succ d ih =>
    intro k i hd hk
    obtain ⟨k, rfl⟩ : ∃ m, k = m + 1 := ⟨k - 1, by omega⟩
    simp only [laws_heldInt64S.l0]
    rw [if_pos (by omega), if_pos (by omega), if_pos (h i (by omega)), wrap_succ (i := i) (by omega), show wrap64 ((i : Int) + 1 + 1) = ((i + 1 : Nat) : Int) + 1 by rw [wrap_id (by omega) (by omega)]; omega]
    exact ih k (i + 1) (by omega) (by omega)

/-- A marked list is held, as long as nothing writes it. -/
theorem markI_ev (l : List Int) (hl : l.length ≤ 4000000000000) : ∃ r, Ev (fun k => laws_markInt64S.f k l 1) ((l.length : Int) + 1, r) ∧ Ev (fun k => laws_heldInt64S.f k r 1) ((l.length : Int) + 1) := by
  obtain ⟨r, h1, h2, h3⟩ := markI_loop l.length (l.length + 1) 0 l (by omega) hl (by omega) (fun j h => by omega)
  refine ⟨r, ⟨l.length + 1, fun k hk => ?_⟩, ⟨l.length + 1, fun k hk => ?_⟩⟩
  · have := h1 k (by omega)
    unfold laws_markInt64S.f; exact this
  · have := heldI_loop r (by omega) (fun j h => h3 j (by omega)) r.length k 0 (by omega) (by omega)
    rw [h2] at this
    unfold laws_heldInt64S.f; exact this

end Go.Proofs.Ytcelidihilpmjaa.PF
