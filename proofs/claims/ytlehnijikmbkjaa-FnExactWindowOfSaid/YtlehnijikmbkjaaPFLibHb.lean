/- Does a word stand in another one: the program's test and the reference's test. -/
import Derived.Test.YtlehnijikmbkjaaPFLibFs
import Derived.Test.YtlehnijikmbkjaaPFLibPs
import Derived.Test.YtlehnijikmbkjaaPFLibQ
import Derived.Test.YtlehnijikmbkjaaPFGivX
namespace Go.Proofs.Ytlehnijikmbkjaa.PF
open Go.RowKit Go.Proofs.YtlehnijikmbkjaaW.PrintWords Go.Proofs.YtlehnijikmbkjaaW.PrintLast Go.Proofs.YtlehnijikmbkjaaW.PrintMore
set_option linter.unusedVariables false
set_option linter.unusedSimpArgs false
set_option maxRecDepth 20000

/-- Does a word stand in another one? -/
def hasB (u x : ByteArray) : Bool := Lib.contains u.data.toList x.data.toList

theorem occ_iff (u x : ByteArray) (j : Nat) (hj : j ≤ u.size) : Lib.occAt u.data.toList x.data.toList j = true ↔ j + x.size ≤ u.size ∧ u.extract j (j + x.size) = x := by
  unfold Lib.occAt
  rw [List.isPrefixOf_iff_prefix, List.prefix_iff_eq_take]
  have hl : (u.data.toList.drop j).length = u.size - j := by rw [List.length_drop, Array.length_toList]; rfl
  have hv : x.data.toList.length = x.size := by rw [Array.length_toList]; rfl
  have key : (u.extract j (j + x.size)).data.toList = (u.data.toList.drop j).take x.data.toList.length := by
    rw [hv]
    simp only [ByteArray.data_extract, Array.toList_extract, List.extract_eq_take_drop]
    congr 1; omega
  constructor
  · intro h
    have hle : j + x.size ≤ u.size := by
      have := congrArg List.length h
      rw [List.length_take, hl, hv] at this; omega
    exact ⟨hle, ba_ext (by rw [key, ← h])⟩
  · rintro ⟨hle, h⟩
    rw [← key, h]

theorem hasB_iff (u x : ByteArray) : hasB u x = true ↔ ∃ j, j + x.size ≤ u.size ∧ u.extract j (j + x.size) = x := by
  unfold hasB Lib.contains
  rw [decide_eq_true_eq]
  have hl : u.data.toList.length = u.size := by rw [Array.length_toList]; rfl
  rcases Lib.index_spec u.data.toList x.data.toList with ⟨h1, h2⟩ | ⟨i, h1, h2, h3, _⟩
  · rw [h1]
    constructor
    · intro h; omega
    · rintro ⟨j, hj1, hj2⟩
      have := h2 j (by rw [hl]; omega)
      rw [(occ_iff u x j (by omega)).2 ⟨hj1, hj2⟩] at this; cases this
  · rw [h1]
    exact ⟨fun _ => ⟨i, (occ_iff u x i (by rw [← hl]; exact h2)).1 h3⟩, fun _ => by omega⟩

theorem plcs_of (w v : ByteArray) (j : Nat) (h : j + v.size ≤ w.size ∧ w.extract j (j + v.size) = v) : ∀ d i, i ≤ j → j < i + d → (j : Int) ∈ plcs w v d i
  | 0, i, h1, h2 => by omega
  | d + 1, i, h1, h2 => by
    rw [plcs]
    by_cases e : i = j
    · subst e; rw [if_pos h]; exact List.mem_cons_self
    · have := plcs_of w v j h d (i + 1) (by omega) (by omega)
      split
      · exact List.mem_cons_of_mem _ this
      · exact this
theorem places_pos (u x : ByteArray) : 0 < (places u x).length ↔ hasB u x = true := by
  rw [hasB_iff]
  constructor
  · intro h
    have hm := List.getElem_mem h
    obtain ⟨j, h1, h2, h3, h4⟩ := plcs_mem u x _ _ _ hm
    exact ⟨j, h3, h4⟩
  · rintro ⟨j, h1, h2⟩
    exact List.length_pos_of_mem (plcs_of u x j ⟨h1, h2⟩ (u.size + 1) 0 (Nat.zero_le _) (by omega))

end Go.Proofs.Ytlehnijikmbkjaa.PF
