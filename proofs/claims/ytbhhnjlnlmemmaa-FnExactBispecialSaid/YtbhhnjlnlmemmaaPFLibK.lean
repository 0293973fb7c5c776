/- Is a word in a list of words? -/
import Derived.Test.YtbhhnjlnlmemmaaPFLibX
import Derived.Test.YtbhhnjlnlmemmaaPFx7
namespace Go.Proofs.Ytbhhnjlnlmemmaa.PF
open Go.RowKit Go.Proofs.YtbhhnjlnlmemmaaW.PrintWords Go.Proofs.YtbhhnjlnlmemmaaW.PrintLast Go.Proofs.YtbhhnjlnlmemmaaW.PrintMore
set_option linter.unusedVariables false
set_option linter.unusedSimpArgs false

theorem index_loop (l : List ByteArray) (x : ByteArray) (hl : l.length ≤ 4000000000000) : ∀ (d k i : Nat), i + d = l.length → d < k → ∃ r, slices_Index_string_string.l0 k l x (l.length : Int) (i : Int) = some r ∧ (r ≥ 0 ↔ x ∈ l.drop i) := by
  intro d
  induction d with
  | zero =>
    intro k i hd hk
    obtain ⟨k, rfl⟩ : ∃ n, k = n + 1 := ⟨k - 1, by omega⟩
    refine ⟨-1, ?_, ?_⟩
    · simp only [slices_Index_string_string.l0]; rw [if_neg (by omega)]
    · rw [List.drop_eq_nil_of_le (by omega)]; simp
  | succ d ih =>
    intro k i hd hk
    obtain ⟨k, rfl⟩ : ∃ n, k = n + 1 := ⟨k - 1, by omega⟩
    have hdr : l.drop i = rdOf ByteArray.empty l (i : Int) :: l.drop (i + 1) := by rw [rdOf_nat _ _ _ (by omega), List.drop_eq_getElem_cons (by omega)]
    by_cases c : x = rdOf ByteArray.empty l (i : Int)
    · refine ⟨i, ?_, ?_⟩
      · simp only [slices_Index_string_string.l0]
        rw [if_pos (by omega), if_pos (by omega), if_pos (by omega), if_pos (by rw [← c])]
      · rw [hdr, List.mem_cons]; exact ⟨fun _ => .inl c, fun _ => by omega⟩
    · obtain ⟨r, h1, h2⟩ := ih k (i + 1) (by omega) (by omega)
      refine ⟨r, ?_, ?_⟩
      · simp only [slices_Index_string_string.l0]
        rw [if_pos (by omega), if_pos (by omega), if_pos (by omega), if_neg (by rw [ba_toList_inj]; exact c), wrap_succ (by omega), h1]
      · rw [h2, hdr, List.mem_cons]; exact ⟨.inr, fun h => h.elim (fun e => absurd e c) id⟩

theorem contains_f (l : List ByteArray) (x : ByteArray) (hl : l.length ≤ 4000000000000) (k : Nat) (hk : l.length < k) : slices_Contains_string_string.f k l x = some (decide (x ∈ l)) := by
  obtain ⟨r, h1, h2⟩ := index_loop l x hl l.length k 0 (by omega) (by omega)
  unfold slices_Contains_string_string.f slices_Index_string_string.f
  rw [show (0 : Int) = ((0 : Nat) : Int) from rfl, h1]
  simp only [Option.bind_some, Option.some.injEq, decide_eq_decide]
  rw [List.drop_zero] at h2; exact h2

end Go.Proofs.Ytbhhnjlnlmemmaa.PF
