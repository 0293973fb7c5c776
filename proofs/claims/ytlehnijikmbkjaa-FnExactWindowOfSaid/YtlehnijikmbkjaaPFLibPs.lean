/- Prefixes, and the places of a word in a word. -/
import Derived.Test.YtlehnijikmbkjaaPFLibE
import Derived.Test.YtlehnijikmbkjaaPFx6
namespace Go.Proofs.Ytlehnijikmbkjaa.PF
open Go.RowKit Go.Proofs.YtlehnijikmbkjaaW.PrintWords Go.Proofs.YtlehnijikmbkjaaW.PrintLast Go.Proofs.YtlehnijikmbkjaaW.PrintMore
set_option linter.unusedVariables false
set_option linter.unusedSimpArgs false

theorem ba_toList_inj {a b : ByteArray} : (a.toList = b.toList) = (a = b) := propext ba_inj

/-- The places from i on. -/
def plcs (w v : ByteArray) : Nat → Nat → List Int
  | 0, _ => []
  | d + 1, i => if i + v.size ≤ w.size ∧ w.extract i (i + v.size) = v then (i : Int) :: plcs w v d (i + 1) else plcs w v d (i + 1)
def places (w v : ByteArray) : List Int := plcs w v (w.size + 1) 0

theorem plcs_nil (w v : ByteArray) : ∀ d i, w.size < i + v.size → plcs w v d i = []
  | 0, _, _ => rfl
  | d + 1, i, h => by rw [plcs, if_neg (fun c => by omega), plcs_nil w v d (i + 1) (by omega)]
theorem plcs_length (w v : ByteArray) : ∀ d i, (plcs w v d i).length ≤ d
  | 0, _ => Nat.le_refl _
  | d + 1, i => by
    have := plcs_length w v d (i + 1)
    rw [plcs]; split
    · rw [List.length_cons]; omega
    · omega
theorem plcs_mem (w v : ByteArray) (x : Int) : ∀ d i, x ∈ plcs w v d i → ∃ j : Nat, x = j ∧ i ≤ j ∧ j + v.size ≤ w.size ∧ w.extract j (j + v.size) = v
  | 0, _, h => by cases h
  | d + 1, i, h => by
    rw [plcs] at h
    split at h
    · rename_i c
      rcases List.mem_cons.1 h with e | h
      · exact ⟨i, e, Nat.le_refl _, c.1, c.2⟩
      · obtain ⟨j, h1, h2, h3⟩ := plcs_mem w v x d (i + 1) h
        exact ⟨j, h1, by omega, h3⟩
    · obtain ⟨j, h1, h2, h3⟩ := plcs_mem w v x d (i + 1) h
      exact ⟨j, h1, by omega, h3⟩
theorem plcs_sorted (w v : ByteArray) : ∀ d i, (plcs w v d i).Pairwise (· < ·)
  | 0, _ => List.Pairwise.nil
  | d + 1, i => by
    rw [plcs]; split
    · refine List.pairwise_cons.2 ⟨fun y hy => ?_, plcs_sorted w v d (i + 1)⟩
      obtain ⟨j, h1, h2, _⟩ := plcs_mem w v y d (i + 1) hy
      omega
    · exact plcs_sorted w v d (i + 1)

theorem places_length (w v : ByteArray) : (places w v).length ≤ w.size + 1 := plcs_length w v _ _

theorem spec_places_loop (w v : ByteArray) (hw : w.size ≤ 60) (hv : v.size ≤ 60) : ∀ (d k i : Nat) (acc : List Int), i + d = w.size + 1 → acc.length ≤ i → d < k →
    spec_l01Places.l0 k w v acc (i : Int) = some (acc ++ plcs w v d i) := by
  intro d
  induction d with
  | zero =>
    intro k i acc hd ha hk
    obtain ⟨k, rfl⟩ : ∃ n, k = n + 1 := ⟨k - 1, by omega⟩
    simp only [spec_l01Places.l0]
    rw [wrap_id (by omega) (by omega), if_neg (by omega)]
    simp [plcs]
  | succ d ih =>
    intro k i acc hd ha hk
    obtain ⟨k, rfl⟩ : ∃ n, k = n + 1 := ⟨k - 1, by omega⟩
    simp only [spec_l01Places.l0]
    rw [wrap_nat (n := i + v.size) (by omega) (by omega)]
    by_cases h : i + v.size ≤ w.size
    · rw [if_pos (by omega), if_pos (by omega), if_pos (by omega), wrap_succ (by omega), Int.toNat_natCast, Int.toNat_natCast]
      by_cases c : w.extract i (i + v.size) = v
      · rw [if_pos (by rw [c]), if_pos (by omega), ih k (i + 1) _ (by omega) (by simp; omega) (by omega), plcs, if_pos ⟨h, c⟩]
        simp
      · rw [if_neg (by rw [ba_toList_inj]; exact c), ih k (i + 1) _ (by omega) (by omega) (by omega), plcs, if_neg (fun e => c e.2)]
    · rw [if_neg (by omega), plcs_nil w v _ _ (by omega)]; simp

theorem spec_places_ev (w v : ByteArray) (hw : w.size ≤ 60) (hv : v.size ≤ 60) : Ev (fun k => spec_l01Places.f k w v) (places w v) :=
  ⟨w.size + 2, fun k hk => by
    have h := spec_places_loop w v hw hv (w.size + 1) k 0 [] (by omega) (by simp) (by omega)
    exact h⟩

end Go.Proofs.Ytlehnijikmbkjaa.PF
