/- The factors of a length, of the reference. -/
import Derived.Test.YtlehnijikmbkjaaPFLibF
import Derived.Test.YtlehnijikmbkjaaPFx5
namespace Go.Proofs.Ytlehnijikmbkjaa.PF
open Go.RowKit Go.Proofs.YtlehnijikmbkjaaW.PrintWords Go.Proofs.YtlehnijikmbkjaaW.PrintLast Go.Proofs.YtlehnijikmbkjaaW.PrintMore
set_option linter.unusedVariables false
set_option linter.unusedSimpArgs false

theorem spec_factors_loop (w : ByteArray) (m : Nat) (hw : w.size ≤ 1000000) (hm : m ≤ 1000000) : ∀ (d k i : Nat) (acc : List ByteArray), i + d = plc w m → acc.length = i → d + i + 2 < k →
    spec_l01Factors.l0 (k + d) w (m : Int) (canon acc) (i : Int) = some (canon (acc ++ fcsFrom w m d i)) := by
  intro d
  induction d with
  | zero =>
    intro k i acc hd ha hk
    obtain ⟨k, rfl⟩ : ∃ n, k = n + 1 := ⟨k - 1, by omega⟩
    unfold plc at hd
    simp only [spec_l01Factors.l0]
    rw [wrap_id (by omega) (by omega), if_neg (by omega)]
    simp [fcsFrom]
  | succ d ih =>
    intro k i acc hd ha hk
    have hd' := hd
    unfold plc at hd'
    rw [show k + (d + 1) = (k + d) + 1 by omega]
    simp only [spec_l01Factors.l0]
    rw [wrap_id (x := (i : Int) + m) (by omega) (by omega), if_pos (by omega), if_pos (by omega), if_pos (by omega), wrap_id (x := (i : Int) + 1) (by omega) (by omega)]
    rw [put_ev acc _ (by omega) (k + d) (by omega)]
    try simp only [Option.bind_some]
    rw [show (i : Int) + 1 = ((i + 1 : Nat) : Int) from rfl, ih k (i + 1) _ (by omega) (by simp [ha]) (by omega)]
    rw [show ((i : Int) + (m : Int)).toNat = i + m by omega, Int.toNat_natCast]
    simp [fcsFrom]

theorem spec_factors_ev (w : ByteArray) (m : Nat) (hw : w.size ≤ 1000000) (hm : m ≤ 1000000) : Ev (fun k => spec_l01Factors.f k w (m : Int)) (fac w m) :=
  ⟨2 * w.size + 10, fun k hk => by
    have h := spec_factors_loop w m hw hm (plc w m) (k - plc w m) 0 [] (by omega) rfl (by unfold plc; omega)
    rw [show k - plc w m + plc w m = k by unfold plc; omega, canon_nil] at h
    exact h⟩

end Go.Proofs.Ytlehnijikmbkjaa.PF
