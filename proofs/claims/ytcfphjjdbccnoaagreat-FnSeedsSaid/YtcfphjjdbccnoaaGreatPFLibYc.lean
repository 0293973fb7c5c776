/- Codes of words with covers. -/
import Derived.Test.YtcfphjjdbccnoaaGreatPFLibW
import Derived.Test.YtcfphjjdbccnoaaGreatPFGivF
import Derived.Test.YtcfphjjdbccnoaaGreatPFx3
namespace Go.Proofs.YtcfphjjdbccnoaaGreat.PF
open Go.RowKit Go.Proofs.YtcfphjjdbccnoaaGreatW.PrintWords Go.Proofs.YtcfphjjdbccnoaaGreatW.PrintLast Go.Proofs.YtcfphjjdbccnoaaGreatW.PrintMore
set_option linter.unusedVariables false
set_option linter.unusedSimpArgs false

/-! ### codes -/
theorem code_l1 (l : List ByteArray) (hl : l.length ≤ 1000) : ∀ (d k i : Nat), i + d = l.length → d < k → spec_l09Code.l1 k l (i : Int) = some (if filled (l.drop i) = true then 0 else 2) := by
 intro d
 induction d with
 | zero =>
  intro k i hd hk
  obtain ⟨k, rfl⟩ : ∃ n, k = n + 1 := ⟨k - 1, by omega⟩
  simp only [spec_l09Code.l1]
  rw [if_neg (by omega), List.drop_eq_nil_of_le (by omega)]; rfl
 | succ d ih =>
  intro k i hd hk
  obtain ⟨k, rfl⟩ : ∃ n, k = n + 1 := ⟨k - 1, by omega⟩
  simp only [spec_l09Code.l1]
  rw [if_pos (by omega), if_pos (by omega), rdOf_nat _ _ _ (by omega), wrap_succ (by omega), List.drop_eq_getElem_cons (l := l) (i := i) (by omega)]
  by_cases c : l[i].toList = ([] : List UInt8)
  ·
   have h : filled (l[i] :: l.drop (i + 1)) = false := by show (l[i].toList != ([] : List UInt8) && filled (l.drop (i + 1))) = false; rw [c]; rfl
   rw [if_pos c, h]; rfl
  ·
   have h : filled (l[i] :: l.drop (i + 1)) = filled (l.drop (i + 1)) := by show (l[i].toList != ([] : List UInt8) && filled (l.drop (i + 1))) = _; rw [bne_iff_ne.2 c, Bool.true_and]
   rw [if_neg c, ih k (i + 1) (by omega) (by omega), h]
theorem code_l0 (l : List ByteArray) (hl : l.length ≤ 1000) (K : Nat) (hK : ∀ u ∈ l, ∀ k, K ≤ k → spec_l01Is.f k u = some (isW u)) : ∀ (d k i : Nat), i + d = l.length → d + l.length + K + 1 < k → spec_l09Code.l0 k l (i : Int) = some (if (l.drop i).all isW = true then (if filled l = true then 0 else 2) else 1) := by
 intro d
 induction d with
 | zero =>
  intro k i hd hk
  obtain ⟨k, rfl⟩ : ∃ n, k = n + 1 := ⟨k - 1, by omega⟩
  simp only [spec_l09Code.l0]
  rw [if_neg (by omega), List.drop_eq_nil_of_le (by omega), show (0 : Int) = ((0 : Nat) : Int) from rfl, code_l1 l hl l.length k 0 (by omega) (by omega)]
  simp
 | succ d ih =>
  intro k i hd hk
  obtain ⟨k, rfl⟩ : ∃ n, k = n + 1 := ⟨k - 1, by omega⟩
  simp only [spec_l09Code.l0]
  rw [if_pos (by omega), if_pos (by omega), rdOf_nat _ _ _ (by omega), wrap_succ (by omega), List.drop_eq_getElem_cons (l := l) (i := i) (by omega), hK _ (List.getElem_mem _) k (by omega)]
  simp only [Option.bind_some, List.all_cons]
  by_cases c : isW l[i] = true
  ·
   rw [if_pos c, ih k (i + 1) (by omega) (by omega)]; simp [c]
  ·
   rw [if_neg c]; simp [c]
theorem l01Is_f (a : ByteArray) (ha : a.size ≤ 1048576) (k : Nat) (hk : 1048577 ≤ k) : spec_l01Is.f k a = some (isW a) := by
 have h := is_loop a (by omega) a.size k 0 (by omega) (by omega)
 exact h
theorem l09Code_ev (w : ByteArray) (l : List ByteArray) (hw : w.size ≤ 1048576) (hl : l.length ≤ 1000) (hs : ∀ u ∈ l, u.size ≤ 1048576) : Ev (fun k => spec_l09Code.f k w l) (codeW (filled l) (w :: l)) := by
 unfold spec_l09Code.f
 refine ev_bnd ⟨1048577, fun k hk => l01Is_f w hw k hk⟩ ?_
 by_cases c : isW w = true
 ·
  simp only [c, if_true]
  refine ⟨1048577 + 3000, fun k hk => ?_⟩
  have h := code_l0 l hl 1048577 (fun u hu k hk => l01Is_f u (hs u hu) k hk) l.length k 0 (by omega) (by omega)
  show spec_l09Code.l0 k l 0 = _
  rw [show (0 : Int) = ((0 : Nat) : Int) from rfl, h]
  simp [codeW, c]
 ·
  simp only [c, if_false]
  refine ev_of ?_
  simp [codeW, c]
theorem coverCode_f (k : Nat) (b : Bool) (w : ByteArray) (l : List ByteArray) (hl : l.length ≤ 1000) : impl_coverCode.f k b w l = some (codeW (b && filled l) (w :: l)) := by
 unfold impl_coverCode.f
 rw [if_pos (by omega), wordCode_f]

end Go.Proofs.YtcfphjjdbccnoaaGreat.PF
