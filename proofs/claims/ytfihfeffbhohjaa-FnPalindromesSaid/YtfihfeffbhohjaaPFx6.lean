-- an own text, written by a program of this place (wip/tools)
import Derived.Test.YtfihfeffbhohjaaPFx0
import Derived.Test.YtfihfeffbhohjaaPFGivR
import Derived.Test.YtfihfeffbhohjaaPFx2
import Derived.Test.YtfihfeffbhohjaaPFGivA
import Derived.Test.YtfihfeffbhohjaaPFx9
namespace Go.Proofs.Ytfihfeffbhohjaa.PF
open Go.RowKit Go.Proofs.YtfihfeffbhohjaaW.PrintWords Go.Proofs.YtfihfeffbhohjaaW.PrintLast Go.Proofs.YtfihfeffbhohjaaW.PrintMore
attribute [local go_sem] max2_int min2_int max_two min_two max_three min_three max_four min_four   -- for this text's walks alone
set_option linter.unusedVariables false
set_option linter.unusedSimpArgs false

/-! ### impl_isPalindrome: function 29 -/
def impl_isPalindrome.f (a0 : ByteArray) : Option (Bool) := (impl_reversed.f a0).bind fun t314 => (some (a0.toList == t314.toList))
set_option maxHeartbeats 8000000 in
set_option maxRecDepth 100000 in
theorem impl_isPalindrome.calls (a0 : ByteArray) (r : Bool) (w : World) (h : impl_isPalindrome.f a0 = some r) :
  Calls Try.prog 29 #[.string a0] w fun e w' => e = .returned (.bool r) ∧ Below w.heap.size w w' := by
 have HB := Aside0.mk (Below.refl w.heap.size w)
 have H : ((impl_reversed.f a0).bind fun t314 => (some (a0.toList == t314.toList))) = some r := h
 clear h
 replace H := qN H
 obtain ⟨t314, A2, H⟩ := H
 try dsimp only at H
 obtain rfl := Option.some.inj H
 go_enter Try.func29, Try.ntmps29
 go_wp2_with (first | ((with_reducible refine gate_callee (f := 50) rfl ?_); refine goesL_ (some 5) rfl rfl Try.func50 (by kernel_rfl) rfl #[.string a0] rfl qV ?_; (with_reducible refine (impl_reversed.calls a0 t314 _ A2.out).mono ?_); rintro e w3 ⟨rfl, hb⟩; refine ⟨_, rfl, ?_⟩; replace HB := Aside0.mk (below_step (qB HB.out) hb)))
 go_ret
 exact ⟨qE, qB HB.out⟩

end Go.Proofs.Ytfihfeffbhohjaa.PF

namespace Go.Proofs.Ytfihfeffbhohjaa.PF
open Go.RowKit Go.Proofs.YtfihfeffbhohjaaW.PrintWords Go.Proofs.YtfihfeffbhohjaaW.PrintLast Go.Proofs.YtfihfeffbhohjaaW.PrintMore
attribute [local go_sem] max2_int min2_int max_two min_two max_three min_three max_four min_four   -- for this text's walks alone
set_option linter.unusedVariables false
set_option linter.unusedSimpArgs false

/-! ### impl_palindromes_1: function 48 -/
def impl_palindromes_1.f (a0 : ByteArray) : Option (Bool) := (impl_isPalindrome.f a0).bind fun t315 => (some (!t315))
set_option maxHeartbeats 8000000 in
set_option maxRecDepth 100000 in
theorem impl_palindromes_1.calls (a0 : ByteArray) (r : Bool) (w : World) (h : impl_palindromes_1.f a0 = some r) :
  Calls Try.prog 48 #[.string a0] w fun e w' => e = .returned (.bool r) ∧ Below w.heap.size w w' := by
 have HB := Aside0.mk (Below.refl w.heap.size w)
 have H : ((impl_isPalindrome.f a0).bind fun t315 => (some (!t315))) = some r := h
 clear h
 replace H := qN H
 obtain ⟨t315, A2, H⟩ := H
 try dsimp only at H
 obtain rfl := Option.some.inj H
 go_enter Try.func48, Try.ntmps48
 go_wp2_with (first | ((with_reducible refine gate_callee (f := 29) rfl ?_); refine goesL_ (some 4) rfl rfl Try.func29 (by kernel_rfl) rfl #[.string a0] rfl qV ?_; (with_reducible refine (impl_isPalindrome.calls a0 t315 _ A2.out).mono ?_); rintro e w3 ⟨rfl, hb⟩; refine ⟨_, rfl, ?_⟩; replace HB := Aside0.mk (below_step (qB HB.out) hb)))
 go_ret
 exact ⟨qE, qB HB.out⟩

end Go.Proofs.Ytfihfeffbhohjaa.PF

namespace Go.Proofs.Ytfihfeffbhohjaa.PF
open Go.RowKit Go.Proofs.YtfihfeffbhohjaaW.PrintWords Go.Proofs.YtfihfeffbhohjaaW.PrintLast Go.Proofs.YtfihfeffbhohjaaW.PrintMore
attribute [local go_sem] max2_int min2_int max_two min_two max_three min_three max_four min_four   -- for this text's walks alone
set_option linter.unusedVariables false
set_option linter.unusedSimpArgs false

/-! ### impl_CountPalindromes: function 9 -/
mutual
def impl_CountPalindromes.l0 : Nat → ByteArray → Int → Int → Int → Option (Int × Int)
 | 0, _, _, _, _ => none
 | k + 1, x0, x5, x15, x16 => if x16 < x15 then (impl_CountPalindromes.l1 k x0 x5 x16 (wrap64 (x16 + 1)) x15 x16) else (some (x5, 0))
def impl_CountPalindromes.l1 : Nat → ByteArray → Int → Int → Int → Int → Int → Option (Int × Int)
 | 0, _, _, _, _, _, _ => none
 | k + 1, x0, x5, x6, x7, x15, x16 => if x7 ≤ (x0.size : Int) then (if 0 ≤ x6 then (if x6 ≤ x7 then ((impl_isPalindrome.f (x0.extract (x6 : Int).toNat (x7 : Int).toNat)).bind fun t397 => (if t397 = true then (impl_CountPalindromes.l1 k x0 (wrap64 (x5 + 1)) x6 (wrap64 (x7 + 1)) x15 x16) else (impl_CountPalindromes.l1 k x0 x5 x6 (wrap64 (x7 + 1)) x15 x16))) else (none)) else (none)) else (impl_CountPalindromes.l0 k x0 x5 x15 (wrap64 (x16 + 1)))
end
def impl_CountPalindromes.f (k : Nat) (a0 : ByteArray) : Option (Int × Int) := (impl_wordCode.f k (impl_always.f) (([a0] : List ByteArray))).bind fun t396 => (if t396 = 0 then (impl_CountPalindromes.l0 k a0 0 (a0.size : Int) 0) else (some (0, t396)))
theorem impl_CountPalindromes.mono_l : ∀ k, (∀ y0 y1 y2 y3, LeO (impl_CountPalindromes.l0 k y0 y1 y2 y3) (impl_CountPalindromes.l0 (k + 1) y0 y1 y2 y3)) ∧ (∀ y0 y1 y2 y3 y4 y5, LeO (impl_CountPalindromes.l1 k y0 y1 y2 y3 y4 y5) (impl_CountPalindromes.l1 (k + 1) y0 y1 y2 y3 y4 y5))
 | 0 => ⟨fun _ _ _ _ r h => by simp [impl_CountPalindromes.l0] at h, fun _ _ _ _ _ _ r h => by simp [impl_CountPalindromes.l1] at h⟩
 | k + 1 => by
  obtain ⟨ih0, ih1⟩ := impl_CountPalindromes.mono_l k
  refine ⟨?_, ?_⟩
  all_goals intros
  all_goals first | unfold impl_CountPalindromes.l0 | unfold impl_CountPalindromes.l1
  all_goals repeat' first
  | (with_reducible exact ih0 _ _ _ _)
  | (with_reducible exact ih1 _ _ _ _ _ _)
  | (with_reducible exact LeO.refl _)
  | (with_reducible exact LeO.none _)
  | (with_reducible refine LeO.ite ?_ ?_)
  | (with_reducible refine LeO.bind ?_ (fun _ => ?_))
  | refine impl_wordCode.monoP ?_
theorem impl_CountPalindromes.mono : ∀ a0 k, LeO (impl_CountPalindromes.f k a0) (impl_CountPalindromes.f (k + 1) a0) := by
 intro a0 k
 obtain ⟨ih0, ih1⟩ := impl_CountPalindromes.mono_l k
 unfold impl_CountPalindromes.f
 repeat' first
   | (with_reducible exact ih0 _ _ _ _)
   | (with_reducible exact ih1 _ _ _ _ _ _)
   | (with_reducible exact LeO.refl _)
   | (with_reducible exact LeO.none _)
   | (with_reducible refine LeO.ite ?_ ?_)
   | (with_reducible refine LeO.bind ?_ (fun _ => ?_))
   | refine impl_wordCode.monoP ?_
set_option maxHeartbeats 8000000 in
set_option maxRecDepth 100000 in
theorem impl_CountPalindromes.calls (k : Nat) (a0 : ByteArray) (r1 : Int) (r2 : Int) (w : World) (h : impl_CountPalindromes.f k a0 = some (r1, r2)) :
  Calls Try.prog 9 #[.string a0] w fun e w' => e = .returned (.tuple #[.int .i64 r1, .int .i64 r2]) ∧ Below w.heap.size w w' := by
 have HB := Aside0.mk (Below.refl w.heap.size w)
 have H : ((impl_wordCode.f k (impl_always.f) (([a0] : List ByteArray))).bind fun t396 => (if t396 = 0 then (impl_CountPalindromes.l0 k a0 0 (a0.size : Int) 0) else (some (0, t396)))) = some (r1, r2) := h
 clear h
 obtain ⟨y393, hy393⟩ : ∃ y_ : List ByteArray, y_ = (([a0] : List ByteArray)) := ⟨_, rfl⟩
 replace H : ((impl_wordCode.f k (impl_always.f) y393).bind fun t396 => (if t396 = 0 then (impl_CountPalindromes.l0 k a0 0 (a0.size : Int) 0) else (some (0, t396)))) = some (r1, r2) := by first | (rw [hy393]; with_reducible exact H) | (have H2_ := (Option.bind_some _ _).symm.trans H; rw [hy393]; with_reducible exact H2_) | (have H2_ := (Option.bind_some _ _).symm.trans H; with_reducible exact H2_) | with_reducible exact H | (rw [hy393]; exact H) | exact H
 have Ny393 := Aside0.mk hy393
 clear hy393
 replace H := qN H
 obtain ⟨t396, A2, H⟩ := H
 try dsimp only at H
 by_cases c3 : t396 = 0
 rotate_left
 ·
  rw [if_neg c3] at H
  obtain ⟨c3b0, c3b1⟩ := zF c3
  simp only [Option.some.injEq, Prod.mk.injEq] at H
  obtain ⟨rfl, rfl⟩ := H
  go_enter Try.func9, Try.ntmps9
  go_wp2_with (first | ((with_reducible refine gate_dst (N := 9) rfl ?_); refine Kd.R_lit Kd.string _ 9 ?hg (N := 9) ?hd (xs := ([a0] : List ByteArray)) (inner := [.string a0]) (ok := fun _ => True) (okp := fun _ => True) ?hr ?hp (fun _ hk => hk) trivial (Below.refl _ _) (Nat.le_refl _) (by simp) ?_; (case hd => rfl); (case hg => rfl); (case hr => first | (go_simp; done) | (go_simp; rfl)); (case hp => exact (Reps.one (show Kd.M Kd.string _ _ _ a0 [.string a0] from rfl) (Reps.none _ _))); intro v394 w17 ho18 hb hg_ hnew_; clear hg_ hnew_; (first | rw [← Ny393.out] at ho18 | (simp only [Int.reduceToNat] at ho18; rw [← Ny393.out] at ho18)); have HO395 := Aside0.mk (Kd.R_lower ho18 (below_size (qB HB.out))); replace HB := Aside0.mk (below_step (qB HB.out) hb); clear hb ho18; obtain ⟨Ao19, co19, eo19⟩ := Kd.R_slice HO395.out; subst eo19) | ((with_reducible refine gate_callee (f := 24) rfl ?_); refine goesL_ (some 10) rfl rfl Try.func24 (by kernel_rfl) rfl #[.func (.func 25) #[] #[], .slice Ao19 y393.length co19] rfl qV ?_; (with_reducible refine (impl_wordCode.calls k (impl_always.f) 25 #[] _ _ y393 t396 _ ?side1 ?side2 ?side3 A2.out).mono ?_); (case side1 => exact qC (Kd.R_reads' HO395.out).2.2); (case side2 => exact (Kd.R_reads' HO395.out).2.1); (case side3 => exact ⟨Go.Proofs.enters_of Try.func25 (by kernel_rfl) rfl, fun W_ hW_ r_ h_ => (impl_always.calls  r_ W_  h_).mono (fun e_ W2_ h2_ => ⟨h2_.1, by first | exact h2_.2 | exact h2_.2.below⟩)⟩); rintro e w20 ⟨rfl, hb⟩; refine ⟨_, rfl, ?_⟩; replace HO395 := Aside0.mk (Kd.R_below (qR HO395.out) hb); replace HB := Aside0.mk (below_step (qB HB.out) hb)))
  go_ret2
  exact ⟨qE, qB HB.out⟩

 rw [if_pos c3] at H
 obtain ⟨c3b0, c3b1⟩ := zT c3
 clear c3
 have H' := Aside0.mk H
 clear H
 go_enter Try.func9, Try.ntmps9
 go_wp2_with (first | ((with_reducible refine gate_dst (N := 9) rfl ?_); refine Kd.R_lit Kd.string _ 9 ?hg (N := 9) ?hd (xs := ([a0] : List ByteArray)) (inner := [.string a0]) (ok := fun _ => True) (okp := fun _ => True) ?hr ?hp (fun _ hk => hk) trivial (Below.refl _ _) (Nat.le_refl _) (by simp) ?_; (case hd => rfl); (case hg => rfl); (case hr => first | (go_simp; done) | (go_simp; rfl)); (case hp => exact (Reps.one (show Kd.M Kd.string _ _ _ a0 [.string a0] from rfl) (Reps.none _ _))); intro v394 w4 ho5 hb hg_ hnew_; clear hg_ hnew_; (first | rw [← Ny393.out] at ho5 | (simp only [Int.reduceToNat] at ho5; rw [← Ny393.out] at ho5)); have HO395 := Aside0.mk (Kd.R_lower ho5 (below_size (qB HB.out))); replace HB := Aside0.mk (below_step (qB HB.out) hb); clear hb ho5; obtain ⟨Ao6, co6, eo6⟩ := Kd.R_slice HO395.out; subst eo6) | ((with_reducible refine gate_callee (f := 24) rfl ?_); refine goesL_ (some 10) rfl rfl Try.func24 (by kernel_rfl) rfl #[.func (.func 25) #[] #[], .slice Ao6 y393.length co6] rfl qV ?_; (with_reducible refine (impl_wordCode.calls k (impl_always.f) 25 #[] _ _ y393 t396 _ ?side1 ?side2 ?side3 A2.out).mono ?_); (case side1 => exact qC (Kd.R_reads' HO395.out).2.2); (case side2 => exact (Kd.R_reads' HO395.out).2.1); (case side3 => exact ⟨Go.Proofs.enters_of Try.func25 (by kernel_rfl) rfl, fun W_ hW_ r_ h_ => (impl_always.calls  r_ W_  h_).mono (fun e_ W2_ h2_ => ⟨h2_.1, by first | exact h2_.2 | exact h2_.2.below⟩)⟩); rintro e w7 ⟨rfl, hb⟩; refine ⟨_, rfl, ?_⟩; replace HO395 := Aside0.mk (Kd.R_below (qR HO395.out) hb); replace HB := Aside0.mk (below_step (qB HB.out) hb)))
 go_loopg [5, 16] k (fun kq v5 v16 w' => ∃ (x5_1 : Int) (x16_1 : Int), v5 = .int .i64 x5_1 ∧ v16 = .int .i64 x16_1 ∧ Aside0 (impl_CountPalindromes.l0 kq a0 x5_1 (a0.size : Int) x16_1 = some (r1, r2)) ∧ Aside0 (kq ≤ k) ∧ Aside0 (Below w.heap.size w w'))
 case atStart => exact ⟨(0), (0), qF, qF, H', ⟨Nat.le_refl _⟩, ⟨qB HB.out⟩⟩
 case round =>
  clear H'
  obtain ⟨x5_1, x16_1, rfl, rfl, HA, HK1, HB⟩ := hrel
  cases gk with
  | zero => exact absurd HA.out (by simp [impl_CountPalindromes.l0])
  | succ k1 =>
   have H := HA.out
   clear HA
   simp only [impl_CountPalindromes.l0] at H
   by_cases c8 : x16_1 < (a0.size : Int)
   rotate_left
   ·
    rw [if_neg c8] at H
    have c8b0 : decide (x16_1 < (a0.size : Int)) = false := decide_eq_false c8
    clear c8
    simp only [Option.some.injEq, Prod.mk.injEq] at H
    obtain ⟨rfl, rfl⟩ := H
    go_wp2
    go_ret2
    exact ⟨qE, qB HB.out⟩
   rw [if_pos c8] at H
   have c8b0 : decide (x16_1 < (a0.size : Int)) = true := decide_eq_true c8
   clear c8
   have H' := Aside0.mk H
   clear H
   go_wp2
   go_loopg [5, 7] k1 (fun kq v5 v7 w' => ∃ (x5_2 : Int) (x7_2 : Int), v5 = .int .i64 x5_2 ∧ v7 = .int .i64 x7_2 ∧ Aside0 (impl_CountPalindromes.l1 kq a0 x5_2 x16_1 x7_2 (a0.size : Int) x16_1 = some (r1, r2)) ∧ Aside0 (kq ≤ k1) ∧ Aside0 (Below w.heap.size w w'))
   case atStart => exact ⟨(x5_1), (wrap64 (x16_1 + 1)), qF, qF, H', ⟨Nat.le_refl _⟩, ⟨qB HB.out⟩⟩
   case round =>
    clear H'
    obtain ⟨x5_2, x7_2, rfl, rfl, HA, HK2, HB⟩ := hrel
    cases gk with
    | zero => exact absurd HA.out (by simp [impl_CountPalindromes.l1])
    | succ k2 =>
     have H := HA.out
     clear HA
     simp only [impl_CountPalindromes.l1] at H
     by_cases c9 : x7_2 ≤ (a0.size : Int)
     rotate_left
     ·
      rw [if_neg c9] at H
      have c9b0 : decide (x7_2 ≤ (a0.size : Int)) = false := decide_eq_false c9
      clear c9
      have H' := Aside0.mk H
      clear H
      go_wp2
      go_roundg k2
      case measure => have := HK1.out; have := HK2.out; omega
      case rel => exact ⟨(x5_2), (wrap64 (x16_1 + 1)), qF, qF, H', ⟨by have := HK1.out; have := HK2.out; omega⟩, ⟨qB HB.out⟩⟩
     rw [if_pos c9] at H
     have c9b0 : decide (x7_2 ≤ (a0.size : Int)) = true := decide_eq_true c9
     clear c9
     by_cases c10 : 0 ≤ x16_1
     rotate_left
     ·
      rw [if_neg c10] at H
      exact absurd H (by simp)
     rw [if_pos c10] at H
     have c10b0 := eq_true c10
     have c10b1 : decide (0 ≤ x16_1) = true := decide_eq_true c10
     clear c10
     by_cases c11 : x16_1 ≤ x7_2
     rotate_left
     ·
      rw [if_neg c11] at H
      exact absurd H (by simp)
     rw [if_pos c11] at H
     have c11b0 := eq_true c11
     have c11b1 : decide (x16_1 ≤ x7_2) = true := decide_eq_true c11
     clear c11
     have c12b0 := eq_true (of_decide_eq_true (by first | (with_reducible assumption) | assumption) : x7_2 ≤ (a0.size : Int))
     replace H := qN H
     obtain ⟨t397, A13, H⟩ := H
     try dsimp only at H
     by_cases c14 : t397 = true
     ·
      subst c14
      rw [if_pos rfl] at H
      have H' := Aside0.mk H
      clear H
      go_wp2_with (first | ((with_reducible refine gate_callee (f := 29) rfl ?_); refine goesL_ (some 31) rfl rfl Try.func29 (by kernel_rfl) rfl #[.string (a0.extract (x16_1 : Int).toNat (x7_2 : Int).toNat)] rfl qV ?_; (with_reducible refine (impl_isPalindrome.calls (a0.extract (x16_1 : Int).toNat (x7_2 : Int).toNat) true _ A13.out).mono ?_); rintro e w15 ⟨rfl, hb⟩; refine ⟨_, rfl, ?_⟩; replace HB := Aside0.mk (below_step (qB HB.out) hb)))
      go_roundg k2
      case measure => have := HK1.out; have := HK2.out; omega
      case rel => exact ⟨(wrap64 (x5_2 + 1)), (wrap64 (x7_2 + 1)), qF, qF, H', ⟨by have := HK1.out; have := HK2.out; omega⟩, ⟨qB HB.out⟩⟩
     replace c14 := Bool.eq_false_iff.mpr c14
     subst c14
     rw [if_neg (show ¬ (false = true) by decide)] at H
     have H' := Aside0.mk H
     clear H
     go_wp2_with (first | ((with_reducible refine gate_callee (f := 29) rfl ?_); refine goesL_ (some 31) rfl rfl Try.func29 (by kernel_rfl) rfl #[.string (a0.extract (x16_1 : Int).toNat (x7_2 : Int).toNat)] rfl qV ?_; (with_reducible refine (impl_isPalindrome.calls (a0.extract (x16_1 : Int).toNat (x7_2 : Int).toNat) false _ A13.out).mono ?_); rintro e w16 ⟨rfl, hb⟩; refine ⟨_, rfl, ?_⟩; replace HB := Aside0.mk (below_step (qB HB.out) hb)))
     go_roundg k2
     case measure => have := HK1.out; have := HK2.out; omega
     case rel => exact ⟨(x5_2), (wrap64 (x7_2 + 1)), qF, qF, H', ⟨by have := HK1.out; have := HK2.out; omega⟩, ⟨qB HB.out⟩⟩
end Go.Proofs.Ytfihfeffbhohjaa.PF

namespace Go.Proofs.Ytfihfeffbhohjaa.PF
open Go.RowKit Go.Proofs.YtfihfeffbhohjaaW.PrintWords Go.Proofs.YtfihfeffbhohjaaW.PrintLast Go.Proofs.YtfihfeffbhohjaaW.PrintMore
attribute [local go_sem] max2_int min2_int max_two min_two max_three min_three max_four min_four   -- for this text's walks alone
set_option linter.unusedVariables false
set_option linter.unusedSimpArgs false

/-! ### impl_LongestPalindrome: function 13 -/
mutual
def impl_LongestPalindrome.l0 : Nat → ByteArray → Int → Option (ByteArray × Int × Int)
 | 0, _, _ => none
 | k + 1, x0, x6 => impl_LongestPalindrome.l1 k x0 x6 0
def impl_LongestPalindrome.l1 : Nat → ByteArray → Int → Int → Option (ByteArray × Int × Int)
 | 0, _, _, _ => none
 | k + 1, x0, x6, x7 => if (wrap64 (x7 + x6)) ≤ (x0.size : Int) then (if 0 ≤ x7 then (if x7 ≤ (wrap64 (x7 + x6)) then ((impl_isPalindrome.f (x0.extract (x7 : Int).toNat ((wrap64 (x7 + x6)) : Int).toNat)).bind fun t417 => (if t417 = true then (some (x0.extract (x7 : Int).toNat ((wrap64 (x7 + x6)) : Int).toNat, x7, 0)) else (impl_LongestPalindrome.l1 k x0 x6 (wrap64 (x7 + 1))))) else (none)) else (none)) else (impl_LongestPalindrome.l0 k x0 (wrap64 (x6 - 1)))
end
def impl_LongestPalindrome.f (k : Nat) (a0 : ByteArray) : Option (ByteArray × Int × Int) := (impl_filledCode.f k a0).bind fun t416 => (if t416 = 0 then (impl_LongestPalindrome.l0 k a0 (a0.size : Int)) else (some ((⟨#[]⟩ : ByteArray), 0, t416)))
theorem impl_LongestPalindrome.mono_l : ∀ k, (∀ y0 y1, LeO (impl_LongestPalindrome.l0 k y0 y1) (impl_LongestPalindrome.l0 (k + 1) y0 y1)) ∧ (∀ y0 y1 y2, LeO (impl_LongestPalindrome.l1 k y0 y1 y2) (impl_LongestPalindrome.l1 (k + 1) y0 y1 y2))
 | 0 => ⟨fun _ _ r h => by simp [impl_LongestPalindrome.l0] at h, fun _ _ _ r h => by simp [impl_LongestPalindrome.l1] at h⟩
 | k + 1 => by
  obtain ⟨ih0, ih1⟩ := impl_LongestPalindrome.mono_l k
  refine ⟨?_, ?_⟩
  all_goals intros
  all_goals first | unfold impl_LongestPalindrome.l0 | unfold impl_LongestPalindrome.l1
  all_goals with_reducible repeat' first
  | exact ih0 _ _
  | exact ih1 _ _ _
  | exact impl_filledCode.mono _ _
  | exact LeO.refl _
  | exact LeO.none _
  | refine LeO.ite ?_ ?_
  | refine LeO.bind ?_ (fun _ => ?_)
theorem impl_LongestPalindrome.mono : ∀ a0 k, LeO (impl_LongestPalindrome.f k a0) (impl_LongestPalindrome.f (k + 1) a0) := by
 intro a0 k
 obtain ⟨ih0, ih1⟩ := impl_LongestPalindrome.mono_l k
 unfold impl_LongestPalindrome.f
 with_reducible repeat' first
   | exact ih0 _ _
   | exact ih1 _ _ _
   | exact impl_filledCode.mono _ _
   | exact LeO.refl _
   | exact LeO.none _
   | refine LeO.ite ?_ ?_
   | refine LeO.bind ?_ (fun _ => ?_)
set_option maxHeartbeats 8000000 in
set_option maxRecDepth 100000 in
theorem impl_LongestPalindrome.calls (k : Nat) (a0 : ByteArray) (r1 : ByteArray) (r2 : Int) (r3 : Int) (w : World) (h : impl_LongestPalindrome.f k a0 = some (r1, r2, r3)) :
  Calls Try.prog 13 #[.string a0] w fun e w' => e = .returned (.tuple #[.string r1, .int .i64 r2, .int .i64 r3]) ∧ Below w.heap.size w w' := by
 have HB := Aside0.mk (Below.refl w.heap.size w)
 have H : ((impl_filledCode.f k a0).bind fun t416 => (if t416 = 0 then (impl_LongestPalindrome.l0 k a0 (a0.size : Int)) else (some ((⟨#[]⟩ : ByteArray), 0, t416)))) = some (r1, r2, r3) := h
 clear h
 replace H := qN H
 obtain ⟨t416, A2, H⟩ := H
 try dsimp only at H
 by_cases c3 : t416 = 0
 rotate_left
 ·
  rw [if_neg c3] at H
  obtain ⟨c3b0, c3b1⟩ := zF c3
  simp only [Option.some.injEq, Prod.mk.injEq] at H
  obtain ⟨rfl, rfl, rfl⟩ := H
  go_enter Try.func13, Try.ntmps13
  go_wp2_with (first | ((with_reducible refine gate_callee (f := 32) rfl ?_); refine goesL_ (some 9) rfl rfl Try.func32 (by kernel_rfl) rfl #[.string a0] rfl qV ?_; (with_reducible refine (impl_filledCode.calls k a0 t416 _ A2.out).mono ?_); rintro e w16 ⟨rfl, hb⟩; refine ⟨_, rfl, ?_⟩; replace HB := Aside0.mk (below_step (qB HB.out) hb)))
  go_ret3
  exact ⟨qE, qB HB.out⟩

 rw [if_pos c3] at H
 obtain ⟨c3b0, c3b1⟩ := zT c3
 clear c3
 have H' := Aside0.mk H
 clear H
 go_enter Try.func13, Try.ntmps13
 go_wp2_with (first | ((with_reducible refine gate_callee (f := 32) rfl ?_); refine goesL_ (some 9) rfl rfl Try.func32 (by kernel_rfl) rfl #[.string a0] rfl qV ?_; (with_reducible refine (impl_filledCode.calls k a0 t416 _ A2.out).mono ?_); rintro e w4 ⟨rfl, hb⟩; refine ⟨_, rfl, ?_⟩; replace HB := Aside0.mk (below_step (qB HB.out) hb)))
 go_loopg [6] k (fun kq v6 w' => ∃ (x6_1 : Int), v6 = .int .i64 x6_1 ∧ Aside0 (impl_LongestPalindrome.l0 kq a0 x6_1 = some (r1, r2, r3)) ∧ Aside0 (kq ≤ k) ∧ Aside0 (Below w.heap.size w w'))
 case atStart => exact ⟨((a0.size : Int)), qF, H', ⟨Nat.le_refl _⟩, ⟨qB HB.out⟩⟩
 case round =>
  clear H'
  obtain ⟨x6_1, rfl, HA, HK1, HB⟩ := hrel
  cases gk with
  | zero => exact absurd HA.out (by simp [impl_LongestPalindrome.l0])
  | succ k1 =>
   have H := HA.out
   clear HA
   simp only [impl_LongestPalindrome.l0] at H
   have H' := Aside0.mk H
   clear H
   go_wp2
   go_loopg [7] k1 (fun kq v7 w' => ∃ (x7_2 : Int), v7 = .int .i64 x7_2 ∧ Aside0 (impl_LongestPalindrome.l1 kq a0 x6_1 x7_2 = some (r1, r2, r3)) ∧ Aside0 (kq ≤ k1) ∧ Aside0 (Below w.heap.size w w'))
   case atStart => exact ⟨(0), qF, H', ⟨Nat.le_refl _⟩, ⟨qB HB.out⟩⟩
   case round =>
    clear H'
    obtain ⟨x7_2, rfl, HA, HK2, HB⟩ := hrel
    cases gk with
    | zero => exact absurd HA.out (by simp [impl_LongestPalindrome.l1])
    | succ k2 =>
     have H := HA.out
     clear HA
     simp only [impl_LongestPalindrome.l1] at H
     by_cases c5 : (wrap64 (x7_2 + x6_1)) ≤ (a0.size : Int)
     rotate_left
     ·
      rw [if_neg c5] at H
      have c5b0 : decide ((wrap64 (x7_2 + x6_1)) ≤ (a0.size : Int)) = false := decide_eq_false c5
      clear c5
      have H' := Aside0.mk H
      clear H
      go_wp2
      go_roundg k2
      case measure => have := HK1.out; have := HK2.out; omega
      case rel => exact ⟨(wrap64 (x6_1 - 1)), qF, H', ⟨by have := HK1.out; have := HK2.out; omega⟩, ⟨qB HB.out⟩⟩
     rw [if_pos c5] at H
     have c5b0 : decide ((wrap64 (x7_2 + x6_1)) ≤ (a0.size : Int)) = true := decide_eq_true c5
     clear c5
     by_cases c6 : 0 ≤ x7_2
     rotate_left
     ·
      rw [if_neg c6] at H
      exact absurd H (by simp)
     rw [if_pos c6] at H
     have c6b0 := eq_true c6
     have c6b1 : decide (0 ≤ x7_2) = true := decide_eq_true c6
     clear c6
     by_cases c7 : x7_2 ≤ (wrap64 (x7_2 + x6_1))
     rotate_left
     ·
      rw [if_neg c7] at H
      exact absurd H (by simp)
     rw [if_pos c7] at H
     have c7b0 := eq_true c7
     have c7b1 : decide (x7_2 ≤ (wrap64 (x7_2 + x6_1))) = true := decide_eq_true c7
     have c8b0 := eq_true (of_decide_eq_true (by first | (with_reducible assumption) | assumption) : (wrap64 (x7_2 + x6_1)) ≤ (a0.size : Int))
     replace H := qN H
     obtain ⟨t417, A9, H⟩ := H
     try dsimp only at H
     by_cases c10 : t417 = true
     ·
      subst c10
      rw [if_pos rfl] at H
      have c11b0 := eq_true (of_decide_eq_true (by first | (with_reducible assumption) | assumption) : 0 ≤ x7_2)
      have c12b0 := eq_true (of_decide_eq_true (by first | (with_reducible assumption) | assumption) : x7_2 ≤ (wrap64 (x7_2 + x6_1)))
      have c13b0 := eq_true (of_decide_eq_true (by first | (with_reducible assumption) | assumption) : (wrap64 (x7_2 + x6_1)) ≤ (a0.size : Int))
      simp only [Option.some.injEq, Prod.mk.injEq] at H
      obtain ⟨rfl, rfl, rfl⟩ := H
      go_wp2_with (first | ((with_reducible refine gate_callee (f := 29) rfl ?_); refine goesL_ (some 31) rfl rfl Try.func29 (by kernel_rfl) rfl #[.string (a0.extract (x7_2 : Int).toNat ((wrap64 (x7_2 + x6_1)) : Int).toNat)] rfl qV ?_; (with_reducible refine (impl_isPalindrome.calls (a0.extract (x7_2 : Int).toNat ((wrap64 (x7_2 + x6_1)) : Int).toNat) true _ A9.out).mono ?_); rintro e w14 ⟨rfl, hb⟩; refine ⟨_, rfl, ?_⟩; replace HB := Aside0.mk (below_step (qB HB.out) hb)))
      go_ret3
      exact ⟨qE, qB HB.out⟩
     replace c10 := Bool.eq_false_iff.mpr c10
     subst c10
     rw [if_neg (show ¬ (false = true) by decide)] at H
     have H' := Aside0.mk H
     clear H
     go_wp2_with (first | ((with_reducible refine gate_callee (f := 29) rfl ?_); refine goesL_ (some 31) rfl rfl Try.func29 (by kernel_rfl) rfl #[.string (a0.extract (x7_2 : Int).toNat ((wrap64 (x7_2 + x6_1)) : Int).toNat)] rfl qV ?_; (with_reducible refine (impl_isPalindrome.calls (a0.extract (x7_2 : Int).toNat ((wrap64 (x7_2 + x6_1)) : Int).toNat) false _ A9.out).mono ?_); rintro e w15 ⟨rfl, hb⟩; refine ⟨_, rfl, ?_⟩; replace HB := Aside0.mk (below_step (qB HB.out) hb)))
     go_roundg k2
     case measure => have := HK1.out; have := HK2.out; omega
     case rel => exact ⟨(wrap64 (x7_2 + 1)), qF, H', ⟨by have := HK1.out; have := HK2.out; omega⟩, ⟨qB HB.out⟩⟩
end Go.Proofs.Ytfihfeffbhohjaa.PF

namespace Go.Proofs.Ytfihfeffbhohjaa.PF
open Go.RowKit Go.Proofs.YtfihfeffbhohjaaW.PrintWords Go.Proofs.YtfihfeffbhohjaaW.PrintLast Go.Proofs.YtfihfeffbhohjaaW.PrintMore
attribute [local go_sem] max2_int min2_int max_two min_two max_three min_three max_four min_four   -- for this text's walks alone
set_option linter.unusedVariables false
set_option linter.unusedSimpArgs false

/-! ### impl_ending: function 34 -/
def impl_ending.l0 : Nat → ByteArray → Int → Option (Int)
 | 0, _, _ => none
 | k + 1, x0, x3 => if 0 ≤ x3 then (if x3 ≤ (x0.size : Int) then ((impl_isPalindrome.f (x0.extract (x3 : Int).toNat x0.size)).bind fun t421 => (if t421 = true then (some (wrap64 ((x0.size : Int) - x3))) else (impl_ending.l0 k x0 (wrap64 (x3 + 1))))) else (none)) else (none)
def impl_ending.f (k : Nat) (a0 : ByteArray) : Option (Int) := impl_ending.l0 k a0 0
theorem impl_ending.mono_l : ∀ k, (∀ y0 y1, LeO (impl_ending.l0 k y0 y1) (impl_ending.l0 (k + 1) y0 y1))
 | 0 => fun _ _ r h => by simp [impl_ending.l0] at h
 | k + 1 => by
  have ih0 := impl_ending.mono_l k
  ·
   intro y0 y1
   unfold impl_ending.l0
   with_reducible repeat' first
   | exact ih0 _ _
   | exact LeO.refl _
   | exact LeO.none _
   | refine LeO.ite ?_ ?_
   | refine LeO.bind ?_ (fun _ => ?_)
theorem impl_ending.mono : ∀ a0 k, LeO (impl_ending.f k a0) (impl_ending.f (k + 1) a0) := by
 intro a0 k
 have ih0 := impl_ending.mono_l k
 unfold impl_ending.f
 with_reducible repeat' first
   | exact ih0 _ _
   | exact LeO.refl _
   | exact LeO.none _
   | refine LeO.ite ?_ ?_
   | refine LeO.bind ?_ (fun _ => ?_)
set_option maxHeartbeats 8000000 in
set_option maxRecDepth 100000 in
theorem impl_ending.calls (k : Nat) (a0 : ByteArray) (r : Int) (w : World) (h : impl_ending.f k a0 = some r) :
  Calls Try.prog 34 #[.string a0] w fun e w' => e = .returned (.int .i64 r) ∧ Below w.heap.size w w' := by
 have HB := Aside0.mk (Below.refl w.heap.size w)
 have H : (impl_ending.l0 k a0 0) = some r := h
 clear h
 have H' := Aside0.mk H
 clear H
 go_enter Try.func34, Try.ntmps34
 go_wp2
 go_loopg [3] k (fun kq v3 w' => ∃ (x3_1 : Int), v3 = .int .i64 x3_1 ∧ Aside0 (impl_ending.l0 kq a0 x3_1 = some r) ∧ Aside0 (kq ≤ k) ∧ Aside0 (Below w.heap.size w w'))
 case atStart => exact ⟨(0), qF, H', ⟨Nat.le_refl _⟩, ⟨qB HB.out⟩⟩
 case round =>
  clear H'
  obtain ⟨x3_1, rfl, HA, HK1, HB⟩ := hrel
  cases gk with
  | zero => exact absurd HA.out (by simp [impl_ending.l0])
  | succ k1 =>
   have H := HA.out
   clear HA
   simp only [impl_ending.l0] at H
   by_cases c2 : 0 ≤ x3_1
   rotate_left
   ·
    rw [if_neg c2] at H
    exact absurd H (by simp)

   rw [if_pos c2] at H
   have c2b0 := eq_true c2
   have c2b1 : decide (0 ≤ x3_1) = true := decide_eq_true c2
   clear c2
   by_cases c3 : x3_1 ≤ (a0.size : Int)
   rotate_left
   ·
    rw [if_neg c3] at H
    exact absurd H (by simp)
   rw [if_pos c3] at H
   have c3b0 := eq_true c3
   have c3b1 : decide (x3_1 ≤ (a0.size : Int)) = true := decide_eq_true c3
   clear c3
   replace H := qN H
   obtain ⟨t421, A4, H⟩ := H
   try dsimp only at H
   by_cases c5 : t421 = true
   ·
    subst c5
    rw [if_pos rfl] at H
    obtain rfl := Option.some.inj H
    go_wp2_with (first | ((with_reducible refine gate_callee (f := 29) rfl ?_); refine goesL_ (some 7) rfl rfl Try.func29 (by kernel_rfl) rfl #[.string (a0.extract (x3_1 : Int).toNat a0.size)] rfl qV ?_; (with_reducible refine (impl_isPalindrome.calls (a0.extract (x3_1 : Int).toNat a0.size) true _ A4.out).mono ?_); rintro e w6 ⟨rfl, hb⟩; refine ⟨_, rfl, ?_⟩; replace HB := Aside0.mk (below_step (qB HB.out) hb)))
    go_ret
    exact ⟨qE, qB HB.out⟩
   replace c5 := Bool.eq_false_iff.mpr c5
   subst c5
   rw [if_neg (show ¬ (false = true) by decide)] at H
   have H' := Aside0.mk H
   clear H
   go_wp2_with (first | ((with_reducible refine gate_callee (f := 29) rfl ?_); refine goesL_ (some 7) rfl rfl Try.func29 (by kernel_rfl) rfl #[.string (a0.extract (x3_1 : Int).toNat a0.size)] rfl qV ?_; (with_reducible refine (impl_isPalindrome.calls (a0.extract (x3_1 : Int).toNat a0.size) false _ A4.out).mono ?_); rintro e w7 ⟨rfl, hb⟩; refine ⟨_, rfl, ?_⟩; replace HB := Aside0.mk (below_step (qB HB.out) hb)))
   go_roundg k1
   case measure => have := HK1.out; omega
   case rel => exact ⟨(wrap64 (x3_1 + 1)), qF, H', ⟨by have := HK1.out; omega⟩, ⟨qB HB.out⟩⟩
end Go.Proofs.Ytfihfeffbhohjaa.PF

namespace Go.Proofs.Ytfihfeffbhohjaa.PF
open Go.RowKit Go.Proofs.YtfihfeffbhohjaaW.PrintWords Go.Proofs.YtfihfeffbhohjaaW.PrintLast Go.Proofs.YtfihfeffbhohjaaW.PrintMore
attribute [local go_sem] max2_int min2_int max_two min_two max_three min_three max_four min_four   -- for this text's walks alone
set_option linter.unusedVariables false
set_option linter.unusedSimpArgs false

/-! ### impl_EndLengths: function 15 -/
def impl_EndLengths.l0 : Nat → ByteArray → List Int → Int → Int → Option (List Int × Int)
 | 0, _, _, _, _ => none
 | k + 1, x0, x5, x14, x15 => if x15 < x14 then (if 0 ≤ (wrap64 (x15 + 1)) then (if (wrap64 (x15 + 1)) ≤ (x0.size : Int) then ((impl_ending.f k (x0.extract 0 ((wrap64 (x15 + 1)) : Int).toNat)).bind fun t426 => (if x5.length < 17592186044416 then (impl_EndLengths.l0 k x0 (x5 ++ [t426]) x14 (wrap64 (x15 + 1))) else (none))) else (none)) else (none)) else (some (x5, 0))
def impl_EndLengths.f (k : Nat) (a0 : ByteArray) : Option (List Int × Int) := (impl_wordCode.f k (impl_always.f) (([a0] : List ByteArray))).bind fun t425 => (if t425 = 0 then (impl_EndLengths.l0 k a0 ([] : List Int) (a0.size : Int) 0) else (some (([] : List Int), t425)))
theorem impl_EndLengths.mono_l : ∀ k, (∀ y0 y1 y2 y3, LeO (impl_EndLengths.l0 k y0 y1 y2 y3) (impl_EndLengths.l0 (k + 1) y0 y1 y2 y3))
 | 0 => fun _ _ _ _ r h => by simp [impl_EndLengths.l0] at h
 | k + 1 => by
  have ih0 := impl_EndLengths.mono_l k
  ·
   intro y0 y1 y2 y3
   unfold impl_EndLengths.l0
   repeat' first
   | (with_reducible exact ih0 _ _ _ _)
   | (with_reducible exact impl_ending.mono _ _)
   | (with_reducible exact LeO.refl _)
   | (with_reducible exact LeO.none _)
   | (with_reducible refine LeO.ite ?_ ?_)
   | (with_reducible refine LeO.bind ?_ (fun _ => ?_))
   | refine impl_wordCode.monoP ?_
theorem impl_EndLengths.mono : ∀ a0 k, LeO (impl_EndLengths.f k a0) (impl_EndLengths.f (k + 1) a0) := by
 intro a0 k
 have ih0 := impl_EndLengths.mono_l k
 unfold impl_EndLengths.f
 repeat' first
   | (with_reducible exact ih0 _ _ _ _)
   | (with_reducible exact impl_ending.mono _ _)
   | (with_reducible exact LeO.refl _)
   | (with_reducible exact LeO.none _)
   | (with_reducible refine LeO.ite ?_ ?_)
   | (with_reducible refine LeO.bind ?_ (fun _ => ?_))
   | refine impl_wordCode.monoP ?_
set_option maxHeartbeats 8000000 in
set_option maxRecDepth 100000 in
theorem impl_EndLengths.calls (k : Nat) (a0 : ByteArray) (r1 : List Int) (r2 : Int) (w : World) (h : impl_EndLengths.f k a0 = some (r1, r2)) :
  Calls Try.prog 15 #[.string a0] w fun e w' => ∃ v0_ : Value, e = .returned (.tuple #[v0_, .int .i64 r2]) ∧ Kd.R (Kd.int .i64) 2 w' w.heap.size (fun _ => True) v0_ r1 ∧ Below w.heap.size w w' := by
 have HB := Aside0.mk (Below.refl w.heap.size w)
 have H : ((impl_wordCode.f k (impl_always.f) (([a0] : List ByteArray))).bind fun t425 => (if t425 = 0 then (impl_EndLengths.l0 k a0 ([] : List Int) (a0.size : Int) 0) else (some (([] : List Int), t425)))) = some (r1, r2) := h
 clear h
 obtain ⟨y422, hy422⟩ : ∃ y_ : List ByteArray, y_ = (([a0] : List ByteArray)) := ⟨_, rfl⟩
 replace H : ((impl_wordCode.f k (impl_always.f) y422).bind fun t425 => (if t425 = 0 then (impl_EndLengths.l0 k a0 ([] : List Int) (a0.size : Int) 0) else (some (([] : List Int), t425)))) = some (r1, r2) := by first | (rw [hy422]; with_reducible exact H) | (have H2_ := (Option.bind_some _ _).symm.trans H; rw [hy422]; with_reducible exact H2_) | (have H2_ := (Option.bind_some _ _).symm.trans H; with_reducible exact H2_) | with_reducible exact H | (rw [hy422]; exact H) | exact H
 have Ny422 := Aside0.mk hy422
 clear hy422
 replace H := qN H
 obtain ⟨t425, A2, H⟩ := H
 try dsimp only at H
 by_cases c3 : t425 = 0
 rotate_left
 ·
  rw [if_neg c3] at H
  obtain ⟨c3b0, c3b1⟩ := zF c3
  simp only [Option.some.injEq, Prod.mk.injEq] at H
  obtain ⟨rfl, rfl⟩ := H
  go_enter Try.func15, Try.ntmps15
  go_wp2_with (first | ((with_reducible refine gate_dst (N := 8) rfl ?_); refine Kd.R_lit Kd.string _ 9 ?hg (N := 8) ?hd (xs := ([a0] : List ByteArray)) (inner := [.string a0]) (ok := fun _ => True) (okp := fun _ => True) ?hr ?hp (fun _ hk => hk) trivial (Below.refl _ _) (Nat.le_refl _) (by simp) ?_; (case hd => rfl); (case hg => rfl); (case hr => first | (go_simp; done) | (go_simp; rfl)); (case hp => exact (Reps.one (show Kd.M Kd.string _ _ _ a0 [.string a0] from rfl) (Reps.none _ _))); intro v423 w16 ho17 hb hg_ hnew_; clear hg_ hnew_; (first | rw [← Ny422.out] at ho17 | (simp only [Int.reduceToNat] at ho17; rw [← Ny422.out] at ho17)); have HO424 := Aside0.mk (Kd.R_lower ho17 (below_size (qB HB.out))); replace HB := Aside0.mk (below_step (qB HB.out) hb); clear hb ho17; obtain ⟨Ao18, co18, eo18⟩ := Kd.R_slice HO424.out; subst eo18) | ((with_reducible refine gate_callee (f := 24) rfl ?_); refine goesL_ (some 9) rfl rfl Try.func24 (by kernel_rfl) rfl #[.func (.func 25) #[] #[], .slice Ao18 y422.length co18] rfl qV ?_; (with_reducible refine (impl_wordCode.calls k (impl_always.f) 25 #[] _ _ y422 t425 _ ?side1 ?side2 ?side3 A2.out).mono ?_); (case side1 => exact qC (Kd.R_reads' HO424.out).2.2); (case side2 => exact (Kd.R_reads' HO424.out).2.1); (case side3 => exact ⟨Go.Proofs.enters_of Try.func25 (by kernel_rfl) rfl, fun W_ hW_ r_ h_ => (impl_always.calls  r_ W_  h_).mono (fun e_ W2_ h2_ => ⟨h2_.1, by first | exact h2_.2 | exact h2_.2.below⟩)⟩); rintro e w19 ⟨rfl, hb⟩; refine ⟨_, rfl, ?_⟩; replace HO424 := Aside0.mk (Kd.R_below (qR HO424.out) hb); replace HB := Aside0.mk (below_step (qB HB.out) hb)))
  go_ret2
  exact ⟨_, qE, by first | exact Kd.R_nil _ _ _ _ _ | exact Kd.N_nil _ _ _ _ _ | exact Kd.V_nil _ _ _ _ _ | exact Kd.Q_nil _ _ _ _ _ | exact Kd.S_nil _ _ _ _ _, qB HB.out⟩

 rw [if_pos c3] at H
 obtain ⟨c3b0, c3b1⟩ := zT c3
 clear c3
 have H' := Aside0.mk H
 clear H
 go_enter Try.func15, Try.ntmps15
 go_wp2_with (first | ((with_reducible refine gate_dst (N := 8) rfl ?_); refine Kd.R_lit Kd.string _ 9 ?hg (N := 8) ?hd (xs := ([a0] : List ByteArray)) (inner := [.string a0]) (ok := fun _ => True) (okp := fun _ => True) ?hr ?hp (fun _ hk => hk) trivial (Below.refl _ _) (Nat.le_refl _) (by simp) ?_; (case hd => rfl); (case hg => rfl); (case hr => first | (go_simp; done) | (go_simp; rfl)); (case hp => exact (Reps.one (show Kd.M Kd.string _ _ _ a0 [.string a0] from rfl) (Reps.none _ _))); intro v423 w4 ho5 hb hg_ hnew_; clear hg_ hnew_; (first | rw [← Ny422.out] at ho5 | (simp only [Int.reduceToNat] at ho5; rw [← Ny422.out] at ho5)); have HO424 := Aside0.mk (Kd.R_lower ho5 (below_size (qB HB.out))); replace HB := Aside0.mk (below_step (qB HB.out) hb); clear hb ho5; obtain ⟨Ao6, co6, eo6⟩ := Kd.R_slice HO424.out; subst eo6) | ((with_reducible refine gate_callee (f := 24) rfl ?_); refine goesL_ (some 9) rfl rfl Try.func24 (by kernel_rfl) rfl #[.func (.func 25) #[] #[], .slice Ao6 y422.length co6] rfl qV ?_; (with_reducible refine (impl_wordCode.calls k (impl_always.f) 25 #[] _ _ y422 t425 _ ?side1 ?side2 ?side3 A2.out).mono ?_); (case side1 => exact qC (Kd.R_reads' HO424.out).2.2); (case side2 => exact (Kd.R_reads' HO424.out).2.1); (case side3 => exact ⟨Go.Proofs.enters_of Try.func25 (by kernel_rfl) rfl, fun W_ hW_ r_ h_ => (impl_always.calls  r_ W_  h_).mono (fun e_ W2_ h2_ => ⟨h2_.1, by first | exact h2_.2 | exact h2_.2.below⟩)⟩); rintro e w7 ⟨rfl, hb⟩; refine ⟨_, rfl, ?_⟩; replace HO424 := Aside0.mk (Kd.R_below (qR HO424.out) hb); replace HB := Aside0.mk (below_step (qB HB.out) hb)))
 go_loopg [5, 15] k (fun kq v5 v15 w' => ∃ (x5_1 : List Int) (x15_1 : Int), v15 = .int .i64 x15_1 ∧ Aside0 (impl_EndLengths.l0 kq a0 x5_1 (a0.size : Int) x15_1 = some (r1, r2)) ∧ Aside0 (kq ≤ k) ∧ Aside0 (Kd.R (Kd.int .i64) 2 w' w.heap.size (fun _ => True) v5 x5_1) ∧ Aside0 (Below w.heap.size w w'))
 case atStart => exact ⟨(([] : List Int)), (0), qF, H', ⟨Nat.le_refl _⟩, ⟨by first | exact Kd.R_nil _ _ _ _ _ | exact Kd.N_nil _ _ _ _ _ | exact Kd.V_nil _ _ _ _ _ | exact Kd.Q_nil _ _ _ _ _ | exact Kd.S_nil _ _ _ _ _⟩, ⟨qB HB.out⟩⟩
 case round =>
  clear H'
  obtain ⟨x5_1, x15_1, rfl, HA, HK1, HO_5, HB⟩ := hrel
  cases gk with
  | zero => exact absurd HA.out (by simp [impl_EndLengths.l0])
  | succ k1 =>
   have H := HA.out
   clear HA
   simp only [impl_EndLengths.l0] at H
   by_cases c8 : x15_1 < (a0.size : Int)
   rotate_left
   ·
    rw [if_neg c8] at H
    have c8b0 : decide (x15_1 < (a0.size : Int)) = false := decide_eq_false c8
    clear c8
    simp only [Option.some.injEq, Prod.mk.injEq] at H
    obtain ⟨rfl, rfl⟩ := H
    go_wp2
    go_ret2
    exact ⟨_, qE, qR HO_5.out, qB HB.out⟩
   rw [if_pos c8] at H
   have c8b0 : decide (x15_1 < (a0.size : Int)) = true := decide_eq_true c8
   clear c8
   obtain ⟨ji9, hji9⟩ : ∃ j_ : Int, (wrap64 (x15_1 + 1)) = j_ := ⟨_, rfl⟩
   replace H : (if 0 ≤ (ji9) then (if (ji9) ≤ (a0.size : Int) then ((impl_ending.f k1 (a0.extract 0 ((ji9) : Int).toNat)).bind fun t426 => (if x5_1.length < 17592186044416 then (impl_EndLengths.l0 k1 a0 (x5_1 ++ [t426]) (a0.size : Int) ji9) else (none))) else (none)) else (none)) = some (r1, r2) := by first | (rw [hji9] at H; exact H) | (simp only [hji9] at H ⊢; exact H)
   have hji9w : (IntKind.i64.wrap (x15_1 + 1)) = ji9 := (i64_w _).trans hji9
   by_cases c10 : 0 ≤ (ji9)
   rotate_left
   ·
    rw [if_neg c10] at H
    exact absurd H (by simp)
   rw [if_pos c10] at H
   have c10b0 := eq_true c10
   have c10b1 : decide (0 ≤ (ji9)) = true := decide_eq_true c10
   clear c10
   by_cases c11 : (ji9) ≤ (a0.size : Int)
   rotate_left
   ·
    rw [if_neg c11] at H
    exact absurd H (by simp)
   rw [if_pos c11] at H
   have c11b0 := eq_true c11
   have c11b1 : decide ((ji9) ≤ (a0.size : Int)) = true := decide_eq_true c11
   clear c11
   replace H := qN H
   obtain ⟨t426, A12, H⟩ := H
   try dsimp only at H
   by_cases c13 : x5_1.length < 17592186044416
   rotate_left
   ·
    rw [if_neg c13] at H
    exact absurd H (by simp)
   rw [if_pos c13] at H
   have LMc13 := Aside0.mk c13
   clear c13
   obtain ⟨y427, hy427⟩ : ∃ y_ : List Int, y_ = (x5_1 ++ [t426]) := ⟨_, rfl⟩
   replace H : (impl_EndLengths.l0 k1 a0 y427 (a0.size : Int) ji9) = some (r1, r2) := by first | (rw [hy427]; with_reducible exact H) | (have H2_ := (Option.bind_some _ _).symm.trans H; rw [hy427]; with_reducible exact H2_) | (have H2_ := (Option.bind_some _ _).symm.trans H; with_reducible exact H2_) | with_reducible exact H | (rw [hy427]; exact H) | exact H
   have Ny427 := Aside0.mk hy427
   clear hy427
   have H' := Aside0.mk H
   clear H
   go_wp2_with (first | ((with_reducible refine gate_callee (f := 34) rfl ?_); refine goesL_ (some 23) rfl rfl Try.func34 (by kernel_rfl) rfl #[.string (a0.extract 0 ((ji9) : Int).toNat)] rfl (by (try simp only [List.map_toArray, List.map_cons, List.map_nil]); first | done | (simp only [hji9]; rfl) | rfl | (simp only [List.length_drop, List.length_take]; rfl)) ?_; (with_reducible refine (impl_ending.calls k1 (a0.extract 0 ((ji9) : Int).toNat) t426 _ A12.out).mono ?_); rintro e w14 ⟨rfl, hb⟩; refine ⟨_, rfl, ?_⟩; replace HO_5 := Aside0.mk (Kd.R_below (qR HO_5.out) hb); replace HB := Aside0.mk (below_step (qB HB.out) hb)) | ((with_reducible refine gate_builtin (b := .append) (xs := #[.tmp 18, .tmp 24]) rfl ?_); at_builtin; refine Kd.R_append (Kd.int .i64) (w0 := w) w.heap.size rfl (.tmp 18) (.tmp 24) 33 2 (.int .i64 0) 8 rfl Try.underlying33 info2 rfl (by decide) (by omega) u5 x5_1 t426 [.int .i64 t426] (fun _ => True) (fun _ => False) rfl rfl ?aP (fun _ hk => hk.elim) ?aF ?aO ?aB ?aS ?aL ?_; (case aP => exact rfl); (case aB => exact (qB HB.out)); (case aF => exact (fun _ _ => trivial)); (case aO => exact (qR HO_5.out)); (case aS => exact (below_size (qB HB.out))); (case aL => have := LMc13.out; omega); intro v428 w15 ho hb hg hat; rw [← Ny427.out] at ho; replace HB := Aside0.mk (hb); have HO429 := Aside0.mk (ho); clear HO_5; clear ho hb hg hat))
   go_roundg k1
   case measure => have := HK1.out; omega
   case rel => exact ⟨(y427), (ji9), (by first | rfl | (simp; done) | (simp only [← hji9] <;> (first | rfl | simp)) | (simp [*]; done)), H', ⟨by have := HK1.out; omega⟩, ⟨qR HO429.out⟩, ⟨qB HB.out⟩⟩
end Go.Proofs.Ytfihfeffbhohjaa.PF

namespace Go.Proofs.Ytfihfeffbhohjaa.PF
open Go.RowKit Go.Proofs.YtfihfeffbhohjaaW.PrintWords Go.Proofs.YtfihfeffbhohjaaW.PrintLast Go.Proofs.YtfihfeffbhohjaaW.PrintMore
attribute [local go_sem] max2_int min2_int max_two min_two max_three min_three max_four min_four   -- for this text's walks alone
set_option linter.unusedVariables false
set_option linter.unusedSimpArgs false

/-! ### impl_IsPalindrome: function 19 -/
def impl_IsPalindrome.f (k : Nat) (a0 : ByteArray) : Option (Bool × Int) := (impl_wordCode.f k (impl_always.f) (([a0] : List ByteArray))).bind fun t450 => (if t450 = 0 then ((impl_isPalindrome.f a0).bind fun t451 => (some (t451, 0))) else (some (false, t450)))
theorem impl_IsPalindrome.mono : ∀ a0 k, LeO (impl_IsPalindrome.f k a0) (impl_IsPalindrome.f (k + 1) a0) := by
 intro a0 k
 unfold impl_IsPalindrome.f
 repeat' first
   | (with_reducible exact LeO.refl _)
   | (with_reducible exact LeO.none _)
   | (with_reducible refine LeO.ite ?_ ?_)
   | (with_reducible refine LeO.bind ?_ (fun _ => ?_))
   | refine impl_wordCode.monoP ?_
set_option maxHeartbeats 8000000 in
set_option maxRecDepth 100000 in
theorem impl_IsPalindrome.calls (k : Nat) (a0 : ByteArray) (r1 : Bool) (r2 : Int) (w : World) (h : impl_IsPalindrome.f k a0 = some (r1, r2)) :
  Calls Try.prog 19 #[.string a0] w fun e w' => e = .returned (.tuple #[.bool r1, .int .i64 r2]) ∧ Below w.heap.size w w' := by
 have HB := Aside0.mk (Below.refl w.heap.size w)
 have H : ((impl_wordCode.f k (impl_always.f) (([a0] : List ByteArray))).bind fun t450 => (if t450 = 0 then ((impl_isPalindrome.f a0).bind fun t451 => (some (t451, 0))) else (some (false, t450)))) = some (r1, r2) := h
 clear h
 obtain ⟨y447, hy447⟩ : ∃ y_ : List ByteArray, y_ = (([a0] : List ByteArray)) := ⟨_, rfl⟩
 replace H : ((impl_wordCode.f k (impl_always.f) y447).bind fun t450 => (if t450 = 0 then ((impl_isPalindrome.f a0).bind fun t451 => (some (t451, 0))) else (some (false, t450)))) = some (r1, r2) := by first | (rw [hy447]; with_reducible exact H) | (have H2_ := (Option.bind_some _ _).symm.trans H; rw [hy447]; with_reducible exact H2_) | (have H2_ := (Option.bind_some _ _).symm.trans H; with_reducible exact H2_) | with_reducible exact H | (rw [hy447]; exact H) | exact H
 have Ny447 := Aside0.mk hy447
 clear hy447
 replace H := qN H
 obtain ⟨t450, A2, H⟩ := H
 try dsimp only at H
 by_cases c3 : t450 = 0
 rotate_left
 ·
  rw [if_neg c3] at H
  obtain ⟨c3b0, c3b1⟩ := zF c3
  simp only [Option.some.injEq, Prod.mk.injEq] at H
  obtain ⟨rfl, rfl⟩ := H
  go_enter Try.func19, Try.ntmps19
  go_wp2_with (first | ((with_reducible refine gate_dst (N := 6) rfl ?_); refine Kd.R_lit Kd.string _ 9 ?hg (N := 6) ?hd (xs := ([a0] : List ByteArray)) (inner := [.string a0]) (ok := fun _ => True) (okp := fun _ => True) ?hr ?hp (fun _ hk => hk) trivial (Below.refl _ _) (Nat.le_refl _) (by simp) ?_; (case hd => rfl); (case hg => rfl); (case hr => first | (go_simp; done) | (go_simp; rfl)); (case hp => exact (Reps.one (show Kd.M Kd.string _ _ _ a0 [.string a0] from rfl) (Reps.none _ _))); intro v448 w10 ho11 hb hg_ hnew_; clear hg_ hnew_; (first | rw [← Ny447.out] at ho11 | (simp only [Int.reduceToNat] at ho11; rw [← Ny447.out] at ho11)); have HO449 := Aside0.mk (Kd.R_lower ho11 (below_size (qB HB.out))); replace HB := Aside0.mk (below_step (qB HB.out) hb); clear hb ho11; obtain ⟨Ao12, co12, eo12⟩ := Kd.R_slice HO449.out; subst eo12) | ((with_reducible refine gate_callee (f := 24) rfl ?_); refine goesL_ (some 7) rfl rfl Try.func24 (by kernel_rfl) rfl #[.func (.func 25) #[] #[], .slice Ao12 y447.length co12] rfl qV ?_; (with_reducible refine (impl_wordCode.calls k (impl_always.f) 25 #[] _ _ y447 t450 _ ?side1 ?side2 ?side3 A2.out).mono ?_); (case side1 => exact qC (Kd.R_reads' HO449.out).2.2); (case side2 => exact (Kd.R_reads' HO449.out).2.1); (case side3 => exact ⟨Go.Proofs.enters_of Try.func25 (by kernel_rfl) rfl, fun W_ hW_ r_ h_ => (impl_always.calls  r_ W_  h_).mono (fun e_ W2_ h2_ => ⟨h2_.1, by first | exact h2_.2 | exact h2_.2.below⟩)⟩); rintro e w13 ⟨rfl, hb⟩; refine ⟨_, rfl, ?_⟩; replace HO449 := Aside0.mk (Kd.R_below (qR HO449.out) hb); replace HB := Aside0.mk (below_step (qB HB.out) hb)))
  go_ret2
  exact ⟨qE, qB HB.out⟩

 rw [if_pos c3] at H
 obtain ⟨c3b0, c3b1⟩ := zT c3
 clear c3
 replace H := qN H
 obtain ⟨t451, A4, H⟩ := H
 try dsimp only at H
 simp only [Option.some.injEq, Prod.mk.injEq] at H
 obtain ⟨rfl, rfl⟩ := H
 go_enter Try.func19, Try.ntmps19
 go_wp2_with (first | ((with_reducible refine gate_dst (N := 6) rfl ?_); refine Kd.R_lit Kd.string _ 9 ?hg (N := 6) ?hd (xs := ([a0] : List ByteArray)) (inner := [.string a0]) (ok := fun _ => True) (okp := fun _ => True) ?hr ?hp (fun _ hk => hk) trivial (Below.refl _ _) (Nat.le_refl _) (by simp) ?_; (case hd => rfl); (case hg => rfl); (case hr => first | (go_simp; done) | (go_simp; rfl)); (case hp => exact (Reps.one (show Kd.M Kd.string _ _ _ a0 [.string a0] from rfl) (Reps.none _ _))); intro v448 w5 ho6 hb hg_ hnew_; clear hg_ hnew_; (first | rw [← Ny447.out] at ho6 | (simp only [Int.reduceToNat] at ho6; rw [← Ny447.out] at ho6)); have HO449 := Aside0.mk (Kd.R_lower ho6 (below_size (qB HB.out))); replace HB := Aside0.mk (below_step (qB HB.out) hb); clear hb ho6; obtain ⟨Ao7, co7, eo7⟩ := Kd.R_slice HO449.out; subst eo7) | ((with_reducible refine gate_callee (f := 24) rfl ?_); refine goesL_ (some 7) rfl rfl Try.func24 (by kernel_rfl) rfl #[.func (.func 25) #[] #[], .slice Ao7 y447.length co7] rfl qV ?_; (with_reducible refine (impl_wordCode.calls k (impl_always.f) 25 #[] _ _ y447 t450 _ ?side1 ?side2 ?side3 A2.out).mono ?_); (case side1 => exact qC (Kd.R_reads' HO449.out).2.2); (case side2 => exact (Kd.R_reads' HO449.out).2.1); (case side3 => exact ⟨Go.Proofs.enters_of Try.func25 (by kernel_rfl) rfl, fun W_ hW_ r_ h_ => (impl_always.calls  r_ W_  h_).mono (fun e_ W2_ h2_ => ⟨h2_.1, by first | exact h2_.2 | exact h2_.2.below⟩)⟩); rintro e w8 ⟨rfl, hb⟩; refine ⟨_, rfl, ?_⟩; replace HO449 := Aside0.mk (Kd.R_below (qR HO449.out) hb); replace HB := Aside0.mk (below_step (qB HB.out) hb)) | ((with_reducible refine gate_callee (f := 29) rfl ?_); refine goesL_ (some 12) rfl rfl Try.func29 (by kernel_rfl) rfl #[.string a0] rfl qV ?_; (with_reducible refine (impl_isPalindrome.calls a0 t451 _ A4.out).mono ?_); rintro e w9 ⟨rfl, hb⟩; refine ⟨_, rfl, ?_⟩; replace HO449 := Aside0.mk (Kd.R_below (qR HO449.out) hb); replace HB := Aside0.mk (below_step (qB HB.out) hb)))
 go_ret2
 exact ⟨qE, qB HB.out⟩
end Go.Proofs.Ytfihfeffbhohjaa.PF
