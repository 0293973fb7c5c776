-- an own text, written by a program of this place (wip/tools)
import Derived.Test.YtfehmbifcoajeaaGreatPFx0
import Derived.Test.YtfehmbifcoajeaaGreatPFx2
import Derived.Test.YtfehmbifcoajeaaGreatPFx5
import Derived.Test.YtfehmbifcoajeaaGreatPFGivA
import Derived.Test.YtfehmbifcoajeaaGreatPFGivX
namespace Go.Proofs.YtfehmbifcoajeaaGreat.PF
open Go.RowKit Go.Proofs.YtfehmbifcoajeaaGreatW.PrintWords Go.Proofs.YtfehmbifcoajeaaGreatW.PrintLast Go.Proofs.YtfehmbifcoajeaaGreatW.PrintMore
attribute [local go_sem] max2_int min2_int max_two min_two max_three min_three max_four min_four   -- for this text's walks alone
set_option linter.unusedVariables false
set_option linter.unusedSimpArgs false

/-! ### impl_LongestCommonFactor: function 24 -/
mutual
def impl_LongestCommonFactor.l0 : Nat → ByteArray → ByteArray → Int → Option (ByteArray × Int)
 | 0, _, _, _ => none
 | k + 1, x0, x1, x7 => (impl_factors.f k x0 x7).bind fun t580 => (impl_LongestCommonFactor.l1 k x0 x1 x7 t580 (t580.length : Int) 0)
def impl_LongestCommonFactor.l1 : Nat → ByteArray → ByteArray → Int → List ByteArray → Int → Int → Option (ByteArray × Int)
 | 0, _, _, _, _, _, _ => none
 | k + 1, x0, x1, x7, x23, x24, x25 => if x25 < x24 then (if 0 ≤ x25 then (if x25 < (x23.length : Int) then ((strings_Contains.f x1 (rdOf ByteArray.empty x23 x25)).bind fun t584 => (if t584 = true then (some (rdOf ByteArray.empty x23 x25, 0)) else (impl_LongestCommonFactor.l1 k x0 x1 x7 x23 x24 (wrap64 (x25 + 1))))) else (none)) else (none)) else (impl_LongestCommonFactor.l0 k x0 x1 (wrap64 (x7 - 1)))
end
def impl_LongestCommonFactor.f (k : Nat) (a0 : ByteArray) (a1 : ByteArray) : Option (ByteArray × Int) := (impl_wordCode.f k (impl_always.f) (([a0, a1] : List ByteArray))).bind fun t579 => (if t579 = 0 then (impl_LongestCommonFactor.l0 k a0 a1 (a0.size : Int)) else (some ((⟨#[]⟩ : ByteArray), t579)))
theorem impl_LongestCommonFactor.mono_l : ∀ k, (∀ y0 y1 y2, LeO (impl_LongestCommonFactor.l0 k y0 y1 y2) (impl_LongestCommonFactor.l0 (k + 1) y0 y1 y2)) ∧ (∀ y0 y1 y2 y3 y4 y5, LeO (impl_LongestCommonFactor.l1 k y0 y1 y2 y3 y4 y5) (impl_LongestCommonFactor.l1 (k + 1) y0 y1 y2 y3 y4 y5))
 | 0 => ⟨fun _ _ _ r h => by simp [impl_LongestCommonFactor.l0] at h, fun _ _ _ _ _ _ r h => by simp [impl_LongestCommonFactor.l1] at h⟩
 | k + 1 => by
  obtain ⟨ih0, ih1⟩ := impl_LongestCommonFactor.mono_l k
  refine ⟨?_, ?_⟩
  all_goals intros
  all_goals first | unfold impl_LongestCommonFactor.l0 | unfold impl_LongestCommonFactor.l1
  all_goals repeat' first
  | (with_reducible exact ih0 _ _ _)
  | (with_reducible exact ih1 _ _ _ _ _ _)
  | (with_reducible exact impl_factors.mono _ _ _)
  | (with_reducible exact LeO.refl _)
  | (with_reducible exact LeO.none _)
  | (with_reducible refine LeO.ite ?_ ?_)
  | (with_reducible refine LeO.bind ?_ (fun _ => ?_))
  | refine impl_wordCode.monoP ?_
theorem impl_LongestCommonFactor.mono : ∀ a0 a1 k, LeO (impl_LongestCommonFactor.f k a0 a1) (impl_LongestCommonFactor.f (k + 1) a0 a1) := by
 intro a0 a1 k
 obtain ⟨ih0, ih1⟩ := impl_LongestCommonFactor.mono_l k
 unfold impl_LongestCommonFactor.f
 repeat' first
   | (with_reducible exact ih0 _ _ _)
   | (with_reducible exact ih1 _ _ _ _ _ _)
   | (with_reducible exact impl_factors.mono _ _ _)
   | (with_reducible exact LeO.refl _)
   | (with_reducible exact LeO.none _)
   | (with_reducible refine LeO.ite ?_ ?_)
   | (with_reducible refine LeO.bind ?_ (fun _ => ?_))
   | refine impl_wordCode.monoP ?_
set_option maxHeartbeats 8000000 in
set_option maxRecDepth 100000 in
theorem impl_LongestCommonFactor.calls (k : Nat) (a0 : ByteArray) (a1 : ByteArray) (r1 : ByteArray) (r2 : Int) (w : World) (hMax : MaxOk w) (h : impl_LongestCommonFactor.f k a0 a1 = some (r1, r2)) :
  Calls Tryz.prog 24 #[.string a0, .string a1] w fun e w' => e = .returned (.tuple #[.string r1, .int .i64 r2]) ∧ Below w.heap.size w w' := by
 have HB := Aside0.mk (Below.refl w.heap.size w)
 have HMAX := Aside0.mk hMax
 clear hMax
 have H : ((impl_wordCode.f k (impl_always.f) (([a0, a1] : List ByteArray))).bind fun t579 => (if t579 = 0 then (impl_LongestCommonFactor.l0 k a0 a1 (a0.size : Int)) else (some ((⟨#[]⟩ : ByteArray), t579)))) = some (r1, r2) := h
 clear h
 obtain ⟨y576, hy576⟩ : ∃ y_ : List ByteArray, y_ = (([a0, a1] : List ByteArray)) := ⟨_, rfl⟩
 replace H : ((impl_wordCode.f k (impl_always.f) y576).bind fun t579 => (if t579 = 0 then (impl_LongestCommonFactor.l0 k a0 a1 (a0.size : Int)) else (some ((⟨#[]⟩ : ByteArray), t579)))) = some (r1, r2) := by first | (rw [hy576]; with_reducible exact H) | (have H2_ := (Option.bind_some _ _).symm.trans H; rw [hy576]; with_reducible exact H2_) | (have H2_ := (Option.bind_some _ _).symm.trans H; with_reducible exact H2_) | with_reducible exact H | (rw [hy576]; exact H) | exact H
 have Ny576 := Aside0.mk hy576
 clear hy576
 replace H := qN H
 obtain ⟨t579, A3, H⟩ := H
 try dsimp only at H
 by_cases c4 : t579 = 0
 rotate_left
 ·
  rw [if_neg c4] at H
  obtain ⟨c4b0, c4b1⟩ := zF c4
  simp only [Option.some.injEq, Prod.mk.injEq] at H
  obtain ⟨rfl, rfl⟩ := H
  go_enter Tryz.func24, Tryz.ntmps24
  go_wp2_with (first | ((with_reducible refine gate_dst (N := 12) rfl ?_); refine Kd.R_lit Kd.string _ 9 ?hg (N := 12) ?hd (xs := ([a0, a1] : List ByteArray)) (inner := [.string a0, .string a1]) (ok := fun _ => True) (okp := fun _ => True) ?hr ?hp (fun _ hk => hk) trivial (Below.refl _ _) (Nat.le_refl _) (by simp) ?_; (case hd => rfl); (case hg => rfl); (case hr => first | (go_simp; done) | (go_simp; rfl)); (case hp => exact (Reps.one (show Kd.M Kd.string _ _ _ a0 [.string a0] from rfl) (Reps.one (show Kd.M Kd.string _ _ _ a1 [.string a1] from rfl) (Reps.none _ _)))); intro v577 w19 ho20 hb hg_ hnew_; clear hg_ hnew_; (first | rw [← Ny576.out] at ho20 | (simp only [Int.reduceToNat] at ho20; rw [← Ny576.out] at ho20)); have HO578 := Aside0.mk (Kd.R_lower ho20 (below_size (qB HB.out))); replace HB := Aside0.mk (below_step (qB HB.out) hb); clear hb ho20; obtain ⟨Ao21, co21, eo21⟩ := Kd.R_slice HO578.out; subst eo21) | ((with_reducible refine gate_callee (f := 32) rfl ?_); refine goesL_ (some 13) rfl rfl Tryz.func32 (by kernel_rfl) rfl #[.func (.func 33) #[] #[], .slice Ao21 y576.length co21] rfl qV ?_; (with_reducible refine (impl_wordCode.calls k (impl_always.f) 33 #[] _ _ y576 t579 _ ?side1 ?side2 ?side3 A3.out).mono ?_); (case side1 => exact qC (Kd.R_reads' HO578.out).2.2); (case side2 => exact (Kd.R_reads' HO578.out).2.1); (case side3 => exact ⟨Go.Proofs.enters_of Tryz.func33 (by kernel_rfl) rfl, fun W_ hW_ r_ h_ => (impl_always.calls  r_ W_  h_).mono (fun e_ W2_ h2_ => ⟨h2_.1, by first | exact h2_.2 | exact h2_.2.below⟩)⟩); rintro e w22 ⟨rfl, hb⟩; refine ⟨_, rfl, ?_⟩; replace HO578 := Aside0.mk (Kd.R_below (qR HO578.out) hb); replace HB := Aside0.mk (below_step (qB HB.out) hb)))
  go_ret2
  exact ⟨qE, qB HB.out⟩

 rw [if_pos c4] at H
 obtain ⟨c4b0, c4b1⟩ := zT c4
 clear c4
 have H' := Aside0.mk H
 clear H
 go_enter Tryz.func24, Tryz.ntmps24
 go_wp2_with (first | ((with_reducible refine gate_dst (N := 12) rfl ?_); refine Kd.R_lit Kd.string _ 9 ?hg (N := 12) ?hd (xs := ([a0, a1] : List ByteArray)) (inner := [.string a0, .string a1]) (ok := fun _ => True) (okp := fun _ => True) ?hr ?hp (fun _ hk => hk) trivial (Below.refl _ _) (Nat.le_refl _) (by simp) ?_; (case hd => rfl); (case hg => rfl); (case hr => first | (go_simp; done) | (go_simp; rfl)); (case hp => exact (Reps.one (show Kd.M Kd.string _ _ _ a0 [.string a0] from rfl) (Reps.one (show Kd.M Kd.string _ _ _ a1 [.string a1] from rfl) (Reps.none _ _)))); intro v577 w5 ho6 hb hg_ hnew_; clear hg_ hnew_; (first | rw [← Ny576.out] at ho6 | (simp only [Int.reduceToNat] at ho6; rw [← Ny576.out] at ho6)); have HO578 := Aside0.mk (Kd.R_lower ho6 (below_size (qB HB.out))); replace HB := Aside0.mk (below_step (qB HB.out) hb); clear hb ho6; obtain ⟨Ao7, co7, eo7⟩ := Kd.R_slice HO578.out; subst eo7) | ((with_reducible refine gate_callee (f := 32) rfl ?_); refine goesL_ (some 13) rfl rfl Tryz.func32 (by kernel_rfl) rfl #[.func (.func 33) #[] #[], .slice Ao7 y576.length co7] rfl qV ?_; (with_reducible refine (impl_wordCode.calls k (impl_always.f) 33 #[] _ _ y576 t579 _ ?side1 ?side2 ?side3 A3.out).mono ?_); (case side1 => exact qC (Kd.R_reads' HO578.out).2.2); (case side2 => exact (Kd.R_reads' HO578.out).2.1); (case side3 => exact ⟨Go.Proofs.enters_of Tryz.func33 (by kernel_rfl) rfl, fun W_ hW_ r_ h_ => (impl_always.calls  r_ W_  h_).mono (fun e_ W2_ h2_ => ⟨h2_.1, by first | exact h2_.2 | exact h2_.2.below⟩)⟩); rintro e w8 ⟨rfl, hb⟩; refine ⟨_, rfl, ?_⟩; replace HO578 := Aside0.mk (Kd.R_below (qR HO578.out) hb); replace HB := Aside0.mk (below_step (qB HB.out) hb)))
 go_loopg [7] k (fun kq v7 w' => ∃ (x7_1 : Int), v7 = .int .i64 x7_1 ∧ Aside0 (impl_LongestCommonFactor.l0 kq a0 a1 x7_1 = some (r1, r2)) ∧ Aside0 (kq ≤ k) ∧ Aside0 (Below w.heap.size w w'))
 case atStart => exact ⟨((a0.size : Int)), qF, H', ⟨Nat.le_refl _⟩, ⟨qB HB.out⟩⟩
 case round =>
  clear H'
  obtain ⟨x7_1, rfl, HA, HK1, HB⟩ := hrel
  cases gk with
  | zero => exact absurd HA.out (by simp [impl_LongestCommonFactor.l0])
  | succ k1 =>
   have H := HA.out
   clear HA
   simp only [impl_LongestCommonFactor.l0] at H
   replace H := qN H
   obtain ⟨t580, A9, H⟩ := H
   try dsimp only at H
   have H' := Aside0.mk H
   clear H
   go_wp2_with (first | ((with_reducible refine gate_callee (f := 39) rfl ?_); refine goesL_ (some 23) rfl rfl Tryz.func39 (by kernel_rfl) rfl #[.string a0, .int .i64 x7_1] rfl qV ?_; (with_reducible refine (impl_factors.calls k1 a0 x7_1 t580 _ A9.out).mono ?_); rintro e w10 ⟨v581, rfl, ho0, hb⟩; refine ⟨_, rfl, ?_⟩; have HO582 := Aside0.mk (Kd.R_lower ho0 (below_size (qB HB.out))); replace HB := Aside0.mk (below_step (qB HB.out) hb); obtain ⟨Ao11, co11, eo11⟩ := Kd.R_slice HO582.out; subst eo11))
   go_loopg [25] k1 (fun kq v25 w' => ∃ (x25_2 : Int), v25 = .int .i64 x25_2 ∧ Aside0 (impl_LongestCommonFactor.l1 kq a0 a1 x7_1 t580 (t580.length : Int) x25_2 = some (r1, r2)) ∧ Aside0 (kq ≤ k1) ∧ Aside0 (Kd.R Kd.string 9 w' w.heap.size (fun _ => True) (.slice Ao11 t580.length co11) t580) ∧ Aside0 (Below w.heap.size w w'))
   case atStart => exact ⟨(0), qF, H', ⟨Nat.le_refl _⟩, ⟨qR HO582.out⟩, ⟨qB HB.out⟩⟩
   case round =>
    clear H'
    obtain ⟨x25_2, rfl, HA, HK2, HO_23, HB⟩ := hrel
    cases gk with
    | zero => exact absurd HA.out (by simp [impl_LongestCommonFactor.l1])
    | succ k2 =>
     have H := HA.out
     clear HA
     simp only [impl_LongestCommonFactor.l1] at H
     by_cases c12 : x25_2 < (t580.length : Int)
     rotate_left
     ·
      rw [if_neg c12] at H
      have c12b0 : decide (x25_2 < (t580.length : Int)) = false := decide_eq_false c12
      clear c12
      have H' := Aside0.mk H
      clear H
      go_wp2
      go_roundg k2
      case measure => have := HK1.out; have := HK2.out; omega
      case rel => exact ⟨(wrap64 (x7_1 - 1)), qF, H', ⟨by have := HK1.out; have := HK2.out; omega⟩, ⟨qB HB.out⟩⟩
     rw [if_pos c12] at H
     have c12b0 : decide (x25_2 < (t580.length : Int)) = true := decide_eq_true c12
     clear c12
     by_cases c13 : 0 ≤ x25_2
     rotate_left
     ·
      rw [if_neg c13] at H
      exact absurd H (by simp)
     rw [if_pos c13] at H
     have c13b0 : decide (0 ≤ x25_2) = true := decide_eq_true c13
     clear c13
     by_cases c14 : x25_2 < (t580.length : Int)
     rotate_left
     ·
      rw [if_neg c14] at H
      exact absurd H (by simp)
     rw [if_pos c14] at H
     have c14b0 : decide (x25_2 < (t580.length : Int)) = true := decide_eq_true c14
     clear c14
     replace H := qN H
     obtain ⟨t584, A15, H⟩ := H
     try dsimp only at H
     by_cases c16 : t584 = true
     ·
      subst c16
      rw [if_pos rfl] at H
      simp only [Option.some.injEq, Prod.mk.injEq] at H
      obtain ⟨rfl, rfl⟩ := H
      have p583 : 0 ≤ (x25_2 : Int) := of_decide_eq_true (by first | (with_reducible assumption) | assumption)
      have q583 : x25_2 < (t580.length : Int) := of_decide_eq_true (by first | (with_reducible assumption) | assumption)
      obtain ⟨ad583, e583, hx583_0⟩ := Kd.at_string (Kd.R_reads' HO_23.out).2.2 x25_2 p583 q583
      cases e583
      replace p583 := eq_true p583
      replace q583 := eq_true q583
      go_wp2_with (first | ((with_reducible refine gate_callee (f := 53) rfl ?_); refine goesL_ (some 31) rfl rfl Tryz.func53 (by kernel_rfl) rfl #[.string a1, .string (rdOf ByteArray.empty t580 x25_2)] rfl qV ?_; (with_reducible refine (strings_Contains.calls a1 (rdOf ByteArray.empty t580 x25_2) true _ ?hMx A15.out).mono ?_); (case hMx => exact HMAX.out.below (qB HB.out)); rintro e w17 ⟨rfl, hb⟩; refine ⟨_, rfl, ?_⟩; replace HO_23 := Aside0.mk (Kd.R_below (qR HO_23.out) hb); replace HB := Aside0.mk (below_step (qB HB.out) hb)))
      go_ret2
      exact ⟨qE, qB HB.out⟩
     replace c16 := Bool.eq_false_iff.mpr c16
     subst c16
     rw [if_neg (show ¬ (false = true) by decide)] at H
     have H' := Aside0.mk H
     clear H
     have p583 : 0 ≤ (x25_2 : Int) := of_decide_eq_true (by first | (with_reducible assumption) | assumption)
     have q583 : x25_2 < (t580.length : Int) := of_decide_eq_true (by first | (with_reducible assumption) | assumption)
     obtain ⟨ad583, e583, hx583_0⟩ := Kd.at_string (Kd.R_reads' HO_23.out).2.2 x25_2 p583 q583
     cases e583
     replace p583 := eq_true p583
     replace q583 := eq_true q583
     go_wp2_with (first | ((with_reducible refine gate_callee (f := 53) rfl ?_); refine goesL_ (some 31) rfl rfl Tryz.func53 (by kernel_rfl) rfl #[.string a1, .string (rdOf ByteArray.empty t580 x25_2)] rfl qV ?_; (with_reducible refine (strings_Contains.calls a1 (rdOf ByteArray.empty t580 x25_2) false _ ?hMx A15.out).mono ?_); (case hMx => exact HMAX.out.below (qB HB.out)); rintro e w18 ⟨rfl, hb⟩; refine ⟨_, rfl, ?_⟩; replace HO_23 := Aside0.mk (Kd.R_below (qR HO_23.out) hb); replace HB := Aside0.mk (below_step (qB HB.out) hb)))
     go_roundg k2
     case measure => have := HK1.out; have := HK2.out; omega
     case rel => exact ⟨(wrap64 (x25_2 + 1)), qF, H', ⟨by have := HK1.out; have := HK2.out; omega⟩, ⟨qR HO_23.out⟩, ⟨qB HB.out⟩⟩
end Go.Proofs.YtfehmbifcoajeaaGreat.PF
