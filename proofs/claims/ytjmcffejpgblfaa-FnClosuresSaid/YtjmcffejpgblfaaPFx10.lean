-- an own text, written by a program of this place (wip/tools)
import Derived.Test.YtjmcffejpgblfaaPFx0
import Derived.Test.YtjmcffejpgblfaaPFx2
import Derived.Test.YtjmcffejpgblfaaPFx4
import Derived.Test.YtjmcffejpgblfaaPFx9
import Derived.Test.YtjmcffejpgblfaaPFGivA
import Derived.Test.YtjmcffejpgblfaaPFGivP
namespace Go.Proofs.Ytjmcffejpgblfaa.PF
open Go.RowKit Go.Proofs.YtjmcffejpgblfaaW.PrintWords Go.Proofs.YtjmcffejpgblfaaW.PrintLast Go.Proofs.YtjmcffejpgblfaaW.PrintMore
attribute [local go_sem] max2_int min2_int max_two min_two max_three min_three max_four min_four   -- for this text's walks alone
set_option linter.unusedVariables false
set_option linter.unusedSimpArgs false

/-! ### impl_CountClosed: function 20 -/
mutual
def impl_CountClosed.l0 : Nat → ByteArray → Int → Int → Int → Option (Int × Int × Int)
 | 0, _, _, _, _ => none
 | k + 1, x0, x6, x7, x8 => if x8 ≤ (x0.size : Int) then ((impl_factors.f k x0 x8).bind fun t466 => (impl_CountClosed.l1 k x0 x6 x7 x8 t466 (t466.length : Int) 0)) else (some (x6, x7, 0))
def impl_CountClosed.l1 : Nat → ByteArray → Int → Int → Int → List ByteArray → Int → Int → Option (Int × Int × Int)
 | 0, _, _, _, _, _, _, _ => none
 | k + 1, x0, x6, x7, x8, x25, x26, x27 => if x27 < x26 then (if 0 ≤ x27 then (if x27 < (x25.length : Int) then ((impl_isClosed.f k (rdOf ByteArray.empty x25 x27)).bind fun t470 => (if t470 = true then ((impl_isPrivileged.f k (rdOf ByteArray.empty x25 x27)).bind fun t471 => (if t471 = true then (impl_CountClosed.l1 k x0 (wrap64 (x6 + 1)) (wrap64 (x7 + 1)) x8 x25 x26 (wrap64 (x27 + 1))) else (impl_CountClosed.l1 k x0 (wrap64 (x6 + 1)) x7 x8 x25 x26 (wrap64 (x27 + 1))))) else ((impl_isPrivileged.f k (rdOf ByteArray.empty x25 x27)).bind fun t472 => (if t472 = true then (impl_CountClosed.l1 k x0 x6 (wrap64 (x7 + 1)) x8 x25 x26 (wrap64 (x27 + 1))) else (impl_CountClosed.l1 k x0 x6 x7 x8 x25 x26 (wrap64 (x27 + 1))))))) else (none)) else (none)) else (impl_CountClosed.l0 k x0 x6 x7 (wrap64 (x8 + 1)))
end
def impl_CountClosed.f (k : Nat) (a0 : ByteArray) : Option (Int × Int × Int) := (impl_wordCode.f k (impl_always.f) (([a0] : List ByteArray))).bind fun t465 => (if t465 = 0 then (impl_CountClosed.l0 k a0 0 0 1) else (some (0, 0, t465)))
theorem impl_CountClosed.mono_l : ∀ k, (∀ y0 y1 y2 y3, LeO (impl_CountClosed.l0 k y0 y1 y2 y3) (impl_CountClosed.l0 (k + 1) y0 y1 y2 y3)) ∧ (∀ y0 y1 y2 y3 y4 y5 y6, LeO (impl_CountClosed.l1 k y0 y1 y2 y3 y4 y5 y6) (impl_CountClosed.l1 (k + 1) y0 y1 y2 y3 y4 y5 y6))
 | 0 => ⟨fun _ _ _ _ r h => by simp [impl_CountClosed.l0] at h, fun _ _ _ _ _ _ _ r h => by simp [impl_CountClosed.l1] at h⟩
 | k + 1 => by
  obtain ⟨ih0, ih1⟩ := impl_CountClosed.mono_l k
  refine ⟨?_, ?_⟩
  all_goals intros
  all_goals first | unfold impl_CountClosed.l0 | unfold impl_CountClosed.l1
  all_goals repeat' first
  | (with_reducible exact ih0 _ _ _ _)
  | (with_reducible exact ih1 _ _ _ _ _ _ _)
  | (with_reducible exact impl_factors.mono _ _ _)
  | (with_reducible exact impl_isClosed.mono _ _)
  | (with_reducible exact impl_isPrivileged.mono _ _)
  | (with_reducible exact LeO.refl _)
  | (with_reducible exact LeO.none _)
  | (with_reducible refine LeO.ite ?_ ?_)
  | (with_reducible refine LeO.bind ?_ (fun _ => ?_))
  | refine impl_wordCode.monoP ?_
theorem impl_CountClosed.mono : ∀ a0 k, LeO (impl_CountClosed.f k a0) (impl_CountClosed.f (k + 1) a0) := by
 intro a0 k
 obtain ⟨ih0, ih1⟩ := impl_CountClosed.mono_l k
 unfold impl_CountClosed.f
 repeat' first
   | (with_reducible exact ih0 _ _ _ _)
   | (with_reducible exact ih1 _ _ _ _ _ _ _)
   | (with_reducible exact impl_factors.mono _ _ _)
   | (with_reducible exact impl_isClosed.mono _ _)
   | (with_reducible exact impl_isPrivileged.mono _ _)
   | (with_reducible exact LeO.refl _)
   | (with_reducible exact LeO.none _)
   | (with_reducible refine LeO.ite ?_ ?_)
   | (with_reducible refine LeO.bind ?_ (fun _ => ?_))
   | refine impl_wordCode.monoP ?_
set_option maxHeartbeats 8000000 in
set_option maxRecDepth 100000 in
theorem impl_CountClosed.calls (k : Nat) (a0 : ByteArray) (r1 : Int) (r2 : Int) (r3 : Int) (w : World) (h : impl_CountClosed.f k a0 = some (r1, r2, r3)) :
  Calls Try.prog 20 #[.string a0] w fun e w' => e = .returned (.tuple #[.int .i64 r1, .int .i64 r2, .int .i64 r3]) ∧ Below w.heap.size w w' := by
 have HB := Aside0.mk (Below.refl w.heap.size w)
 have H : ((impl_wordCode.f k (impl_always.f) (([a0] : List ByteArray))).bind fun t465 => (if t465 = 0 then (impl_CountClosed.l0 k a0 0 0 1) else (some (0, 0, t465)))) = some (r1, r2, r3) := h
 clear h
 obtain ⟨y462, hy462⟩ : ∃ y_ : List ByteArray, y_ = (([a0] : List ByteArray)) := ⟨_, rfl⟩
 replace H : ((impl_wordCode.f k (impl_always.f) y462).bind fun t465 => (if t465 = 0 then (impl_CountClosed.l0 k a0 0 0 1) else (some (0, 0, t465)))) = some (r1, r2, r3) := by first | (rw [hy462]; with_reducible exact H) | (have H2_ := (Option.bind_some _ _).symm.trans H; rw [hy462]; with_reducible exact H2_) | (have H2_ := (Option.bind_some _ _).symm.trans H; with_reducible exact H2_) | with_reducible exact H | (rw [hy462]; exact H) | exact H
 have Ny462 := Aside0.mk hy462
 clear hy462
 replace H := qN H
 obtain ⟨t465, A2, H⟩ := H
 try dsimp only at H
 by_cases c3 : t465 = 0
 rotate_left
 ·
  rw [if_neg c3] at H
  obtain ⟨c3b0, c3b1⟩ := zF c3
  simp only [Option.some.injEq, Prod.mk.injEq] at H
  obtain ⟨rfl, rfl, rfl⟩ := H
  go_enter Try.func20, Try.ntmps20
  go_wp2_with (first | ((with_reducible refine gate_dst (N := 12) rfl ?_); refine Kd.R_lit Kd.string _ 9 ?hg (N := 12) ?hd (xs := ([a0] : List ByteArray)) (inner := [.string a0]) (ok := fun _ => True) (okp := fun _ => True) ?hr ?hp (fun _ hk => hk) trivial (Below.refl _ _) (Nat.le_refl _) (by simp) ?_; (case hd => rfl); (case hg => rfl); (case hr => first | (go_simp; done) | (go_simp; rfl)); (case hp => exact (Reps.one (show Kd.M Kd.string _ _ _ a0 [.string a0] from rfl) (Reps.none _ _))); intro v463 w29 ho30 hb hg_ hnew_; clear hg_ hnew_; (first | rw [← Ny462.out] at ho30 | (simp only [Int.reduceToNat] at ho30; rw [← Ny462.out] at ho30)); have HO464 := Aside0.mk (Kd.R_lower ho30 (below_size (qB HB.out))); replace HB := Aside0.mk (below_step (qB HB.out) hb); clear hb ho30; obtain ⟨Ao31, co31, eo31⟩ := Kd.R_slice HO464.out; subst eo31) | ((with_reducible refine gate_callee (f := 27) rfl ?_); refine goesL_ (some 13) rfl rfl Try.func27 (by kernel_rfl) rfl #[.func (.func 28) #[] #[], .slice Ao31 y462.length co31] rfl qV ?_; (with_reducible refine (impl_wordCode.calls k (impl_always.f) 28 #[] _ _ y462 t465 _ ?side1 ?side2 ?side3 A2.out).mono ?_); (case side1 => exact qC (Kd.R_reads' HO464.out).2.2); (case side2 => exact (Kd.R_reads' HO464.out).2.1); (case side3 => exact ⟨Go.Proofs.enters_of Try.func28 (by kernel_rfl) rfl, fun W_ hW_ r_ h_ => (impl_always.calls  r_ W_  h_).mono (fun e_ W2_ h2_ => ⟨h2_.1, by first | exact h2_.2 | exact h2_.2.below⟩)⟩); rintro e w32 ⟨rfl, hb⟩; refine ⟨_, rfl, ?_⟩; replace HO464 := Aside0.mk (Kd.R_below (qR HO464.out) hb); replace HB := Aside0.mk (below_step (qB HB.out) hb)))
  go_ret3
  exact ⟨qE, qB HB.out⟩

 rw [if_pos c3] at H
 obtain ⟨c3b0, c3b1⟩ := zT c3
 clear c3
 have H' := Aside0.mk H
 clear H
 go_enter Try.func20, Try.ntmps20
 go_wp2_with (first | ((with_reducible refine gate_dst (N := 12) rfl ?_); refine Kd.R_lit Kd.string _ 9 ?hg (N := 12) ?hd (xs := ([a0] : List ByteArray)) (inner := [.string a0]) (ok := fun _ => True) (okp := fun _ => True) ?hr ?hp (fun _ hk => hk) trivial (Below.refl _ _) (Nat.le_refl _) (by simp) ?_; (case hd => rfl); (case hg => rfl); (case hr => first | (go_simp; done) | (go_simp; rfl)); (case hp => exact (Reps.one (show Kd.M Kd.string _ _ _ a0 [.string a0] from rfl) (Reps.none _ _))); intro v463 w4 ho5 hb hg_ hnew_; clear hg_ hnew_; (first | rw [← Ny462.out] at ho5 | (simp only [Int.reduceToNat] at ho5; rw [← Ny462.out] at ho5)); have HO464 := Aside0.mk (Kd.R_lower ho5 (below_size (qB HB.out))); replace HB := Aside0.mk (below_step (qB HB.out) hb); clear hb ho5; obtain ⟨Ao6, co6, eo6⟩ := Kd.R_slice HO464.out; subst eo6) | ((with_reducible refine gate_callee (f := 27) rfl ?_); refine goesL_ (some 13) rfl rfl Try.func27 (by kernel_rfl) rfl #[.func (.func 28) #[] #[], .slice Ao6 y462.length co6] rfl qV ?_; (with_reducible refine (impl_wordCode.calls k (impl_always.f) 28 #[] _ _ y462 t465 _ ?side1 ?side2 ?side3 A2.out).mono ?_); (case side1 => exact qC (Kd.R_reads' HO464.out).2.2); (case side2 => exact (Kd.R_reads' HO464.out).2.1); (case side3 => exact ⟨Go.Proofs.enters_of Try.func28 (by kernel_rfl) rfl, fun W_ hW_ r_ h_ => (impl_always.calls  r_ W_  h_).mono (fun e_ W2_ h2_ => ⟨h2_.1, by first | exact h2_.2 | exact h2_.2.below⟩)⟩); rintro e w7 ⟨rfl, hb⟩; refine ⟨_, rfl, ?_⟩; replace HO464 := Aside0.mk (Kd.R_below (qR HO464.out) hb); replace HB := Aside0.mk (below_step (qB HB.out) hb)))
 go_loopg [6, 7, 8] k (fun kq v6 v7 v8 w' => ∃ (x6_1 : Int) (x7_1 : Int) (x8_1 : Int), v6 = .int .i64 x6_1 ∧ v7 = .int .i64 x7_1 ∧ v8 = .int .i64 x8_1 ∧ Aside0 (impl_CountClosed.l0 kq a0 x6_1 x7_1 x8_1 = some (r1, r2, r3)) ∧ Aside0 (kq ≤ k) ∧ Aside0 (Below w.heap.size w w'))
 case atStart => exact ⟨(0), (0), (1), qF, qF, qF, H', ⟨Nat.le_refl _⟩, ⟨qB HB.out⟩⟩
 case round =>
  clear H'
  obtain ⟨x6_1, x7_1, x8_1, rfl, rfl, rfl, HA, HK1, HB⟩ := hrel
  cases gk with
  | zero => exact absurd HA.out (by simp [impl_CountClosed.l0])
  | succ k1 =>
   have H := HA.out
   clear HA
   simp only [impl_CountClosed.l0] at H
   by_cases c8 : x8_1 ≤ (a0.size : Int)
   rotate_left
   ·
    rw [if_neg c8] at H
    have c8b0 : decide (x8_1 ≤ (a0.size : Int)) = false := decide_eq_false c8
    clear c8
    simp only [Option.some.injEq, Prod.mk.injEq] at H
    obtain ⟨rfl, rfl, rfl⟩ := H
    go_wp2
    go_ret3
    exact ⟨qE, qB HB.out⟩
   rw [if_pos c8] at H
   have c8b0 : decide (x8_1 ≤ (a0.size : Int)) = true := decide_eq_true c8
   clear c8
   replace H := qN H
   obtain ⟨t466, A9, H⟩ := H
   try dsimp only at H
   have H' := Aside0.mk H
   clear H
   go_wp2_with (first | ((with_reducible refine gate_callee (f := 41) rfl ?_); refine goesL_ (some 25) rfl rfl Try.func41 (by kernel_rfl) rfl #[.string a0, .int .i64 x8_1] rfl qV ?_; (with_reducible refine (impl_factors.calls k1 a0 x8_1 t466 _ A9.out).mono ?_); rintro e w10 ⟨v467, rfl, ho0, hb⟩; refine ⟨_, rfl, ?_⟩; have HO468 := Aside0.mk (Kd.R_lower ho0 (below_size (qB HB.out))); replace HB := Aside0.mk (below_step (qB HB.out) hb); obtain ⟨Ao11, co11, eo11⟩ := Kd.R_slice HO468.out; subst eo11))
   go_loopg [6, 7, 27] k1 (fun kq v6 v7 v27 w' => ∃ (x6_2 : Int) (x7_2 : Int) (x27_2 : Int), v6 = .int .i64 x6_2 ∧ v7 = .int .i64 x7_2 ∧ v27 = .int .i64 x27_2 ∧ Aside0 (impl_CountClosed.l1 kq a0 x6_2 x7_2 x8_1 t466 (t466.length : Int) x27_2 = some (r1, r2, r3)) ∧ Aside0 (kq ≤ k1) ∧ Aside0 (Kd.R Kd.string 9 w' w.heap.size (fun _ => True) (.slice Ao11 t466.length co11) t466) ∧ Aside0 (Below w.heap.size w w'))
   case atStart => exact ⟨(x6_1), (x7_1), (0), qF, qF, qF, H', ⟨Nat.le_refl _⟩, ⟨qR HO468.out⟩, ⟨qB HB.out⟩⟩
   case round =>
    clear H'
    obtain ⟨x6_2, x7_2, x27_2, rfl, rfl, rfl, HA, HK2, HO_25, HB⟩ := hrel
    cases gk with
    | zero => exact absurd HA.out (by simp [impl_CountClosed.l1])
    | succ k2 =>
     have H := HA.out
     clear HA
     simp only [impl_CountClosed.l1] at H
     by_cases c12 : x27_2 < (t466.length : Int)
     rotate_left
     ·
      rw [if_neg c12] at H
      have c12b0 : decide (x27_2 < (t466.length : Int)) = false := decide_eq_false c12
      clear c12
      have H' := Aside0.mk H
      clear H
      go_wp2
      go_roundg k2
      case measure => have := HK1.out; have := HK2.out; omega
      case rel => exact ⟨(x6_2), (x7_2), (wrap64 (x8_1 + 1)), qF, qF, qF, H', ⟨by have := HK1.out; have := HK2.out; omega⟩, ⟨qB HB.out⟩⟩
     rw [if_pos c12] at H
     have c12b0 : decide (x27_2 < (t466.length : Int)) = true := decide_eq_true c12
     clear c12
     by_cases c13 : 0 ≤ x27_2
     rotate_left
     ·
      rw [if_neg c13] at H
      exact absurd H (by simp)
     rw [if_pos c13] at H
     have c13b0 : decide (0 ≤ x27_2) = true := decide_eq_true c13
     clear c13
     by_cases c14 : x27_2 < (t466.length : Int)
     rotate_left
     ·
      rw [if_neg c14] at H
      exact absurd H (by simp)
     rw [if_pos c14] at H
     have c14b0 : decide (x27_2 < (t466.length : Int)) = true := decide_eq_true c14
     clear c14
     replace H := qN H
     obtain ⟨t470, A15, H⟩ := H
     try dsimp only at H
     by_cases c16 : t470 = true
     ·
      subst c16
      rw [if_pos rfl] at H
      replace H := qN H
      obtain ⟨t471, A17, H⟩ := H
      try dsimp only at H
      by_cases c18 : t471 = true
      ·
       subst c18
       rw [if_pos rfl] at H
       have H' := Aside0.mk H
       clear H
       have p469 : 0 ≤ (x27_2 : Int) := of_decide_eq_true (by first | (with_reducible assumption) | assumption)
       have q469 : x27_2 < (t466.length : Int) := of_decide_eq_true (by first | (with_reducible assumption) | assumption)
       obtain ⟨ad469, e469, hx469_0⟩ := Kd.at_string (Kd.R_reads' HO_25.out).2.2 x27_2 p469 q469
       cases e469
       replace p469 := eq_true p469
       replace q469 := eq_true q469
       go_wp2_with (first | ((with_reducible refine gate_callee (f := 38) rfl ?_); refine goesL_ (some 32) rfl rfl Try.func38 (by kernel_rfl) rfl #[.string (rdOf ByteArray.empty t466 x27_2)] rfl qV ?_; (with_reducible refine (impl_isClosed.calls k2 (rdOf ByteArray.empty t466 x27_2) true _ A15.out).mono ?_); rintro e w19 ⟨rfl, hb⟩; refine ⟨_, rfl, ?_⟩; replace HO_25 := Aside0.mk (Kd.R_below (qR HO_25.out) hb); replace HB := Aside0.mk (below_step (qB HB.out) hb)) | ((with_reducible refine gate_callee (f := 40) rfl ?_); refine goesL_ (some 36) rfl rfl Try.func40 (by kernel_rfl) rfl #[.string (rdOf ByteArray.empty t466 x27_2)] rfl qV ?_; (with_reducible refine (impl_isPrivileged.calls k2 (rdOf ByteArray.empty t466 x27_2) true _ A17.out).mono ?_); rintro e w20 ⟨rfl, hb⟩; refine ⟨_, rfl, ?_⟩; replace HO_25 := Aside0.mk (Kd.R_below (qR HO_25.out) hb); replace HB := Aside0.mk (below_step (qB HB.out) hb)))
       go_roundg k2
       case measure => have := HK1.out; have := HK2.out; omega
       case rel => exact ⟨(wrap64 (x6_2 + 1)), (wrap64 (x7_2 + 1)), (wrap64 (x27_2 + 1)), qF, qF, qF, H', ⟨by have := HK1.out; have := HK2.out; omega⟩, ⟨qR HO_25.out⟩, ⟨qB HB.out⟩⟩
      replace c18 := Bool.eq_false_iff.mpr c18
      subst c18
      rw [if_neg (show ¬ (false = true) by decide)] at H
      have H' := Aside0.mk H
      clear H
      have p469 : 0 ≤ (x27_2 : Int) := of_decide_eq_true (by first | (with_reducible assumption) | assumption)
      have q469 : x27_2 < (t466.length : Int) := of_decide_eq_true (by first | (with_reducible assumption) | assumption)
      obtain ⟨ad469, e469, hx469_0⟩ := Kd.at_string (Kd.R_reads' HO_25.out).2.2 x27_2 p469 q469
      cases e469
      replace p469 := eq_true p469
      replace q469 := eq_true q469
      go_wp2_with (first | ((with_reducible refine gate_callee (f := 38) rfl ?_); refine goesL_ (some 32) rfl rfl Try.func38 (by kernel_rfl) rfl #[.string (rdOf ByteArray.empty t466 x27_2)] rfl qV ?_; (with_reducible refine (impl_isClosed.calls k2 (rdOf ByteArray.empty t466 x27_2) true _ A15.out).mono ?_); rintro e w21 ⟨rfl, hb⟩; refine ⟨_, rfl, ?_⟩; replace HO_25 := Aside0.mk (Kd.R_below (qR HO_25.out) hb); replace HB := Aside0.mk (below_step (qB HB.out) hb)) | ((with_reducible refine gate_callee (f := 40) rfl ?_); refine goesL_ (some 36) rfl rfl Try.func40 (by kernel_rfl) rfl #[.string (rdOf ByteArray.empty t466 x27_2)] rfl qV ?_; (with_reducible refine (impl_isPrivileged.calls k2 (rdOf ByteArray.empty t466 x27_2) false _ A17.out).mono ?_); rintro e w22 ⟨rfl, hb⟩; refine ⟨_, rfl, ?_⟩; replace HO_25 := Aside0.mk (Kd.R_below (qR HO_25.out) hb); replace HB := Aside0.mk (below_step (qB HB.out) hb)))
      go_roundg k2
      case measure => have := HK1.out; have := HK2.out; omega
      case rel => exact ⟨(wrap64 (x6_2 + 1)), (x7_2), (wrap64 (x27_2 + 1)), qF, qF, qF, H', ⟨by have := HK1.out; have := HK2.out; omega⟩, ⟨qR HO_25.out⟩, ⟨qB HB.out⟩⟩
     replace c16 := Bool.eq_false_iff.mpr c16
     subst c16
     rw [if_neg (show ¬ (false = true) by decide)] at H
     replace H := qN H
     obtain ⟨t472, A23, H⟩ := H
     try dsimp only at H
     by_cases c24 : t472 = true
     ·
      subst c24
      rw [if_pos rfl] at H
      have H' := Aside0.mk H
      clear H
      have p469 : 0 ≤ (x27_2 : Int) := of_decide_eq_true (by first | (with_reducible assumption) | assumption)
      have q469 : x27_2 < (t466.length : Int) := of_decide_eq_true (by first | (with_reducible assumption) | assumption)
      obtain ⟨ad469, e469, hx469_0⟩ := Kd.at_string (Kd.R_reads' HO_25.out).2.2 x27_2 p469 q469
      cases e469
      replace p469 := eq_true p469
      replace q469 := eq_true q469
      go_wp2_with (first | ((with_reducible refine gate_callee (f := 38) rfl ?_); refine goesL_ (some 32) rfl rfl Try.func38 (by kernel_rfl) rfl #[.string (rdOf ByteArray.empty t466 x27_2)] rfl qV ?_; (with_reducible refine (impl_isClosed.calls k2 (rdOf ByteArray.empty t466 x27_2) false _ A15.out).mono ?_); rintro e w25 ⟨rfl, hb⟩; refine ⟨_, rfl, ?_⟩; replace HO_25 := Aside0.mk (Kd.R_below (qR HO_25.out) hb); replace HB := Aside0.mk (below_step (qB HB.out) hb)) | ((with_reducible refine gate_callee (f := 40) rfl ?_); refine goesL_ (some 36) rfl rfl Try.func40 (by kernel_rfl) rfl #[.string (rdOf ByteArray.empty t466 x27_2)] rfl qV ?_; (with_reducible refine (impl_isPrivileged.calls k2 (rdOf ByteArray.empty t466 x27_2) true _ A23.out).mono ?_); rintro e w26 ⟨rfl, hb⟩; refine ⟨_, rfl, ?_⟩; replace HO_25 := Aside0.mk (Kd.R_below (qR HO_25.out) hb); replace HB := Aside0.mk (below_step (qB HB.out) hb)))
      go_roundg k2
      case measure => have := HK1.out; have := HK2.out; omega
      case rel => exact ⟨(x6_2), (wrap64 (x7_2 + 1)), (wrap64 (x27_2 + 1)), qF, qF, qF, H', ⟨by have := HK1.out; have := HK2.out; omega⟩, ⟨qR HO_25.out⟩, ⟨qB HB.out⟩⟩
     replace c24 := Bool.eq_false_iff.mpr c24
     subst c24
     rw [if_neg (show ¬ (false = true) by decide)] at H
     have H' := Aside0.mk H
     clear H
     have p469 : 0 ≤ (x27_2 : Int) := of_decide_eq_true (by first | (with_reducible assumption) | assumption)
     have q469 : x27_2 < (t466.length : Int) := of_decide_eq_true (by first | (with_reducible assumption) | assumption)
     obtain ⟨ad469, e469, hx469_0⟩ := Kd.at_string (Kd.R_reads' HO_25.out).2.2 x27_2 p469 q469
     cases e469
     replace p469 := eq_true p469
     replace q469 := eq_true q469
     go_wp2_with (first | ((with_reducible refine gate_callee (f := 38) rfl ?_); refine goesL_ (some 32) rfl rfl Try.func38 (by kernel_rfl) rfl #[.string (rdOf ByteArray.empty t466 x27_2)] rfl qV ?_; (with_reducible refine (impl_isClosed.calls k2 (rdOf ByteArray.empty t466 x27_2) false _ A15.out).mono ?_); rintro e w27 ⟨rfl, hb⟩; refine ⟨_, rfl, ?_⟩; replace HO_25 := Aside0.mk (Kd.R_below (qR HO_25.out) hb); replace HB := Aside0.mk (below_step (qB HB.out) hb)) | ((with_reducible refine gate_callee (f := 40) rfl ?_); refine goesL_ (some 36) rfl rfl Try.func40 (by kernel_rfl) rfl #[.string (rdOf ByteArray.empty t466 x27_2)] rfl qV ?_; (with_reducible refine (impl_isPrivileged.calls k2 (rdOf ByteArray.empty t466 x27_2) false _ A23.out).mono ?_); rintro e w28 ⟨rfl, hb⟩; refine ⟨_, rfl, ?_⟩; replace HO_25 := Aside0.mk (Kd.R_below (qR HO_25.out) hb); replace HB := Aside0.mk (below_step (qB HB.out) hb)))
     go_roundg k2
     case measure => have := HK1.out; have := HK2.out; omega
     case rel => exact ⟨(x6_2), (x7_2), (wrap64 (x27_2 + 1)), qF, qF, qF, H', ⟨by have := HK1.out; have := HK2.out; omega⟩, ⟨qR HO_25.out⟩, ⟨qB HB.out⟩⟩
end Go.Proofs.Ytjmcffejpgblfaa.PF
