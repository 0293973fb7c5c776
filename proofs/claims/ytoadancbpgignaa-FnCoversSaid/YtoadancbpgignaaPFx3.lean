-- an own text, written by a program of this place (wip/tools)
import Derived.Test.YtoadancbpgignaaPFx0
import Derived.Test.YtoadancbpgignaaPFx2
import Derived.Test.YtoadancbpgignaaPFx1
namespace Go.Proofs.Ytoadancbpgignaa.PF
open Go.RowKit Go.Proofs.YtoadancbpgignaaW.PrintWords Go.Proofs.YtoadancbpgignaaW.PrintLast Go.Proofs.YtoadancbpgignaaW.PrintMore
attribute [local go_sem] max2_int min2_int max_two min_two max_three min_three max_four min_four   -- for this text's walks alone
set_option linter.unusedVariables false
set_option linter.unusedSimpArgs false

/-! ### spec_DrawGrowByCover: function 21 -/
mutual
def spec_DrawGrowByCover.l0 : Nat → ByteArray → List Int → List Int → Int → List Int → Int → Int → Option (ByteArray × List Int)
 | 0, _, _, _, _, _, _, _ => none
 | k + 1, x5, x6, x7, x8, x496000, x496001, x496002 => if x8 > 0 then ((spec_l01Next.f x496000 x496001 x496002 (x6.length : Int)).bind fun bt523 => (if 0 ≤ bt523.1 then (if bt523.1 < (x6.length : Int) then (if x7.length < 17592186044416 then (spec_DrawGrowByCover.l0 k x5 x6 (x7 ++ [rd x6 bt523.1]) (wrap64 (x8 - 1)) x496000 bt523.2.1 bt523.2.2) else (none)) else (none)) else (none))) else (if (x7.length : Int) > 0 then ((spec_l01Next.f x496000 x496001 x496002 10).bind fun bt530 => (if bt530.1 = 0 then ((spec_l01Pick.f x496000 bt530.2.1 bt530.2.2 (([(-1), (x5.size : Int)] : List Int))).bind fun bt536 => (if 0 < (x7.length : Int) then (spec_DrawGrowByCover.j1 k x5 (x7.set (0 : Int).toNat bt536.1) x496000 bt536.2.1 bt536.2.2) else (none))) else (if bt530.1 = 1 then ((spec_l01Next.f x496000 bt530.2.1 bt530.2.2 (x5.size : Int)).bind fun bt540 => (if 0 < (x7.length : Int) then (spec_DrawGrowByCover.j1 k x5 (x7.set (0 : Int).toNat bt540.1) x496000 bt540.2.1 bt540.2.2) else (none))) else (spec_DrawGrowByCover.j1 k x5 x7 x496000 bt530.2.1 bt530.2.2)))) else (spec_DrawGrowByCover.j1 k x5 x7 x496000 x496001 x496002))
def spec_DrawGrowByCover.j1 : Nat → ByteArray → List Int → List Int → Int → Int → Option (ByteArray × List Int)
 | 0, _, _, _, _, _ => none
 | k + 1, x5, x7, x496000, x496001, x496002 => (spec_l01Next.f x496000 x496001 x496002 30).bind fun bt544 => (if bt544.1 = 0 then ((spec_l01Bad.f k x496000 bt544.2.1 bt544.2.2 (⟨#[]⟩ : ByteArray)).bind fun bt547 => (some (bt547.1, x7))) else ((spec_l01Bad.f k x496000 bt544.2.1 bt544.2.2 x5).bind fun bt550 => (some (bt550.1, x7))))
end
def spec_DrawGrowByCover.f (k : Nat) (l0 : List Int) : Option (ByteArray × List Int) := (spec_l01From.f k l0).bind fun bt492 => ((spec_l01Next.f bt492.1 bt492.2.1 bt492.2.2 3).bind fun bt496 => ((spec_l01DrawOf.f k bt492.1 bt496.2.1 bt496.2.2 (wrap64 (1 + bt496.1)) 2).bind fun bt499 => ((spec_l01Next.f bt492.1 bt499.2.1 bt499.2.2 2).bind fun bt502 => ((spec_l01DrawOf.f k bt492.1 bt502.2.1 bt502.2.2 bt502.1 2).bind fun bt505 => (if bt499.1.size + bt505.1.size ≤ 9223372036854775807 then (if (bt499.1 ++ bt505.1).size + bt499.1.size ≤ 9223372036854775807 then ((spec_l09Ends.f k ((bt499.1 ++ bt505.1) ++ bt499.1)).bind fun t508 => ((spec_l01Pick.f bt492.1 bt505.2.1 bt505.2.2 (([3, 8, 20] : List Int))).bind fun bt517 => ((spec_l01Next.f bt492.1 bt517.2.1 bt517.2.2 bt517.1).bind fun bt520 => (spec_DrawGrowByCover.l0 k ((bt499.1 ++ bt505.1) ++ bt499.1) t508 (([] : List Int)) bt520.1 bt492.1 bt520.2.1 bt520.2.2)))) else (none)) else (none))))))
theorem spec_DrawGrowByCover.mono_l : ∀ k, (∀ y0 y1 y2 y3 y4 y5 y6, LeO (spec_DrawGrowByCover.l0 k y0 y1 y2 y3 y4 y5 y6) (spec_DrawGrowByCover.l0 (k + 1) y0 y1 y2 y3 y4 y5 y6)) ∧ (∀ y0 y1 y2 y3 y4, LeO (spec_DrawGrowByCover.j1 k y0 y1 y2 y3 y4) (spec_DrawGrowByCover.j1 (k + 1) y0 y1 y2 y3 y4))
 | 0 => ⟨fun _ _ _ _ _ _ _ r h => by simp [spec_DrawGrowByCover.l0] at h, fun _ _ _ _ _ r h => by simp [spec_DrawGrowByCover.j1] at h⟩
 | k + 1 => by
  obtain ⟨ih0, ih1⟩ := spec_DrawGrowByCover.mono_l k
  refine ⟨?_, ?_⟩
  ·
   intro y0 y1 y2 y3 y4 y5 y6
   unfold spec_DrawGrowByCover.l0
   repeat' first
   | (with_reducible exact ih0 _ _ _ _ _ _ _)
   | (with_reducible exact ih1 _ _ _ _ _)
   | (with_reducible exact spec_l01Bad.mono _ _ _ _ _)
   | (with_reducible exact spec_l01DrawOf.mono _ _ _ _ _ _)
   | (with_reducible exact spec_l01From.mono _ _)
   | (with_reducible exact spec_l09Ends.mono _ _)
   | (with_reducible exact LeO.refl _)
   | (with_reducible exact LeO.none _)
   | (with_reducible refine LeO.ite ?_ ?_)
   | (with_reducible refine LeO.bind ?_ (fun _ => ?_))
  ·
   intro y0 y1 y2 y3 y4
   unfold spec_DrawGrowByCover.j1
   repeat' first
   | (with_reducible exact ih0 _ _ _ _ _ _ _)
   | (with_reducible exact ih1 _ _ _ _ _)
   | (with_reducible exact spec_l01Bad.mono _ _ _ _ _)
   | (with_reducible exact spec_l01DrawOf.mono _ _ _ _ _ _)
   | (with_reducible exact spec_l01From.mono _ _)
   | (with_reducible exact spec_l09Ends.mono _ _)
   | (with_reducible exact LeO.refl _)
   | (with_reducible exact LeO.none _)
   | (with_reducible refine LeO.ite ?_ ?_)
   | (with_reducible refine LeO.bind ?_ (fun _ => ?_))
theorem spec_DrawGrowByCover.mono : ∀ a0 k, LeO (spec_DrawGrowByCover.f k a0) (spec_DrawGrowByCover.f (k + 1) a0) := by
 intro a0 k
 obtain ⟨ih0, ih1⟩ := spec_DrawGrowByCover.mono_l k
 unfold spec_DrawGrowByCover.f
 repeat' first
   | (with_reducible exact ih0 _ _ _ _ _ _ _)
   | (with_reducible exact ih1 _ _ _ _ _)
   | (with_reducible exact spec_l01Bad.mono _ _ _ _ _)
   | (with_reducible exact spec_l01DrawOf.mono _ _ _ _ _ _)
   | (with_reducible exact spec_l01From.mono _ _)
   | (with_reducible exact spec_l09Ends.mono _ _)
   | (with_reducible exact LeO.refl _)
   | (with_reducible exact LeO.none _)
   | (with_reducible refine LeO.ite ?_ ?_)
   | (with_reducible refine LeO.bind ?_ (fun _ => ?_))
set_option maxHeartbeats 8000000 in
set_option maxRecDepth 100000 in
theorem spec_DrawGrowByCover.calls (k : Nat) (A0 : Option Addr) (c0 : Nat) (l0 : List Int) (r1 : ByteArray) (r2 : List Int) (w : World) (hr0 : Kd.C (Kd.int .u8) w A0 l0.length l0) (hc0 : l0.length ≤ c0) (h : spec_DrawGrowByCover.f k l0 = some (r1, r2)) :
  Calls Try.prog 21 #[.slice A0 l0.length c0] w fun e w' => ∃ v1_ : Value, e = .returned (.tuple #[.string r1, v1_]) ∧ Kd.R (Kd.int .i64) 2 w' w.heap.size (fun _ => True) v1_ r2 ∧ Below w.heap.size w w' := by
 have HR0 := Aside0.mk hr0
 have HC0 := Aside0.mk hc0
 clear hr0 hc0
 have HB := Aside0.mk (Below.refl w.heap.size w)
 have H : ((spec_l01From.f k l0).bind fun bt492 => ((spec_l01Next.f bt492.1 bt492.2.1 bt492.2.2 3).bind fun bt496 => ((spec_l01DrawOf.f k bt492.1 bt496.2.1 bt496.2.2 (wrap64 (1 + bt496.1)) 2).bind fun bt499 => ((spec_l01Next.f bt492.1 bt499.2.1 bt499.2.2 2).bind fun bt502 => ((spec_l01DrawOf.f k bt492.1 bt502.2.1 bt502.2.2 bt502.1 2).bind fun bt505 => (if bt499.1.size + bt505.1.size ≤ 9223372036854775807 then (if (bt499.1 ++ bt505.1).size + bt499.1.size ≤ 9223372036854775807 then ((spec_l09Ends.f k ((bt499.1 ++ bt505.1) ++ bt499.1)).bind fun t508 => ((spec_l01Pick.f bt492.1 bt505.2.1 bt505.2.2 (([3, 8, 20] : List Int))).bind fun bt517 => ((spec_l01Next.f bt492.1 bt517.2.1 bt517.2.2 bt517.1).bind fun bt520 => (spec_DrawGrowByCover.l0 k ((bt499.1 ++ bt505.1) ++ bt499.1) t508 (([] : List Int)) bt520.1 bt492.1 bt520.2.1 bt520.2.2)))) else (none)) else (none))))))) = some (r1, r2) := h
 clear h
 replace H := Option.bind_eq_some_iff.mp H
 obtain ⟨⟨t492, t493, t494⟩, A20, H⟩ := H
 replace H : ((spec_l01Next.f t492 t493 t494 3).bind fun bt496 => ((spec_l01DrawOf.f k t492 bt496.2.1 bt496.2.2 (wrap64 (1 + bt496.1)) 2).bind fun bt499 => ((spec_l01Next.f t492 bt499.2.1 bt499.2.2 2).bind fun bt502 => ((spec_l01DrawOf.f k t492 bt502.2.1 bt502.2.2 bt502.1 2).bind fun bt505 => (if bt499.1.size + bt505.1.size ≤ 9223372036854775807 then (if (bt499.1 ++ bt505.1).size + bt499.1.size ≤ 9223372036854775807 then ((spec_l09Ends.f k ((bt499.1 ++ bt505.1) ++ bt499.1)).bind fun t508 => ((spec_l01Pick.f t492 bt505.2.1 bt505.2.2 (([3, 8, 20] : List Int))).bind fun bt517 => ((spec_l01Next.f t492 bt517.2.1 bt517.2.2 bt517.1).bind fun bt520 => (spec_DrawGrowByCover.l0 k ((bt499.1 ++ bt505.1) ++ bt499.1) t508 (([] : List Int)) bt520.1 t492 bt520.2.1 bt520.2.2)))) else (none)) else (none)))))) = some (r1, r2) := H
 have A2 := Aside0.mk A20
 clear A20
 replace H := Option.bind_eq_some_iff.mp H
 obtain ⟨⟨t496, t497, t498⟩, A30, H⟩ := H
 replace H : ((spec_l01DrawOf.f k t492 t497 t498 (wrap64 (1 + t496)) 2).bind fun bt499 => ((spec_l01Next.f t492 bt499.2.1 bt499.2.2 2).bind fun bt502 => ((spec_l01DrawOf.f k t492 bt502.2.1 bt502.2.2 bt502.1 2).bind fun bt505 => (if bt499.1.size + bt505.1.size ≤ 9223372036854775807 then (if (bt499.1 ++ bt505.1).size + bt499.1.size ≤ 9223372036854775807 then ((spec_l09Ends.f k ((bt499.1 ++ bt505.1) ++ bt499.1)).bind fun t508 => ((spec_l01Pick.f t492 bt505.2.1 bt505.2.2 (([3, 8, 20] : List Int))).bind fun bt517 => ((spec_l01Next.f t492 bt517.2.1 bt517.2.2 bt517.1).bind fun bt520 => (spec_DrawGrowByCover.l0 k ((bt499.1 ++ bt505.1) ++ bt499.1) t508 (([] : List Int)) bt520.1 t492 bt520.2.1 bt520.2.2)))) else (none)) else (none))))) = some (r1, r2) := H
 have A3 := Aside0.mk A30
 clear A30
 replace H := Option.bind_eq_some_iff.mp H
 obtain ⟨⟨t499, t500, t501⟩, A40, H⟩ := H
 replace H : ((spec_l01Next.f t492 t500 t501 2).bind fun bt502 => ((spec_l01DrawOf.f k t492 bt502.2.1 bt502.2.2 bt502.1 2).bind fun bt505 => (if t499.size + bt505.1.size ≤ 9223372036854775807 then (if (t499 ++ bt505.1).size + t499.size ≤ 9223372036854775807 then ((spec_l09Ends.f k ((t499 ++ bt505.1) ++ t499)).bind fun t508 => ((spec_l01Pick.f t492 bt505.2.1 bt505.2.2 (([3, 8, 20] : List Int))).bind fun bt517 => ((spec_l01Next.f t492 bt517.2.1 bt517.2.2 bt517.1).bind fun bt520 => (spec_DrawGrowByCover.l0 k ((t499 ++ bt505.1) ++ t499) t508 (([] : List Int)) bt520.1 t492 bt520.2.1 bt520.2.2)))) else (none)) else (none)))) = some (r1, r2) := H
 have A4 := Aside0.mk A40
 clear A40
 replace H := Option.bind_eq_some_iff.mp H
 obtain ⟨⟨t502, t503, t504⟩, A50, H⟩ := H
 replace H : ((spec_l01DrawOf.f k t492 t503 t504 t502 2).bind fun bt505 => (if t499.size + bt505.1.size ≤ 9223372036854775807 then (if (t499 ++ bt505.1).size + t499.size ≤ 9223372036854775807 then ((spec_l09Ends.f k ((t499 ++ bt505.1) ++ t499)).bind fun t508 => ((spec_l01Pick.f t492 bt505.2.1 bt505.2.2 (([3, 8, 20] : List Int))).bind fun bt517 => ((spec_l01Next.f t492 bt517.2.1 bt517.2.2 bt517.1).bind fun bt520 => (spec_DrawGrowByCover.l0 k ((t499 ++ bt505.1) ++ t499) t508 (([] : List Int)) bt520.1 t492 bt520.2.1 bt520.2.2)))) else (none)) else (none))) = some (r1, r2) := H
 have A5 := Aside0.mk A50
 clear A50
 replace H := Option.bind_eq_some_iff.mp H
 obtain ⟨⟨t505, t506, t507⟩, A60, H⟩ := H
 replace H : (if t499.size + t505.size ≤ 9223372036854775807 then (if (t499 ++ t505).size + t499.size ≤ 9223372036854775807 then ((spec_l09Ends.f k ((t499 ++ t505) ++ t499)).bind fun t508 => ((spec_l01Pick.f t492 t506 t507 (([3, 8, 20] : List Int))).bind fun bt517 => ((spec_l01Next.f t492 bt517.2.1 bt517.2.2 bt517.1).bind fun bt520 => (spec_DrawGrowByCover.l0 k ((t499 ++ t505) ++ t499) t508 (([] : List Int)) bt520.1 t492 bt520.2.1 bt520.2.2)))) else (none)) else (none)) = some (r1, r2) := H
 have A6 := Aside0.mk A60
 clear A60
 by_cases c7 : t499.size + t505.size ≤ 9223372036854775807
 ·
  rw [if_pos c7] at H
  have c7b0 := eq_true c7
  have c7b1 : decide (t499.size + t505.size ≤ 9223372036854775807) = true := decide_eq_true c7
  try have c7b2 : (9223372036854775807 < t499.size + t505.size) = False := eq_false (Nat.not_lt.2 c7)
  by_cases c8 : (t499 ++ t505).size + t499.size ≤ 9223372036854775807
  ·
   rw [if_pos c8] at H
   have c8b0 := eq_true c8
   have c8b1 : decide ((t499 ++ t505).size + t499.size ≤ 9223372036854775807) = true := decide_eq_true c8
   have c8y := c8
   try simp only [ByteArray.size_append] at c8y
   try have c8y0 := eq_true c8y
   try have c8y2 := eq_false (Nat.not_lt.2 c8y)
   clear c8y
   try have c8b2 : (9223372036854775807 < (t499 ++ t505).size + t499.size) = False := eq_false (Nat.not_lt.2 c8)
   replace H := Option.bind_eq_some_iff.mp H
   obtain ⟨t508, A90, H⟩ := H
   replace H : ((spec_l01Pick.f t492 t506 t507 (([3, 8, 20] : List Int))).bind fun bt517 => ((spec_l01Next.f t492 bt517.2.1 bt517.2.2 bt517.1).bind fun bt520 => (spec_DrawGrowByCover.l0 k ((t499 ++ t505) ++ t499) t508 (([] : List Int)) bt520.1 t492 bt520.2.1 bt520.2.2))) = some (r1, r2) := H
   have A9 := Aside0.mk A90
   clear A90
   obtain ⟨y511, hy511⟩ : ∃ y_ : List Int, y_ = (([] : List Int)) := ⟨_, rfl⟩
   replace H : ((spec_l01Pick.f t492 t506 t507 (([3, 8, 20] : List Int))).bind fun bt517 => ((spec_l01Next.f t492 bt517.2.1 bt517.2.2 bt517.1).bind fun bt520 => (spec_DrawGrowByCover.l0 k ((t499 ++ t505) ++ t499) t508 y511 bt520.1 t492 bt520.2.1 bt520.2.2))) = some (r1, r2) := by first | (rw [hy511]; with_reducible exact H) | (have H2_ := (Option.bind_some _ _).symm.trans H; rw [hy511]; with_reducible exact H2_) | (have H2_ := (Option.bind_some _ _).symm.trans H; with_reducible exact H2_) | with_reducible exact H | (rw [hy511]; exact H) | exact H
   have Ny511 := Aside0.mk hy511
   clear hy511
   obtain ⟨y514, hy514⟩ : ∃ y_ : List Int, y_ = (([3, 8, 20] : List Int)) := ⟨_, rfl⟩
   replace H : ((spec_l01Pick.f t492 t506 t507 y514).bind fun bt517 => ((spec_l01Next.f t492 bt517.2.1 bt517.2.2 bt517.1).bind fun bt520 => (spec_DrawGrowByCover.l0 k ((t499 ++ t505) ++ t499) t508 y511 bt520.1 t492 bt520.2.1 bt520.2.2))) = some (r1, r2) := by first | (rw [hy514]; with_reducible exact H) | (have H2_ := (Option.bind_some _ _).symm.trans H; rw [hy514]; with_reducible exact H2_) | (have H2_ := (Option.bind_some _ _).symm.trans H; with_reducible exact H2_) | with_reducible exact H | (rw [hy514]; exact H) | exact H
   have Ny514 := Aside0.mk hy514
   clear hy514
   replace H := Option.bind_eq_some_iff.mp H
   obtain ⟨⟨t517, t518, t519⟩, A100, H⟩ := H
   replace H : ((spec_l01Next.f t492 t518 t519 t517).bind fun bt520 => (spec_DrawGrowByCover.l0 k ((t499 ++ t505) ++ t499) t508 y511 bt520.1 t492 bt520.2.1 bt520.2.2)) = some (r1, r2) := H
   have A10 := Aside0.mk A100
   clear A100
   replace H := Option.bind_eq_some_iff.mp H
   obtain ⟨⟨t520, t521, t522⟩, A110, H⟩ := H
   replace H : (spec_DrawGrowByCover.l0 k ((t499 ++ t505) ++ t499) t508 y511 t520 t492 t521 t522) = some (r1, r2) := H
   have A11 := Aside0.mk A110
   clear A110
   have H' := Aside0.mk H
   clear H
   go_enter Try.func21, Try.ntmps21
   go_wp2_with (first | ((with_reducible refine gate_callee (f := 40) rfl ?_); refine goesL_ (some 10) rfl rfl Try.func40 (by kernel_rfl) rfl #[.slice A0 l0.length c0] rfl qV ?_; (with_reducible refine (spec_l01From.calls k _ _ l0 t492 t493 t494 w _ ?side1 ?side2 ?side3 A2.out).mono ?_); (case side1 => exact qB HB.out); (case side2 => exact HR0.out); (case side3 => exact HC0.out); rintro e w12 ⟨g495, rfl, hi, hb, hb2⟩; refine ⟨_, rfl, ?_⟩; have n0_ := Aside0.mk (hb); have n1_ := Aside0.mk (hi); clear HB; have HB := n0_; have HI495 := n1_; clear n0_ n1_) | ((with_reducible refine gate_callee (f := 42) rfl ?_); refine goesL_ (some 13) rfl rfl Try.func42 (by kernel_rfl) rfl #[.pointer (some ⟨g495, 0, none⟩), .int .i64 3] rfl qV ?_; (with_reducible refine (spec_l01Next.calls g495 t492 t493 t494 3 t496 t497 t498 w _ ?side1 ?side2 A3.out).mono ?_); (case side1 => exact qI HI495.out); (case side2 => exact qS HB.out); rintro e w13 ⟨rfl, hi, hb, hk⟩; refine ⟨_, rfl, ?_⟩; have n0_ := Aside0.mk (hb); have n1_ := Aside0.mk (hi); clear HB; clear HI495; have HB := n0_; have HI495 := n1_; clear n0_ n1_) | ((with_reducible refine gate_callee (f := 41) rfl ?_); refine goesL_ (some 15) rfl rfl Try.func41 (by kernel_rfl) rfl #[.pointer (some ⟨g495, 0, none⟩), .int .i64 (wrap64 (1 + t496)), .int .i64 2] rfl qV ?_; (with_reducible refine (spec_l01DrawOf.calls k g495 t492 t497 t498 (wrap64 (1 + t496)) 2 t499 t500 t501 w _ ?side1 ?side2 A4.out).mono ?_); (case side1 => exact qI HI495.out); (case side2 => exact qS HB.out); rintro e w14 ⟨rfl, hi, hb, hk⟩; refine ⟨_, rfl, ?_⟩; have n0_ := Aside0.mk (hb); have n1_ := Aside0.mk (hi); clear HB; clear HI495; have HB := n0_; have HI495 := n1_; clear n0_ n1_) | ((with_reducible refine gate_callee (f := 42) rfl ?_); refine goesL_ (some 19) rfl rfl Try.func42 (by kernel_rfl) rfl #[.pointer (some ⟨g495, 0, none⟩), .int .i64 2] rfl qV ?_; (with_reducible refine (spec_l01Next.calls g495 t492 t500 t501 2 t502 t503 t504 w _ ?side1 ?side2 A5.out).mono ?_); (case side1 => exact qI HI495.out); (case side2 => exact qS HB.out); rintro e w15 ⟨rfl, hi, hb, hk⟩; refine ⟨_, rfl, ?_⟩; have n0_ := Aside0.mk (hb); have n1_ := Aside0.mk (hi); clear HB; clear HI495; have HB := n0_; have HI495 := n1_; clear n0_ n1_) | ((with_reducible refine gate_callee (f := 41) rfl ?_); refine goesL_ (some 20) rfl rfl Try.func41 (by kernel_rfl) rfl #[.pointer (some ⟨g495, 0, none⟩), .int .i64 t502, .int .i64 2] rfl qV ?_; (with_reducible refine (spec_l01DrawOf.calls k g495 t492 t503 t504 t502 2 t505 t506 t507 w _ ?side1 ?side2 A6.out).mono ?_); (case side1 => exact qI HI495.out); (case side2 => exact qS HB.out); rintro e w16 ⟨rfl, hi, hb, hk⟩; refine ⟨_, rfl, ?_⟩; have n0_ := Aside0.mk (hb); have n1_ := Aside0.mk (hi); clear HB; clear HI495; have HB := n0_; have HI495 := n1_; clear n0_ n1_) | ((with_reducible refine gate_callee (f := 43) rfl ?_); refine goesL_ (some 25) rfl rfl Try.func43 (by kernel_rfl) rfl #[.string ((t499 ++ t505) ++ t499)] rfl qV ?_; (with_reducible refine (spec_l09Ends.calls k ((t499 ++ t505) ++ t499) t508 _ A9.out).mono ?_); rintro e w17 ⟨v509, rfl, ho0, hb⟩; refine ⟨_, rfl, ?_⟩; have n0_ := Aside0.mk (Kd.R_lower ho0 (below_size (qS HB.out))); have n1_ := Aside0.mk (IsS73.below (qI HI495.out) hb); have n2_ := Aside0.mk (below_step (qS HB.out) hb); clear HI495; clear HB; have HO510 := n0_; have HI495 := n1_; have HB := n2_; clear n0_ n1_ n2_) | ((with_reducible refine gate_dst (N := 26) rfl ?_); refine Kd.R_lit (Kd.int .i64) _ 2 ?hg (N := 26) ?hd (xs := ([] : List Int)) (inner := []) (ok := fun _ => True) (okp := fun _ => True) ?hr ?hp (fun _ hk => hk) trivial (Below.refl _ _) (Nat.le_refl _) (by simp) ?_; (case hd => rfl); (case hg => rfl); (case hr => first | (go_simp; done) | (go_simp; rfl)); (case hp => exact (Reps.none _ _)); intro v512 w18 ho19 hb hg_ hnew_; clear hg_ hnew_; (first | rw [← Ny511.out] at ho19 | (simp only [Int.reduceToNat] at ho19; rw [← Ny511.out] at ho19)); have n0_ := Aside0.mk (Kd.R_elder' (qR HO510.out) (Kd.R_base ho19) hb); have n1_ := Aside0.mk (Kd.R_lower (Kd.R_new' ho19 (Kd.R_lt (qR HO510.out))) (below_size (qS HB.out))); have n2_ := Aside0.mk (IsS73.below (qI HI495.out) hb); have n3_ := Aside0.mk (below_step (qS HB.out) hb); clear HO510; clear HI495; clear HB; have HO510 := n0_; have HO513 := n1_; have HI495 := n2_; have HB := n3_; clear n0_ n1_ n2_ n3_; clear hb ho19) | ((with_reducible refine gate_dst (N := 29) rfl ?_); refine Kd.R_lit (Kd.int .i64) _ 2 ?hg (N := 29) ?hd (xs := ([3, 8, 20] : List Int)) (inner := [.int .i64 3, .int .i64 8, .int .i64 20]) (ok := fun _ => True) (okp := fun _ => True) ?hr ?hp (fun _ hk => hk) trivial (Below.refl _ _) (Nat.le_refl _) (by simp) ?_; (case hd => rfl); (case hg => rfl); (case hr => first | (go_simp; done) | (go_simp; rfl)); (case hp => exact (Reps.one (show Kd.M (Kd.int .i64) _ _ _ 3 [.int .i64 3] from rfl) (Reps.one (show Kd.M (Kd.int .i64) _ _ _ 8 [.int .i64 8] from rfl) (Reps.one (show Kd.M (Kd.int .i64) _ _ _ 20 [.int .i64 20] from rfl) (Reps.none _ _))))); intro v515 w20 ho21 hb hg_ hnew_; clear hg_ hnew_; (first | rw [← Ny514.out] at ho21 | (simp only [Int.reduceToNat] at ho21; rw [← Ny514.out] at ho21)); have n0_ := Aside0.mk (Kd.R_elder' (qR HO510.out) (Kd.R_base ho21) hb); have n1_ := Aside0.mk (Kd.R_elder' (qR HO513.out) (Kd.R_base ho21) hb); have n2_ := Aside0.mk (Kd.R_lower (Kd.R_new' (Kd.R_new' ho21 (Kd.R_lt (qR HO510.out))) (Kd.R_lt (qR HO513.out))) (below_size (qS HB.out))); have n3_ := Aside0.mk (IsS73.below (qI HI495.out) hb); have n4_ := Aside0.mk (below_step (qS HB.out) hb); clear HO510; clear HO513; clear HI495; clear HB; have HO510 := n0_; have HO513 := n1_; have HO516 := n2_; have HI495 := n3_; have HB := n4_; clear n0_ n1_ n2_ n3_ n4_; clear hb ho21; obtain ⟨Ao22, co22, eo22⟩ := Kd.R_slice HO516.out; subst eo22) | ((with_reducible refine gate_callee (f := 44) rfl ?_); refine goesL_ (some 30) rfl rfl Try.func44 (by kernel_rfl) rfl #[.pointer (some ⟨g495, 0, none⟩), .slice Ao22 y514.length co22] rfl qV ?_; (with_reducible refine (spec_l01Pick.calls g495 t492 t506 t507 _ _ y514 t517 t518 t519 w _ ?side1 ?side2 ?side3 ?side4 ?side5 A10.out).mono ?_); (case side1 => exact qI HI495.out); (case side2 => exact qS HB.out); (case side3 => exact qC (Kd.R_reads' HO516.out).2.2); (case side4 => exact (Kd.R_reads' HO516.out).2.1); (case side5 => exact far_slice (IsS73.own_ne HI495.out HO516.out (by decide))); rintro e w23 ⟨rfl, hi, hb, hk⟩; refine ⟨_, rfl, ?_⟩; have n0_ := Aside0.mk (Kd.R_mono (Kd.R_keep (IsS73.apart (show IsS73 w _ g495 t492 t506 t507 from qI HI495.out) (qR HO510.out) (by decide)) hk (fun _ h => h.2)) (fun _ h => h.1)); have n1_ := Aside0.mk (Kd.R_mono (Kd.R_keep (IsS73.apart (show IsS73 w _ g495 t492 t506 t507 from qI HI495.out) (qR HO513.out) (by decide)) hk (fun _ h => h.2)) (fun _ h => h.1)); have n2_ := Aside0.mk (Kd.R_mono (Kd.R_keep (IsS73.apart (show IsS73 w _ g495 t492 t506 t507 from qI HI495.out) (qR HO516.out) (by decide)) hk (fun _ h => h.2)) (fun _ h => h.1)); have n3_ := Aside0.mk (hb); have n4_ := Aside0.mk (hi); clear HO510; clear HO513; clear HO516; clear HB; clear HI495; have HO510 := n0_; have HO513 := n1_; have HO516 := n2_; have HB := n3_; have HI495 := n4_; clear n0_ n1_ n2_ n3_ n4_) | ((with_reducible refine gate_callee (f := 42) rfl ?_); refine goesL_ (some 31) rfl rfl Try.func42 (by kernel_rfl) rfl #[.pointer (some ⟨g495, 0, none⟩), .int .i64 t517] rfl qV ?_; (with_reducible refine (spec_l01Next.calls g495 t492 t518 t519 t517 t520 t521 t522 w _ ?side1 ?side2 A11.out).mono ?_); (case side1 => exact qI HI495.out); (case side2 => exact qS HB.out); rintro e w24 ⟨rfl, hi, hb, hk⟩; refine ⟨_, rfl, ?_⟩; have n0_ := Aside0.mk (Kd.R_mono (Kd.R_keep (IsS73.apart (show IsS73 w _ g495 t492 t518 t519 from qI HI495.out) (qR HO510.out) (by decide)) hk (fun _ h => h.2)) (fun _ h => h.1)); have n1_ := Aside0.mk (Kd.R_mono (Kd.R_keep (IsS73.apart (show IsS73 w _ g495 t492 t518 t519 from qI HI495.out) (qR HO513.out) (by decide)) hk (fun _ h => h.2)) (fun _ h => h.1)); have n2_ := Aside0.mk (Kd.R_mono (Kd.R_keep (IsS73.apart (show IsS73 w _ g495 t492 t518 t519 from qI HI495.out) (qR HO516.out) (by decide)) hk (fun _ h => h.2)) (fun _ h => h.1)); have n3_ := Aside0.mk (hb); have n4_ := Aside0.mk (hi); clear HO510; clear HO513; clear HO516; clear HB; clear HI495; have HO510 := n0_; have HO513 := n1_; have HO516 := n2_; have HB := n3_; have HI495 := n4_; clear n0_ n1_ n2_ n3_ n4_))
   go_loopg [7, 8] k (fun kq v7 v8 w' => ∃ (x7_1 : List Int) (x8_1 : Int) (x496001_1 : Int) (x496002_1 : Int), v8 = .int .i64 x8_1 ∧ Aside0 (spec_DrawGrowByCover.l0 kq ((t499 ++ t505) ++ t499) t508 x7_1 x8_1 t492 x496001_1 x496002_1 = some (r1, r2)) ∧ Aside0 (kq ≤ k) ∧ Aside0 (Kd.R (Kd.int .i64) 2 w' w.heap.size (fun k_ => some k_ ≠ (v7 : Value).ownBlock) v509 t508) ∧ Aside0 (Kd.R (Kd.int .i64) 2 w' w.heap.size (fun k_ => some k_ ≠ (v509 : Value).ownBlock) v7 x7_1) ∧ Aside0 (IsS73 w w' g495 t492 x496001_1 x496002_1) ∧ Aside0 (Below w.heap.size w w'))
   case atStart => exact ⟨(y511), (t520), (t521), (t522), qF, H', ⟨Nat.le_refl _⟩, ⟨by (with_reducible repeat (first | apply Kd.R_alloc | apply Kd.R_drewN | apply Kd.R_drew)); exact Kd.R_mono HO510.out (fun _ hk => hk.1.2)⟩, ⟨by (with_reducible repeat (first | apply Kd.R_alloc | apply Kd.R_drewN | apply Kd.R_drew)); exact Kd.R_mono HO513.out (fun _ hk => hk.1.2)⟩, ⟨qI HI495.out⟩, ⟨qS HB.out⟩⟩
   case round =>
    clear H'
    obtain ⟨x7_1, x8_1, x496001_1, x496002_1, rfl, HA, HK1, HO_6, HO_7, HI495, HB⟩ := hrel
    cases gk with
    | zero => exact absurd HA.out (by simp [spec_DrawGrowByCover.l0])
    | succ k1 =>
     have H := HA.out
     clear HA
     simp only [spec_DrawGrowByCover.l0] at H
     by_cases c25 : x8_1 > 0
     ·
      rw [if_pos c25] at H
      have c25b0 : decide (0 < x8_1) = true := decide_eq_true c25
      clear c25
      replace H := Option.bind_eq_some_iff.mp H
      obtain ⟨⟨t523, t524, t525⟩, A260, H⟩ := H
      replace H : (if 0 ≤ t523 then (if t523 < (t508.length : Int) then (if x7_1.length < 17592186044416 then (spec_DrawGrowByCover.l0 k1 ((t499 ++ t505) ++ t499) t508 (x7_1 ++ [rd t508 t523]) (wrap64 (x8_1 - 1)) t492 t524 t525) else (none)) else (none)) else (none)) = some (r1, r2) := H
      have A26 := Aside0.mk A260
      clear A260
      by_cases c27 : 0 ≤ t523
      ·
       rw [if_pos c27] at H
       have c27b0 : decide (0 ≤ t523) = true := decide_eq_true c27
       clear c27
       by_cases c28 : t523 < (t508.length : Int)
       ·
        rw [if_pos c28] at H
        have c28b0 : decide (t523 < (t508.length : Int)) = true := decide_eq_true c28
        clear c28
        by_cases c29 : x7_1.length < 17592186044416
        ·
         rw [if_pos c29] at H
         have LMc29 := Aside0.mk c29
         clear c29
         obtain ⟨y527, hy527⟩ : ∃ y_ : List Int, y_ = (x7_1 ++ [rd t508 t523]) := ⟨_, rfl⟩
         replace H : (spec_DrawGrowByCover.l0 k1 ((t499 ++ t505) ++ t499) t508 y527 (wrap64 (x8_1 - 1)) t492 t524 t525) = some (r1, r2) := by first | (rw [hy527]; with_reducible exact H) | (have H2_ := (Option.bind_some _ _).symm.trans H; rw [hy527]; with_reducible exact H2_) | (have H2_ := (Option.bind_some _ _).symm.trans H; with_reducible exact H2_) | with_reducible exact H | (rw [hy527]; exact H) | exact H
         have Ny527 := Aside0.mk hy527
         clear hy527
         have H' := Aside0.mk H
         clear H
         obtain ⟨Ao30, co30, eo30⟩ := Kd.R_slice HO_6.out
         subst eo30
         go_wp2_with (first | ((with_reducible refine gate_callee (f := 42) rfl ?_); refine goesL_ (some 41) rfl rfl Try.func42 (by kernel_rfl) rfl #[.pointer (some ⟨g495, 0, none⟩), .int .i64 (t508.length : Int)] rfl qV ?_; (with_reducible refine (spec_l01Next.calls g495 t492 x496001_1 x496002_1 (t508.length : Int) t523 t524 t525 w _ ?side1 ?side2 A26.out).mono ?_); (case side1 => exact qI HI495.out); (case side2 => exact qS HB.out); rintro e w31 ⟨rfl, hi, hb, hk⟩; refine ⟨_, rfl, ?_⟩; have n0_ := Aside0.mk (Kd.R_mono (Kd.R_keep (IsS73.apart (show IsS73 w _ g495 t492 x496001_1 x496002_1 from qI HI495.out) (qR HO_6.out) (by decide)) hk (fun _ h => h.2)) (fun _ h => h.1)); have n1_ := Aside0.mk (Kd.R_mono (Kd.R_keep (IsS73.apart (show IsS73 w _ g495 t492 x496001_1 x496002_1 from qI HI495.out) (qR HO_7.out) (by decide)) hk (fun _ h => h.2)) (fun _ h => h.1)); have n2_ := Aside0.mk (hb); have n3_ := Aside0.mk (hi); clear HO_6; clear HO_7; clear HB; clear HI495; have HO_6 := n0_; have HO_7 := n1_; have HB := n2_; have HI495 := n3_; clear n0_ n1_ n2_ n3_; have p526 : 0 ≤ (t523 : Int) := of_decide_eq_true (by first | (with_reducible assumption) | assumption); have q526 : t523 < (t508.length : Int) := of_decide_eq_true (by first | (with_reducible assumption) | assumption); obtain ⟨ad526, e526, hx526_0⟩ := Kd.at_int (Kd.R_reads' HO_6.out).2.2 t523 p526 q526; cases e526; replace p526 := eq_true p526; replace q526 := eq_true q526) | ((with_reducible refine gate_builtin (b := .append) (xs := #[.tmp 36, .tmp 44]) rfl ?_); at_builtin; refine Kd.R_append (Kd.int .i64) (w0 := w) w.heap.size rfl (.tmp 36) (.tmp 44) 30 2 (.int .i64 0) 8 rfl Try.underlying30 info2 rfl (by decide) (by omega) u7 x7_1 (rd t508 t523) [.int .i64 (rd t508 t523)] (fun k_ => some k_ ≠ (.slice (some ad526) t508.length co30 : Value).ownBlock) (fun _ => False) rfl rfl ?aP (fun _ hk => hk.elim) ?aF ?aO ?aB ?aS ?aL ?_; (case aP => exact rfl); (case aB => exact (qS HB.out)); (case aF => exact (fun k_ hk => Kd.fresh' (Kd.R_lt (qR HO_6.out)) k_ hk)); (case aO => exact (qR HO_7.out)); (case aS => exact (below_size (qS HB.out))); (case aL => have := LMc29.out; omega); intro v528 w32 ho hb hg hat; rw [← Ny527.out] at ho; have n0_ := Aside0.mk (Kd.R_after (ok := (fun _ => True)) (by (with_reducible repeat (first | apply Kd.R_alloc | apply Kd.R_drewN | apply Kd.R_drew)); exact Kd.R_mono HO_6.out (fun _ hk => ⟨trivial, hk⟩)) hg hat); have n1_ := Aside0.mk (IsS73.grown (qI HI495.out) hg (IsS73.own_ne HI495.out HO_7.out (by decide))); have n2_ := Aside0.mk (hb); have n3_ := Aside0.mk (ho); clear HO_6; clear HI495; clear HB; clear HO_7; have HO_6 := n0_; have HI495 := n1_; have HB := n2_; have HO529 := n3_; clear n0_ n1_ n2_ n3_; clear ho hb hg hat))
         go_roundg k1
         case measure => have := HK1.out; omega
         case rel => exact ⟨(y527), (wrap64 (x8_1 - 1)), (t524), (t525), qF, H', ⟨by have := HK1.out; omega⟩, ⟨by (with_reducible repeat (first | apply Kd.R_alloc | apply Kd.R_drewN | apply Kd.R_drew)); exact Kd.R_mono HO_6.out (fun _ hk => hk.2)⟩, ⟨qR HO529.out⟩, ⟨qI HI495.out⟩, ⟨qS HB.out⟩⟩
        ·
         rw [if_neg c29] at H
         exact absurd H (by simp)
       ·
        rw [if_neg c28] at H
        exact absurd H (by simp)
      ·
       rw [if_neg c27] at H
       exact absurd H (by simp)
     ·
      rw [if_neg c25] at H
      have c25b0 : decide (0 < x8_1) = false := decide_eq_false c25
      clear c25
      have HC33 := Aside0.mk H
      clear H
      obtain ⟨Ao34, co34, eo34⟩ := Kd.R_slice HO_7.out
      subst eo34
      go_upto_if 48 with (fail)
      go_cut [] (fun wc => ∃ (kq : Nat) (x7_32 : List Int) (x496001_32 : Int) (x496002_32 : Int), Aside0 (spec_DrawGrowByCover.j1 kq ((t499 ++ t505) ++ t499) x7_32 t492 x496001_32 x496002_32 = some (r1, r2)) ∧ Aside0 (kq ≤ k1) ∧ Aside0 (Kd.R (Kd.int .i64) 2 wc w.heap.size (fun _ => True) (.slice Ao34 x7_1.length co34) x7_32) ∧ Aside0 (IsS73 w wc g495 t492 x496001_32 x496002_32) ∧ Aside0 (Below w.heap.size w wc))
      case first =>
       have H := HC33.out
       clear HC33
       by_cases c35 : (x7_1.length : Int) > 0
       ·
        rw [if_pos c35] at H
        have c35b0 : decide (0 < (x7_1.length : Int)) = true := decide_eq_true c35
        have c35b1 : decide (0 < x7_1.length) = true := decide_eq_true (by omega)
        have c35b3 : (0 < x7_1.length) = True := eq_true (by omega)
        clear c35
        (first | rw [c35b0] | rw [c35b1] | rw [if_pos (of_eq_true c35b3)] | rw [if_neg (of_eq_false c35b3)] | (simp only [c35b1, c35b3, if_true, if_false, decide_true, decide_false]) | (simp only [i64_w, i32_w]; rw [c35b0]) | skip)
        replace H := Option.bind_eq_some_iff.mp H
        obtain ⟨⟨t530, t531, t532⟩, A360, H⟩ := H
        replace H : (if t530 = 0 then ((spec_l01Pick.f t492 t531 t532 (([(-1), (((t499 ++ t505) ++ t499).size : Int)] : List Int))).bind fun bt536 => (if 0 < (x7_1.length : Int) then (spec_DrawGrowByCover.j1 k1 ((t499 ++ t505) ++ t499) (x7_1.set (0 : Int).toNat bt536.1) t492 bt536.2.1 bt536.2.2) else (none))) else (if t530 = 1 then ((spec_l01Next.f t492 t531 t532 (((t499 ++ t505) ++ t499).size : Int)).bind fun bt540 => (if 0 < (x7_1.length : Int) then (spec_DrawGrowByCover.j1 k1 ((t499 ++ t505) ++ t499) (x7_1.set (0 : Int).toNat bt540.1) t492 bt540.2.1 bt540.2.2) else (none))) else (spec_DrawGrowByCover.j1 k1 ((t499 ++ t505) ++ t499) x7_1 t492 t531 t532))) = some (r1, r2) := H
        have A36 := Aside0.mk A360
        clear A360
        by_cases c37 : t530 = 0
        ·
         rw [if_pos c37] at H
         have c37b0 : (t530 == 0) = true := beq_iff_eq.mpr c37
         have c37b1 : (t530 != 0) = false := bne_eq_false_iff_eq.mpr c37
         clear c37
         obtain ⟨y533, hy533⟩ : ∃ y_ : List Int, y_ = (([(-1), (((t499 ++ t505) ++ t499).size : Int)] : List Int)) := ⟨_, rfl⟩
         replace H : ((spec_l01Pick.f t492 t531 t532 y533).bind fun bt536 => (if 0 < (x7_1.length : Int) then (spec_DrawGrowByCover.j1 k1 ((t499 ++ t505) ++ t499) (x7_1.set (0 : Int).toNat bt536.1) t492 bt536.2.1 bt536.2.2) else (none))) = some (r1, r2) := by first | (rw [hy533]; with_reducible exact H) | (have H2_ := (Option.bind_some _ _).symm.trans H; rw [hy533]; with_reducible exact H2_) | (have H2_ := (Option.bind_some _ _).symm.trans H; with_reducible exact H2_) | with_reducible exact H | (rw [hy533]; exact H) | exact H
         have Ny533 := Aside0.mk hy533
         clear hy533
         replace H := Option.bind_eq_some_iff.mp H
         obtain ⟨⟨t536, t537, t538⟩, A380, H⟩ := H
         replace H : (if 0 < (x7_1.length : Int) then (spec_DrawGrowByCover.j1 k1 ((t499 ++ t505) ++ t499) (x7_1.set (0 : Int).toNat t536) t492 t537 t538) else (none)) = some (r1, r2) := H
         have A38 := Aside0.mk A380
         clear A380
         by_cases c39 : 0 < (x7_1.length : Int)
         ·
          rw [if_pos c39] at H
          have c39b0 : decide (0 < (x7_1.length : Int)) = true := decide_eq_true c39
          have c39b1 : decide (0 < x7_1.length) = true := decide_eq_true (by omega)
          have c39b3 : (0 < x7_1.length) = True := eq_true (by omega)
          clear c39
          obtain ⟨y539, hy539⟩ : ∃ y_ : List Int, y_ = (x7_1.set (0 : Int).toNat t536) := ⟨_, rfl⟩
          replace H : (spec_DrawGrowByCover.j1 k1 ((t499 ++ t505) ++ t499) y539 t492 t537 t538) = some (r1, r2) := by first | (rw [hy539]; with_reducible exact H) | (have H2_ := (Option.bind_some _ _).symm.trans H; rw [hy539]; with_reducible exact H2_) | (have H2_ := (Option.bind_some _ _).symm.trans H; with_reducible exact H2_) | with_reducible exact H | (rw [hy539]; exact H) | exact H
          have Ny539 := Aside0.mk hy539
          clear hy539
          have H' := Aside0.mk H
          clear H
          go_wp2_with (first | ((with_reducible refine gate_callee (f := 42) rfl ?_); refine goesL_ (some 50) rfl rfl Try.func42 (by kernel_rfl) rfl #[.pointer (some ⟨g495, 0, none⟩), .int .i64 10] rfl qV ?_; (with_reducible refine (spec_l01Next.calls g495 t492 x496001_1 x496002_1 10 t530 t531 t532 w _ ?side1 ?side2 A36.out).mono ?_); (case side1 => exact qI HI495.out); (case side2 => exact qS HB.out); rintro e w41 ⟨rfl, hi, hb, hk⟩; refine ⟨_, rfl, ?_⟩; have n0_ := Aside0.mk (Kd.R_mono (Kd.R_keep (IsS73.apart (show IsS73 w _ g495 t492 x496001_1 x496002_1 from qI HI495.out) (qR HO_6.out) (by decide)) hk (fun _ h => h.2)) (fun _ h => h.1)); have n1_ := Aside0.mk (Kd.R_mono (Kd.R_keep (IsS73.apart (show IsS73 w _ g495 t492 x496001_1 x496002_1 from qI HI495.out) (qR HO_7.out) (by decide)) hk (fun _ h => h.2)) (fun _ h => h.1)); have n2_ := Aside0.mk (hb); have n3_ := Aside0.mk (hi); clear HO_6; clear HO_7; clear HB; clear HI495; have HO_6 := n0_; have HO_7 := n1_; have HB := n2_; have HI495 := n3_; clear n0_ n1_ n2_ n3_) | ((with_reducible refine gate_dst (N := 57) rfl ?_); refine Kd.R_lit (Kd.int .i64) _ 2 ?hg (N := 57) ?hd (xs := ([(-1), (((t499 ++ t505) ++ t499).size : Int)] : List Int)) (inner := [.int .i64 (-1), .int .i64 (((t499 ++ t505) ++ t499).size : Int)]) (ok := fun _ => True) (okp := fun _ => True) ?hr ?hp (fun _ hk => hk) trivial (Below.refl _ _) (Nat.le_refl _) (by simp) ?_; (case hd => rfl); (case hg => rfl); (case hr => first | (go_simp; done) | (go_simp; rfl)); (case hp => exact (Reps.one (show Kd.M (Kd.int .i64) _ _ _ (-1) [.int .i64 (-1)] from rfl) (Reps.one (show Kd.M (Kd.int .i64) _ _ _ (((t499 ++ t505) ++ t499).size : Int) [.int .i64 (((t499 ++ t505) ++ t499).size : Int)] from rfl) (Reps.none _ _)))); intro v534 w42 ho43 hb hg_ hnew_; clear hg_ hnew_; (first | rw [← Ny533.out] at ho43 | (simp only [Int.reduceToNat] at ho43; rw [← Ny533.out] at ho43)); have n0_ := Aside0.mk (Kd.R_elder' (qR HO_6.out) (Kd.R_base ho43) hb); have n1_ := Aside0.mk (Kd.R_elder' (qR HO_7.out) (Kd.R_base ho43) hb); have n2_ := Aside0.mk (Kd.R_lower (Kd.R_new' (Kd.R_new' ho43 (Kd.R_lt (qR HO_6.out))) (Kd.R_lt (qR HO_7.out))) (below_size (qS HB.out))); have n3_ := Aside0.mk (IsS73.below (qI HI495.out) hb); have n4_ := Aside0.mk (below_step (qS HB.out) hb); clear HO_6; clear HO_7; clear HI495; clear HB; have HO_6 := n0_; have HO_7 := n1_; have HO535 := n2_; have HI495 := n3_; have HB := n4_; clear n0_ n1_ n2_ n3_ n4_; clear hb ho43; obtain ⟨Ao44, co44, eo44⟩ := Kd.R_slice HO535.out; subst eo44) | ((with_reducible refine gate_callee (f := 44) rfl ?_); refine goesL_ (some 58) rfl rfl Try.func44 (by kernel_rfl) rfl #[.pointer (some ⟨g495, 0, none⟩), .slice Ao44 y533.length co44] rfl qV ?_; (with_reducible refine (spec_l01Pick.calls g495 t492 t531 t532 _ _ y533 t536 t537 t538 w _ ?side1 ?side2 ?side3 ?side4 ?side5 A38.out).mono ?_); (case side1 => exact qI HI495.out); (case side2 => exact qS HB.out); (case side3 => exact qC (Kd.R_reads' HO535.out).2.2); (case side4 => exact (Kd.R_reads' HO535.out).2.1); (case side5 => exact far_slice (IsS73.own_ne HI495.out HO535.out (by decide))); rintro e w45 ⟨rfl, hi, hb, hk⟩; refine ⟨_, rfl, ?_⟩; have n0_ := Aside0.mk (Kd.R_mono (Kd.R_keep (IsS73.apart (show IsS73 w _ g495 t492 t531 t532 from qI HI495.out) (qR HO_6.out) (by decide)) hk (fun _ h => h.2)) (fun _ h => h.1)); have n1_ := Aside0.mk (Kd.R_mono (Kd.R_keep (IsS73.apart (show IsS73 w _ g495 t492 t531 t532 from qI HI495.out) (qR HO_7.out) (by decide)) hk (fun _ h => h.2)) (fun _ h => h.1)); have n2_ := Aside0.mk (Kd.R_mono (Kd.R_keep (IsS73.apart (show IsS73 w _ g495 t492 t531 t532 from qI HI495.out) (qR HO535.out) (by decide)) hk (fun _ h => h.2)) (fun _ h => h.1)); have n3_ := Aside0.mk (hb); have n4_ := Aside0.mk (hi); clear HO_6; clear HO_7; clear HO535; clear HB; clear HI495; have HO_6 := n0_; have HO_7 := n1_; have HO535 := n2_; have HB := n3_; have HI495 := n4_; clear n0_ n1_ n2_ n3_ n4_; have p40 : 0 ≤ (0 : Int) := (by omega); have q40 : (0 : Int) < ((x7_1.length : Int) : Int) := of_decide_eq_true (by first | (with_reducible assumption) | assumption); have qi40 : (0 < x7_1.length) = True := eq_true (by omega); obtain ⟨go40, co40, eo40, gb40, gl40, cl40, HG40⟩ := Kd.R_form HO_7.out (by omega); (first | cases eo40 | (injection eo40 with ea_ en_ ec_; (first | subst ea_ | (injection ea_ with ea_; subst ea_)); subst ec_; clear en_)); have GB40 := Aside0.mk gb40; have GG40 := Aside0.mk HG40; clear gb40 gl40 HG40; obtain ⟨hx40_0, hf40_0⟩ := Kd.R_celln 0 HO_7.out (0 : Int) p40 q40; (try rw [show ((0 : Int)).toNat = 0 from rfl] at hx40_0); (try simp only [Nat.reduceMul, Nat.zero_mul, Nat.zero_add, Nat.reduceAdd] at hx40_0); (try rw [show ((0 : Int)).toNat = 0 from rfl] at hf40_0); (try simp only [Nat.reduceMul, Nat.zero_mul, Nat.zero_add, Nat.reduceAdd] at hf40_0); replace p40 := eq_true p40; replace q40 := eq_true q40; obtain ⟨hy46_, hz46_⟩ := Kd.R_celln 0 HO_7.out (0 : Int) (by omega) (of_decide_eq_true (by first | (with_reducible assumption) | assumption)); (try simp only [Int.reduceToNat, Int.toNat_zero, Int.toNat_ofNat, Nat.reduceMul, Nat.zero_mul, Nat.zero_add] at hy46_ hz46_); (try rw [show ((0 : Int)).toNat = 0 from rfl] at hy46_); (try rw [show ((0 : Int)).toNat = 0 from rfl] at hz46_); have HP46 := Kd.R_putg HO_7.out (0 : Int) t536) | ((with_reducible refine gate_store (t := 2) (p := 59) rfl ?_); refine store_event (t := 2) (p := 59) (v := ?vo_w47) (w1 := (w45.setCell ⟨go40, (0 : Int).toNat, none⟩ (.int .i64 t536))) ?hg ?ho ?hn ?hr ?_; (case ho => rfl); (case hg => rfl); (case hn => rfl); (case hr => first | (go_simp; done) | (go_simp; rfl)); intro w47 hw; have hg : w45.grownBy w47 (some go40) := (by rw [hw]; exact HP46.2); have hp_ : Kd.R (Kd.int .i64) 2 w47 w.heap.size (fun k_ => some k_ ≠ (v509 : Value).ownBlock ∧ some k_ ≠ (.slice Ao44 y533.length co44 : Value).ownBlock) (.slice (some ⟨go40, 0, none⟩) x7_1.length co34) y539 := (by rw [hw, Ny539.out]; exact HP46.1); clear HP46; have n0_ := Aside0.mk (Kd.R_after (v := (.slice (some ⟨go40, 0, none⟩) x7_1.length co34)) (v1 := (.slice (some ⟨go40, 0, none⟩) x7_1.length co34)) (ok := (fun k_ => some k_ ≠ (.slice Ao44 y533.length co44 : Value).ownBlock)) (by (with_reducible repeat (first | apply Kd.R_alloc | apply Kd.R_drewN | apply Kd.R_drew)); exact Kd.R_mono HO_6.out (fun _ hk => ⟨hk.2, hk.1⟩)) hg (.inl rfl)); have n1_ := Aside0.mk (hp_); have n2_ := Aside0.mk (IsS73.grown (qI HI495.out) hg (IsS73.own_ne HI495.out HO_7.out (by decide))); have n3_ := Aside0.mk (Kd.R_after (v := (.slice (some ⟨go40, 0, none⟩) x7_1.length co34)) (v1 := (.slice (some ⟨go40, 0, none⟩) x7_1.length co34)) (ok := (fun k_ => some k_ ≠ (v509 : Value).ownBlock)) (by (with_reducible repeat (first | apply Kd.R_alloc | apply Kd.R_drewN | apply Kd.R_drew)); exact Kd.R_mono HO535.out (fun _ hk => ⟨hk.1.2, hk.2⟩)) hg (.inl rfl)); have n4_ := Aside0.mk ((by rw [hw]; exact below_set (HB.out) GB40.out : Below w.heap.size w w47)); clear HO_6; clear HO_7; clear HI495; clear HO535; clear HB; have HO_6 := n0_; have HO_7 := n1_; have HI495 := n2_; have HO535 := n3_; have HB := n4_; clear n0_ n1_ n2_ n3_ n4_; clear hg hw hp_))
          go_meet
          case rel => exact ⟨_, (y539), (t537), (t538), H', ⟨by have := HK1.out; first | omega | exact Nat.le_refl _⟩, ⟨by (with_reducible repeat (first | apply Kd.R_alloc | apply Kd.R_drewN | apply Kd.R_drew)); exact Kd.R_mono HO_7.out (fun _ hk => trivial)⟩, ⟨qI HI495.out⟩, ⟨qS HB.out⟩⟩
         ·
          rw [if_neg c39] at H
          exact absurd H (by simp)
        ·
         rw [if_neg c37] at H
         have c37b0 : (t530 == 0) = false := beq_eq_false_iff_ne.mpr c37
         have c37b1 : (t530 != 0) = true := bne_iff_ne.mpr c37
         by_cases c48 : t530 = 1
         ·
          rw [if_pos c48] at H
          have c48b0 : (t530 == 1) = true := beq_iff_eq.mpr c48
          have c48b1 : (t530 != 1) = false := bne_eq_false_iff_eq.mpr c48
          clear c48
          replace H := Option.bind_eq_some_iff.mp H
          obtain ⟨⟨t540, t541, t542⟩, A490, H⟩ := H
          replace H : (if 0 < (x7_1.length : Int) then (spec_DrawGrowByCover.j1 k1 ((t499 ++ t505) ++ t499) (x7_1.set (0 : Int).toNat t540) t492 t541 t542) else (none)) = some (r1, r2) := H
          have A49 := Aside0.mk A490
          clear A490
          by_cases c50 : 0 < (x7_1.length : Int)
          ·
           rw [if_pos c50] at H
           have c50b0 : decide (0 < (x7_1.length : Int)) = true := decide_eq_true c50
           have c50b1 : decide (0 < x7_1.length) = true := decide_eq_true (by omega)
           have c50b3 : (0 < x7_1.length) = True := eq_true (by omega)
           clear c50
           obtain ⟨y543, hy543⟩ : ∃ y_ : List Int, y_ = (x7_1.set (0 : Int).toNat t540) := ⟨_, rfl⟩
           replace H : (spec_DrawGrowByCover.j1 k1 ((t499 ++ t505) ++ t499) y543 t492 t541 t542) = some (r1, r2) := by first | (rw [hy543]; with_reducible exact H) | (have H2_ := (Option.bind_some _ _).symm.trans H; rw [hy543]; with_reducible exact H2_) | (have H2_ := (Option.bind_some _ _).symm.trans H; with_reducible exact H2_) | with_reducible exact H | (rw [hy543]; exact H) | exact H
           have Ny543 := Aside0.mk hy543
           clear hy543
           have H' := Aside0.mk H
           clear H
           go_wp2_with (first | ((with_reducible refine gate_callee (f := 42) rfl ?_); refine goesL_ (some 50) rfl rfl Try.func42 (by kernel_rfl) rfl #[.pointer (some ⟨g495, 0, none⟩), .int .i64 10] rfl qV ?_; (with_reducible refine (spec_l01Next.calls g495 t492 x496001_1 x496002_1 10 t530 t531 t532 w _ ?side1 ?side2 A36.out).mono ?_); (case side1 => exact qI HI495.out); (case side2 => exact qS HB.out); rintro e w52 ⟨rfl, hi, hb, hk⟩; refine ⟨_, rfl, ?_⟩; have n0_ := Aside0.mk (Kd.R_mono (Kd.R_keep (IsS73.apart (show IsS73 w _ g495 t492 x496001_1 x496002_1 from qI HI495.out) (qR HO_6.out) (by decide)) hk (fun _ h => h.2)) (fun _ h => h.1)); have n1_ := Aside0.mk (Kd.R_mono (Kd.R_keep (IsS73.apart (show IsS73 w _ g495 t492 x496001_1 x496002_1 from qI HI495.out) (qR HO_7.out) (by decide)) hk (fun _ h => h.2)) (fun _ h => h.1)); have n2_ := Aside0.mk (hb); have n3_ := Aside0.mk (hi); clear HO_6; clear HO_7; clear HB; clear HI495; have HO_6 := n0_; have HO_7 := n1_; have HB := n2_; have HI495 := n3_; clear n0_ n1_ n2_ n3_) | ((with_reducible refine gate_callee (f := 42) rfl ?_); refine goesL_ (some 66) rfl rfl Try.func42 (by kernel_rfl) rfl #[.pointer (some ⟨g495, 0, none⟩), .int .i64 (((t499 ++ t505) ++ t499).size : Int)] rfl qV ?_; (with_reducible refine (spec_l01Next.calls g495 t492 t531 t532 (((t499 ++ t505) ++ t499).size : Int) t540 t541 t542 w _ ?side1 ?side2 A49.out).mono ?_); (case side1 => exact qI HI495.out); (case side2 => exact qS HB.out); rintro e w53 ⟨rfl, hi, hb, hk⟩; refine ⟨_, rfl, ?_⟩; have n0_ := Aside0.mk (Kd.R_mono (Kd.R_keep (IsS73.apart (show IsS73 w _ g495 t492 t531 t532 from qI HI495.out) (qR HO_6.out) (by decide)) hk (fun _ h => h.2)) (fun _ h => h.1)); have n1_ := Aside0.mk (Kd.R_mono (Kd.R_keep (IsS73.apart (show IsS73 w _ g495 t492 t531 t532 from qI HI495.out) (qR HO_7.out) (by decide)) hk (fun _ h => h.2)) (fun _ h => h.1)); have n2_ := Aside0.mk (hb); have n3_ := Aside0.mk (hi); clear HO_6; clear HO_7; clear HB; clear HI495; have HO_6 := n0_; have HO_7 := n1_; have HB := n2_; have HI495 := n3_; clear n0_ n1_ n2_ n3_; have p51 : 0 ≤ (0 : Int) := (by omega); have q51 : (0 : Int) < ((x7_1.length : Int) : Int) := of_decide_eq_true (by first | (with_reducible assumption) | assumption); have qi51 : (0 < x7_1.length) = True := eq_true (by omega); obtain ⟨go51, co51, eo51, gb51, gl51, cl51, HG51⟩ := Kd.R_form HO_7.out (by omega); (first | cases eo51 | (injection eo51 with ea_ en_ ec_; (first | subst ea_ | (injection ea_ with ea_; subst ea_)); subst ec_; clear en_)); have GB51 := Aside0.mk gb51; have GG51 := Aside0.mk HG51; clear gb51 gl51 HG51; obtain ⟨hx51_0, hf51_0⟩ := Kd.R_celln 0 HO_7.out (0 : Int) p51 q51; (try rw [show ((0 : Int)).toNat = 0 from rfl] at hx51_0); (try simp only [Nat.reduceMul, Nat.zero_mul, Nat.zero_add, Nat.reduceAdd] at hx51_0); (try rw [show ((0 : Int)).toNat = 0 from rfl] at hf51_0); (try simp only [Nat.reduceMul, Nat.zero_mul, Nat.zero_add, Nat.reduceAdd] at hf51_0); replace p51 := eq_true p51; replace q51 := eq_true q51; obtain ⟨hy54_, hz54_⟩ := Kd.R_celln 0 HO_7.out (0 : Int) (by omega) (of_decide_eq_true (by first | (with_reducible assumption) | assumption)); (try simp only [Int.reduceToNat, Int.toNat_zero, Int.toNat_ofNat, Nat.reduceMul, Nat.zero_mul, Nat.zero_add] at hy54_ hz54_); (try rw [show ((0 : Int)).toNat = 0 from rfl] at hy54_); (try rw [show ((0 : Int)).toNat = 0 from rfl] at hz54_); have HP54 := Kd.R_putg HO_7.out (0 : Int) t540) | ((with_reducible refine gate_store (t := 2) (p := 67) rfl ?_); refine store_event (t := 2) (p := 67) (v := ?vo_w55) (w1 := (w53.setCell ⟨go51, (0 : Int).toNat, none⟩ (.int .i64 t540))) ?hg ?ho ?hn ?hr ?_; (case ho => rfl); (case hg => rfl); (case hn => rfl); (case hr => first | (go_simp; done) | (go_simp; rfl)); intro w55 hw; have hg : w53.grownBy w55 (some go51) := (by rw [hw]; exact HP54.2); have hp_ : Kd.R (Kd.int .i64) 2 w55 w.heap.size (fun k_ => some k_ ≠ (v509 : Value).ownBlock) (.slice (some ⟨go51, 0, none⟩) x7_1.length co34) y543 := (by rw [hw, Ny543.out]; exact HP54.1); clear HP54; have n0_ := Aside0.mk (Kd.R_after (v := (.slice (some ⟨go51, 0, none⟩) x7_1.length co34)) (v1 := (.slice (some ⟨go51, 0, none⟩) x7_1.length co34)) (ok := (fun _ => True)) (by (with_reducible repeat (first | apply Kd.R_alloc | apply Kd.R_drewN | apply Kd.R_drew)); exact Kd.R_mono HO_6.out (fun _ hk => ⟨trivial, hk⟩)) hg (.inl rfl)); have n1_ := Aside0.mk (hp_); have n2_ := Aside0.mk (IsS73.grown (qI HI495.out) hg (IsS73.own_ne HI495.out HO_7.out (by decide))); have n3_ := Aside0.mk ((by rw [hw]; exact below_set (HB.out) GB51.out : Below w.heap.size w w55)); clear HO_6; clear HO_7; clear HI495; clear HB; have HO_6 := n0_; have HO_7 := n1_; have HI495 := n2_; have HB := n3_; clear n0_ n1_ n2_ n3_; clear hg hw hp_))
           go_meet
           case rel => exact ⟨_, (y543), (t541), (t542), H', ⟨by have := HK1.out; first | omega | exact Nat.le_refl _⟩, ⟨by (with_reducible repeat (first | apply Kd.R_alloc | apply Kd.R_drewN | apply Kd.R_drew)); exact Kd.R_mono HO_7.out (fun _ hk => trivial)⟩, ⟨qI HI495.out⟩, ⟨qS HB.out⟩⟩
          ·
           rw [if_neg c50] at H
           exact absurd H (by simp)
         ·
          rw [if_neg c48] at H
          have c48b0 : (t530 == 1) = false := beq_eq_false_iff_ne.mpr c48
          have c48b1 : (t530 != 1) = true := bne_iff_ne.mpr c48
          have H' := Aside0.mk H
          clear H
          go_wp2_with (first | ((with_reducible refine gate_callee (f := 42) rfl ?_); refine goesL_ (some 50) rfl rfl Try.func42 (by kernel_rfl) rfl #[.pointer (some ⟨g495, 0, none⟩), .int .i64 10] rfl qV ?_; (with_reducible refine (spec_l01Next.calls g495 t492 x496001_1 x496002_1 10 t530 t531 t532 w _ ?side1 ?side2 A36.out).mono ?_); (case side1 => exact qI HI495.out); (case side2 => exact qS HB.out); rintro e w56 ⟨rfl, hi, hb, hk⟩; refine ⟨_, rfl, ?_⟩; have n0_ := Aside0.mk (Kd.R_mono (Kd.R_keep (IsS73.apart (show IsS73 w _ g495 t492 x496001_1 x496002_1 from qI HI495.out) (qR HO_6.out) (by decide)) hk (fun _ h => h.2)) (fun _ h => h.1)); have n1_ := Aside0.mk (Kd.R_mono (Kd.R_keep (IsS73.apart (show IsS73 w _ g495 t492 x496001_1 x496002_1 from qI HI495.out) (qR HO_7.out) (by decide)) hk (fun _ h => h.2)) (fun _ h => h.1)); have n2_ := Aside0.mk (hb); have n3_ := Aside0.mk (hi); clear HO_6; clear HO_7; clear HB; clear HI495; have HO_6 := n0_; have HO_7 := n1_; have HB := n2_; have HI495 := n3_; clear n0_ n1_ n2_ n3_))
          go_meet
          case rel => exact ⟨_, (x7_1), (t531), (t532), H', ⟨by have := HK1.out; first | omega | exact Nat.le_refl _⟩, ⟨by (with_reducible repeat (first | apply Kd.R_alloc | apply Kd.R_drewN | apply Kd.R_drew)); exact Kd.R_mono HO_7.out (fun _ hk => trivial)⟩, ⟨qI HI495.out⟩, ⟨qS HB.out⟩⟩
       ·
        rw [if_neg c35] at H
        have c35b0 : decide (0 < (x7_1.length : Int)) = false := decide_eq_false c35
        have c35b1 : decide (0 < x7_1.length) = false := decide_eq_false (by omega)
        have c35b3 : (0 < x7_1.length) = False := eq_false (by omega)
        clear c35
        (first | rw [c35b0] | rw [c35b1] | rw [if_pos (of_eq_true c35b3)] | rw [if_neg (of_eq_false c35b3)] | (simp only [c35b1, c35b3, if_true, if_false, decide_true, decide_false]) | (simp only [i64_w, i32_w]; rw [c35b0]) | skip)
        have H' := Aside0.mk H
        clear H
        go_wp2
        go_meet
        case rel => exact ⟨_, (x7_1), (x496001_1), (x496002_1), H', ⟨by have := HK1.out; first | omega | exact Nat.le_refl _⟩, ⟨by (with_reducible repeat (first | apply Kd.R_alloc | apply Kd.R_drewN | apply Kd.R_drew)); exact Kd.R_mono HO_7.out (fun _ hk => trivial)⟩, ⟨qI HI495.out⟩, ⟨qS HB.out⟩⟩
      case rest =>
       clear HC33
       obtain ⟨kq, x7_32, x496001_32, x496002_32, HA, HJ32, HO_7, HI495, HB⟩ := hcut
       have hl7_32 := (Kd.R_reads' HO_7.out).1
       rw [hl7_32] at HO_7
       (try simp only [hl7_32])
       cases kq with
       | zero => exact absurd HA.out (by simp [spec_DrawGrowByCover.j1])
       | succ kj32 =>
        have H := HA.out
        clear HA
        simp only [spec_DrawGrowByCover.j1] at H
        replace H := Option.bind_eq_some_iff.mp H
        obtain ⟨⟨t544, t545, t546⟩, A570, H⟩ := H
        replace H : (if t544 = 0 then ((spec_l01Bad.f kj32 t492 t545 t546 (⟨#[]⟩ : ByteArray)).bind fun bt547 => (some (bt547.1, x7_32))) else ((spec_l01Bad.f kj32 t492 t545 t546 ((t499 ++ t505) ++ t499)).bind fun bt550 => (some (bt550.1, x7_32)))) = some (r1, r2) := H
        have A57 := Aside0.mk A570
        clear A570
        by_cases c58 : t544 = 0
        ·
         rw [if_pos c58] at H
         have c58b0 : (t544 == 0) = true := beq_iff_eq.mpr c58
         have c58b1 : (t544 != 0) = false := bne_eq_false_iff_eq.mpr c58
         clear c58
         replace H := Option.bind_eq_some_iff.mp H
         obtain ⟨⟨t547, t548, t549⟩, A590, H⟩ := H
         replace H : (some (t547, x7_32)) = some (r1, r2) := H
         have A59 := Aside0.mk A590
         clear A590
         simp only [Option.some.injEq, Prod.mk.injEq] at H
         obtain ⟨rfl, rfl⟩ := H
         go_wp2_with (first | ((with_reducible refine gate_callee (f := 42) rfl ?_); refine goesL_ (some 69) rfl rfl Try.func42 (by kernel_rfl) rfl #[.pointer (some ⟨g495, 0, none⟩), .int .i64 30] rfl qV ?_; (with_reducible refine (spec_l01Next.calls g495 t492 x496001_32 x496002_32 30 t544 t545 t546 w _ ?side1 ?side2 A57.out).mono ?_); (case side1 => exact qI HI495.out); (case side2 => exact qS HB.out); rintro e w60 ⟨rfl, hi, hb, hk⟩; refine ⟨_, rfl, ?_⟩; have n0_ := Aside0.mk (Kd.R_mono (Kd.R_keep (IsS73.apart (show IsS73 w _ g495 t492 x496001_32 x496002_32 from qI HI495.out) (qR HO_7.out) (by decide)) hk (fun _ h => h.2)) (fun _ h => h.1)); have n1_ := Aside0.mk (hb); have n2_ := Aside0.mk (hi); clear HO_7; clear HB; clear HI495; have HO_7 := n0_; have HB := n1_; have HI495 := n2_; clear n0_ n1_ n2_) | ((with_reducible refine gate_callee (f := 45) rfl ?_); refine goesL_ (some 73) rfl rfl Try.func45 (by kernel_rfl) rfl #[.pointer (some ⟨g495, 0, none⟩), .string (⟨#[]⟩ : ByteArray)] rfl qV ?_; (with_reducible refine (spec_l01Bad.calls kj32 g495 t492 t545 t546 (⟨#[]⟩ : ByteArray) t547 t548 t549 w _ ?side1 ?side2 A59.out).mono ?_); (case side1 => exact qI HI495.out); (case side2 => exact qS HB.out); rintro e w61 ⟨rfl, hi, hb, hk⟩; refine ⟨_, rfl, ?_⟩; have n0_ := Aside0.mk (Kd.R_mono (Kd.R_keep (IsS73.apart (show IsS73 w _ g495 t492 t545 t546 from qI HI495.out) (qR HO_7.out) (by decide)) hk (fun _ h => h.2)) (fun _ h => h.1)); have n1_ := Aside0.mk (hb); have n2_ := Aside0.mk (hi); clear HO_7; clear HB; clear HI495; have HO_7 := n0_; have HB := n1_; have HI495 := n2_; clear n0_ n1_ n2_))
         go_ret2
         exact ⟨_, qE, qR HO_7.out, qS HB.out⟩
        ·
         rw [if_neg c58] at H
         have c58b0 : (t544 == 0) = false := beq_eq_false_iff_ne.mpr c58
         have c58b1 : (t544 != 0) = true := bne_iff_ne.mpr c58
         replace H := Option.bind_eq_some_iff.mp H
         obtain ⟨⟨t550, t551, t552⟩, A620, H⟩ := H
         replace H : (some (t550, x7_32)) = some (r1, r2) := H
         have A62 := Aside0.mk A620
         clear A620
         simp only [Option.some.injEq, Prod.mk.injEq] at H
         obtain ⟨rfl, rfl⟩ := H
         go_wp2_with (first | ((with_reducible refine gate_callee (f := 42) rfl ?_); refine goesL_ (some 69) rfl rfl Try.func42 (by kernel_rfl) rfl #[.pointer (some ⟨g495, 0, none⟩), .int .i64 30] rfl qV ?_; (with_reducible refine (spec_l01Next.calls g495 t492 x496001_32 x496002_32 30 t544 t545 t546 w _ ?side1 ?side2 A57.out).mono ?_); (case side1 => exact qI HI495.out); (case side2 => exact qS HB.out); rintro e w63 ⟨rfl, hi, hb, hk⟩; refine ⟨_, rfl, ?_⟩; have n0_ := Aside0.mk (Kd.R_mono (Kd.R_keep (IsS73.apart (show IsS73 w _ g495 t492 x496001_32 x496002_32 from qI HI495.out) (qR HO_7.out) (by decide)) hk (fun _ h => h.2)) (fun _ h => h.1)); have n1_ := Aside0.mk (hb); have n2_ := Aside0.mk (hi); clear HO_7; clear HB; clear HI495; have HO_7 := n0_; have HB := n1_; have HI495 := n2_; clear n0_ n1_ n2_) | ((with_reducible refine gate_callee (f := 45) rfl ?_); refine goesL_ (some 73) rfl rfl Try.func45 (by kernel_rfl) rfl #[.pointer (some ⟨g495, 0, none⟩), .string ((t499 ++ t505) ++ t499)] rfl qV ?_; (with_reducible refine (spec_l01Bad.calls kj32 g495 t492 t545 t546 ((t499 ++ t505) ++ t499) t550 t551 t552 w _ ?side1 ?side2 A62.out).mono ?_); (case side1 => exact qI HI495.out); (case side2 => exact qS HB.out); rintro e w64 ⟨rfl, hi, hb, hk⟩; refine ⟨_, rfl, ?_⟩; have n0_ := Aside0.mk (Kd.R_mono (Kd.R_keep (IsS73.apart (show IsS73 w _ g495 t492 t545 t546 from qI HI495.out) (qR HO_7.out) (by decide)) hk (fun _ h => h.2)) (fun _ h => h.1)); have n1_ := Aside0.mk (hb); have n2_ := Aside0.mk (hi); clear HO_7; clear HB; clear HI495; have HO_7 := n0_; have HB := n1_; have HI495 := n2_; clear n0_ n1_ n2_))
         go_ret2
         exact ⟨_, qE, qR HO_7.out, qS HB.out⟩
  ·
   rw [if_neg c8] at H
   exact absurd H (by simp)
 ·
  rw [if_neg c7] at H
  exact absurd H (by simp)

end Go.Proofs.Ytoadancbpgignaa.PF

namespace Go.Proofs.Ytoadancbpgignaa.PF
open Go.RowKit Go.Proofs.YtoadancbpgignaaW.PrintWords Go.Proofs.YtoadancbpgignaaW.PrintLast Go.Proofs.YtoadancbpgignaaW.PrintMore
attribute [local go_sem] max2_int min2_int max_two min_two max_three min_three max_four min_four   -- for this text's walks alone
set_option linter.unusedVariables false
set_option linter.unusedSimpArgs false

/-! ### impl_within: function 49 -/
def impl_within.f (a0 : Int) (a1 : Int) (a2 : Int) : Option (Bool) := if a1 ≤ a0 then (some (decide (a0 ≤ a2))) else (some false)
set_option maxHeartbeats 8000000 in
set_option maxRecDepth 100000 in
theorem impl_within.calls (a0 : Int) (a1 : Int) (a2 : Int) (r : Bool) (w : World) (h : impl_within.f a0 a1 a2 = some r) :
  Calls Try.prog 49 #[.int .i64 a0, .int .i64 a1, .int .i64 a2] w fun e w' => e = .returned (.bool r) ∧ Drawn0 w w' := by
 have H : (if a1 ≤ a0 then (some (decide (a0 ≤ a2))) else (some false)) = some r := h
 clear h
 by_cases c4 : a1 ≤ a0
 ·
  rw [if_pos c4] at H
  have c4b0 : decide (a1 ≤ a0) = true := decide_eq_true c4
  clear c4
  obtain rfl := Option.some.inj H
  go_enter Try.func49, Try.ntmps49
  go_wp2
  go_ret
  exact ⟨by first | rfl | (simp; done) | (simp [*]; done) | (simp; rw [Bool.eq_iff_iff]; simp; done), by repeat (first | exact Drawn0.refl _ | apply Drawn0.step)⟩
 ·
  rw [if_neg c4] at H
  have c4b0 : decide (a1 ≤ a0) = false := decide_eq_false c4
  clear c4
  obtain rfl := Option.some.inj H
  go_enter Try.func49, Try.ntmps49
  go_wp2
  go_ret
  exact ⟨by first | rfl | (simp; done) | (simp [*]; done) | (simp; rw [Bool.eq_iff_iff]; simp; done), by repeat (first | exact Drawn0.refl _ | apply Drawn0.step)⟩

end Go.Proofs.Ytoadancbpgignaa.PF

namespace Go.Proofs.Ytoadancbpgignaa.PF
open Go.RowKit Go.Proofs.YtoadancbpgignaaW.PrintWords Go.Proofs.YtoadancbpgignaaW.PrintLast Go.Proofs.YtoadancbpgignaaW.PrintMore
attribute [local go_sem] max2_int min2_int max_two min_two max_three min_three max_four min_four   -- for this text's walks alone
set_option linter.unusedVariables false
set_option linter.unusedSimpArgs false

/-! ### impl_GrowByCover_1_1: function 48 -/
def impl_GrowByCover_1_1.f (a0 : Int) (a1 : ByteArray) : Option (Bool) := (impl_size.f a1).bind fun t554 => ((impl_within.f a0 0 (wrap64 (t554 - 1))).bind fun t555 => (some t555))
set_option maxHeartbeats 8000000 in
set_option maxRecDepth 100000 in
theorem impl_GrowByCover_1_1.calls (a0 : Int) (g1 : Nat) (a1 : ByteArray) (r : Bool) (w : World) (hb1 : w.heap[g1]? = some (.cells #[.string a1] 9 (0, 0))) (h : impl_GrowByCover_1_1.f a0 a1 = some r) :
  Calls Try.prog 48 #[.int .i64 a0, .pointer (some ⟨g1, 0, none⟩)] w fun e w' => e = .returned (.bool r) ∧ Drawn0 w w' := by
 have BK553 := Aside0.mk hb1
 clear hb1
 have H : ((impl_size.f a1).bind fun t554 => ((impl_within.f a0 0 (wrap64 (t554 - 1))).bind fun t555 => (some t555))) = some r := h
 clear h
 replace H := Option.bind_eq_some_iff.mp H
 obtain ⟨t554, A30, H⟩ := H
 replace H : ((impl_within.f a0 0 (wrap64 (t554 - 1))).bind fun t555 => (some t555)) = some r := H
 have A3 := Aside0.mk A30
 clear A30
 replace H := Option.bind_eq_some_iff.mp H
 obtain ⟨t555, A40, H⟩ := H
 replace H : (some t555) = some r := H
 have A4 := Aside0.mk A40
 clear A40
 obtain rfl := Option.some.inj H
 have hcz5_0 : w.cell? ⟨g1, 0, none⟩ = some (.string a1) := (blk_cell BK553.out 0).trans rfl
 have hfz5_0 := blk_frozen BK553.out 0
 go_enter Try.func48, Try.ntmps48
 go_wp2_with (first | ((with_reducible refine gate_callee (f := 33) rfl ?_); refine goesL_ (some 6) rfl rfl Try.func33 (by kernel_rfl) rfl #[.string a1] rfl qV ?_; (with_reducible refine (impl_size.calls a1 t554 _ A3.out).mono ?_); rintro e w' ⟨rfl, ⟨nd, rfl⟩⟩; refine ⟨_, rfl, ?_⟩) | ((with_reducible refine gate_callee (f := 49) rfl ?_); refine goesL_ (some 8) rfl rfl Try.func49 (by kernel_rfl) rfl #[.int .i64 a0, .int .i64 0, .int .i64 (wrap64 (t554 - 1))] rfl qV ?_; (with_reducible refine (impl_within.calls a0 0 (wrap64 (t554 - 1)) t555 _ A4.out).mono ?_); rintro e w' ⟨rfl, ⟨nd, rfl⟩⟩; refine ⟨_, rfl, ?_⟩))
 go_ret
 exact ⟨by first | rfl | (simp; done) | (simp [*]; done) | (simp; rw [Bool.eq_iff_iff]; simp; done), by repeat (first | exact Drawn0.refl _ | apply Drawn0.step)⟩

end Go.Proofs.Ytoadancbpgignaa.PF

namespace Go.Proofs.Ytoadancbpgignaa.PF
open Go.RowKit Go.Proofs.YtoadancbpgignaaW.PrintWords Go.Proofs.YtoadancbpgignaaW.PrintLast Go.Proofs.YtoadancbpgignaaW.PrintMore
attribute [local go_sem] max2_int min2_int max_two min_two max_three min_three max_four min_four   -- for this text's walks alone
set_option linter.unusedVariables false
set_option linter.unusedSimpArgs false

/-! ### spec_l09Code: function 51 -/
mutual
def spec_l09Code.l0 : Nat → List ByteArray → Int → Option (Int)
 | 0, _, _ => none
 | k + 1, x1, x5 => if x5 < (x1.length : Int) then (if 0 ≤ x5 then ((spec_l01Is.f k (rdOf ByteArray.empty x1 x5)).bind fun t573 => (if t573 = true then (spec_l09Code.l0 k x1 (wrap64 (x5 + 1))) else (some 1))) else (none)) else (spec_l09Code.l1 k x1 0)
def spec_l09Code.l1 : Nat → List ByteArray → Int → Option (Int)
 | 0, _, _ => none
 | k + 1, x1, x6 => if x6 < (x1.length : Int) then (if 0 ≤ x6 then (if (rdOf ByteArray.empty x1 x6).toList = ([] : List UInt8) then (some 2) else (spec_l09Code.l1 k x1 (wrap64 (x6 + 1)))) else (none)) else (some 0)
end
def spec_l09Code.f (k : Nat) (a0 : ByteArray) (l1 : List ByteArray) : Option (Int) := (spec_l01Is.f k a0).bind fun t571 => (if t571 = true then (spec_l09Code.l0 k l1 0) else (some 1))
theorem spec_l09Code.mono_l : ∀ k, (∀ y0 y1, LeO (spec_l09Code.l0 k y0 y1) (spec_l09Code.l0 (k + 1) y0 y1)) ∧ (∀ y0 y1, LeO (spec_l09Code.l1 k y0 y1) (spec_l09Code.l1 (k + 1) y0 y1))
 | 0 => ⟨fun _ _ r h => by simp [spec_l09Code.l0] at h, fun _ _ r h => by simp [spec_l09Code.l1] at h⟩
 | k + 1 => by
  obtain ⟨ih0, ih1⟩ := spec_l09Code.mono_l k
  refine ⟨?_, ?_⟩
  ·
   intro y0 y1
   unfold spec_l09Code.l0
   repeat' first
   | (with_reducible exact ih0 _ _)
   | (with_reducible exact ih1 _ _)
   | (with_reducible exact spec_l01Is.mono _ _)
   | (with_reducible exact LeO.refl _)
   | (with_reducible exact LeO.none _)
   | (with_reducible refine LeO.ite ?_ ?_)
   | (with_reducible refine LeO.bind ?_ (fun _ => ?_))
  ·
   intro y0 y1
   unfold spec_l09Code.l1
   repeat' first
   | (with_reducible exact ih0 _ _)
   | (with_reducible exact ih1 _ _)
   | (with_reducible exact spec_l01Is.mono _ _)
   | (with_reducible exact LeO.refl _)
   | (with_reducible exact LeO.none _)
   | (with_reducible refine LeO.ite ?_ ?_)
   | (with_reducible refine LeO.bind ?_ (fun _ => ?_))
theorem spec_l09Code.mono : ∀ a0 a1 k, LeO (spec_l09Code.f k a0 a1) (spec_l09Code.f (k + 1) a0 a1) := by
 intro a0 a1 k
 obtain ⟨ih0, ih1⟩ := spec_l09Code.mono_l k
 unfold spec_l09Code.f
 repeat' first
   | (with_reducible exact ih0 _ _)
   | (with_reducible exact ih1 _ _)
   | (with_reducible exact spec_l01Is.mono _ _)
   | (with_reducible exact LeO.refl _)
   | (with_reducible exact LeO.none _)
   | (with_reducible refine LeO.ite ?_ ?_)
   | (with_reducible refine LeO.bind ?_ (fun _ => ?_))
set_option maxHeartbeats 8000000 in
set_option maxRecDepth 100000 in
theorem spec_l09Code.calls (k : Nat) (a0 : ByteArray) (A1 : Option Addr) (c1 : Nat) (l1 : List ByteArray) (r : Int) (w : World) (hr1 : Kd.C Kd.string w A1 l1.length l1) (hc1 : l1.length ≤ c1) (h : spec_l09Code.f k a0 l1 = some r) :
  Calls Try.prog 51 #[.string a0, .slice A1 l1.length c1] w fun e w' => e = .returned (.int .i64 r) ∧ Drawn0 w w' := by
 have HR1 := Aside0.mk hr1
 have HC1 := Aside0.mk hc1
 clear hr1 hc1
 have H : ((spec_l01Is.f k a0).bind fun t571 => (if t571 = true then (spec_l09Code.l0 k l1 0) else (some 1))) = some r := h
 clear h
 replace H := Option.bind_eq_some_iff.mp H
 obtain ⟨t571, A30, H⟩ := H
 replace H : (if t571 = true then (spec_l09Code.l0 k l1 0) else (some 1)) = some r := H
 have A3 := Aside0.mk A30
 clear A30
 by_cases c4 : t571 = true
 ·
  subst c4
  have H1 : (spec_l09Code.l0 k l1 0) = some r := by rw [if_pos rfl] at H; exact H
  clear H
  have H := H1
  clear H1
  have H' := Aside0.mk H
  clear H
  go_enter Try.func51, Try.ntmps51
  go_wp2_with (first | ((with_reducible refine gate_callee (f := 31) rfl ?_); refine goesL_ (some 8) rfl rfl Try.func31 (by kernel_rfl) rfl #[.string a0] rfl qV ?_; (with_reducible refine (spec_l01Is.calls k a0 true _ A3.out).mono ?_); rintro e w' ⟨rfl, ⟨nd, rfl⟩⟩; refine ⟨_, rfl, ?_⟩))
  go_loopg [5] k (fun kq v5 w' => ∃ (x5_1 : Int), v5 = .int .i64 x5_1 ∧ Aside0 (spec_l09Code.l0 kq l1 x5_1 = some r) ∧ Aside0 (kq ≤ k) ∧ Drawn0 w w')
  case atStart => exact ⟨(0), qF, H', ⟨Nat.le_refl _⟩, by repeat (first | exact Drawn0.refl _ | apply Drawn0.step)⟩
  case round =>
   clear H'
   obtain ⟨x5_1, rfl, HA, HK1, ⟨m1, rfl⟩⟩ := hrel
   cases gk with
   | zero => exact absurd HA.out (by simp [spec_l09Code.l0])
   | succ k1 =>
    have H := HA.out
    clear HA
    simp only [spec_l09Code.l0] at H
    by_cases c5 : x5_1 < (l1.length : Int)
    ·
     rw [if_pos c5] at H
     have c5b0 : decide (x5_1 < (l1.length : Int)) = true := decide_eq_true c5
     clear c5
     by_cases c6 : 0 ≤ x5_1
     ·
      rw [if_pos c6] at H
      have c6b0 : decide (0 ≤ x5_1) = true := decide_eq_true c6
      clear c6
      replace H := Option.bind_eq_some_iff.mp H
      obtain ⟨t573, A70, H⟩ := H
      replace H : (if t573 = true then (spec_l09Code.l0 k1 l1 (wrap64 (x5_1 + 1))) else (some 1)) = some r := H
      have A7 := Aside0.mk A70
      clear A70
      by_cases c8 : t573 = true
      ·
       subst c8
       have H1 : (spec_l09Code.l0 k1 l1 (wrap64 (x5_1 + 1))) = some r := by rw [if_pos rfl] at H; exact H
       clear H
       have H := H1
       clear H1
       have H' := Aside0.mk H
       clear H
       have p572 : 0 ≤ (x5_1 : Int) := of_decide_eq_true (by first | (with_reducible assumption) | assumption)
       have q572 : x5_1 < (l1.length : Int) := of_decide_eq_true (by first | (with_reducible assumption) | assumption)
       obtain ⟨ad572, e572, hx572_0⟩ := Kd.at_string HR1.out x5_1 p572 q572
       cases e572
       replace p572 := eq_true p572
       replace q572 := eq_true q572
       go_wp2_with (first | ((with_reducible refine gate_callee (f := 31) rfl ?_); refine goesL_ (some 20) rfl rfl Try.func31 (by kernel_rfl) rfl #[.string (rdOf ByteArray.empty l1 x5_1)] rfl qV ?_; (with_reducible refine (spec_l01Is.calls k1 (rdOf ByteArray.empty l1 x5_1) true _ A7.out).mono ?_); rintro e w' ⟨rfl, ⟨nd, rfl⟩⟩; refine ⟨_, rfl, ?_⟩))
       go_roundg k1
       case measure => have := HK1.out; omega
       case rel => exact ⟨(wrap64 (x5_1 + 1)), qF, H', ⟨by have := HK1.out; omega⟩, by repeat (first | exact Drawn0.refl _ | apply Drawn0.step)⟩
      ·
       replace c8 := Bool.eq_false_iff.mpr c8
       subst c8
       have H1 : (some 1) = some r := by rw [if_neg (show ¬ (false = true) by decide)] at H; exact H
       clear H
       have H := H1
       clear H1
       obtain rfl := Option.some.inj H
       have p572 : 0 ≤ (x5_1 : Int) := of_decide_eq_true (by first | (with_reducible assumption) | assumption)
       have q572 : x5_1 < (l1.length : Int) := of_decide_eq_true (by first | (with_reducible assumption) | assumption)
       obtain ⟨ad572, e572, hx572_0⟩ := Kd.at_string HR1.out x5_1 p572 q572
       cases e572
       replace p572 := eq_true p572
       replace q572 := eq_true q572
       go_wp2_with (first | ((with_reducible refine gate_callee (f := 31) rfl ?_); refine goesL_ (some 20) rfl rfl Try.func31 (by kernel_rfl) rfl #[.string (rdOf ByteArray.empty l1 x5_1)] rfl qV ?_; (with_reducible refine (spec_l01Is.calls k1 (rdOf ByteArray.empty l1 x5_1) false _ A7.out).mono ?_); rintro e w' ⟨rfl, ⟨nd, rfl⟩⟩; refine ⟨_, rfl, ?_⟩))
       go_ret
       exact ⟨by first | rfl | (simp; done) | (simp [*]; done) | (simp; rw [Bool.eq_iff_iff]; simp; done), by repeat (first | exact Drawn0.refl _ | apply Drawn0.step)⟩
     ·
      rw [if_neg c6] at H
      exact absurd H (by simp)
    ·
     rw [if_neg c5] at H
     have c5b0 : decide (x5_1 < (l1.length : Int)) = false := decide_eq_false c5
     clear c5
     have H' := Aside0.mk H
     clear H
     go_wp2
     go_loopg [6] k1 (fun kq v6 w' => ∃ (x6_2 : Int), v6 = .int .i64 x6_2 ∧ Aside0 (spec_l09Code.l1 kq l1 x6_2 = some r) ∧ Aside0 (kq ≤ k1) ∧ Drawn0 w w')
     case atStart => exact ⟨(0), qF, H', ⟨Nat.le_refl _⟩, by repeat (first | exact Drawn0.refl _ | apply Drawn0.step)⟩
     case round =>
      clear H'
      obtain ⟨x6_2, rfl, HA, HK2, ⟨m2, rfl⟩⟩ := hrel
      cases gk with
      | zero => exact absurd HA.out (by simp [spec_l09Code.l1])
      | succ k2 =>
       have H := HA.out
       clear HA
       simp only [spec_l09Code.l1] at H
       by_cases c9 : x6_2 < (l1.length : Int)
       ·
        rw [if_pos c9] at H
        have c9b0 : decide (x6_2 < (l1.length : Int)) = true := decide_eq_true c9
        clear c9
        by_cases c10 : 0 ≤ x6_2
        ·
         rw [if_pos c10] at H
         have c10b0 : decide (0 ≤ x6_2) = true := decide_eq_true c10
         clear c10
         by_cases c11 : (rdOf ByteArray.empty l1 x6_2).toList = ([] : List UInt8)
         ·
          rw [if_pos c11] at H
          have c11b0 : ((rdOf ByteArray.empty l1 x6_2).toList == ([] : List UInt8)) = true := beq_iff_eq.mpr c11
          have c11b1 : ((rdOf ByteArray.empty l1 x6_2).toList != ([] : List UInt8)) = false := bne_eq_false_iff_eq.mpr c11
          clear c11
          obtain rfl := Option.some.inj H
          have p574 : 0 ≤ (x6_2 : Int) := of_decide_eq_true (by first | (with_reducible assumption) | assumption)
          have q574 : x6_2 < (l1.length : Int) := of_decide_eq_true (by first | (with_reducible assumption) | assumption)
          obtain ⟨ad574, e574, hx574_0⟩ := Kd.at_string HR1.out x6_2 p574 q574
          cases e574
          replace p574 := eq_true p574
          replace q574 := eq_true q574
          go_wp2
          go_ret
          exact ⟨by first | rfl | (simp; done) | (simp [*]; done) | (simp; rw [Bool.eq_iff_iff]; simp; done), by repeat (first | exact Drawn0.refl _ | apply Drawn0.step)⟩
         ·
          rw [if_neg c11] at H
          have c11b0 : ((rdOf ByteArray.empty l1 x6_2).toList == ([] : List UInt8)) = false := beq_eq_false_iff_ne.mpr c11
          have c11b1 : ((rdOf ByteArray.empty l1 x6_2).toList != ([] : List UInt8)) = true := bne_iff_ne.mpr c11
          have H' := Aside0.mk H
          clear H
          have p574 : 0 ≤ (x6_2 : Int) := of_decide_eq_true (by first | (with_reducible assumption) | assumption)
          have q574 : x6_2 < (l1.length : Int) := of_decide_eq_true (by first | (with_reducible assumption) | assumption)
          obtain ⟨ad574, e574, hx574_0⟩ := Kd.at_string HR1.out x6_2 p574 q574
          cases e574
          replace p574 := eq_true p574
          replace q574 := eq_true q574
          go_wp2
          go_roundg k2
          case measure => have := HK1.out; have := HK2.out; omega
          case rel => exact ⟨(wrap64 (x6_2 + 1)), qF, H', ⟨by have := HK1.out; have := HK2.out; omega⟩, by repeat (first | exact Drawn0.refl _ | apply Drawn0.step)⟩
        ·
         rw [if_neg c10] at H
         exact absurd H (by simp)
       ·
        rw [if_neg c9] at H
        have c9b0 : decide (x6_2 < (l1.length : Int)) = false := decide_eq_false c9
        clear c9
        obtain rfl := Option.some.inj H
        go_wp2
        go_ret
        exact ⟨by first | rfl | (simp; done) | (simp [*]; done) | (simp; rw [Bool.eq_iff_iff]; simp; done), by repeat (first | exact Drawn0.refl _ | apply Drawn0.step)⟩
 ·
  replace c4 := Bool.eq_false_iff.mpr c4
  subst c4
  have H1 : (some 1) = some r := by rw [if_neg (show ¬ (false = true) by decide)] at H; exact H
  clear H
  have H := H1
  clear H1
  obtain rfl := Option.some.inj H
  go_enter Try.func51, Try.ntmps51
  go_wp2_with (first | ((with_reducible refine gate_callee (f := 31) rfl ?_); refine goesL_ (some 8) rfl rfl Try.func31 (by kernel_rfl) rfl #[.string a0] rfl qV ?_; (with_reducible refine (spec_l01Is.calls k a0 false _ A3.out).mono ?_); rintro e w' ⟨rfl, ⟨nd, rfl⟩⟩; refine ⟨_, rfl, ?_⟩))
  go_ret
  exact ⟨by first | rfl | (simp; done) | (simp [*]; done) | (simp; rw [Bool.eq_iff_iff]; simp; done), by repeat (first | exact Drawn0.refl _ | apply Drawn0.step)⟩

end Go.Proofs.Ytoadancbpgignaa.PF

namespace Go.Proofs.Ytoadancbpgignaa.PF
open Go.RowKit Go.Proofs.YtoadancbpgignaaW.PrintWords Go.Proofs.YtoadancbpgignaaW.PrintLast Go.Proofs.YtoadancbpgignaaW.PrintMore
attribute [local go_sem] max2_int min2_int max_two min_two max_three min_three max_four min_four   -- for this text's walks alone
set_option linter.unusedVariables false
set_option linter.unusedSimpArgs false

/-! ### spec_l01In: function 52 -/
def spec_l01In.f (a0 : Int) (a1 : Int) (a2 : Int) : Option (Bool) := if a0 ≥ a1 then (some (decide (a0 ≤ a2))) else (some false)
set_option maxHeartbeats 8000000 in
set_option maxRecDepth 100000 in
theorem spec_l01In.calls (a0 : Int) (a1 : Int) (a2 : Int) (r : Bool) (w : World) (h : spec_l01In.f a0 a1 a2 = some r) :
  Calls Try.prog 52 #[.int .i64 a0, .int .i64 a1, .int .i64 a2] w fun e w' => e = .returned (.bool r) ∧ Drawn0 w w' := by
 have H : (if a0 ≥ a1 then (some (decide (a0 ≤ a2))) else (some false)) = some r := h
 clear h
 by_cases c4 : a0 ≥ a1
 ·
  rw [if_pos c4] at H
  have c4b0 : decide (a1 ≤ a0) = true := decide_eq_true c4
  clear c4
  obtain rfl := Option.some.inj H
  go_enter Try.func52, Try.ntmps52
  go_wp2
  go_ret
  exact ⟨by first | rfl | (simp; done) | (simp [*]; done) | (simp; rw [Bool.eq_iff_iff]; simp; done), by repeat (first | exact Drawn0.refl _ | apply Drawn0.step)⟩
 ·
  rw [if_neg c4] at H
  have c4b0 : decide (a1 ≤ a0) = false := decide_eq_false c4
  clear c4
  obtain rfl := Option.some.inj H
  go_enter Try.func52, Try.ntmps52
  go_wp2
  go_ret
  exact ⟨by first | rfl | (simp; done) | (simp [*]; done) | (simp; rw [Bool.eq_iff_iff]; simp; done), by repeat (first | exact Drawn0.refl _ | apply Drawn0.step)⟩

end Go.Proofs.Ytoadancbpgignaa.PF

namespace Go.Proofs.Ytoadancbpgignaa.PF
open Go.RowKit Go.Proofs.YtoadancbpgignaaW.PrintWords Go.Proofs.YtoadancbpgignaaW.PrintLast Go.Proofs.YtoadancbpgignaaW.PrintMore
attribute [local go_sem] max2_int min2_int max_two min_two max_three min_three max_four min_four   -- for this text's walks alone
set_option linter.unusedVariables false
set_option linter.unusedSimpArgs false

/-! ### spec_GrowByCover: function 23 -/
mutual
def spec_GrowByCover.l0 : Nat → ByteArray → List Int → Int → Int → Option (ByteArray × Int)
 | 0, _, _, _, _ => none
 | k + 1, x0, x1, x7, x8 => if x8 < (x1.length : Int) then (if 0 ≤ x8 then ((spec_l01In.f (rd x1 x8) 0 (wrap64 (x7 - 1))).bind fun t580 => (if t580 = true then (spec_GrowByCover.l0 k x0 x1 x7 (wrap64 (x8 + 1))) else (some ((⟨#[]⟩ : ByteArray), 2)))) else (none)) else (spec_GrowByCover.l1 k x0 x1 x7 0)
def spec_GrowByCover.l1 : Nat → ByteArray → List Int → Int → Int → Option (ByteArray × Int)
 | 0, _, _, _, _ => none
 | k + 1, x0, x1, x7, x9 => if x9 < (x1.length : Int) then (if 0 ≤ x9 then (if 0 ≤ (rd x1 x9) then (if (rd x1 x9) ≤ (x0.size : Int) then (if 0 ≤ (wrap64 (x7 - (rd x1 x9))) then (if (wrap64 (x7 - (rd x1 x9))) ≤ (x0.size : Int) then (if (x0.extract 0 ((rd x1 x9) : Int).toNat).toList = (x0.extract ((wrap64 (x7 - (rd x1 x9))) : Int).toNat x0.size).toList then (spec_GrowByCover.l1 k x0 x1 x7 (wrap64 (x9 + 1))) else (some ((⟨#[]⟩ : ByteArray), 4))) else (none)) else (none)) else (none)) else (none)) else (none)) else (spec_GrowByCover.l2 k x0 x1 x7 x0 0)
def spec_GrowByCover.l2 : Nat → ByteArray → List Int → Int → ByteArray → Int → Option (ByteArray × Int)
 | 0, _, _, _, _, _ => none
 | k + 1, x0, x1, x7, x10, x11 => if x11 < (x1.length : Int) then (if 0 ≤ x11 then (if (wrap64 ((wrap64 ((x10.size : Int) + x7)) - (rd x1 x11))) > 60 then (some ((⟨#[]⟩ : ByteArray), 3)) else (if 0 ≤ (rd x1 x11) then (if (rd x1 x11) ≤ (x0.size : Int) then (if x10.size + (x0.extract ((rd x1 x11) : Int).toNat x0.size).size ≤ 9223372036854775807 then (spec_GrowByCover.l2 k x0 x1 x7 (x10 ++ (x0.extract ((rd x1 x11) : Int).toNat x0.size)) (wrap64 (x11 + 1))) else (none)) else (none)) else (none))) else (none)) else (some (x10, 0))
end
def spec_GrowByCover.f (k : Nat) (a0 : ByteArray) (l1 : List Int) : Option (ByteArray × Int) := (spec_l09Code.f k (⟨#[]⟩ : ByteArray) (([a0] : List ByteArray))).bind fun t578 => (if t578 = 0 then (spec_GrowByCover.l0 k a0 l1 (a0.size : Int) 0) else (some ((⟨#[]⟩ : ByteArray), t578)))
theorem spec_GrowByCover.mono_l : ∀ k, (∀ y0 y1 y2 y3, LeO (spec_GrowByCover.l0 k y0 y1 y2 y3) (spec_GrowByCover.l0 (k + 1) y0 y1 y2 y3)) ∧ (∀ y0 y1 y2 y3, LeO (spec_GrowByCover.l1 k y0 y1 y2 y3) (spec_GrowByCover.l1 (k + 1) y0 y1 y2 y3)) ∧ (∀ y0 y1 y2 y3 y4, LeO (spec_GrowByCover.l2 k y0 y1 y2 y3 y4) (spec_GrowByCover.l2 (k + 1) y0 y1 y2 y3 y4))
 | 0 => ⟨fun _ _ _ _ r h => by simp [spec_GrowByCover.l0] at h, fun _ _ _ _ r h => by simp [spec_GrowByCover.l1] at h, fun _ _ _ _ _ r h => by simp [spec_GrowByCover.l2] at h⟩
 | k + 1 => by
  obtain ⟨ih0, ih1, ih2⟩ := spec_GrowByCover.mono_l k
  refine ⟨?_, ?_, ?_⟩
  ·
   intro y0 y1 y2 y3
   unfold spec_GrowByCover.l0
   repeat' first
   | (with_reducible exact ih0 _ _ _ _)
   | (with_reducible exact ih1 _ _ _ _)
   | (with_reducible exact ih2 _ _ _ _ _)
   | (with_reducible exact spec_l09Code.mono _ _ _)
   | (with_reducible exact LeO.refl _)
   | (with_reducible exact LeO.none _)
   | (with_reducible refine LeO.ite ?_ ?_)
   | (with_reducible refine LeO.bind ?_ (fun _ => ?_))
  ·
   intro y0 y1 y2 y3
   unfold spec_GrowByCover.l1
   repeat' first
   | (with_reducible exact ih0 _ _ _ _)
   | (with_reducible exact ih1 _ _ _ _)
   | (with_reducible exact ih2 _ _ _ _ _)
   | (with_reducible exact spec_l09Code.mono _ _ _)
   | (with_reducible exact LeO.refl _)
   | (with_reducible exact LeO.none _)
   | (with_reducible refine LeO.ite ?_ ?_)
   | (with_reducible refine LeO.bind ?_ (fun _ => ?_))
  ·
   intro y0 y1 y2 y3 y4
   unfold spec_GrowByCover.l2
   repeat' first
   | (with_reducible exact ih0 _ _ _ _)
   | (with_reducible exact ih1 _ _ _ _)
   | (with_reducible exact ih2 _ _ _ _ _)
   | (with_reducible exact spec_l09Code.mono _ _ _)
   | (with_reducible exact LeO.refl _)
   | (with_reducible exact LeO.none _)
   | (with_reducible refine LeO.ite ?_ ?_)
   | (with_reducible refine LeO.bind ?_ (fun _ => ?_))
theorem spec_GrowByCover.mono : ∀ a0 a1 k, LeO (spec_GrowByCover.f k a0 a1) (spec_GrowByCover.f (k + 1) a0 a1) := by
 intro a0 a1 k
 obtain ⟨ih0, ih1, ih2⟩ := spec_GrowByCover.mono_l k
 unfold spec_GrowByCover.f
 repeat' first
   | (with_reducible exact ih0 _ _ _ _)
   | (with_reducible exact ih1 _ _ _ _)
   | (with_reducible exact ih2 _ _ _ _ _)
   | (with_reducible exact spec_l09Code.mono _ _ _)
   | (with_reducible exact LeO.refl _)
   | (with_reducible exact LeO.none _)
   | (with_reducible refine LeO.ite ?_ ?_)
   | (with_reducible refine LeO.bind ?_ (fun _ => ?_))
set_option maxHeartbeats 8000000 in
set_option maxRecDepth 100000 in
theorem spec_GrowByCover.calls (k : Nat) (a0 : ByteArray) (A1 : Option Addr) (c1 : Nat) (l1 : List Int) (r1 : ByteArray) (r2 : Int) (w : World) (hr1 : Kd.C (Kd.int .i64) w A1 l1.length l1) (hc1 : l1.length ≤ c1) (h : spec_GrowByCover.f k a0 l1 = some (r1, r2)) :
  Calls Try.prog 23 #[.string a0, .slice A1 l1.length c1] w fun e w' => e = .returned (.tuple #[.string r1, .int .i64 r2]) ∧ Below w.heap.size w w' := by
 have HR1 := Aside0.mk hr1
 have HC1 := Aside0.mk hc1
 clear hr1 hc1
 have HB := Aside0.mk (Below.refl w.heap.size w)
 have H : ((spec_l09Code.f k (⟨#[]⟩ : ByteArray) (([a0] : List ByteArray))).bind fun t578 => (if t578 = 0 then (spec_GrowByCover.l0 k a0 l1 (a0.size : Int) 0) else (some ((⟨#[]⟩ : ByteArray), t578)))) = some (r1, r2) := h
 clear h
 obtain ⟨y575, hy575⟩ : ∃ y_ : List ByteArray, y_ = (([a0] : List ByteArray)) := ⟨_, rfl⟩
 replace H : ((spec_l09Code.f k (⟨#[]⟩ : ByteArray) y575).bind fun t578 => (if t578 = 0 then (spec_GrowByCover.l0 k a0 l1 (a0.size : Int) 0) else (some ((⟨#[]⟩ : ByteArray), t578)))) = some (r1, r2) := by first | (rw [hy575]; with_reducible exact H) | (have H2_ := (Option.bind_some _ _).symm.trans H; rw [hy575]; with_reducible exact H2_) | (have H2_ := (Option.bind_some _ _).symm.trans H; with_reducible exact H2_) | with_reducible exact H | (rw [hy575]; exact H) | exact H
 have Ny575 := Aside0.mk hy575
 clear hy575
 replace H := Option.bind_eq_some_iff.mp H
 obtain ⟨t578, A30, H⟩ := H
 replace H : (if t578 = 0 then (spec_GrowByCover.l0 k a0 l1 (a0.size : Int) 0) else (some ((⟨#[]⟩ : ByteArray), t578))) = some (r1, r2) := H
 have A3 := Aside0.mk A30
 clear A30
 by_cases c4 : t578 = 0
 ·
  rw [if_pos c4] at H
  have c4b0 : (t578 == 0) = true := beq_iff_eq.mpr c4
  have c4b1 : (t578 != 0) = false := bne_eq_false_iff_eq.mpr c4
  clear c4
  have H' := Aside0.mk H
  clear H
  go_enter Try.func23, Try.ntmps23
  go_wp2_with (first | ((with_reducible refine gate_dst (N := 13) rfl ?_); refine Kd.R_lit Kd.string _ 9 ?hg (N := 13) ?hd (xs := ([a0] : List ByteArray)) (inner := [.string a0]) (ok := fun _ => True) (okp := fun _ => True) ?hr ?hp (fun _ hk => hk) trivial (Below.refl _ _) (Nat.le_refl _) (by simp) ?_; (case hd => rfl); (case hg => rfl); (case hr => first | (go_simp; done) | (go_simp; rfl)); (case hp => exact (Reps.one (show Kd.M Kd.string _ _ _ a0 [.string a0] from rfl) (Reps.none _ _))); intro v576 w5 ho6 hb hg_ hnew_; clear hg_ hnew_; (first | rw [← Ny575.out] at ho6 | (simp only [Int.reduceToNat] at ho6; rw [← Ny575.out] at ho6)); have n0_ := Aside0.mk (Kd.R_lower ho6 (below_size (qB HB.out))); have n1_ := Aside0.mk (below_step (qB HB.out) hb); clear HB; have HO577 := n0_; have HB := n1_; clear n0_ n1_; clear hb ho6; obtain ⟨Ao7, co7, eo7⟩ := Kd.R_slice HO577.out; subst eo7) | (go_at_call 51; (with_reducible refine (spec_l09Code.calls k (⟨#[]⟩ : ByteArray) _ _ y575 t578 _ ?side1 ?side2 A3.out).mono ?_); (case side1 => exact qC (Kd.R_reads' HO577.out).2.2); (case side2 => exact (Kd.R_reads' HO577.out).2.1); rintro e w' ⟨rfl, ⟨nd, rfl⟩⟩; (try first | exact ⟨rfl, _, World.drewN_drewN _ _ _⟩ | exact ⟨rfl, _, Eq.trans (World.drewN_drewN _ _ _) (congrArg (World.drewN _) (Nat.add_assoc _ _ _))⟩)))
  repeat (go_quiet (first | ((with_reducible refine gate_dst (N := 13) rfl ?_); refine Kd.R_lit Kd.string _ 9 ?hg (N := 13) ?hd (xs := ([a0] : List ByteArray)) (inner := [.string a0]) (ok := fun _ => True) (okp := fun _ => True) ?hr ?hp (fun _ hk => hk) trivial (Below.refl _ _) (Nat.le_refl _) (by simp) ?_; (case hd => rfl); (case hg => rfl); (case hr => first | (go_simp; done) | (go_simp; rfl)); (case hp => exact (Reps.one (show Kd.M Kd.string _ _ _ a0 [.string a0] from rfl) (Reps.none _ _))); intro v576 w5 ho6 hb hg_ hnew_; clear hg_ hnew_; (first | rw [← Ny575.out] at ho6 | (simp only [Int.reduceToNat] at ho6; rw [← Ny575.out] at ho6)); have n0_ := Aside0.mk (Kd.R_lower ho6 (below_size (qB HB.out))); have n1_ := Aside0.mk (below_step (qB HB.out) hb); clear HB; have HO577 := n0_; have HB := n1_; clear n0_ n1_; clear hb ho6; obtain ⟨Ao7, co7, eo7⟩ := Kd.R_slice HO577.out; subst eo7) | (go_at_call 51; (with_reducible refine (spec_l09Code.calls k (⟨#[]⟩ : ByteArray) _ _ y575 t578 _ ?side1 ?side2 A3.out).mono ?_); (case side1 => exact qC (Kd.R_reads' HO577.out).2.2); (case side2 => exact (Kd.R_reads' HO577.out).2.1); rintro e w' ⟨rfl, ⟨nd, rfl⟩⟩; (try first | exact ⟨rfl, _, World.drewN_drewN _ _ _⟩ | exact ⟨rfl, _, Eq.trans (World.drewN_drewN _ _ _) (congrArg (World.drewN _) (Nat.add_assoc _ _ _))⟩))); try go_wp2_with (first | ((with_reducible refine gate_dst (N := 13) rfl ?_); refine Kd.R_lit Kd.string _ 9 ?hg (N := 13) ?hd (xs := ([a0] : List ByteArray)) (inner := [.string a0]) (ok := fun _ => True) (okp := fun _ => True) ?hr ?hp (fun _ hk => hk) trivial (Below.refl _ _) (Nat.le_refl _) (by simp) ?_; (case hd => rfl); (case hg => rfl); (case hr => first | (go_simp; done) | (go_simp; rfl)); (case hp => exact (Reps.one (show Kd.M Kd.string _ _ _ a0 [.string a0] from rfl) (Reps.none _ _))); intro v576 w5 ho6 hb hg_ hnew_; clear hg_ hnew_; (first | rw [← Ny575.out] at ho6 | (simp only [Int.reduceToNat] at ho6; rw [← Ny575.out] at ho6)); have n0_ := Aside0.mk (Kd.R_lower ho6 (below_size (qB HB.out))); have n1_ := Aside0.mk (below_step (qB HB.out) hb); clear HB; have HO577 := n0_; have HB := n1_; clear n0_ n1_; clear hb ho6; obtain ⟨Ao7, co7, eo7⟩ := Kd.R_slice HO577.out; subst eo7) | (go_at_call 51; (with_reducible refine (spec_l09Code.calls k (⟨#[]⟩ : ByteArray) _ _ y575 t578 _ ?side1 ?side2 A3.out).mono ?_); (case side1 => exact qC (Kd.R_reads' HO577.out).2.2); (case side2 => exact (Kd.R_reads' HO577.out).2.1); rintro e w' ⟨rfl, ⟨nd, rfl⟩⟩; (try first | exact ⟨rfl, _, World.drewN_drewN _ _ _⟩ | exact ⟨rfl, _, Eq.trans (World.drewN_drewN _ _ _) (congrArg (World.drewN _) (Nat.add_assoc _ _ _))⟩))))
  go_loopg [8] k (fun kq v8 w' => ∃ (x8_1 : Int), v8 = .int .i64 x8_1 ∧ Aside0 (spec_GrowByCover.l0 kq a0 l1 (a0.size : Int) x8_1 = some (r1, r2)) ∧ Aside0 (kq ≤ k) ∧ Aside0 (Below w.heap.size w w'))
  case atStart => exact ⟨(0), qF, H', ⟨Nat.le_refl _⟩, ⟨qB HB.out⟩⟩
  case round =>
   clear H'
   obtain ⟨x8_1, rfl, HA, HK1, HB⟩ := hrel
   cases gk with
   | zero => exact absurd HA.out (by simp [spec_GrowByCover.l0])
   | succ k1 =>
    have H := HA.out
    clear HA
    simp only [spec_GrowByCover.l0] at H
    by_cases c8 : x8_1 < (l1.length : Int)
    ·
     rw [if_pos c8] at H
     have c8b0 : decide (x8_1 < (l1.length : Int)) = true := decide_eq_true c8
     clear c8
     by_cases c9 : 0 ≤ x8_1
     ·
      rw [if_pos c9] at H
      have c9b0 : decide (0 ≤ x8_1) = true := decide_eq_true c9
      clear c9
      replace H := Option.bind_eq_some_iff.mp H
      obtain ⟨t580, A100, H⟩ := H
      replace H : (if t580 = true then (spec_GrowByCover.l0 k1 a0 l1 (a0.size : Int) (wrap64 (x8_1 + 1))) else (some ((⟨#[]⟩ : ByteArray), 2))) = some (r1, r2) := H
      have A10 := Aside0.mk A100
      clear A100
      by_cases c11 : t580 = true
      ·
       subst c11
       have H1 : (spec_GrowByCover.l0 k1 a0 l1 (a0.size : Int) (wrap64 (x8_1 + 1))) = some (r1, r2) := by rw [if_pos rfl] at H; exact H
       clear H
       have H := H1
       clear H1
       have H' := Aside0.mk H
       clear H
       have p579 : 0 ≤ (x8_1 : Int) := of_decide_eq_true (by first | (with_reducible assumption) | assumption)
       have q579 : x8_1 < (l1.length : Int) := of_decide_eq_true (by first | (with_reducible assumption) | assumption)
       obtain ⟨ad579, e579, hx579_0⟩ := Kd.at_int HR1.out x8_1 p579 q579
       cases e579
       replace hx579_0 := (HB.out.cell (World.block_lt_of_cell? w _ hx579_0)).trans hx579_0
       replace p579 := eq_true p579
       replace q579 := eq_true q579
       go_wp2_with (first | (go_at_call 52; (with_reducible refine (spec_l01In.calls (rd l1 x8_1) 0 (wrap64 ((a0.size : Int) - 1)) true _ A10.out).mono ?_); rintro e w' ⟨rfl, ⟨nd, rfl⟩⟩; (try first | exact ⟨rfl, _, World.drewN_drewN _ _ _⟩ | exact ⟨rfl, _, Eq.trans (World.drewN_drewN _ _ _) (congrArg (World.drewN _) (Nat.add_assoc _ _ _))⟩)))
       repeat (go_quiet (first | (go_at_call 52; (with_reducible refine (spec_l01In.calls (rd l1 x8_1) 0 (wrap64 ((a0.size : Int) - 1)) true _ A10.out).mono ?_); rintro e w' ⟨rfl, ⟨nd, rfl⟩⟩; (try first | exact ⟨rfl, _, World.drewN_drewN _ _ _⟩ | exact ⟨rfl, _, Eq.trans (World.drewN_drewN _ _ _) (congrArg (World.drewN _) (Nat.add_assoc _ _ _))⟩))); try go_wp2_with (first | (go_at_call 52; (with_reducible refine (spec_l01In.calls (rd l1 x8_1) 0 (wrap64 ((a0.size : Int) - 1)) true _ A10.out).mono ?_); rintro e w' ⟨rfl, ⟨nd, rfl⟩⟩; (try first | exact ⟨rfl, _, World.drewN_drewN _ _ _⟩ | exact ⟨rfl, _, Eq.trans (World.drewN_drewN _ _ _) (congrArg (World.drewN _) (Nat.add_assoc _ _ _))⟩))))
       go_roundg k1
       case measure => have := HK1.out; omega
       case rel => exact ⟨(wrap64 (x8_1 + 1)), qF, H', ⟨by have := HK1.out; omega⟩, ⟨qB HB.out⟩⟩
      ·
       replace c11 := Bool.eq_false_iff.mpr c11
       subst c11
       have H1 : (some ((⟨#[]⟩ : ByteArray), 2)) = some (r1, r2) := by rw [if_neg (show ¬ (false = true) by decide)] at H; exact H
       clear H
       have H := H1
       clear H1
       simp only [Option.some.injEq, Prod.mk.injEq] at H
       obtain ⟨rfl, rfl⟩ := H
       have p579 : 0 ≤ (x8_1 : Int) := of_decide_eq_true (by first | (with_reducible assumption) | assumption)
       have q579 : x8_1 < (l1.length : Int) := of_decide_eq_true (by first | (with_reducible assumption) | assumption)
       obtain ⟨ad579, e579, hx579_0⟩ := Kd.at_int HR1.out x8_1 p579 q579
       cases e579
       replace hx579_0 := (HB.out.cell (World.block_lt_of_cell? w _ hx579_0)).trans hx579_0
       replace p579 := eq_true p579
       replace q579 := eq_true q579
       go_wp2_with (first | (go_at_call 52; (with_reducible refine (spec_l01In.calls (rd l1 x8_1) 0 (wrap64 ((a0.size : Int) - 1)) false _ A10.out).mono ?_); rintro e w' ⟨rfl, ⟨nd, rfl⟩⟩; (try first | exact ⟨rfl, _, World.drewN_drewN _ _ _⟩ | exact ⟨rfl, _, Eq.trans (World.drewN_drewN _ _ _) (congrArg (World.drewN _) (Nat.add_assoc _ _ _))⟩)))
       repeat (go_quiet (first | (go_at_call 52; (with_reducible refine (spec_l01In.calls (rd l1 x8_1) 0 (wrap64 ((a0.size : Int) - 1)) false _ A10.out).mono ?_); rintro e w' ⟨rfl, ⟨nd, rfl⟩⟩; (try first | exact ⟨rfl, _, World.drewN_drewN _ _ _⟩ | exact ⟨rfl, _, Eq.trans (World.drewN_drewN _ _ _) (congrArg (World.drewN _) (Nat.add_assoc _ _ _))⟩))); try go_wp2_with (first | (go_at_call 52; (with_reducible refine (spec_l01In.calls (rd l1 x8_1) 0 (wrap64 ((a0.size : Int) - 1)) false _ A10.out).mono ?_); rintro e w' ⟨rfl, ⟨nd, rfl⟩⟩; (try first | exact ⟨rfl, _, World.drewN_drewN _ _ _⟩ | exact ⟨rfl, _, Eq.trans (World.drewN_drewN _ _ _) (congrArg (World.drewN _) (Nat.add_assoc _ _ _))⟩))))
       go_ret2
       exact ⟨qE, qB HB.out⟩
     ·
      rw [if_neg c9] at H
      exact absurd H (by simp)
    ·
     rw [if_neg c8] at H
     have c8b0 : decide (x8_1 < (l1.length : Int)) = false := decide_eq_false c8
     clear c8
     have H' := Aside0.mk H
     clear H
     go_wp2
     repeat (go_quiet (fail); try go_wp2)
     go_loopg [9] k1 (fun kq v9 w' => ∃ (x9_2 : Int), v9 = .int .i64 x9_2 ∧ Aside0 (spec_GrowByCover.l1 kq a0 l1 (a0.size : Int) x9_2 = some (r1, r2)) ∧ Aside0 (kq ≤ k1) ∧ Aside0 (Below w.heap.size w w'))
     case atStart => exact ⟨(0), qF, H', ⟨Nat.le_refl _⟩, ⟨qB HB.out⟩⟩
     case round =>
      clear H'
      obtain ⟨x9_2, rfl, HA, HK2, HB⟩ := hrel
      cases gk with
      | zero => exact absurd HA.out (by simp [spec_GrowByCover.l1])
      | succ k2 =>
       have H := HA.out
       clear HA
       simp only [spec_GrowByCover.l1] at H
       by_cases c12 : x9_2 < (l1.length : Int)
       ·
        rw [if_pos c12] at H
        have c12b0 : decide (x9_2 < (l1.length : Int)) = true := decide_eq_true c12
        clear c12
        by_cases c13 : 0 ≤ x9_2
        ·
         rw [if_pos c13] at H
         have c13b0 : decide (0 ≤ x9_2) = true := decide_eq_true c13
         clear c13
         by_cases c14 : 0 ≤ (rd l1 x9_2)
         ·
          rw [if_pos c14] at H
          have c14b0 := eq_true c14
          have c14b1 : decide (0 ≤ (rd l1 x9_2)) = true := decide_eq_true c14
          clear c14
          by_cases c15 : (rd l1 x9_2) ≤ (a0.size : Int)
          ·
           rw [if_pos c15] at H
           have c15b0 := eq_true c15
           have c15b1 : decide ((rd l1 x9_2) ≤ (a0.size : Int)) = true := decide_eq_true c15
           clear c15
           obtain ⟨ji16, hji16⟩ : ∃ j_ : Int, (wrap64 ((a0.size : Int) - (rd l1 x9_2))) = j_ := ⟨_, rfl⟩
           replace H : (if 0 ≤ (ji16) then (if (ji16) ≤ (a0.size : Int) then (if (a0.extract 0 ((rd l1 x9_2) : Int).toNat).toList = (a0.extract ((ji16) : Int).toNat a0.size).toList then (spec_GrowByCover.l1 k2 a0 l1 (a0.size : Int) (wrap64 (x9_2 + 1))) else (some ((⟨#[]⟩ : ByteArray), 4))) else (none)) else (none)) = some (r1, r2) := by first | (rw [hji16] at H; exact H) | (simp only [hji16] at H ⊢; exact H)
           have hji16w : (IntKind.i64.wrap ((a0.size : Int) - (rd l1 x9_2))) = ji16 := (i64_w _).trans hji16
           by_cases c17 : 0 ≤ (ji16)
           ·
            rw [if_pos c17] at H
            have c17b0 := eq_true c17
            have c17b1 : decide (0 ≤ (ji16)) = true := decide_eq_true c17
            clear c17
            by_cases c18 : (ji16) ≤ (a0.size : Int)
            ·
             rw [if_pos c18] at H
             have c18b0 := eq_true c18
             have c18b1 : decide ((ji16) ≤ (a0.size : Int)) = true := decide_eq_true c18
             clear c18
             by_cases c19 : (a0.extract 0 ((rd l1 x9_2) : Int).toNat).toList = (a0.extract ((ji16) : Int).toNat a0.size).toList
             ·
              rw [if_pos c19] at H
              have c19b0 : ((a0.extract 0 ((rd l1 x9_2) : Int).toNat).toList == (a0.extract ((ji16) : Int).toNat a0.size).toList) = true := beq_iff_eq.mpr c19
              have c19b1 : ((a0.extract 0 ((rd l1 x9_2) : Int).toNat).toList != (a0.extract ((ji16) : Int).toNat a0.size).toList) = false := bne_eq_false_iff_eq.mpr c19
              clear c19
              have H' := Aside0.mk H
              clear H
              have p581 : 0 ≤ (x9_2 : Int) := of_decide_eq_true (by first | (with_reducible assumption) | assumption)
              have q581 : x9_2 < (l1.length : Int) := of_decide_eq_true (by first | (with_reducible assumption) | assumption)
              obtain ⟨ad581, e581, hx581_0⟩ := Kd.at_int HR1.out x9_2 p581 q581
              cases e581
              replace hx581_0 := (HB.out.cell (World.block_lt_of_cell? w _ hx581_0)).trans hx581_0
              replace p581 := eq_true p581
              replace q581 := eq_true q581
              have p582 : 0 ≤ (x9_2 : Int) := of_decide_eq_true (by first | (with_reducible assumption) | assumption)
              have q582 : x9_2 < (l1.length : Int) := of_decide_eq_true (by first | (with_reducible assumption) | assumption)
              obtain ⟨ad582, e582, hx582_0⟩ := Kd.at_int HR1.out x9_2 p582 q582
              obtain rfl : ad581 = ad582 := (by injection e582)
              replace hx582_0 := (HB.out.cell (World.block_lt_of_cell? w _ hx582_0)).trans hx582_0
              replace p582 := eq_true p582
              replace q582 := eq_true q582
              go_wp2
              repeat (go_quiet (fail); try go_wp2)
              go_roundg k2
              case measure => have := HK1.out; have := HK2.out; omega
              case rel => exact ⟨(wrap64 (x9_2 + 1)), qF, H', ⟨by have := HK1.out; have := HK2.out; omega⟩, ⟨qB HB.out⟩⟩
             ·
              rw [if_neg c19] at H
              have c19b0 : ((a0.extract 0 ((rd l1 x9_2) : Int).toNat).toList == (a0.extract ((ji16) : Int).toNat a0.size).toList) = false := beq_eq_false_iff_ne.mpr c19
              have c19b1 : ((a0.extract 0 ((rd l1 x9_2) : Int).toNat).toList != (a0.extract ((ji16) : Int).toNat a0.size).toList) = true := bne_iff_ne.mpr c19
              simp only [Option.some.injEq, Prod.mk.injEq] at H
              obtain ⟨rfl, rfl⟩ := H
              have p581 : 0 ≤ (x9_2 : Int) := of_decide_eq_true (by first | (with_reducible assumption) | assumption)
              have q581 : x9_2 < (l1.length : Int) := of_decide_eq_true (by first | (with_reducible assumption) | assumption)
              obtain ⟨ad581, e581, hx581_0⟩ := Kd.at_int HR1.out x9_2 p581 q581
              cases e581
              replace hx581_0 := (HB.out.cell (World.block_lt_of_cell? w _ hx581_0)).trans hx581_0
              replace p581 := eq_true p581
              replace q581 := eq_true q581
              have p582 : 0 ≤ (x9_2 : Int) := of_decide_eq_true (by first | (with_reducible assumption) | assumption)
              have q582 : x9_2 < (l1.length : Int) := of_decide_eq_true (by first | (with_reducible assumption) | assumption)
              obtain ⟨ad582, e582, hx582_0⟩ := Kd.at_int HR1.out x9_2 p582 q582
              obtain rfl : ad581 = ad582 := (by injection e582)
              replace hx582_0 := (HB.out.cell (World.block_lt_of_cell? w _ hx582_0)).trans hx582_0
              replace p582 := eq_true p582
              replace q582 := eq_true q582
              go_wp2
              repeat (go_quiet (fail); try go_wp2)
              go_ret2
              exact ⟨by first | rfl | (simp [errW_none, errW_some] <;> rfl) | (simp only [← hji16]; first | rfl | (simp [errW_none, errW_some] <;> rfl)) | (simp [*, errW_none, errW_some] <;> rfl), qB HB.out⟩
            ·
             rw [if_neg c18] at H
             exact absurd H (by simp)
           ·
            rw [if_neg c17] at H
            exact absurd H (by simp)
          ·
           rw [if_neg c15] at H
           exact absurd H (by simp)
         ·
          rw [if_neg c14] at H
          exact absurd H (by simp)
        ·
         rw [if_neg c13] at H
         exact absurd H (by simp)
       ·
        rw [if_neg c12] at H
        have c12b0 : decide (x9_2 < (l1.length : Int)) = false := decide_eq_false c12
        clear c12
        have H' := Aside0.mk H
        clear H
        go_wp2
        repeat (go_quiet (fail); try go_wp2)
        go_loopg [10, 11] k2 (fun kq v10 v11 w' => ∃ (x10_3 : ByteArray) (x11_3 : Int), v10 = .string x10_3 ∧ v11 = .int .i64 x11_3 ∧ Aside0 (spec_GrowByCover.l2 kq a0 l1 (a0.size : Int) x10_3 x11_3 = some (r1, r2)) ∧ Aside0 (kq ≤ k2) ∧ Aside0 (Below w.heap.size w w'))
        case atStart => exact ⟨(a0), (0), qF, qF, H', ⟨Nat.le_refl _⟩, ⟨qB HB.out⟩⟩
        case round =>
         clear H'
         obtain ⟨x10_3, x11_3, rfl, rfl, HA, HK3, HB⟩ := hrel
         cases gk with
         | zero => exact absurd HA.out (by simp [spec_GrowByCover.l2])
         | succ k3 =>
          have H := HA.out
          clear HA
          simp only [spec_GrowByCover.l2] at H
          by_cases c20 : x11_3 < (l1.length : Int)
          ·
           rw [if_pos c20] at H
           have c20b0 : decide (x11_3 < (l1.length : Int)) = true := decide_eq_true c20
           clear c20
           by_cases c21 : 0 ≤ x11_3
           ·
            rw [if_pos c21] at H
            have c21b0 : decide (0 ≤ x11_3) = true := decide_eq_true c21
            clear c21
            by_cases c22 : (wrap64 ((wrap64 ((x10_3.size : Int) + (a0.size : Int))) - (rd l1 x11_3))) > 60
            ·
             rw [if_pos c22] at H
             have c22b0 : decide (60 < (wrap64 ((wrap64 ((x10_3.size : Int) + (a0.size : Int))) - (rd l1 x11_3)))) = true := decide_eq_true c22
             clear c22
             simp only [Option.some.injEq, Prod.mk.injEq] at H
             obtain ⟨rfl, rfl⟩ := H
             have p583 : 0 ≤ (x11_3 : Int) := of_decide_eq_true (by first | (with_reducible assumption) | assumption)
             have q583 : x11_3 < (l1.length : Int) := of_decide_eq_true (by first | (with_reducible assumption) | assumption)
             obtain ⟨ad583, e583, hx583_0⟩ := Kd.at_int HR1.out x11_3 p583 q583
             cases e583
             replace hx583_0 := (HB.out.cell (World.block_lt_of_cell? w _ hx583_0)).trans hx583_0
             replace p583 := eq_true p583
             replace q583 := eq_true q583
             go_wp2
             repeat (go_quiet (fail); try go_wp2)
             go_ret2
             exact ⟨qE, qB HB.out⟩
            ·
             rw [if_neg c22] at H
             have c22b0 : decide (60 < (wrap64 ((wrap64 ((x10_3.size : Int) + (a0.size : Int))) - (rd l1 x11_3)))) = false := decide_eq_false c22
             clear c22
             by_cases c23 : 0 ≤ (rd l1 x11_3)
             ·
              rw [if_pos c23] at H
              have c23b0 := eq_true c23
              have c23b1 : decide (0 ≤ (rd l1 x11_3)) = true := decide_eq_true c23
              clear c23
              by_cases c24 : (rd l1 x11_3) ≤ (a0.size : Int)
              ·
               rw [if_pos c24] at H
               have c24b0 := eq_true c24
               have c24b1 : decide ((rd l1 x11_3) ≤ (a0.size : Int)) = true := decide_eq_true c24
               clear c24
               by_cases c25 : x10_3.size + (a0.extract ((rd l1 x11_3) : Int).toNat a0.size).size ≤ 9223372036854775807
               ·
                rw [if_pos c25] at H
                have c25b0 := eq_true c25
                have c25b1 : decide (x10_3.size + (a0.extract ((rd l1 x11_3) : Int).toNat a0.size).size ≤ 9223372036854775807) = true := decide_eq_true c25
                try have c25b2 : (9223372036854775807 < x10_3.size + (a0.extract ((rd l1 x11_3) : Int).toNat a0.size).size) = False := eq_false (Nat.not_lt.2 c25)
                have H' := Aside0.mk H
                clear H
                have p583 : 0 ≤ (x11_3 : Int) := of_decide_eq_true (by first | (with_reducible assumption) | assumption)
                have q583 : x11_3 < (l1.length : Int) := of_decide_eq_true (by first | (with_reducible assumption) | assumption)
                obtain ⟨ad583, e583, hx583_0⟩ := Kd.at_int HR1.out x11_3 p583 q583
                cases e583
                replace hx583_0 := (HB.out.cell (World.block_lt_of_cell? w _ hx583_0)).trans hx583_0
                replace p583 := eq_true p583
                replace q583 := eq_true q583
                have p584 : 0 ≤ (x11_3 : Int) := of_decide_eq_true (by first | (with_reducible assumption) | assumption)
                have q584 : x11_3 < (l1.length : Int) := of_decide_eq_true (by first | (with_reducible assumption) | assumption)
                obtain ⟨ad584, e584, hx584_0⟩ := Kd.at_int HR1.out x11_3 p584 q584
                obtain rfl : ad583 = ad584 := (by injection e584)
                replace hx584_0 := (HB.out.cell (World.block_lt_of_cell? w _ hx584_0)).trans hx584_0
                replace p584 := eq_true p584
                replace q584 := eq_true q584
                go_wp2
                repeat (go_quiet (fail); try go_wp2)
                go_roundg k3
                case measure => have := HK1.out; have := HK2.out; have := HK3.out; omega
                case rel => exact ⟨(x10_3 ++ (a0.extract ((rd l1 x11_3) : Int).toNat a0.size)), (wrap64 (x11_3 + 1)), qF, qF, H', ⟨by have := HK1.out; have := HK2.out; have := HK3.out; omega⟩, ⟨qB HB.out⟩⟩
               ·
                rw [if_neg c25] at H
                exact absurd H (by simp)
              ·
               rw [if_neg c24] at H
               exact absurd H (by simp)
             ·
              rw [if_neg c23] at H
              exact absurd H (by simp)
           ·
            rw [if_neg c21] at H
            exact absurd H (by simp)
          ·
           rw [if_neg c20] at H
           have c20b0 : decide (x11_3 < (l1.length : Int)) = false := decide_eq_false c20
           clear c20
           simp only [Option.some.injEq, Prod.mk.injEq] at H
           obtain ⟨rfl, rfl⟩ := H
           go_wp2
           repeat (go_quiet (fail); try go_wp2)
           go_ret2
           exact ⟨qE, qB HB.out⟩
 ·
  rw [if_neg c4] at H
  have c4b0 : (t578 == 0) = false := beq_eq_false_iff_ne.mpr c4
  have c4b1 : (t578 != 0) = true := bne_iff_ne.mpr c4
  simp only [Option.some.injEq, Prod.mk.injEq] at H
  obtain ⟨rfl, rfl⟩ := H
  go_enter Try.func23, Try.ntmps23
  go_wp2_with (first | ((with_reducible refine gate_dst (N := 13) rfl ?_); refine Kd.R_lit Kd.string _ 9 ?hg (N := 13) ?hd (xs := ([a0] : List ByteArray)) (inner := [.string a0]) (ok := fun _ => True) (okp := fun _ => True) ?hr ?hp (fun _ hk => hk) trivial (Below.refl _ _) (Nat.le_refl _) (by simp) ?_; (case hd => rfl); (case hg => rfl); (case hr => first | (go_simp; done) | (go_simp; rfl)); (case hp => exact (Reps.one (show Kd.M Kd.string _ _ _ a0 [.string a0] from rfl) (Reps.none _ _))); intro v576 w26 ho27 hb hg_ hnew_; clear hg_ hnew_; (first | rw [← Ny575.out] at ho27 | (simp only [Int.reduceToNat] at ho27; rw [← Ny575.out] at ho27)); have n0_ := Aside0.mk (Kd.R_lower ho27 (below_size (qB HB.out))); have n1_ := Aside0.mk (below_step (qB HB.out) hb); clear HB; have HO577 := n0_; have HB := n1_; clear n0_ n1_; clear hb ho27; obtain ⟨Ao28, co28, eo28⟩ := Kd.R_slice HO577.out; subst eo28) | (go_at_call 51; (with_reducible refine (spec_l09Code.calls k (⟨#[]⟩ : ByteArray) _ _ y575 t578 _ ?side1 ?side2 A3.out).mono ?_); (case side1 => exact qC (Kd.R_reads' HO577.out).2.2); (case side2 => exact (Kd.R_reads' HO577.out).2.1); rintro e w' ⟨rfl, ⟨nd, rfl⟩⟩; (try first | exact ⟨rfl, _, World.drewN_drewN _ _ _⟩ | exact ⟨rfl, _, Eq.trans (World.drewN_drewN _ _ _) (congrArg (World.drewN _) (Nat.add_assoc _ _ _))⟩)))
  repeat (go_quiet (first | ((with_reducible refine gate_dst (N := 13) rfl ?_); refine Kd.R_lit Kd.string _ 9 ?hg (N := 13) ?hd (xs := ([a0] : List ByteArray)) (inner := [.string a0]) (ok := fun _ => True) (okp := fun _ => True) ?hr ?hp (fun _ hk => hk) trivial (Below.refl _ _) (Nat.le_refl _) (by simp) ?_; (case hd => rfl); (case hg => rfl); (case hr => first | (go_simp; done) | (go_simp; rfl)); (case hp => exact (Reps.one (show Kd.M Kd.string _ _ _ a0 [.string a0] from rfl) (Reps.none _ _))); intro v576 w26 ho27 hb hg_ hnew_; clear hg_ hnew_; (first | rw [← Ny575.out] at ho27 | (simp only [Int.reduceToNat] at ho27; rw [← Ny575.out] at ho27)); have n0_ := Aside0.mk (Kd.R_lower ho27 (below_size (qB HB.out))); have n1_ := Aside0.mk (below_step (qB HB.out) hb); clear HB; have HO577 := n0_; have HB := n1_; clear n0_ n1_; clear hb ho27; obtain ⟨Ao28, co28, eo28⟩ := Kd.R_slice HO577.out; subst eo28) | (go_at_call 51; (with_reducible refine (spec_l09Code.calls k (⟨#[]⟩ : ByteArray) _ _ y575 t578 _ ?side1 ?side2 A3.out).mono ?_); (case side1 => exact qC (Kd.R_reads' HO577.out).2.2); (case side2 => exact (Kd.R_reads' HO577.out).2.1); rintro e w' ⟨rfl, ⟨nd, rfl⟩⟩; (try first | exact ⟨rfl, _, World.drewN_drewN _ _ _⟩ | exact ⟨rfl, _, Eq.trans (World.drewN_drewN _ _ _) (congrArg (World.drewN _) (Nat.add_assoc _ _ _))⟩))); try go_wp2_with (first | ((with_reducible refine gate_dst (N := 13) rfl ?_); refine Kd.R_lit Kd.string _ 9 ?hg (N := 13) ?hd (xs := ([a0] : List ByteArray)) (inner := [.string a0]) (ok := fun _ => True) (okp := fun _ => True) ?hr ?hp (fun _ hk => hk) trivial (Below.refl _ _) (Nat.le_refl _) (by simp) ?_; (case hd => rfl); (case hg => rfl); (case hr => first | (go_simp; done) | (go_simp; rfl)); (case hp => exact (Reps.one (show Kd.M Kd.string _ _ _ a0 [.string a0] from rfl) (Reps.none _ _))); intro v576 w26 ho27 hb hg_ hnew_; clear hg_ hnew_; (first | rw [← Ny575.out] at ho27 | (simp only [Int.reduceToNat] at ho27; rw [← Ny575.out] at ho27)); have n0_ := Aside0.mk (Kd.R_lower ho27 (below_size (qB HB.out))); have n1_ := Aside0.mk (below_step (qB HB.out) hb); clear HB; have HO577 := n0_; have HB := n1_; clear n0_ n1_; clear hb ho27; obtain ⟨Ao28, co28, eo28⟩ := Kd.R_slice HO577.out; subst eo28) | (go_at_call 51; (with_reducible refine (spec_l09Code.calls k (⟨#[]⟩ : ByteArray) _ _ y575 t578 _ ?side1 ?side2 A3.out).mono ?_); (case side1 => exact qC (Kd.R_reads' HO577.out).2.2); (case side2 => exact (Kd.R_reads' HO577.out).2.1); rintro e w' ⟨rfl, ⟨nd, rfl⟩⟩; (try first | exact ⟨rfl, _, World.drewN_drewN _ _ _⟩ | exact ⟨rfl, _, Eq.trans (World.drewN_drewN _ _ _) (congrArg (World.drewN _) (Nat.add_assoc _ _ _))⟩))))
  go_ret2
  exact ⟨qE, qB HB.out⟩

end Go.Proofs.Ytoadancbpgignaa.PF

namespace Go.Proofs.Ytoadancbpgignaa.PF
open Go.RowKit Go.Proofs.YtoadancbpgignaaW.PrintWords Go.Proofs.YtoadancbpgignaaW.PrintLast Go.Proofs.YtoadancbpgignaaW.PrintMore
attribute [local go_sem] max2_int min2_int max_two min_two max_three min_three max_four min_four   -- for this text's walks alone
set_option linter.unusedVariables false
set_option linter.unusedSimpArgs false

/-! ### spec_DrawIsCover: function 24 -/
def spec_DrawIsCover.f (k : Nat) (l0 : List Int) : Option (ByteArray × ByteArray) := (spec_l09With.f k l0).bind fun bt585 => (some (bt585.1, bt585.2))
theorem spec_DrawIsCover.mono : ∀ a0 k, LeO (spec_DrawIsCover.f k a0) (spec_DrawIsCover.f (k + 1) a0) := by
 intro a0 k
 unfold spec_DrawIsCover.f
 repeat' first
   | (with_reducible exact spec_l09With.mono _ _)
   | (with_reducible exact LeO.refl _)
   | (with_reducible exact LeO.none _)
   | (with_reducible refine LeO.ite ?_ ?_)
   | (with_reducible refine LeO.bind ?_ (fun _ => ?_))
set_option maxHeartbeats 8000000 in
set_option maxRecDepth 100000 in
theorem spec_DrawIsCover.calls (k : Nat) (A0 : Option Addr) (c0 : Nat) (l0 : List Int) (r1 : ByteArray) (r2 : ByteArray) (w : World) (hr0 : Kd.C (Kd.int .u8) w A0 l0.length l0) (hc0 : l0.length ≤ c0) (h : spec_DrawIsCover.f k l0 = some (r1, r2)) :
  Calls Try.prog 24 #[.slice A0 l0.length c0] w fun e w' => e = .returned (.tuple #[.string r1, .string r2]) ∧ Below w.heap.size w w' := by
 have HR0 := Aside0.mk hr0
 have HC0 := Aside0.mk hc0
 clear hr0 hc0
 have HB := Aside0.mk (Below.refl w.heap.size w)
 have H : ((spec_l09With.f k l0).bind fun bt585 => (some (bt585.1, bt585.2))) = some (r1, r2) := h
 clear h
 replace H := Option.bind_eq_some_iff.mp H
 obtain ⟨⟨t585, t586⟩, A20, H⟩ := H
 replace H : (some (t585, t586)) = some (r1, r2) := H
 have A2 := Aside0.mk A20
 clear A20
 simp only [Option.some.injEq, Prod.mk.injEq] at H
 obtain ⟨rfl, rfl⟩ := H
 go_enter Try.func24, Try.ntmps24
 go_wp2_with (first | ((with_reducible refine gate_callee (f := 53) rfl ?_); refine goesL_ (some 8) rfl rfl Try.func53 (by kernel_rfl) rfl #[.slice A0 l0.length c0] rfl qV ?_; (with_reducible refine (spec_l09With.calls k _ _ l0 t585 t586 _ ?side1 ?side2 A2.out).mono ?_); (case side1 => exact qC HR0.out); (case side2 => exact HC0.out); rintro e w3 ⟨rfl, hb⟩; refine ⟨_, rfl, ?_⟩; have n0_ := Aside0.mk (below_step (qB HB.out) hb); clear HB; have HB := n0_; clear n0_))
 go_ret2
 exact ⟨qE, qB HB.out⟩

end Go.Proofs.Ytoadancbpgignaa.PF

namespace Go.Proofs.Ytoadancbpgignaa.PF
open Go.RowKit Go.Proofs.YtoadancbpgignaaW.PrintWords Go.Proofs.YtoadancbpgignaaW.PrintLast Go.Proofs.YtoadancbpgignaaW.PrintMore
attribute [local go_sem] max2_int min2_int max_two min_two max_three min_three max_four min_four   -- for this text's walks alone
set_option linter.unusedVariables false
set_option linter.unusedSimpArgs false

/-! ### spec_IsCover: function 25 -/
def spec_IsCover.f (k : Nat) (a0 : ByteArray) (a1 : ByteArray) : Option (Bool × Int) := (spec_l09Code.f k a0 (([a1] : List ByteArray))).bind fun t590 => (if t590 = 0 then ((spec_l09Cover.f k a0 a1).bind fun t591 => (some (t591, 0))) else (some (false, t590)))
theorem spec_IsCover.mono : ∀ a0 a1 k, LeO (spec_IsCover.f k a0 a1) (spec_IsCover.f (k + 1) a0 a1) := by
 intro a0 a1 k
 unfold spec_IsCover.f
 repeat' first
   | (with_reducible exact spec_l09Code.mono _ _ _)
   | (with_reducible exact spec_l09Cover.mono _ _ _)
   | (with_reducible exact LeO.refl _)
   | (with_reducible exact LeO.none _)
   | (with_reducible refine LeO.ite ?_ ?_)
   | (with_reducible refine LeO.bind ?_ (fun _ => ?_))
set_option maxHeartbeats 8000000 in
set_option maxRecDepth 100000 in
theorem spec_IsCover.calls (k : Nat) (a0 : ByteArray) (a1 : ByteArray) (r1 : Bool) (r2 : Int) (w : World) (h : spec_IsCover.f k a0 a1 = some (r1, r2)) :
  Calls Try.prog 25 #[.string a0, .string a1] w fun e w' => e = .returned (.tuple #[.bool r1, .int .i64 r2]) ∧ Below w.heap.size w w' := by
 have HB := Aside0.mk (Below.refl w.heap.size w)
 have H : ((spec_l09Code.f k a0 (([a1] : List ByteArray))).bind fun t590 => (if t590 = 0 then ((spec_l09Cover.f k a0 a1).bind fun t591 => (some (t591, 0))) else (some (false, t590)))) = some (r1, r2) := h
 clear h
 obtain ⟨y587, hy587⟩ : ∃ y_ : List ByteArray, y_ = (([a1] : List ByteArray)) := ⟨_, rfl⟩
 replace H : ((spec_l09Code.f k a0 y587).bind fun t590 => (if t590 = 0 then ((spec_l09Cover.f k a0 a1).bind fun t591 => (some (t591, 0))) else (some (false, t590)))) = some (r1, r2) := by first | (rw [hy587]; with_reducible exact H) | (have H2_ := (Option.bind_some _ _).symm.trans H; rw [hy587]; with_reducible exact H2_) | (have H2_ := (Option.bind_some _ _).symm.trans H; with_reducible exact H2_) | with_reducible exact H | (rw [hy587]; exact H) | exact H
 have Ny587 := Aside0.mk hy587
 clear hy587
 replace H := Option.bind_eq_some_iff.mp H
 obtain ⟨t590, A30, H⟩ := H
 replace H : (if t590 = 0 then ((spec_l09Cover.f k a0 a1).bind fun t591 => (some (t591, 0))) else (some (false, t590))) = some (r1, r2) := H
 have A3 := Aside0.mk A30
 clear A30
 by_cases c4 : t590 = 0
 ·
  rw [if_pos c4] at H
  have c4b0 : (t590 == 0) = true := beq_iff_eq.mpr c4
  have c4b1 : (t590 != 0) = false := bne_eq_false_iff_eq.mpr c4
  clear c4
  replace H := Option.bind_eq_some_iff.mp H
  obtain ⟨t591, A50, H⟩ := H
  replace H : (some (t591, 0)) = some (r1, r2) := H
  have A5 := Aside0.mk A50
  clear A50
  simp only [Option.some.injEq, Prod.mk.injEq] at H
  obtain ⟨rfl, rfl⟩ := H
  go_enter Try.func25, Try.ntmps25
  go_wp2_with (first | ((with_reducible refine gate_dst (N := 9) rfl ?_); refine Kd.R_lit Kd.string _ 9 ?hg (N := 9) ?hd (xs := ([a1] : List ByteArray)) (inner := [.string a1]) (ok := fun _ => True) (okp := fun _ => True) ?hr ?hp (fun _ hk => hk) trivial (Below.refl _ _) (Nat.le_refl _) (by simp) ?_; (case hd => rfl); (case hg => rfl); (case hr => first | (go_simp; done) | (go_simp; rfl)); (case hp => exact (Reps.one (show Kd.M Kd.string _ _ _ a1 [.string a1] from rfl) (Reps.none _ _))); intro v588 w6 ho7 hb hg_ hnew_; clear hg_ hnew_; (first | rw [← Ny587.out] at ho7 | (simp only [Int.reduceToNat] at ho7; rw [← Ny587.out] at ho7)); have n0_ := Aside0.mk (Kd.R_lower ho7 (below_size (qB HB.out))); have n1_ := Aside0.mk (below_step (qB HB.out) hb); clear HB; have HO589 := n0_; have HB := n1_; clear n0_ n1_; clear hb ho7; obtain ⟨Ao8, co8, eo8⟩ := Kd.R_slice HO589.out; subst eo8) | ((with_reducible refine gate_callee (f := 51) rfl ?_); refine goesL_ (some 10) rfl rfl Try.func51 (by kernel_rfl) rfl #[.string a0, .slice Ao8 y587.length co8] rfl qV ?_; (with_reducible refine (spec_l09Code.calls k a0 _ _ y587 t590 _ ?side1 ?side2 A3.out).mono ?_); (case side1 => exact qC (Kd.R_reads' HO589.out).2.2); (case side2 => exact (Kd.R_reads' HO589.out).2.1); rintro e w' ⟨rfl, ⟨nd, rfl⟩⟩; refine ⟨_, rfl, ?_⟩) | ((with_reducible refine gate_callee (f := 54) rfl ?_); refine goesL_ (some 16) rfl rfl Try.func54 (by kernel_rfl) rfl #[.string a0, .string a1] rfl qV ?_; (with_reducible refine (spec_l09Cover.calls k a0 a1 t591 _ A5.out).mono ?_); rintro e w9 ⟨rfl, hb⟩; refine ⟨_, rfl, ?_⟩; have n0_ := Aside0.mk (Kd.R_below (qR HO589.out) hb); have n1_ := Aside0.mk (below_step (qB HB.out) hb); clear HO589; clear HB; have HO589 := n0_; have HB := n1_; clear n0_ n1_))
  go_ret2
  exact ⟨qE, qB HB.out⟩
 ·
  rw [if_neg c4] at H
  have c4b0 : (t590 == 0) = false := beq_eq_false_iff_ne.mpr c4
  have c4b1 : (t590 != 0) = true := bne_iff_ne.mpr c4
  simp only [Option.some.injEq, Prod.mk.injEq] at H
  obtain ⟨rfl, rfl⟩ := H
  go_enter Try.func25, Try.ntmps25
  go_wp2_with (first | ((with_reducible refine gate_dst (N := 9) rfl ?_); refine Kd.R_lit Kd.string _ 9 ?hg (N := 9) ?hd (xs := ([a1] : List ByteArray)) (inner := [.string a1]) (ok := fun _ => True) (okp := fun _ => True) ?hr ?hp (fun _ hk => hk) trivial (Below.refl _ _) (Nat.le_refl _) (by simp) ?_; (case hd => rfl); (case hg => rfl); (case hr => first | (go_simp; done) | (go_simp; rfl)); (case hp => exact (Reps.one (show Kd.M Kd.string _ _ _ a1 [.string a1] from rfl) (Reps.none _ _))); intro v588 w10 ho11 hb hg_ hnew_; clear hg_ hnew_; (first | rw [← Ny587.out] at ho11 | (simp only [Int.reduceToNat] at ho11; rw [← Ny587.out] at ho11)); have n0_ := Aside0.mk (Kd.R_lower ho11 (below_size (qB HB.out))); have n1_ := Aside0.mk (below_step (qB HB.out) hb); clear HB; have HO589 := n0_; have HB := n1_; clear n0_ n1_; clear hb ho11; obtain ⟨Ao12, co12, eo12⟩ := Kd.R_slice HO589.out; subst eo12) | ((with_reducible refine gate_callee (f := 51) rfl ?_); refine goesL_ (some 10) rfl rfl Try.func51 (by kernel_rfl) rfl #[.string a0, .slice Ao12 y587.length co12] rfl qV ?_; (with_reducible refine (spec_l09Code.calls k a0 _ _ y587 t590 _ ?side1 ?side2 A3.out).mono ?_); (case side1 => exact qC (Kd.R_reads' HO589.out).2.2); (case side2 => exact (Kd.R_reads' HO589.out).2.1); rintro e w' ⟨rfl, ⟨nd, rfl⟩⟩; refine ⟨_, rfl, ?_⟩))
  go_ret2
  exact ⟨qE, qB HB.out⟩

end Go.Proofs.Ytoadancbpgignaa.PF

namespace Go.Proofs.Ytoadancbpgignaa.PF
open Go.RowKit Go.Proofs.YtoadancbpgignaaW.PrintWords Go.Proofs.YtoadancbpgignaaW.PrintLast Go.Proofs.YtoadancbpgignaaW.PrintMore
attribute [local go_sem] max2_int min2_int max_two min_two max_three min_three max_four min_four   -- for this text's walks alone
set_option linter.unusedVariables false
set_option linter.unusedSimpArgs false

/-! ### spec_UncoveredPlaces: function 26 -/
def spec_UncoveredPlaces.l0 : Nat → List Bool → List Int → Int → Option (List Int × Int)
 | 0, _, _, _ => none
 | k + 1, x7, x8, x9 => if x9 < (x7.length : Int) then (if 0 ≤ x9 then (if rdOf false x7 x9 = true then (spec_UncoveredPlaces.l0 k x7 x8 (wrap64 (x9 + 1))) else (if x8.length < 17592186044416 then (spec_UncoveredPlaces.l0 k x7 (x8 ++ [x9]) (wrap64 (x9 + 1))) else (none))) else (none)) else (some (x8, 0))
def spec_UncoveredPlaces.f (k : Nat) (a0 : ByteArray) (a1 : ByteArray) : Option (List Int × Int) := (spec_l09Code.f k a0 (([a1] : List ByteArray))).bind fun t595 => (if t595 = 0 then ((spec_l09Places.f k a0 a1).bind fun t596 => (spec_UncoveredPlaces.l0 k t596 (([] : List Int)) 0)) else (some (([] : List Int), t595)))
theorem spec_UncoveredPlaces.mono_l : ∀ k, (∀ y0 y1 y2, LeO (spec_UncoveredPlaces.l0 k y0 y1 y2) (spec_UncoveredPlaces.l0 (k + 1) y0 y1 y2))
 | 0 => fun _ _ _ r h => by simp [spec_UncoveredPlaces.l0] at h
 | k + 1 => by
  have ih0 := spec_UncoveredPlaces.mono_l k
  ·
   intro y0 y1 y2
   unfold spec_UncoveredPlaces.l0
   repeat' first
   | (with_reducible exact ih0 _ _ _)
   | (with_reducible exact spec_l09Code.mono _ _ _)
   | (with_reducible exact spec_l09Places.mono _ _ _)
   | (with_reducible exact LeO.refl _)
   | (with_reducible exact LeO.none _)
   | (with_reducible refine LeO.ite ?_ ?_)
   | (with_reducible refine LeO.bind ?_ (fun _ => ?_))
theorem spec_UncoveredPlaces.mono : ∀ a0 a1 k, LeO (spec_UncoveredPlaces.f k a0 a1) (spec_UncoveredPlaces.f (k + 1) a0 a1) := by
 intro a0 a1 k
 have ih0 := spec_UncoveredPlaces.mono_l k
 unfold spec_UncoveredPlaces.f
 repeat' first
   | (with_reducible exact ih0 _ _ _)
   | (with_reducible exact spec_l09Code.mono _ _ _)
   | (with_reducible exact spec_l09Places.mono _ _ _)
   | (with_reducible exact LeO.refl _)
   | (with_reducible exact LeO.none _)
   | (with_reducible refine LeO.ite ?_ ?_)
   | (with_reducible refine LeO.bind ?_ (fun _ => ?_))
set_option maxHeartbeats 8000000 in
set_option maxRecDepth 100000 in
theorem spec_UncoveredPlaces.calls (k : Nat) (a0 : ByteArray) (a1 : ByteArray) (r1 : List Int) (r2 : Int) (w : World) (h : spec_UncoveredPlaces.f k a0 a1 = some (r1, r2)) :
  Calls Try.prog 26 #[.string a0, .string a1] w fun e w' => ∃ v0_ : Value, e = .returned (.tuple #[v0_, .int .i64 r2]) ∧ Kd.R (Kd.int .i64) 2 w' w.heap.size (fun _ => True) v0_ r1 ∧ Below w.heap.size w w' := by
 have HB := Aside0.mk (Below.refl w.heap.size w)
 have H : ((spec_l09Code.f k a0 (([a1] : List ByteArray))).bind fun t595 => (if t595 = 0 then ((spec_l09Places.f k a0 a1).bind fun t596 => (spec_UncoveredPlaces.l0 k t596 (([] : List Int)) 0)) else (some (([] : List Int), t595)))) = some (r1, r2) := h
 clear h
 obtain ⟨y592, hy592⟩ : ∃ y_ : List ByteArray, y_ = (([a1] : List ByteArray)) := ⟨_, rfl⟩
 replace H : ((spec_l09Code.f k a0 y592).bind fun t595 => (if t595 = 0 then ((spec_l09Places.f k a0 a1).bind fun t596 => (spec_UncoveredPlaces.l0 k t596 (([] : List Int)) 0)) else (some (([] : List Int), t595)))) = some (r1, r2) := by first | (rw [hy592]; with_reducible exact H) | (have H2_ := (Option.bind_some _ _).symm.trans H; rw [hy592]; with_reducible exact H2_) | (have H2_ := (Option.bind_some _ _).symm.trans H; with_reducible exact H2_) | with_reducible exact H | (rw [hy592]; exact H) | exact H
 have Ny592 := Aside0.mk hy592
 clear hy592
 replace H := Option.bind_eq_some_iff.mp H
 obtain ⟨t595, A30, H⟩ := H
 replace H : (if t595 = 0 then ((spec_l09Places.f k a0 a1).bind fun t596 => (spec_UncoveredPlaces.l0 k t596 (([] : List Int)) 0)) else (some (([] : List Int), t595))) = some (r1, r2) := H
 have A3 := Aside0.mk A30
 clear A30
 by_cases c4 : t595 = 0
 ·
  rw [if_pos c4] at H
  have c4b0 : (t595 == 0) = true := beq_iff_eq.mpr c4
  have c4b1 : (t595 != 0) = false := bne_eq_false_iff_eq.mpr c4
  clear c4
  replace H := Option.bind_eq_some_iff.mp H
  obtain ⟨t596, A50, H⟩ := H
  replace H : (spec_UncoveredPlaces.l0 k t596 (([] : List Int)) 0) = some (r1, r2) := H
  have A5 := Aside0.mk A50
  clear A50
  obtain ⟨y599, hy599⟩ : ∃ y_ : List Int, y_ = (([] : List Int)) := ⟨_, rfl⟩
  replace H : (spec_UncoveredPlaces.l0 k t596 y599 0) = some (r1, r2) := by first | (rw [hy599]; with_reducible exact H) | (have H2_ := (Option.bind_some _ _).symm.trans H; rw [hy599]; with_reducible exact H2_) | (have H2_ := (Option.bind_some _ _).symm.trans H; with_reducible exact H2_) | with_reducible exact H | (rw [hy599]; exact H) | exact H
  have Ny599 := Aside0.mk hy599
  clear hy599
  have H' := Aside0.mk H
  clear H
  go_enter Try.func26, Try.ntmps26
  go_wp2_with (first | ((with_reducible refine gate_dst (N := 12) rfl ?_); refine Kd.R_lit Kd.string _ 9 ?hg (N := 12) ?hd (xs := ([a1] : List ByteArray)) (inner := [.string a1]) (ok := fun _ => True) (okp := fun _ => True) ?hr ?hp (fun _ hk => hk) trivial (Below.refl _ _) (Nat.le_refl _) (by simp) ?_; (case hd => rfl); (case hg => rfl); (case hr => first | (go_simp; done) | (go_simp; rfl)); (case hp => exact (Reps.one (show Kd.M Kd.string _ _ _ a1 [.string a1] from rfl) (Reps.none _ _))); intro v593 w6 ho7 hb hg_ hnew_; clear hg_ hnew_; (first | rw [← Ny592.out] at ho7 | (simp only [Int.reduceToNat] at ho7; rw [← Ny592.out] at ho7)); have n0_ := Aside0.mk (Kd.R_lower ho7 (below_size (qB HB.out))); have n1_ := Aside0.mk (below_step (qB HB.out) hb); clear HB; have HO594 := n0_; have HB := n1_; clear n0_ n1_; clear hb ho7; obtain ⟨Ao8, co8, eo8⟩ := Kd.R_slice HO594.out; subst eo8) | ((with_reducible refine gate_callee (f := 51) rfl ?_); refine goesL_ (some 13) rfl rfl Try.func51 (by kernel_rfl) rfl #[.string a0, .slice Ao8 y592.length co8] rfl qV ?_; (with_reducible refine (spec_l09Code.calls k a0 _ _ y592 t595 _ ?side1 ?side2 A3.out).mono ?_); (case side1 => exact qC (Kd.R_reads' HO594.out).2.2); (case side2 => exact (Kd.R_reads' HO594.out).2.1); rintro e w' ⟨rfl, ⟨nd, rfl⟩⟩; refine ⟨_, rfl, ?_⟩) | ((with_reducible refine gate_callee (f := 55) rfl ?_); refine goesL_ (some 19) rfl rfl Try.func55 (by kernel_rfl) rfl #[.string a0, .string a1] rfl qV ?_; (with_reducible refine (spec_l09Places.calls k a0 a1 t596 _ A5.out).mono ?_); rintro e w9 ⟨v597, rfl, ho0, hb⟩; refine ⟨_, rfl, ?_⟩; have n0_ := Aside0.mk (Kd.R_below (qR HO594.out) hb); have n1_ := Aside0.mk (Kd.R_lower ho0 (below_size (qB HB.out))); have n2_ := Aside0.mk (below_step (qB HB.out) hb); clear HO594; clear HB; have HO594 := n0_; have HO598 := n1_; have HB := n2_; clear n0_ n1_ n2_) | ((with_reducible refine gate_dst (N := 20) rfl ?_); refine Kd.R_lit (Kd.int .i64) _ 2 ?hg (N := 20) ?hd (xs := ([] : List Int)) (inner := []) (ok := fun _ => True) (okp := fun _ => True) ?hr ?hp (fun _ hk => hk) trivial (Below.refl _ _) (Nat.le_refl _) (by simp) ?_; (case hd => rfl); (case hg => rfl); (case hr => first | (go_simp; done) | (go_simp; rfl)); (case hp => exact (Reps.none _ _)); intro v600 w10 ho11 hb hg_ hnew_; clear hg_ hnew_; (first | rw [← Ny599.out] at ho11 | (simp only [Int.reduceToNat] at ho11; rw [← Ny599.out] at ho11)); have n0_ := Aside0.mk (Kd.R_below (qR HO594.out) hb); have n1_ := Aside0.mk (Kd.R_below (qR HO598.out) hb); have n2_ := Aside0.mk (Kd.R_lower ho11 (below_size (qB HB.out))); have n3_ := Aside0.mk (below_step (qB HB.out) hb); clear HO594; clear HO598; clear HB; have HO594 := n0_; have HO598 := n1_; have HO601 := n2_; have HB := n3_; clear n0_ n1_ n2_ n3_; clear hb ho11))
  go_loopg [8, 9] k (fun kq v8 v9 w' => ∃ (x8_1 : List Int) (x9_1 : Int), v9 = .int .i64 x9_1 ∧ Aside0 (spec_UncoveredPlaces.l0 kq t596 x8_1 x9_1 = some (r1, r2)) ∧ Aside0 (kq ≤ k) ∧ Aside0 (Kd.R Kd.bool 4 w' w.heap.size (fun _ => True) v597 t596) ∧ Aside0 (Kd.R (Kd.int .i64) 2 w' w.heap.size (fun _ => True) v8 x8_1) ∧ Aside0 (Below w.heap.size w w'))
  case atStart => exact ⟨(y599), (0), qF, H', ⟨Nat.le_refl _⟩, ⟨qR HO598.out⟩, ⟨qR HO601.out⟩, ⟨qB HB.out⟩⟩
  case round =>
   clear H'
   obtain ⟨x8_1, x9_1, rfl, HA, HK1, HO_7, HO_8, HB⟩ := hrel
   cases gk with
   | zero => exact absurd HA.out (by simp [spec_UncoveredPlaces.l0])
   | succ k1 =>
    have H := HA.out
    clear HA
    simp only [spec_UncoveredPlaces.l0] at H
    by_cases c12 : x9_1 < (t596.length : Int)
    ·
     rw [if_pos c12] at H
     have c12b0 : decide (x9_1 < (t596.length : Int)) = true := decide_eq_true c12
     clear c12
     by_cases c13 : 0 ≤ x9_1
     ·
      rw [if_pos c13] at H
      have c13b0 : decide (0 ≤ x9_1) = true := decide_eq_true c13
      clear c13
      obtain ⟨bq14, hbq14⟩ : ∃ b_ : Bool, b_ = (rdOf false t596 x9_1) := ⟨_, rfl⟩
      replace H : (if bq14 = true then (spec_UncoveredPlaces.l0 k1 t596 x8_1 (wrap64 (x9_1 + 1))) else (if x8_1.length < 17592186044416 then (spec_UncoveredPlaces.l0 k1 t596 (x8_1 ++ [x9_1]) (wrap64 (x9_1 + 1))) else (none))) = some (r1, r2) := by rw [← hbq14] at H; exact H
      have Nbq14 := Aside0.mk hbq14
      clear hbq14
      by_cases c15 : bq14 = true
      ·
       subst c15
       have H1 : (spec_UncoveredPlaces.l0 k1 t596 x8_1 (wrap64 (x9_1 + 1))) = some (r1, r2) := by rw [if_pos rfl] at H; exact H
       clear H
       have H := H1
       clear H1
       have H' := Aside0.mk H
       clear H
       obtain ⟨Ao16, co16, eo16⟩ := Kd.R_slice HO_7.out
       subst eo16
       have p602 : 0 ≤ (x9_1 : Int) := of_decide_eq_true (by first | (with_reducible assumption) | assumption)
       have q602 : x9_1 < (t596.length : Int) := of_decide_eq_true (by first | (with_reducible assumption) | assumption)
       obtain ⟨ad602, e602, hx602_0⟩ := Kd.at_bool (Kd.R_reads' HO_7.out).2.2 x9_1 p602 q602
       (try rw [← Nbq14.out] at hx602_0)
       cases e602
       replace p602 := eq_true p602
       replace q602 := eq_true q602
       go_wp2
       go_roundg k1
       case measure => have := HK1.out; omega
       case rel => exact ⟨(x8_1), (wrap64 (x9_1 + 1)), qF, H', ⟨by have := HK1.out; omega⟩, ⟨qR HO_7.out⟩, ⟨qR HO_8.out⟩, ⟨qB HB.out⟩⟩
      ·
       replace c15 := Bool.eq_false_iff.mpr c15
       subst c15
       have H1 : (if x8_1.length < 17592186044416 then (spec_UncoveredPlaces.l0 k1 t596 (x8_1 ++ [x9_1]) (wrap64 (x9_1 + 1))) else (none)) = some (r1, r2) := by rw [if_neg (show ¬ (false = true) by decide)] at H; exact H
       clear H
       have H := H1
       clear H1
       by_cases c17 : x8_1.length < 17592186044416
       ·
        rw [if_pos c17] at H
        have LMc17 := Aside0.mk c17
        clear c17
        obtain ⟨y603, hy603⟩ : ∃ y_ : List Int, y_ = (x8_1 ++ [x9_1]) := ⟨_, rfl⟩
        replace H : (spec_UncoveredPlaces.l0 k1 t596 y603 (wrap64 (x9_1 + 1))) = some (r1, r2) := by first | (rw [hy603]; with_reducible exact H) | (have H2_ := (Option.bind_some _ _).symm.trans H; rw [hy603]; with_reducible exact H2_) | (have H2_ := (Option.bind_some _ _).symm.trans H; with_reducible exact H2_) | with_reducible exact H | (rw [hy603]; exact H) | exact H
        have Ny603 := Aside0.mk hy603
        clear hy603
        have H' := Aside0.mk H
        clear H
        obtain ⟨Ao18, co18, eo18⟩ := Kd.R_slice HO_7.out
        subst eo18
        have p602 : 0 ≤ (x9_1 : Int) := of_decide_eq_true (by first | (with_reducible assumption) | assumption)
        have q602 : x9_1 < (t596.length : Int) := of_decide_eq_true (by first | (with_reducible assumption) | assumption)
        obtain ⟨ad602, e602, hx602_0⟩ := Kd.at_bool (Kd.R_reads' HO_7.out).2.2 x9_1 p602 q602
        (try rw [← Nbq14.out] at hx602_0)
        cases e602
        replace p602 := eq_true p602
        replace q602 := eq_true q602
        go_wp2_with (first | ((with_reducible refine gate_builtin (b := .append) (xs := #[.tmp 32, .tmp 34]) rfl ?_); at_builtin; refine Kd.R_append (Kd.int .i64) (w0 := w) w.heap.size rfl (.tmp 32) (.tmp 34) 30 2 (.int .i64 0) 8 rfl Try.underlying30 info2 rfl (by decide) (by omega) u8 x8_1 x9_1 [.int .i64 x9_1] (fun _ => True) (fun _ => False) rfl rfl ?aP (fun _ hk => hk.elim) ?aF ?aO ?aB ?aS ?aL ?_; (case aP => exact rfl); (case aB => exact (qB HB.out)); (case aF => exact (fun _ _ => trivial)); (case aO => exact (qR HO_8.out)); (case aS => exact (below_size (qB HB.out))); (case aL => have := LMc17.out; omega); intro v604 w19 ho hb hg hat; rw [← Ny603.out] at ho; have n0_ := Aside0.mk (Kd.R_over' (qR HO_7.out) (Kd.R_typed (qR HO_8.out)) (by decide) hg); have n1_ := Aside0.mk (hb); have n2_ := Aside0.mk (ho); clear HO_7; clear HB; clear HO_8; have HO_7 := n0_; have HB := n1_; have HO605 := n2_; clear n0_ n1_ n2_; clear ho hb hg hat))
        go_roundg k1
        case measure => have := HK1.out; omega
        case rel => exact ⟨(y603), (wrap64 (x9_1 + 1)), qF, H', ⟨by have := HK1.out; omega⟩, ⟨qR HO_7.out⟩, ⟨qR HO605.out⟩, ⟨qB HB.out⟩⟩
       ·
        rw [if_neg c17] at H
        exact absurd H (by simp)
     ·
      rw [if_neg c13] at H
      exact absurd H (by simp)
    ·
     rw [if_neg c12] at H
     have c12b0 : decide (x9_1 < (t596.length : Int)) = false := decide_eq_false c12
     clear c12
     simp only [Option.some.injEq, Prod.mk.injEq] at H
     obtain ⟨rfl, rfl⟩ := H
     obtain ⟨Ao20, co20, eo20⟩ := Kd.R_slice HO_7.out
     subst eo20
     go_wp2
     go_ret2
     exact ⟨_, qE, qR HO_8.out, qB HB.out⟩
 ·
  rw [if_neg c4] at H
  have c4b0 : (t595 == 0) = false := beq_eq_false_iff_ne.mpr c4
  have c4b1 : (t595 != 0) = true := bne_iff_ne.mpr c4
  simp only [Option.some.injEq, Prod.mk.injEq] at H
  obtain ⟨rfl, rfl⟩ := H
  go_enter Try.func26, Try.ntmps26
  go_wp2_with (first | ((with_reducible refine gate_dst (N := 12) rfl ?_); refine Kd.R_lit Kd.string _ 9 ?hg (N := 12) ?hd (xs := ([a1] : List ByteArray)) (inner := [.string a1]) (ok := fun _ => True) (okp := fun _ => True) ?hr ?hp (fun _ hk => hk) trivial (Below.refl _ _) (Nat.le_refl _) (by simp) ?_; (case hd => rfl); (case hg => rfl); (case hr => first | (go_simp; done) | (go_simp; rfl)); (case hp => exact (Reps.one (show Kd.M Kd.string _ _ _ a1 [.string a1] from rfl) (Reps.none _ _))); intro v593 w21 ho22 hb hg_ hnew_; clear hg_ hnew_; (first | rw [← Ny592.out] at ho22 | (simp only [Int.reduceToNat] at ho22; rw [← Ny592.out] at ho22)); have n0_ := Aside0.mk (Kd.R_lower ho22 (below_size (qB HB.out))); have n1_ := Aside0.mk (below_step (qB HB.out) hb); clear HB; have HO594 := n0_; have HB := n1_; clear n0_ n1_; clear hb ho22; obtain ⟨Ao23, co23, eo23⟩ := Kd.R_slice HO594.out; subst eo23) | ((with_reducible refine gate_callee (f := 51) rfl ?_); refine goesL_ (some 13) rfl rfl Try.func51 (by kernel_rfl) rfl #[.string a0, .slice Ao23 y592.length co23] rfl qV ?_; (with_reducible refine (spec_l09Code.calls k a0 _ _ y592 t595 _ ?side1 ?side2 A3.out).mono ?_); (case side1 => exact qC (Kd.R_reads' HO594.out).2.2); (case side2 => exact (Kd.R_reads' HO594.out).2.1); rintro e w' ⟨rfl, ⟨nd, rfl⟩⟩; refine ⟨_, rfl, ?_⟩))
  go_ret2
  exact ⟨_, qE, by first | exact Kd.R_nil _ _ _ _ _ | exact Kd.N_nil _ _ _ _ _ | exact Kd.V_nil _ _ _ _ _ | exact Kd.Q_nil _ _ _ _ _ | exact Kd.S_nil _ _ _ _ _, qB HB.out⟩

end Go.Proofs.Ytoadancbpgignaa.PF
