-- an own text, written by a program of this place (wip/tools)
import Derived.Test.YtfehmbifcoajeaaGreatPFx0
import Derived.Test.YtfehmbifcoajeaaGreatPFx2
import Derived.Test.YtfehmbifcoajeaaGreatPFx1
namespace Go.Proofs.YtfehmbifcoajeaaGreat.PF
open Go.RowKit Go.Proofs.YtfehmbifcoajeaaGreatW.PrintWords Go.Proofs.YtfehmbifcoajeaaGreatW.PrintLast Go.Proofs.YtfehmbifcoajeaaGreatW.PrintMore
attribute [local go_sem] max2_int min2_int max_two min_two max_three min_three max_four min_four   -- for this text's walks alone
set_option linter.unusedVariables false
set_option linter.unusedSimpArgs false

/-! ### spec_LongestAntipower: function 21 -/
mutual
def spec_LongestAntipower.j0 : Nat → ByteArray → Int → Int → Bool → Option (Int × Int × Int)
 | 0, _, _, _, _ => none
 | k + 1, x0, x1, x7, x20 => if x20 = true then (spec_LongestAntipower.j1 k x0 x1 2) else (spec_LongestAntipower.j1 k x0 x1 x7)
def spec_LongestAntipower.j1 : Nat → ByteArray → Int → Int → Option (Int × Int × Int)
 | 0, _, _, _ => none
 | k + 1, x0, x1, x7 => if x7 = 0 then (spec_LongestAntipower.l0 k x0 x1 0 0 0) else (some (0, 0, x7))
def spec_LongestAntipower.l0 : Nat → ByteArray → Int → Int → Int → Int → Option (Int × Int × Int)
 | 0, _, _, _, _, _ => none
 | k + 1, x0, x1, x8, x9, x10 => if (wrap64 (x10 + x1)) ≤ (x0.size : Int) then ((spec_l05Anti.f k x0 x10 x1).bind fun t525 => (if t525 > x9 then (spec_LongestAntipower.l0 k x0 x1 x10 t525 (wrap64 (x10 + 1))) else (spec_LongestAntipower.l0 k x0 x1 x8 x9 (wrap64 (x10 + 1))))) else (if x9 = 0 then (some (0, 0, 4)) else (some (x8, x9, 0)))
end
def spec_LongestAntipower.f (k : Nat) (a0 : ByteArray) (a1 : Int) : Option (Int × Int × Int) := (spec_l05Code.f k a0 a1).bind fun t524 => (if t524 = 0 then (spec_LongestAntipower.j0 k a0 a1 t524 (decide (a1 < 1))) else (spec_LongestAntipower.j0 k a0 a1 t524 false))
theorem spec_LongestAntipower.mono_l : ∀ k, (∀ y0 y1 y2 y3, LeO (spec_LongestAntipower.j0 k y0 y1 y2 y3) (spec_LongestAntipower.j0 (k + 1) y0 y1 y2 y3)) ∧ (∀ y0 y1 y2, LeO (spec_LongestAntipower.j1 k y0 y1 y2) (spec_LongestAntipower.j1 (k + 1) y0 y1 y2)) ∧ (∀ y0 y1 y2 y3 y4, LeO (spec_LongestAntipower.l0 k y0 y1 y2 y3 y4) (spec_LongestAntipower.l0 (k + 1) y0 y1 y2 y3 y4))
 | 0 => ⟨fun _ _ _ _ r h => by simp [spec_LongestAntipower.j0] at h, fun _ _ _ r h => by simp [spec_LongestAntipower.j1] at h, fun _ _ _ _ _ r h => by simp [spec_LongestAntipower.l0] at h⟩
 | k + 1 => by
  obtain ⟨ih0, ih1, ih2⟩ := spec_LongestAntipower.mono_l k
  refine ⟨?_, ?_, ?_⟩
  all_goals intros
  all_goals first | unfold spec_LongestAntipower.j0 | unfold spec_LongestAntipower.j1 | unfold spec_LongestAntipower.l0
  all_goals with_reducible repeat' first
  | exact ih0 _ _ _ _
  | exact ih1 _ _ _
  | exact ih2 _ _ _ _ _
  | exact spec_l05Anti.mono _ _ _ _
  | exact spec_l05Code.mono _ _ _
  | exact LeO.refl _
  | exact LeO.none _
  | refine LeO.ite ?_ ?_
  | refine LeO.bind ?_ (fun _ => ?_)
theorem spec_LongestAntipower.mono : ∀ a0 a1 k, LeO (spec_LongestAntipower.f k a0 a1) (spec_LongestAntipower.f (k + 1) a0 a1) := by
 intro a0 a1 k
 obtain ⟨ih0, ih1, ih2⟩ := spec_LongestAntipower.mono_l k
 unfold spec_LongestAntipower.f
 with_reducible repeat' first
   | exact ih0 _ _ _ _
   | exact ih1 _ _ _
   | exact ih2 _ _ _ _ _
   | exact spec_l05Anti.mono _ _ _ _
   | exact spec_l05Code.mono _ _ _
   | exact LeO.refl _
   | exact LeO.none _
   | refine LeO.ite ?_ ?_
   | refine LeO.bind ?_ (fun _ => ?_)
set_option maxHeartbeats 8000000 in
set_option maxRecDepth 100000 in
theorem spec_LongestAntipower.calls (k : Nat) (a0 : ByteArray) (a1 : Int) (r1 : Int) (r2 : Int) (r3 : Int) (w : World) (h : spec_LongestAntipower.f k a0 a1 = some (r1, r2, r3)) :
  Calls Tryz.prog 21 #[.string a0, .int .i64 a1] w fun e w' => e = .returned (.tuple #[.int .i64 r1, .int .i64 r2, .int .i64 r3]) ∧ Below w.heap.size w w' := by
 have HB := Aside0.mk (Below.refl w.heap.size w)
 have H : ((spec_l05Code.f k a0 a1).bind fun t524 => (if t524 = 0 then (spec_LongestAntipower.j0 k a0 a1 t524 (decide (a1 < 1))) else (spec_LongestAntipower.j0 k a0 a1 t524 false))) = some (r1, r2, r3) := h
 clear h
 replace H := qN H
 obtain ⟨t524, A3, H⟩ := H
 try dsimp only at H
 have HC4 := Aside0.mk H
 clear H
 go_enter Tryz.func21, Tryz.ntmps21
 go_upto_region 2 with (first | ((with_reducible refine gate_callee (f := 43) rfl ?_); refine goesL_ (some 14) rfl rfl Tryz.func43 (by kernel_rfl) rfl #[.string a0, .int .i64 a1] rfl qV ?_; (with_reducible refine (spec_l05Code.calls k a0 a1 t524 _ A3.out).mono ?_); rintro e w' ⟨rfl, ⟨nd, rfl⟩⟩; refine ⟨_, rfl, ?_⟩))
 (try simp only [Act.put, List.setIfInBounds_toArray, List.set_cons_zero, List.set_cons_succ])
 go_cut [20] (fun v20 wc => ∃ (kq : Nat) (x20_3 : Bool), v20 = .bool x20_3 ∧ Aside0 (spec_LongestAntipower.j0 kq a0 a1 t524 x20_3 = some (r1, r2, r3)) ∧ Aside0 (kq ≤ k) ∧ Aside0 (Below w.heap.size w wc))
 case first =>
  have H := HC4.out
  clear HC4
  by_cases c5 : t524 = 0
  ·
   rw [if_pos c5] at H
   obtain ⟨c5b0, c5b1⟩ := zT c5
   clear c5
   (first | rw [c5b0] | (simp only [i64_w, i32_w]; rw [c5b0]) | skip)
   have H' := Aside0.mk H
   clear H
   go_wp2
   go_meet
   case rel => exact ⟨_, (decide (a1 < 1)), qF, H', ⟨by first | omega | exact Nat.le_refl _⟩, ⟨qB HB.out⟩⟩
  rw [if_neg c5] at H
  obtain ⟨c5b0, c5b1⟩ := zF c5
  (first | rw [c5b0] | (simp only [i64_w, i32_w]; rw [c5b0]) | skip)
  have H' := Aside0.mk H
  clear H
  go_wp2
  go_meet
  case rel => exact ⟨_, (false), qF, H', ⟨by first | omega | exact Nat.le_refl _⟩, ⟨qB HB.out⟩⟩
 case rest =>
  clear HC4
  obtain ⟨kq, x20_3, rfl, HA, HJ3, HB⟩ := hcut
  cases kq with
  | zero => exact absurd HA.out (by simp [spec_LongestAntipower.j0])
  | succ kj3 =>
   have H := HA.out
   clear HA
   simp only [spec_LongestAntipower.j0] at H
   have HC6 := Aside0.mk H
   clear H
   go_upto_if 20 with (fail)
   go_cut [7] (fun v7 wc => ∃ (kq : Nat) (x7_5 : Int), v7 = .int .i64 x7_5 ∧ Aside0 (spec_LongestAntipower.j1 kq a0 a1 x7_5 = some (r1, r2, r3)) ∧ Aside0 (kq ≤ kj3) ∧ Aside0 (Below w.heap.size w wc))
   case first =>
    have H := HC6.out
    clear HC6
    by_cases c7 : x20_3 = true
    ·
     subst c7
     rw [if_pos rfl] at H
     have H' := Aside0.mk H
     clear H
     go_wp2
     go_meet
     case rel => exact ⟨_, (2), qF, H', ⟨by have := HJ3.out; first | omega | exact Nat.le_refl _⟩, ⟨qB HB.out⟩⟩
    replace c7 := Bool.eq_false_iff.mpr c7
    subst c7
    rw [if_neg (show ¬ (false = true) by decide)] at H
    have H' := Aside0.mk H
    clear H
    go_wp2
    go_meet
    case rel => exact ⟨_, (t524), qF, H', ⟨by have := HJ3.out; first | omega | exact Nat.le_refl _⟩, ⟨qB HB.out⟩⟩
   case rest =>
    clear HC6
    obtain ⟨kq, x7_5, rfl, HA, HJ5, HB⟩ := hcut
    cases kq with
    | zero => exact absurd HA.out (by simp [spec_LongestAntipower.j1])
    | succ kj5 =>
     have H := HA.out
     clear HA
     simp only [spec_LongestAntipower.j1] at H
     by_cases c8 : x7_5 = 0
     rotate_left
     ·
      rw [if_neg c8] at H
      obtain ⟨c8b0, c8b1⟩ := zF c8
      simp only [Option.some.injEq, Prod.mk.injEq] at H
      obtain ⟨rfl, rfl, rfl⟩ := H
      go_wp2
      go_ret3
      exact ⟨qE, qB HB.out⟩

     rw [if_pos c8] at H
     obtain ⟨c8b0, c8b1⟩ := zT c8
     clear c8
     have H' := Aside0.mk H
     clear H
     go_wp2
     go_loopg [8, 9, 10] kj5 (fun kq v8 v9 v10 w' => ∃ (x8_3 : Int) (x9_3 : Int) (x10_3 : Int), v8 = .int .i64 x8_3 ∧ v9 = .int .i64 x9_3 ∧ v10 = .int .i64 x10_3 ∧ Aside0 (spec_LongestAntipower.l0 kq a0 a1 x8_3 x9_3 x10_3 = some (r1, r2, r3)) ∧ Aside0 (kq ≤ kj5) ∧ Aside0 (Below w.heap.size w w'))
     case atStart => exact ⟨(0), (0), (0), qF, qF, qF, H', ⟨Nat.le_refl _⟩, ⟨qB HB.out⟩⟩
     case round =>
      clear H'
      obtain ⟨x8_3, x9_3, x10_3, rfl, rfl, rfl, HA, HK3, HB⟩ := hrel
      cases gk with
      | zero => exact absurd HA.out (by simp [spec_LongestAntipower.l0])
      | succ k3 =>
       have H := HA.out
       clear HA
       simp only [spec_LongestAntipower.l0] at H
       by_cases c9 : (wrap64 (x10_3 + a1)) ≤ (a0.size : Int)
       rotate_left
       ·
        rw [if_neg c9] at H
        have c9b0 : decide ((wrap64 (x10_3 + a1)) ≤ (a0.size : Int)) = false := decide_eq_false c9
        clear c9
        by_cases c14 : x9_3 = 0
        ·
         rw [if_pos c14] at H
         obtain ⟨c14b0, c14b1⟩ := zT c14
         clear c14
         simp only [Option.some.injEq, Prod.mk.injEq] at H
         obtain ⟨rfl, rfl, rfl⟩ := H
         go_wp2
         go_ret3
         exact ⟨qE, qB HB.out⟩
        rw [if_neg c14] at H
        obtain ⟨c14b0, c14b1⟩ := zF c14
        simp only [Option.some.injEq, Prod.mk.injEq] at H
        obtain ⟨rfl, rfl, rfl⟩ := H
        go_wp2
        go_ret3
        exact ⟨qE, qB HB.out⟩
       rw [if_pos c9] at H
       have c9b0 : decide ((wrap64 (x10_3 + a1)) ≤ (a0.size : Int)) = true := decide_eq_true c9
       clear c9
       replace H := qN H
       obtain ⟨t525, A10, H⟩ := H
       try dsimp only at H
       by_cases c11 : t525 > x9_3
       ·
        rw [if_pos c11] at H
        have c11b0 : decide (x9_3 < t525) = true := decide_eq_true c11
        clear c11
        have H' := Aside0.mk H
        clear H
        go_wp2_with (first | ((with_reducible refine gate_callee (f := 50) rfl ?_); refine goesL_ (some 35) rfl rfl Tryz.func50 (by kernel_rfl) rfl #[.string a0, .int .i64 x10_3, .int .i64 a1] rfl qV ?_; (with_reducible refine (spec_l05Anti.calls k3 a0 x10_3 a1 t525 _ A10.out).mono ?_); rintro e w12 ⟨rfl, hb⟩; refine ⟨_, rfl, ?_⟩; replace HB := Aside0.mk (below_step (qB HB.out) hb)))
        go_roundg k3
        case measure => have := HJ3.out; have := HJ5.out; have := HK3.out; omega
        case rel => exact ⟨(x10_3), (t525), (wrap64 (x10_3 + 1)), qF, qF, qF, H', ⟨by have := HJ3.out; have := HJ5.out; have := HK3.out; omega⟩, ⟨qB HB.out⟩⟩
       rw [if_neg c11] at H
       have c11b0 : decide (x9_3 < t525) = false := decide_eq_false c11
       clear c11
       have H' := Aside0.mk H
       clear H
       go_wp2_with (first | ((with_reducible refine gate_callee (f := 50) rfl ?_); refine goesL_ (some 35) rfl rfl Tryz.func50 (by kernel_rfl) rfl #[.string a0, .int .i64 x10_3, .int .i64 a1] rfl qV ?_; (with_reducible refine (spec_l05Anti.calls k3 a0 x10_3 a1 t525 _ A10.out).mono ?_); rintro e w13 ⟨rfl, hb⟩; refine ⟨_, rfl, ?_⟩; replace HB := Aside0.mk (below_step (qB HB.out) hb)))
       go_roundg k3
       case measure => have := HJ3.out; have := HJ5.out; have := HK3.out; omega
       case rel => exact ⟨(x8_3), (x9_3), (wrap64 (x10_3 + 1)), qF, qF, qF, H', ⟨by have := HJ3.out; have := HJ5.out; have := HK3.out; omega⟩, ⟨qB HB.out⟩⟩
end Go.Proofs.YtfehmbifcoajeaaGreat.PF

namespace Go.Proofs.YtfehmbifcoajeaaGreat.PF
open Go.RowKit Go.Proofs.YtfehmbifcoajeaaGreatW.PrintWords Go.Proofs.YtfehmbifcoajeaaGreatW.PrintLast Go.Proofs.YtfehmbifcoajeaaGreatW.PrintMore
attribute [local go_sem] max2_int min2_int max_two min_two max_three min_three max_four min_four   -- for this text's walks alone
set_option linter.unusedVariables false
set_option linter.unusedSimpArgs false

/-! ### impl_FactorAt_1: function 51 -/
def impl_FactorAt_1.f (a0 : Int) (a1 : ByteArray) (a2 : Int) : Option (Bool) := (impl_size.f a1).bind fun t529 => ((impl_within.f a0 0 t529).bind fun t530 => (if t530 = true then ((impl_size.f a1).bind fun t531 => ((impl_within.f a2 0 (wrap64 (t531 - a0))).bind fun t532 => (some t532))) else (some false)))
set_option maxHeartbeats 8000000 in
set_option maxRecDepth 100000 in
theorem impl_FactorAt_1.calls (g0 : Nat) (a0 : Int) (g1 : Nat) (a1 : ByteArray) (g2 : Nat) (a2 : Int) (r : Bool) (w : World) (hb0 : w.heap[g0]? = some (.cells #[.int .i64 a0] 2 (0, 0))) (hb1 : w.heap[g1]? = some (.cells #[.string a1] 9 (0, 0))) (hb2 : w.heap[g2]? = some (.cells #[.int .i64 a2] 2 (0, 0))) (h : impl_FactorAt_1.f a0 a1 a2 = some r) :
  Calls Tryz.prog 51 #[.pointer (some ⟨g0, 0, none⟩), .pointer (some ⟨g1, 0, none⟩), .pointer (some ⟨g2, 0, none⟩)] w fun e w' => e = .returned (.bool r) ∧ Drawn0 w w' := by
 have BK526 := Aside0.mk hb0
 clear hb0
 have BK527 := Aside0.mk hb1
 clear hb1
 have BK528 := Aside0.mk hb2
 clear hb2
 have H : ((impl_size.f a1).bind fun t529 => ((impl_within.f a0 0 t529).bind fun t530 => (if t530 = true then ((impl_size.f a1).bind fun t531 => ((impl_within.f a2 0 (wrap64 (t531 - a0))).bind fun t532 => (some t532))) else (some false)))) = some r := h
 clear h
 replace H := qN H
 obtain ⟨t529, A4, H⟩ := H
 try dsimp only at H
 replace H := qN H
 obtain ⟨t530, A5, H⟩ := H
 try dsimp only at H
 by_cases c6 : t530 = true
 rotate_left
 ·
  replace c6 := Bool.eq_false_iff.mpr c6
  subst c6
  rw [if_neg (show ¬ (false = true) by decide)] at H
  obtain rfl := Option.some.inj H
  have hcz12_0 : w.cell? ⟨g0, 0, none⟩ = some (.int .i64 a0) := (blk_cell BK526.out 0).trans rfl
  have hfz12_0 := blk_frozen BK526.out 0
  have hcz13_0 : w.cell? ⟨g1, 0, none⟩ = some (.string a1) := (blk_cell BK527.out 0).trans rfl
  have hfz13_0 := blk_frozen BK527.out 0
  have hczz : w.cell? ⟨g2, 0, none⟩ = some (.int .i64 a2) := (blk_cell BK528.out 0).trans rfl
  have hfzz := blk_frozen BK528.out 0
  go_enter Tryz.func51, Tryz.ntmps51
  go_wp2_with (first | (go_at_call 38; (with_reducible refine (impl_size.calls a1 t529 _ A4.out).mono ?_); rintro e w' ⟨rfl, ⟨nd, rfl⟩⟩; (try first | exact ⟨rfl, _, World.drewN_drewN _ _ _⟩ | exact ⟨rfl, _, Eq.trans (World.drewN_drewN _ _ _) (congrArg (World.drewN _) (Nat.add_assoc _ _ _))⟩)) | (go_at_call 48; (with_reducible refine (impl_within.calls a0 0 t529 false _ A5.out).mono ?_); rintro e w' ⟨rfl, ⟨nd, rfl⟩⟩; (try first | exact ⟨rfl, _, World.drewN_drewN _ _ _⟩ | exact ⟨rfl, _, Eq.trans (World.drewN_drewN _ _ _) (congrArg (World.drewN _) (Nat.add_assoc _ _ _))⟩)))
  repeat (go_quiet (first | (go_at_call 38; (with_reducible refine (impl_size.calls a1 t529 _ A4.out).mono ?_); rintro e w' ⟨rfl, ⟨nd, rfl⟩⟩; (try first | exact ⟨rfl, _, World.drewN_drewN _ _ _⟩ | exact ⟨rfl, _, Eq.trans (World.drewN_drewN _ _ _) (congrArg (World.drewN _) (Nat.add_assoc _ _ _))⟩)) | (go_at_call 48; (with_reducible refine (impl_within.calls a0 0 t529 false _ A5.out).mono ?_); rintro e w' ⟨rfl, ⟨nd, rfl⟩⟩; (try first | exact ⟨rfl, _, World.drewN_drewN _ _ _⟩ | exact ⟨rfl, _, Eq.trans (World.drewN_drewN _ _ _) (congrArg (World.drewN _) (Nat.add_assoc _ _ _))⟩))); try go_wp2_with (first | (go_at_call 38; (with_reducible refine (impl_size.calls a1 t529 _ A4.out).mono ?_); rintro e w' ⟨rfl, ⟨nd, rfl⟩⟩; (try first | exact ⟨rfl, _, World.drewN_drewN _ _ _⟩ | exact ⟨rfl, _, Eq.trans (World.drewN_drewN _ _ _) (congrArg (World.drewN _) (Nat.add_assoc _ _ _))⟩)) | (go_at_call 48; (with_reducible refine (impl_within.calls a0 0 t529 false _ A5.out).mono ?_); rintro e w' ⟨rfl, ⟨nd, rfl⟩⟩; (try first | exact ⟨rfl, _, World.drewN_drewN _ _ _⟩ | exact ⟨rfl, _, Eq.trans (World.drewN_drewN _ _ _) (congrArg (World.drewN _) (Nat.add_assoc _ _ _))⟩))))
  go_ret
  exact ⟨by first | rfl | (simp; done) | (simp [*]; done) | (simp; rw [Bool.eq_iff_iff]; simp; done), by repeat (first | exact Drawn0.refl _ | apply Drawn0.step)⟩

 subst c6
 rw [if_pos rfl] at H
 replace H := qN H
 obtain ⟨t531, A7, H⟩ := H
 try dsimp only at H
 have e_sz : t529 = t531 := Option.some.inj (A4.out.symm.trans A7.out)
 subst e_sz
 replace H := qN H
 obtain ⟨t532, A8, H⟩ := H
 try dsimp only at H
 obtain rfl := Option.some.inj H
 have hcz9_0 : w.cell? ⟨g0, 0, none⟩ = some (.int .i64 a0) := (blk_cell BK526.out 0).trans rfl
 have hfz9_0 := blk_frozen BK526.out 0
 have hcz10_0 : w.cell? ⟨g1, 0, none⟩ = some (.string a1) := (blk_cell BK527.out 0).trans rfl
 have hfz10_0 := blk_frozen BK527.out 0
 have hczz : w.cell? ⟨g2, 0, none⟩ = some (.int .i64 a2) := (blk_cell BK528.out 0).trans rfl
 have hfzz := blk_frozen BK528.out 0
 go_enter Tryz.func51, Tryz.ntmps51
 go_wp2_with (first | (go_at_call 38; (with_reducible refine (impl_size.calls a1 t529 _ A4.out).mono ?_); rintro e w' ⟨rfl, ⟨nd, rfl⟩⟩; (try first | exact ⟨rfl, _, World.drewN_drewN _ _ _⟩ | exact ⟨rfl, _, Eq.trans (World.drewN_drewN _ _ _) (congrArg (World.drewN _) (Nat.add_assoc _ _ _))⟩)) | (go_at_call 48; (with_reducible refine (impl_within.calls a0 0 t529 true _ A5.out).mono ?_); rintro e w' ⟨rfl, ⟨nd, rfl⟩⟩; (try first | exact ⟨rfl, _, World.drewN_drewN _ _ _⟩ | exact ⟨rfl, _, Eq.trans (World.drewN_drewN _ _ _) (congrArg (World.drewN _) (Nat.add_assoc _ _ _))⟩); have hcz11_0 : w.cell? ⟨g2, 0, none⟩ = some (.int .i64 a2) := (blk_cell BK528.out 0).trans rfl; have hfz11_0 := blk_frozen BK528.out 0) | (go_at_call 38; (with_reducible refine (impl_size.calls a1 t529 _ A7.out).mono ?_); rintro e w' ⟨rfl, ⟨nd, rfl⟩⟩; (try first | exact ⟨rfl, _, World.drewN_drewN _ _ _⟩ | exact ⟨rfl, _, Eq.trans (World.drewN_drewN _ _ _) (congrArg (World.drewN _) (Nat.add_assoc _ _ _))⟩)) | (go_at_call 48; (try rw [i64_w]); (with_reducible refine (impl_within.calls a2 0 (wrap64 (t529 - a0)) t532 _ A8.out).mono ?_); rintro e w' ⟨rfl, ⟨nd, rfl⟩⟩; (try first | exact ⟨rfl, _, World.drewN_drewN _ _ _⟩ | exact ⟨rfl, _, Eq.trans (World.drewN_drewN _ _ _) (congrArg (World.drewN _) (Nat.add_assoc _ _ _))⟩)))
 repeat (go_quiet (first | (go_at_call 38; (with_reducible refine (impl_size.calls a1 t529 _ A4.out).mono ?_); rintro e w' ⟨rfl, ⟨nd, rfl⟩⟩; (try first | exact ⟨rfl, _, World.drewN_drewN _ _ _⟩ | exact ⟨rfl, _, Eq.trans (World.drewN_drewN _ _ _) (congrArg (World.drewN _) (Nat.add_assoc _ _ _))⟩)) | (go_at_call 48; (with_reducible refine (impl_within.calls a0 0 t529 true _ A5.out).mono ?_); rintro e w' ⟨rfl, ⟨nd, rfl⟩⟩; (try first | exact ⟨rfl, _, World.drewN_drewN _ _ _⟩ | exact ⟨rfl, _, Eq.trans (World.drewN_drewN _ _ _) (congrArg (World.drewN _) (Nat.add_assoc _ _ _))⟩); have hcz11_0 : w.cell? ⟨g2, 0, none⟩ = some (.int .i64 a2) := (blk_cell BK528.out 0).trans rfl; have hfz11_0 := blk_frozen BK528.out 0) | (go_at_call 38; (with_reducible refine (impl_size.calls a1 t529 _ A7.out).mono ?_); rintro e w' ⟨rfl, ⟨nd, rfl⟩⟩; (try first | exact ⟨rfl, _, World.drewN_drewN _ _ _⟩ | exact ⟨rfl, _, Eq.trans (World.drewN_drewN _ _ _) (congrArg (World.drewN _) (Nat.add_assoc _ _ _))⟩)) | (go_at_call 48; (try rw [i64_w]); (with_reducible refine (impl_within.calls a2 0 (wrap64 (t529 - a0)) t532 _ A8.out).mono ?_); rintro e w' ⟨rfl, ⟨nd, rfl⟩⟩; (try first | exact ⟨rfl, _, World.drewN_drewN _ _ _⟩ | exact ⟨rfl, _, Eq.trans (World.drewN_drewN _ _ _) (congrArg (World.drewN _) (Nat.add_assoc _ _ _))⟩))); try go_wp2_with (first | (go_at_call 38; (with_reducible refine (impl_size.calls a1 t529 _ A4.out).mono ?_); rintro e w' ⟨rfl, ⟨nd, rfl⟩⟩; (try first | exact ⟨rfl, _, World.drewN_drewN _ _ _⟩ | exact ⟨rfl, _, Eq.trans (World.drewN_drewN _ _ _) (congrArg (World.drewN _) (Nat.add_assoc _ _ _))⟩)) | (go_at_call 48; (with_reducible refine (impl_within.calls a0 0 t529 true _ A5.out).mono ?_); rintro e w' ⟨rfl, ⟨nd, rfl⟩⟩; (try first | exact ⟨rfl, _, World.drewN_drewN _ _ _⟩ | exact ⟨rfl, _, Eq.trans (World.drewN_drewN _ _ _) (congrArg (World.drewN _) (Nat.add_assoc _ _ _))⟩); have hcz11_0 : w.cell? ⟨g2, 0, none⟩ = some (.int .i64 a2) := (blk_cell BK528.out 0).trans rfl; have hfz11_0 := blk_frozen BK528.out 0) | (go_at_call 38; (with_reducible refine (impl_size.calls a1 t529 _ A7.out).mono ?_); rintro e w' ⟨rfl, ⟨nd, rfl⟩⟩; (try first | exact ⟨rfl, _, World.drewN_drewN _ _ _⟩ | exact ⟨rfl, _, Eq.trans (World.drewN_drewN _ _ _) (congrArg (World.drewN _) (Nat.add_assoc _ _ _))⟩)) | (go_at_call 48; (try rw [i64_w]); (with_reducible refine (impl_within.calls a2 0 (wrap64 (t529 - a0)) t532 _ A8.out).mono ?_); rintro e w' ⟨rfl, ⟨nd, rfl⟩⟩; (try first | exact ⟨rfl, _, World.drewN_drewN _ _ _⟩ | exact ⟨rfl, _, Eq.trans (World.drewN_drewN _ _ _) (congrArg (World.drewN _) (Nat.add_assoc _ _ _))⟩))))
 go_ret
 exact ⟨by first | rfl | (simp; done) | (simp [*]; done) | (simp; rw [Bool.eq_iff_iff]; simp; done), by repeat (first | exact Drawn0.refl _ | apply Drawn0.step)⟩
end Go.Proofs.YtfehmbifcoajeaaGreat.PF

namespace Go.Proofs.YtfehmbifcoajeaaGreat.PF
open Go.RowKit Go.Proofs.YtfehmbifcoajeaaGreatW.PrintWords Go.Proofs.YtfehmbifcoajeaaGreatW.PrintLast Go.Proofs.YtfehmbifcoajeaaGreatW.PrintMore
attribute [local go_sem] max2_int min2_int max_two min_two max_three min_three max_four min_four   -- for this text's walks alone
set_option linter.unusedVariables false
set_option linter.unusedSimpArgs false

/-! ### spec_l01Two: function 52 -/
def spec_l01Two.j0 : Nat → ByteArray → ByteArray → List Int → Int → Int → Option (ByteArray × ByteArray)
 | 0, _, _, _, _, _ => none
 | k + 1, x5, x6, x544000, x544001, x544002 => if (x6.size : Int) > 60 then (if 0 ≤ 60 then (if 60 ≤ (x6.size : Int) then ((spec_l01Bad.f k x544000 x544001 x544002 x5).bind fun bt562 => ((spec_l01Bad.f k x544000 bt562.2.1 bt562.2.2 (x6.extract 0 60)).bind fun bt565 => (some (bt562.1, bt565.1)))) else (none)) else (none)) else ((spec_l01Bad.f k x544000 x544001 x544002 x5).bind fun bt568 => ((spec_l01Bad.f k x544000 bt568.2.1 bt568.2.2 x6).bind fun bt571 => (some (bt568.1, bt571.1))))
def spec_l01Two.f (k : Nat) (l0 : List Int) : Option (ByteArray × ByteArray) := (spec_l01From.f k l0).bind fun bt540 => ((spec_l01Draw.f k bt540.1 bt540.2.1 bt540.2.2).bind fun bt544 => ((spec_l01Draw.f k bt540.1 bt544.2.1 bt544.2.2).bind fun bt547 => ((spec_l01Next.f bt540.1 bt547.2.1 bt547.2.2 (wrap64 ((bt544.1.size : Int) + 1))).bind fun bt550 => ((spec_l01Next.f bt540.1 bt550.2.1 bt550.2.2 5).bind fun bt553 => (if bt553.1 = 0 then (if 0 ≤ bt550.1 then (if bt550.1 ≤ (bt544.1.size : Int) then ((spec_l01Small.f k bt540.1 bt553.2.1 bt553.2.2).bind fun bt556 => (if (bt544.1.extract 0 (bt550.1 : Int).toNat).size + bt556.1.size ≤ 9223372036854775807 then (spec_l01Two.j0 k bt544.1 ((bt544.1.extract 0 (bt550.1 : Int).toNat) ++ bt556.1) bt540.1 bt556.2.1 bt556.2.2) else (none))) else (none)) else (none)) else (if bt553.1 = 1 then ((spec_l01Small.f k bt540.1 bt553.2.1 bt553.2.2).bind fun bt559 => (if 0 ≤ bt550.1 then (if bt550.1 ≤ (bt544.1.size : Int) then (if bt559.1.size + (bt544.1.extract (bt550.1 : Int).toNat bt544.1.size).size ≤ 9223372036854775807 then (spec_l01Two.j0 k bt544.1 (bt559.1 ++ (bt544.1.extract (bt550.1 : Int).toNat bt544.1.size)) bt540.1 bt559.2.1 bt559.2.2) else (none)) else (none)) else (none))) else (if bt553.1 = 2 then (spec_l01Two.j0 k bt544.1 bt544.1 bt540.1 bt553.2.1 bt553.2.2) else (spec_l01Two.j0 k bt544.1 bt547.1 bt540.1 bt553.2.1 bt553.2.2))))))))
theorem spec_l01Two.mono_l : ∀ k, (∀ y0 y1 y2 y3 y4, LeO (spec_l01Two.j0 k y0 y1 y2 y3 y4) (spec_l01Two.j0 (k + 1) y0 y1 y2 y3 y4))
 | 0 => fun _ _ _ _ _ r h => by simp [spec_l01Two.j0] at h
 | k + 1 => by
  have ih0 := spec_l01Two.mono_l k
  ·
   intro y0 y1 y2 y3 y4
   unfold spec_l01Two.j0
   with_reducible repeat' first
   | exact ih0 _ _ _ _ _
   | exact spec_l01Bad.mono _ _ _ _ _
   | exact spec_l01Draw.mono _ _ _ _
   | exact spec_l01From.mono _ _
   | exact spec_l01Small.mono _ _ _ _
   | exact LeO.refl _
   | exact LeO.none _
   | refine LeO.ite ?_ ?_
   | refine LeO.bind ?_ (fun _ => ?_)
theorem spec_l01Two.mono : ∀ a0 k, LeO (spec_l01Two.f k a0) (spec_l01Two.f (k + 1) a0) := by
 intro a0 k
 have ih0 := spec_l01Two.mono_l k
 unfold spec_l01Two.f
 with_reducible repeat' first
   | exact ih0 _ _ _ _ _
   | exact spec_l01Bad.mono _ _ _ _ _
   | exact spec_l01Draw.mono _ _ _ _
   | exact spec_l01From.mono _ _
   | exact spec_l01Small.mono _ _ _ _
   | exact LeO.refl _
   | exact LeO.none _
   | refine LeO.ite ?_ ?_
   | refine LeO.bind ?_ (fun _ => ?_)
set_option maxHeartbeats 8000000 in
set_option maxRecDepth 100000 in
theorem spec_l01Two.calls (k : Nat) (A0 : Option Addr) (c0 : Nat) (l0 : List Int) (r1 : ByteArray) (r2 : ByteArray) (w : World) (hr0 : Kd.C (Kd.int .u8) w A0 l0.length l0) (hc0 : l0.length ≤ c0) (h : spec_l01Two.f k l0 = some (r1, r2)) :
  Calls Tryz.prog 52 #[.slice A0 l0.length c0] w fun e w' => e = .returned (.tuple #[.string r1, .string r2]) ∧ Below w.heap.size w w' := by
 have HR0 := Aside0.mk hr0
 have HC0 := Aside0.mk hc0
 clear hr0 hc0
 have HB := Aside0.mk (Below.refl w.heap.size w)
 have H : ((spec_l01From.f k l0).bind fun bt540 => ((spec_l01Draw.f k bt540.1 bt540.2.1 bt540.2.2).bind fun bt544 => ((spec_l01Draw.f k bt540.1 bt544.2.1 bt544.2.2).bind fun bt547 => ((spec_l01Next.f bt540.1 bt547.2.1 bt547.2.2 (wrap64 ((bt544.1.size : Int) + 1))).bind fun bt550 => ((spec_l01Next.f bt540.1 bt550.2.1 bt550.2.2 5).bind fun bt553 => (if bt553.1 = 0 then (if 0 ≤ bt550.1 then (if bt550.1 ≤ (bt544.1.size : Int) then ((spec_l01Small.f k bt540.1 bt553.2.1 bt553.2.2).bind fun bt556 => (if (bt544.1.extract 0 (bt550.1 : Int).toNat).size + bt556.1.size ≤ 9223372036854775807 then (spec_l01Two.j0 k bt544.1 ((bt544.1.extract 0 (bt550.1 : Int).toNat) ++ bt556.1) bt540.1 bt556.2.1 bt556.2.2) else (none))) else (none)) else (none)) else (if bt553.1 = 1 then ((spec_l01Small.f k bt540.1 bt553.2.1 bt553.2.2).bind fun bt559 => (if 0 ≤ bt550.1 then (if bt550.1 ≤ (bt544.1.size : Int) then (if bt559.1.size + (bt544.1.extract (bt550.1 : Int).toNat bt544.1.size).size ≤ 9223372036854775807 then (spec_l01Two.j0 k bt544.1 (bt559.1 ++ (bt544.1.extract (bt550.1 : Int).toNat bt544.1.size)) bt540.1 bt559.2.1 bt559.2.2) else (none)) else (none)) else (none))) else (if bt553.1 = 2 then (spec_l01Two.j0 k bt544.1 bt544.1 bt540.1 bt553.2.1 bt553.2.2) else (spec_l01Two.j0 k bt544.1 bt547.1 bt540.1 bt553.2.1 bt553.2.2))))))))) = some (r1, r2) := h
 clear h
 replace H := qN H
 obtain ⟨⟨t540, t541, t542⟩, A2, H⟩ := H
 try dsimp only at H
 replace H := qN H
 obtain ⟨⟨t544, t545, t546⟩, A3, H⟩ := H
 try dsimp only at H
 replace H := qN H
 obtain ⟨⟨t547, t548, t549⟩, A4, H⟩ := H
 try dsimp only at H
 replace H := qN H
 obtain ⟨⟨t550, t551, t552⟩, A5, H⟩ := H
 try dsimp only at H
 replace H := qN H
 obtain ⟨⟨t553, t554, t555⟩, A6, H⟩ := H
 try dsimp only at H
 have HC7 := Aside0.mk H
 clear H
 go_enter Tryz.func52, Tryz.ntmps52
 go_upto_block 0 with (first | ((with_reducible refine gate_callee (f := 55) rfl ?_); refine goesL_ (some 9) rfl rfl Tryz.func55 (by kernel_rfl) rfl #[.slice A0 l0.length c0] rfl qV ?_; (with_reducible refine (spec_l01From.calls k _ _ l0 t540 t541 t542 w _ ?side1 ?side2 ?side3 A2.out).mono ?_); (case side1 => exact qB HB.out); (case side2 => exact HR0.out); (case side3 => exact HC0.out); rintro e w8 ⟨g543, rfl, hi, hb, hb2⟩; refine ⟨_, rfl, ?_⟩; replace HB := Aside0.mk (hb); have HI543 := Aside0.mk (hi)) | ((with_reducible refine gate_callee (f := 56) rfl ?_); refine goesL_ (some 11) rfl rfl Tryz.func56 (by kernel_rfl) rfl #[.pointer (some ⟨g543, 0, none⟩)] rfl qV ?_; (with_reducible refine (spec_l01Draw.calls k g543 t540 t541 t542 t544 t545 t546 w _ ?side1 ?side2 A3.out).mono ?_); (case side1 => exact qI HI543.out); (case side2 => exact qS HB.out); rintro e w9 ⟨rfl, hi, hb, hk⟩; refine ⟨_, rfl, ?_⟩; replace HB := Aside0.mk (hb); replace HI543 := Aside0.mk (hi)) | ((with_reducible refine gate_callee (f := 56) rfl ?_); refine goesL_ (some 13) rfl rfl Tryz.func56 (by kernel_rfl) rfl #[.pointer (some ⟨g543, 0, none⟩)] rfl qV ?_; (with_reducible refine (spec_l01Draw.calls k g543 t540 t545 t546 t547 t548 t549 w _ ?side1 ?side2 A4.out).mono ?_); (case side1 => exact qI HI543.out); (case side2 => exact qS HB.out); rintro e w10 ⟨rfl, hi, hb, hk⟩; refine ⟨_, rfl, ?_⟩; replace HB := Aside0.mk (hb); replace HI543 := Aside0.mk (hi)) | ((with_reducible refine gate_callee (f := 57) rfl ?_); refine goesL_ (some 18) rfl rfl Tryz.func57 (by kernel_rfl) rfl #[.pointer (some ⟨g543, 0, none⟩), .int .i64 (wrap64 ((t544.size : Int) + 1))] rfl qV ?_; (with_reducible refine (spec_l01Next.calls g543 t540 t548 t549 (wrap64 ((t544.size : Int) + 1)) t550 t551 t552 w _ ?side1 ?side2 A5.out).mono ?_); (case side1 => exact qI HI543.out); (case side2 => exact qS HB.out); rintro e w11 ⟨rfl, hi, hb, hk⟩; refine ⟨_, rfl, ?_⟩; replace HB := Aside0.mk (hb); replace HI543 := Aside0.mk (hi)) | ((with_reducible refine gate_callee (f := 57) rfl ?_); refine goesL_ (some 20) rfl rfl Tryz.func57 (by kernel_rfl) rfl #[.pointer (some ⟨g543, 0, none⟩), .int .i64 5] rfl qV ?_; (with_reducible refine (spec_l01Next.calls g543 t540 t551 t552 5 t553 t554 t555 w _ ?side1 ?side2 A6.out).mono ?_); (case side1 => exact qI HI543.out); (case side2 => exact qS HB.out); rintro e w12 ⟨rfl, hi, hb, hk⟩; refine ⟨_, rfl, ?_⟩; replace HB := Aside0.mk (hb); replace HI543 := Aside0.mk (hi)))
 (try simp only [Act.put, List.setIfInBounds_toArray, List.set_cons_zero, List.set_cons_succ])
 go_cut [6] (fun v6 wc => ∃ (kq : Nat) (x6_6 : ByteArray) (x544001_6 : Int) (x544002_6 : Int), v6 = .string x6_6 ∧ Aside0 (spec_l01Two.j0 kq t544 x6_6 t540 x544001_6 x544002_6 = some (r1, r2)) ∧ Aside0 (kq ≤ k) ∧ Aside0 (IsS77 w wc g543 t540 x544001_6 x544002_6) ∧ Aside0 (Below w.heap.size w wc))
 case first =>
  have H := HC7.out
  clear HC7
  by_cases c13 : t553 = 0
  ·
   rw [if_pos c13] at H
   obtain ⟨c13b0, c13b1⟩ := zT c13
   clear c13
   (first | rw [c13b0] | (simp only [i64_w, i32_w]; rw [c13b0]) | skip)
   by_cases c14 : 0 ≤ t550
   rotate_left
   ·
    rw [if_neg c14] at H
    exact absurd H (by simp)
   rw [if_pos c14] at H
   have c14b0 := eq_true c14
   have c14b1 : decide (0 ≤ t550) = true := decide_eq_true c14
   clear c14
   by_cases c15 : t550 ≤ (t544.size : Int)
   rotate_left
   ·
    rw [if_neg c15] at H
    exact absurd H (by simp)
   rw [if_pos c15] at H
   have c15b0 := eq_true c15
   have c15b1 : decide (t550 ≤ (t544.size : Int)) = true := decide_eq_true c15
   clear c15
   replace H := qN H
   obtain ⟨⟨t556, t557, t558⟩, A16, H⟩ := H
   try dsimp only at H
   by_cases c17 : (t544.extract 0 (t550 : Int).toNat).size + t556.size ≤ 9223372036854775807
   rotate_left
   ·
    rw [if_neg c17] at H
    exact absurd H (by simp)
   rw [if_pos c17] at H
   have c17b0 := eq_true c17
   have c17b1 : decide ((t544.extract 0 (t550 : Int).toNat).size + t556.size ≤ 9223372036854775807) = true := decide_eq_true c17
   try have c17b2 : (9223372036854775807 < (t544.extract 0 (t550 : Int).toNat).size + t556.size) = False := eq_false (Nat.not_lt.2 c17)
   have c17y1 : (9223372036854775807 < t550.toNat + t556.size) = False := eq_false (by have h_ := c17; have h2_ : t550 ≤ (t544.size : Int) := of_decide_eq_true (by first | (with_reducible assumption) | assumption); simp only [ByteArray.size_extract] at h_; omega)
   have H' := Aside0.mk H
   clear H
   try go_wp2
   have n0_ := Aside0.mk (IsS77.drew HI543.out)
   have n1_ := Aside0.mk (below_drew1 HB.out)
   clear HI543
   clear HB
   have HI543 := n0_
   have HB := n1_
   clear n0_ n1_
   refine start_ (n := 7) (S := fun w' => True) (ds := []) #[false, false, false, false, false, false, false] (by kernel_rfl) rfl rfl trivial (fun hHeld => ?_)
   generalize w12.drew = w18 at HI543 HB hHeld ⊢
   refine pure_ (i := 0) (N := some 23) (v := ?_) (a' := ?_) #[true, false, false, false, false, false, false] rfl rfl (by kernel_rfl) (fun _ _ _ h => h) (Or.inl ⟨by rfl, ?_⟩) ?_ ?_
   rotate_left
   ·
    intro w'
    go_simp
    with_reducible rfl
   rotate_left
   ·
    simp only [Act.put, List.setIfInBounds_toArray, List.set_cons_zero, List.set_cons_succ, i64_w, i32_w]
    rfl
   refine pure_ (i := 1) (N := some 24) (v := ?_) (a' := ?_) #[true, true, false, false, false, false, false] rfl rfl (by kernel_rfl) (fun _ _ _ h => h) (Or.inl ⟨by rfl, ?_⟩) ?_ ?_
   rotate_left
   ·
    intro w'
    go_simp
    with_reducible rfl
   rotate_left
   ·
    simp only [Act.put, List.setIfInBounds_toArray, List.set_cons_zero, List.set_cons_succ, i64_w, i32_w]
    rfl
   refine pure_ (i := 2) (N := some 25) (v := ?_) (a' := ?_) #[true, true, true, false, false, false, false] rfl rfl (by kernel_rfl) (fun _ _ _ h => h) (Or.inl ⟨by rfl, ?_⟩) ?_ ?_
   rotate_left
   ·
    intro w'
    go_simp
    with_reducible rfl
   rotate_left
   ·
    simp only [Act.put, List.setIfInBounds_toArray, List.set_cons_zero, List.set_cons_succ, i64_w, i32_w]
    rfl
   refine pure_ (i := 3) (N := some 26) (v := ?_) (a' := ?_) #[true, true, true, true, false, false, false] rfl rfl (by kernel_rfl) (fun _ _ _ h => h) (Or.inl ⟨by rfl, ?_⟩) ?_ ?_
   rotate_left
   ·
    intro w'
    go_simp
    with_reducible rfl
   rotate_left
   ·
    simp only [Act.put, List.setIfInBounds_toArray, List.set_cons_zero, List.set_cons_succ, i64_w, i32_w]
    rfl
   refine one_ (i := 4) (N := some 27) #[true, true, true, true, true, false, false] rfl rfl (by kernel_rfl) (by decide) (fun K hK => ?_)
   refine goes_ Tryz.func59 (by kernel_rfl) rfl #[.pointer (some ⟨g543, 0, none⟩)] (by rfl) rfl rfl qV ?_
   with_reducible refine (spec_l01Small.calls k g543 t540 t554 t555 t556 t557 t558 w _ ?side1 ?side2 A16.out).mono ?_
   (case side1 => exact qI HI543.out)
   (case side2 => exact qS HB.out)
   rintro e w19 ⟨rfl, hi, hb, hk⟩
   refine ⟨_, rfl, ?_⟩
   have n0_ := Aside0.mk (hb)
   have n1_ := Aside0.mk (hi)
   clear HB
   clear HI543
   have HB := n0_
   have HI543 := n1_
   clear n0_ n1_
   (try clear hb)
   (try clear hb2)
   (try clear hk)
   (try clear hi)
   refine hK.out _ _ trivial (fun hHeld => ?_)
   clear hK K
   refine norm_ (a' := ?_) ?_ ?_
   rotate_left
   ·
    show Act.put _ (some 27) _ = _
    simp only [Act.put, List.setIfInBounds_toArray, List.set_cons_zero, List.set_cons_succ, i64_w, i32_w]
    rfl
   refine pure_ (i := 5) (N := some 28) (v := ?_) (a' := ?_) #[true, true, true, true, true, true, false] rfl rfl (by kernel_rfl) (fun _ _ _ h => h) (Or.inl ⟨by rfl, ?_⟩) ?_ ?_
   rotate_left
   ·
    intro w'
    go_simp
    with_reducible rfl
   rotate_left
   ·
    simp only [Act.put, List.setIfInBounds_toArray, List.set_cons_zero, List.set_cons_succ, i64_w, i32_w]
    rfl
   refine pure_ (i := 6) (N := some 6) (v := ?_) (a' := ?_) #[true, true, true, true, true, true, true] rfl rfl (by kernel_rfl) (fun _ _ _ h => h) (Or.inl ⟨by rfl, ?_⟩) ?_ ?_
   rotate_left
   ·
    intro w'
    go_simp
    with_reducible rfl
   rotate_left
   ·
    simp only [Act.put, List.setIfInBounds_toArray, List.set_cons_zero, List.set_cons_succ, i64_w, i32_w]
    rfl
   refine done_ (by kernel_rfl) ?_
   try go_wp2
   go_meet
   case rel => exact ⟨_, ((t544.extract 0 (t550 : Int).toNat) ++ t556), (t557), (t558), qF, H', ⟨by first | omega | exact Nat.le_refl _⟩, ⟨qI HI543.out⟩, ⟨qS HB.out⟩⟩
  rw [if_neg c13] at H
  obtain ⟨c13b0, c13b1⟩ := zF c13
  (first | rw [c13b0] | (simp only [i64_w, i32_w]; rw [c13b0]) | skip)
  by_cases c20 : t553 = 1
  rotate_left
  ·
   rw [if_neg c20] at H
   obtain ⟨c20b0, c20b1⟩ := zF c20
   by_cases c27 : t553 = 2
   ·
    rw [if_pos c27] at H
    obtain ⟨c27b0, c27b1⟩ := zT c27
    clear c27
    have H' := Aside0.mk H
    clear H
    go_wp2
    go_meet
    case rel => exact ⟨_, (t544), (t554), (t555), qF, H', ⟨by first | omega | exact Nat.le_refl _⟩, ⟨qI HI543.out⟩, ⟨qS HB.out⟩⟩
   rw [if_neg c27] at H
   obtain ⟨c27b0, c27b1⟩ := zF c27
   have H' := Aside0.mk H
   clear H
   go_wp2
   go_meet
   case rel => exact ⟨_, (t547), (t554), (t555), qF, H', ⟨by first | omega | exact Nat.le_refl _⟩, ⟨qI HI543.out⟩, ⟨qS HB.out⟩⟩
  rw [if_pos c20] at H
  obtain ⟨c20b0, c20b1⟩ := zT c20
  clear c20
  replace H := qN H
  obtain ⟨⟨t559, t560, t561⟩, A21, H⟩ := H
  try dsimp only at H
  by_cases c22 : 0 ≤ t550
  rotate_left
  ·
   rw [if_neg c22] at H
   exact absurd H (by simp)
  rw [if_pos c22] at H
  have c22b0 := eq_true c22
  have c22b1 : decide (0 ≤ t550) = true := decide_eq_true c22
  clear c22
  by_cases c23 : t550 ≤ (t544.size : Int)
  rotate_left
  ·
   rw [if_neg c23] at H
   exact absurd H (by simp)
  rw [if_pos c23] at H
  have c23b0 := eq_true c23
  have c23b1 : decide (t550 ≤ (t544.size : Int)) = true := decide_eq_true c23
  clear c23
  by_cases c24 : t559.size + (t544.extract (t550 : Int).toNat t544.size).size ≤ 9223372036854775807
  rotate_left
  ·
   rw [if_neg c24] at H
   exact absurd H (by simp)
  rw [if_pos c24] at H
  have c24b0 := eq_true c24
  have c24b1 : decide (t559.size + (t544.extract (t550 : Int).toNat t544.size).size ≤ 9223372036854775807) = true := decide_eq_true c24
  try have c24b2 : (9223372036854775807 < t559.size + (t544.extract (t550 : Int).toNat t544.size).size) = False := eq_false (Nat.not_lt.2 c24)
  have c24y1 : (9223372036854775807 < t559.size + (t544.size - t550.toNat)) = False := eq_false (by have h_ := c24; simp only [ByteArray.size_extract] at h_; omega)
  have H' := Aside0.mk H
  clear H
  try go_wp2
  have n0_ := Aside0.mk (IsS77.drew HI543.out)
  have n1_ := Aside0.mk (below_drew1 HB.out)
  clear HI543
  clear HB
  have HI543 := n0_
  have HB := n1_
  clear n0_ n1_
  refine start_ (n := 7) (S := fun w' => True) (ds := []) #[false, false, false, false, false, false, false] (by kernel_rfl) rfl rfl trivial (fun hHeld => ?_)
  generalize w12.drew = w25 at HI543 HB hHeld ⊢
  refine pure_ (i := 0) (N := some 31) (v := ?_) (a' := ?_) #[true, false, false, false, false, false, false] rfl rfl (by kernel_rfl) (fun _ _ _ h => h) (Or.inl ⟨by rfl, ?_⟩) ?_ ?_
  rotate_left
  ·
   intro w'
   go_simp
   with_reducible rfl
  rotate_left
  ·
   simp only [Act.put, List.setIfInBounds_toArray, List.set_cons_zero, List.set_cons_succ, i64_w, i32_w]
   rfl
  refine pure_ (i := 2) (N := some 33) (v := ?_) (a' := ?_) #[true, false, true, false, false, false, false] rfl rfl (by kernel_rfl) (fun _ _ _ h => h) (Or.inl ⟨by rfl, ?_⟩) ?_ ?_
  rotate_left
  ·
   intro w'
   go_simp
   with_reducible rfl
  rotate_left
  ·
   simp only [Act.put, List.setIfInBounds_toArray, List.set_cons_zero, List.set_cons_succ, i64_w, i32_w]
   rfl
  refine pure_ (i := 3) (N := some 34) (v := ?_) (a' := ?_) #[true, false, true, true, false, false, false] rfl rfl (by kernel_rfl) (fun _ _ _ h => h) (Or.inl ⟨by rfl, ?_⟩) ?_ ?_
  rotate_left
  ·
   intro w'
   go_simp
   with_reducible rfl
  rotate_left
  ·
   simp only [Act.put, List.setIfInBounds_toArray, List.set_cons_zero, List.set_cons_succ, i64_w, i32_w]
   rfl
  refine pure_ (i := 4) (N := some 35) (v := ?_) (a' := ?_) #[true, false, true, true, true, false, false] rfl rfl (by kernel_rfl) (fun _ _ _ h => h) (Or.inl ⟨by rfl, ?_⟩) ?_ ?_
  rotate_left
  ·
   intro w'
   go_simp
   with_reducible rfl
  rotate_left
  ·
   simp only [Act.put, List.setIfInBounds_toArray, List.set_cons_zero, List.set_cons_succ, i64_w, i32_w]
   rfl
  refine one_ (i := 1) (N := some 32) #[true, true, true, true, true, false, false] rfl rfl (by kernel_rfl) (by decide) (fun K hK => ?_)
  refine goes_ Tryz.func59 (by kernel_rfl) rfl #[.pointer (some ⟨g543, 0, none⟩)] (by rfl) rfl rfl qV ?_
  with_reducible refine (spec_l01Small.calls k g543 t540 t554 t555 t559 t560 t561 w _ ?side1 ?side2 A21.out).mono ?_
  (case side1 => exact qI HI543.out)
  (case side2 => exact qS HB.out)
  rintro e w26 ⟨rfl, hi, hb, hk⟩
  refine ⟨_, rfl, ?_⟩
  have n0_ := Aside0.mk (hb)
  have n1_ := Aside0.mk (hi)
  clear HB
  clear HI543
  have HB := n0_
  have HI543 := n1_
  clear n0_ n1_
  (try clear hb)
  (try clear hb2)
  (try clear hk)
  (try clear hi)
  refine hK.out _ _ trivial (fun hHeld => ?_)
  clear hK K
  refine norm_ (a' := ?_) ?_ ?_
  rotate_left
  ·
   show Act.put _ (some 32) _ = _
   simp only [Act.put, List.setIfInBounds_toArray, List.set_cons_zero, List.set_cons_succ, i64_w, i32_w]
   rfl
  refine pure_ (i := 5) (N := some 36) (v := ?_) (a' := ?_) #[true, true, true, true, true, true, false] rfl rfl (by kernel_rfl) (fun _ _ _ h => h) (Or.inl ⟨by rfl, ?_⟩) ?_ ?_
  rotate_left
  ·
   intro w'
   go_simp
   with_reducible rfl
  rotate_left
  ·
   simp only [Act.put, List.setIfInBounds_toArray, List.set_cons_zero, List.set_cons_succ, i64_w, i32_w]
   rfl
  refine pure_ (i := 6) (N := some 6) (v := ?_) (a' := ?_) #[true, true, true, true, true, true, true] rfl rfl (by kernel_rfl) (fun _ _ _ h => h) (Or.inl ⟨by rfl, ?_⟩) ?_ ?_
  rotate_left
  ·
   intro w'
   go_simp
   with_reducible rfl
  rotate_left
  ·
   simp only [Act.put, List.setIfInBounds_toArray, List.set_cons_zero, List.set_cons_succ, i64_w, i32_w]
   rfl
  refine done_ (by kernel_rfl) ?_
  try go_wp2
  go_meet
  case rel => exact ⟨_, (t559 ++ (t544.extract (t550 : Int).toNat t544.size)), (t560), (t561), qF, H', ⟨by first | omega | exact Nat.le_refl _⟩, ⟨qI HI543.out⟩, ⟨qS HB.out⟩⟩
 case rest =>
  clear HC7
  obtain ⟨kq, x6_6, x544001_6, x544002_6, rfl, HA, HJ6, HI543, HB⟩ := hcut
  cases kq with
  | zero => exact absurd HA.out (by simp [spec_l01Two.j0])
  | succ kj6 =>
   have H := HA.out
   clear HA
   simp only [spec_l01Two.j0] at H
   by_cases c28 : (x6_6.size : Int) > 60
   rotate_left
   ·
    rw [if_neg c28] at H
    have c28b0 : decide (60 < (x6_6.size : Int)) = false := decide_eq_false c28
    have c28b1 : decide (60 < x6_6.size) = false := decide_eq_false (by omega)
    clear c28
    replace H := qN H
    obtain ⟨⟨t568, t569, t570⟩, A35, H⟩ := H
    try dsimp only at H
    replace H := qN H
    obtain ⟨⟨t571, t572, t573⟩, A36, H⟩ := H
    try dsimp only at H
    simp only [Option.some.injEq, Prod.mk.injEq] at H
    obtain ⟨rfl, rfl⟩ := H
    go_wp2_with (first | ((with_reducible refine gate_callee (f := 60) rfl ?_); refine goesL_ (some 47) rfl rfl Tryz.func60 (by kernel_rfl) rfl #[.pointer (some ⟨g543, 0, none⟩), .string t544] rfl qV ?_; (with_reducible refine (spec_l01Bad.calls kj6 g543 t540 x544001_6 x544002_6 t544 t568 t569 t570 w _ ?side1 ?side2 A35.out).mono ?_); (case side1 => exact qI HI543.out); (case side2 => exact qS HB.out); rintro e w37 ⟨rfl, hi, hb, hk⟩; refine ⟨_, rfl, ?_⟩; replace HB := Aside0.mk (hb); replace HI543 := Aside0.mk (hi)) | ((with_reducible refine gate_callee (f := 60) rfl ?_); refine goesL_ (some 50) rfl rfl Tryz.func60 (by kernel_rfl) rfl #[.pointer (some ⟨g543, 0, none⟩), .string x6_6] rfl qV ?_; (with_reducible refine (spec_l01Bad.calls kj6 g543 t540 t569 t570 x6_6 t571 t572 t573 w _ ?side1 ?side2 A36.out).mono ?_); (case side1 => exact qI HI543.out); (case side2 => exact qS HB.out); rintro e w38 ⟨rfl, hi, hb, hk⟩; refine ⟨_, rfl, ?_⟩; replace HB := Aside0.mk (hb); replace HI543 := Aside0.mk (hi)))
    go_ret2
    exact ⟨qE, qS HB.out⟩

   rw [if_pos c28] at H
   have c28b0 : decide (60 < (x6_6.size : Int)) = true := decide_eq_true c28
   have c28b1 : decide (60 < x6_6.size) = true := decide_eq_true (by omega)
   clear c28
   by_cases c29 : 0 ≤ 60
   rotate_left
   ·
    rw [if_neg c29] at H
    exact absurd H (by simp)
   rw [if_pos c29] at H
   have c29b0 := eq_true c29
   have c29b1 : decide (0 ≤ 60) = true := decide_eq_true c29
   clear c29
   by_cases c30 : 60 ≤ (x6_6.size : Int)
   rotate_left
   ·
    rw [if_neg c30] at H
    exact absurd H (by simp)
   rw [if_pos c30] at H
   have c30b0 := eq_true c30
   have c30b1 : decide (60 ≤ (x6_6.size : Int)) = true := decide_eq_true c30
   clear c30
   replace H := qN H
   obtain ⟨⟨t562, t563, t564⟩, A31, H⟩ := H
   try dsimp only at H
   replace H := qN H
   obtain ⟨⟨t565, t566, t567⟩, A32, H⟩ := H
   try dsimp only at H
   simp only [Option.some.injEq, Prod.mk.injEq] at H
   obtain ⟨rfl, rfl⟩ := H
   go_wp2_with (first | ((with_reducible refine gate_callee (f := 60) rfl ?_); refine goesL_ (some 47) rfl rfl Tryz.func60 (by kernel_rfl) rfl #[.pointer (some ⟨g543, 0, none⟩), .string t544] rfl qV ?_; (with_reducible refine (spec_l01Bad.calls kj6 g543 t540 x544001_6 x544002_6 t544 t562 t563 t564 w _ ?side1 ?side2 A31.out).mono ?_); (case side1 => exact qI HI543.out); (case side2 => exact qS HB.out); rintro e w33 ⟨rfl, hi, hb, hk⟩; refine ⟨_, rfl, ?_⟩; replace HB := Aside0.mk (hb); replace HI543 := Aside0.mk (hi)) | ((with_reducible refine gate_callee (f := 60) rfl ?_); refine goesL_ (some 50) rfl rfl Tryz.func60 (by kernel_rfl) rfl #[.pointer (some ⟨g543, 0, none⟩), .string (x6_6.extract 0 60)] rfl qV ?_; (with_reducible refine (spec_l01Bad.calls kj6 g543 t540 t563 t564 (x6_6.extract 0 60) t565 t566 t567 w _ ?side1 ?side2 A32.out).mono ?_); (case side1 => exact qI HI543.out); (case side2 => exact qS HB.out); rintro e w34 ⟨rfl, hi, hb, hk⟩; refine ⟨_, rfl, ?_⟩; replace HB := Aside0.mk (hb); replace HI543 := Aside0.mk (hi)))
   go_ret2
   exact ⟨qE, qS HB.out⟩
end Go.Proofs.YtfehmbifcoajeaaGreat.PF

namespace Go.Proofs.YtfehmbifcoajeaaGreat.PF
open Go.RowKit Go.Proofs.YtfehmbifcoajeaaGreatW.PrintWords Go.Proofs.YtfehmbifcoajeaaGreatW.PrintLast Go.Proofs.YtfehmbifcoajeaaGreatW.PrintMore
attribute [local go_sem] max2_int min2_int max_two min_two max_three min_three max_four min_four   -- for this text's walks alone
set_option linter.unusedVariables false
set_option linter.unusedSimpArgs false

/-! ### spec_DrawLongestCommonFactor: function 23 -/
def spec_DrawLongestCommonFactor.f (k : Nat) (l0 : List Int) : Option (ByteArray × ByteArray) := (spec_l01Two.f k l0).bind fun bt574 => (some (bt574.1, bt574.2))
theorem spec_DrawLongestCommonFactor.mono : ∀ a0 k, LeO (spec_DrawLongestCommonFactor.f k a0) (spec_DrawLongestCommonFactor.f (k + 1) a0) := by
 intro a0 k
 unfold spec_DrawLongestCommonFactor.f
 with_reducible repeat' first
   | exact spec_l01Two.mono _ _
   | exact LeO.refl _
   | exact LeO.none _
   | refine LeO.ite ?_ ?_
   | refine LeO.bind ?_ (fun _ => ?_)
set_option maxHeartbeats 8000000 in
set_option maxRecDepth 100000 in
theorem spec_DrawLongestCommonFactor.calls (k : Nat) (A0 : Option Addr) (c0 : Nat) (l0 : List Int) (r1 : ByteArray) (r2 : ByteArray) (w : World) (hr0 : Kd.C (Kd.int .u8) w A0 l0.length l0) (hc0 : l0.length ≤ c0) (h : spec_DrawLongestCommonFactor.f k l0 = some (r1, r2)) :
  Calls Tryz.prog 23 #[.slice A0 l0.length c0] w fun e w' => e = .returned (.tuple #[.string r1, .string r2]) ∧ Below w.heap.size w w' := by
 have HR0 := Aside0.mk hr0
 have HC0 := Aside0.mk hc0
 clear hr0 hc0
 have HB := Aside0.mk (Below.refl w.heap.size w)
 have H : ((spec_l01Two.f k l0).bind fun bt574 => (some (bt574.1, bt574.2))) = some (r1, r2) := h
 clear h
 replace H := qN H
 obtain ⟨⟨t574, t575⟩, A2, H⟩ := H
 try dsimp only at H
 simp only [Option.some.injEq, Prod.mk.injEq] at H
 obtain ⟨rfl, rfl⟩ := H
 go_enter Tryz.func23, Tryz.ntmps23
 go_wp2_with (first | ((with_reducible refine gate_callee (f := 52) rfl ?_); refine goesL_ (some 8) rfl rfl Tryz.func52 (by kernel_rfl) rfl #[.slice A0 l0.length c0] rfl qV ?_; (with_reducible refine (spec_l01Two.calls k _ _ l0 t574 t575 _ ?side1 ?side2 A2.out).mono ?_); (case side1 => exact qC HR0.out); (case side2 => exact HC0.out); rintro e w3 ⟨rfl, hb⟩; refine ⟨_, rfl, ?_⟩; replace HB := Aside0.mk (below_step (qB HB.out) hb)))
 go_ret2
 exact ⟨qE, qB HB.out⟩

end Go.Proofs.YtfehmbifcoajeaaGreat.PF

namespace Go.Proofs.YtfehmbifcoajeaaGreat.PF
open Go.RowKit Go.Proofs.YtfehmbifcoajeaaGreatW.PrintWords Go.Proofs.YtfehmbifcoajeaaGreatW.PrintLast Go.Proofs.YtfehmbifcoajeaaGreatW.PrintMore
attribute [local go_sem] max2_int min2_int max_two min_two max_three min_three max_four min_four   -- for this text's walks alone
set_option linter.unusedVariables false
set_option linter.unusedSimpArgs false

/-! ### spec_LongestCommonFactor: function 25 -/
mutual
def spec_LongestCommonFactor.j0 : Nat → ByteArray → ByteArray → Bool → Option (ByteArray × Int)
 | 0, _, _, _ => none
 | k + 1, x0, x1, x16 => if x16 = true then (some ((⟨#[]⟩ : ByteArray), 1)) else (spec_LongestCommonFactor.l0 k x0 x1 (mn (x0.size : Int) (x1.size : Int)))
def spec_LongestCommonFactor.l0 : Nat → ByteArray → ByteArray → Int → Option (ByteArray × Int)
 | 0, _, _, _ => none
 | k + 1, x0, x1, x6 => if x6 > 0 then ((spec_l01Factors.f k x0 x6).bind fun t587 => (spec_LongestCommonFactor.l1 k x0 x1 x6 t587 0)) else (some ((⟨#[]⟩ : ByteArray), 0))
def spec_LongestCommonFactor.l1 : Nat → ByteArray → ByteArray → Int → List ByteArray → Int → Option (ByteArray × Int)
 | 0, _, _, _, _, _ => none
 | k + 1, x0, x1, x6, x7, x8 => if x8 < (x7.length : Int) then (if 0 ≤ x8 then ((spec_l01Places.f k x1 (rdOf ByteArray.empty x7 x8)).bind fun t591 => (if (t591.length : Int) > 0 then (some (rdOf ByteArray.empty x7 x8, 0)) else (spec_LongestCommonFactor.l1 k x0 x1 x6 x7 (wrap64 (x8 + 1))))) else (none)) else (spec_LongestCommonFactor.l0 k x0 x1 (wrap64 (x6 - 1)))
end
def spec_LongestCommonFactor.f (k : Nat) (a0 : ByteArray) (a1 : ByteArray) : Option (ByteArray × Int) := (spec_l01Is.f k a0).bind fun t585 => (if t585 = true then ((spec_l01Is.f k a1).bind fun t586 => (spec_LongestCommonFactor.j0 k a0 a1 (!t586))) else (spec_LongestCommonFactor.j0 k a0 a1 true))
theorem spec_LongestCommonFactor.mono_l : ∀ k, (∀ y0 y1 y2, LeO (spec_LongestCommonFactor.j0 k y0 y1 y2) (spec_LongestCommonFactor.j0 (k + 1) y0 y1 y2)) ∧ (∀ y0 y1 y2, LeO (spec_LongestCommonFactor.l0 k y0 y1 y2) (spec_LongestCommonFactor.l0 (k + 1) y0 y1 y2)) ∧ (∀ y0 y1 y2 y3 y4, LeO (spec_LongestCommonFactor.l1 k y0 y1 y2 y3 y4) (spec_LongestCommonFactor.l1 (k + 1) y0 y1 y2 y3 y4))
 | 0 => ⟨fun _ _ _ r h => by simp [spec_LongestCommonFactor.j0] at h, fun _ _ _ r h => by simp [spec_LongestCommonFactor.l0] at h, fun _ _ _ _ _ r h => by simp [spec_LongestCommonFactor.l1] at h⟩
 | k + 1 => by
  obtain ⟨ih0, ih1, ih2⟩ := spec_LongestCommonFactor.mono_l k
  refine ⟨?_, ?_, ?_⟩
  all_goals intros
  all_goals first | unfold spec_LongestCommonFactor.j0 | unfold spec_LongestCommonFactor.l0 | unfold spec_LongestCommonFactor.l1
  all_goals with_reducible repeat' first
  | exact ih0 _ _ _
  | exact ih1 _ _ _
  | exact ih2 _ _ _ _ _
  | exact spec_l01Factors.mono _ _ _
  | exact spec_l01Is.mono _ _
  | exact spec_l01Places.mono _ _ _
  | exact LeO.refl _
  | exact LeO.none _
  | refine LeO.ite ?_ ?_
  | refine LeO.bind ?_ (fun _ => ?_)
theorem spec_LongestCommonFactor.mono : ∀ a0 a1 k, LeO (spec_LongestCommonFactor.f k a0 a1) (spec_LongestCommonFactor.f (k + 1) a0 a1) := by
 intro a0 a1 k
 obtain ⟨ih0, ih1, ih2⟩ := spec_LongestCommonFactor.mono_l k
 unfold spec_LongestCommonFactor.f
 with_reducible repeat' first
   | exact ih0 _ _ _
   | exact ih1 _ _ _
   | exact ih2 _ _ _ _ _
   | exact spec_l01Factors.mono _ _ _
   | exact spec_l01Is.mono _ _
   | exact spec_l01Places.mono _ _ _
   | exact LeO.refl _
   | exact LeO.none _
   | refine LeO.ite ?_ ?_
   | refine LeO.bind ?_ (fun _ => ?_)
set_option maxHeartbeats 8000000 in
set_option maxRecDepth 100000 in
theorem spec_LongestCommonFactor.calls (k : Nat) (a0 : ByteArray) (a1 : ByteArray) (r1 : ByteArray) (r2 : Int) (w : World) (h : spec_LongestCommonFactor.f k a0 a1 = some (r1, r2)) :
  Calls Tryz.prog 25 #[.string a0, .string a1] w fun e w' => e = .returned (.tuple #[.string r1, .int .i64 r2]) ∧ Below w.heap.size w w' := by
 have HB := Aside0.mk (Below.refl w.heap.size w)
 have H : ((spec_l01Is.f k a0).bind fun t585 => (if t585 = true then ((spec_l01Is.f k a1).bind fun t586 => (spec_LongestCommonFactor.j0 k a0 a1 (!t586))) else (spec_LongestCommonFactor.j0 k a0 a1 true))) = some (r1, r2) := h
 clear h
 have HC3 := Aside0.mk H
 clear H
 go_enter Tryz.func25, Tryz.ntmps25
 go_upto_region 1 with (fail)
 go_cut [16] (fun v16 wc => ∃ (kq : Nat) (x16_2 : Bool), v16 = .bool x16_2 ∧ Aside0 (spec_LongestCommonFactor.j0 kq a0 a1 x16_2 = some (r1, r2)) ∧ Aside0 (kq ≤ k) ∧ Aside0 (Below w.heap.size w wc))
 case first =>
  have H := HC3.out
  clear HC3
  replace H := qN H
  obtain ⟨t585, A4, H⟩ := H
  try dsimp only at H
  by_cases c5 : t585 = true
  rotate_left
  ·
   replace c5 := Bool.eq_false_iff.mpr c5
   subst c5
   rw [if_neg (show ¬ (false = true) by decide)] at H
   have H' := Aside0.mk H
   clear H
   go_wp2_with (first | ((with_reducible refine gate_callee (f := 54) rfl ?_); refine goesL_ (some 10) rfl rfl Tryz.func54 (by kernel_rfl) rfl #[.string a0] rfl qV ?_; (with_reducible refine (spec_l01Is.calls k a0 false _ A4.out).mono ?_); rintro e w' ⟨rfl, ⟨nd, rfl⟩⟩; refine ⟨_, rfl, ?_⟩))
   go_meet
   case rel => exact ⟨_, (true), qF, H', ⟨by first | omega | exact Nat.le_refl _⟩, ⟨qB HB.out⟩⟩
  subst c5
  rw [if_pos rfl] at H
  replace H := qN H
  obtain ⟨t586, A6, H⟩ := H
  try dsimp only at H
  have H' := Aside0.mk H
  clear H
  go_wp2_with (first | ((with_reducible refine gate_callee (f := 54) rfl ?_); refine goesL_ (some 10) rfl rfl Tryz.func54 (by kernel_rfl) rfl #[.string a0] rfl qV ?_; (with_reducible refine (spec_l01Is.calls k a0 true _ A4.out).mono ?_); rintro e w' ⟨rfl, ⟨nd, rfl⟩⟩; refine ⟨_, rfl, ?_⟩) | (go_at_call 54; (with_reducible refine (spec_l01Is.calls k a1 t586 _ A6.out).mono ?_); rintro e w' ⟨rfl, ⟨nd, rfl⟩⟩))
  go_meet
  case rel => exact ⟨_, (!t586), qF, H', ⟨by first | omega | exact Nat.le_refl _⟩, ⟨qB HB.out⟩⟩
 case rest =>
  clear HC3
  obtain ⟨kq, x16_2, rfl, HA, HJ2, HB⟩ := hcut
  cases kq with
  | zero => exact absurd HA.out (by simp [spec_LongestCommonFactor.j0])
  | succ kj2 =>
   have H := HA.out
   clear HA
   simp only [spec_LongestCommonFactor.j0] at H
   by_cases c7 : x16_2 = true
   ·
    subst c7
    rw [if_pos rfl] at H
    simp only [Option.some.injEq, Prod.mk.injEq] at H
    obtain ⟨rfl, rfl⟩ := H
    go_wp2
    go_ret2
    exact ⟨qE, qB HB.out⟩
   replace c7 := Bool.eq_false_iff.mpr c7
   subst c7
   rw [if_neg (show ¬ (false = true) by decide)] at H
   obtain ⟨ji8, hji8⟩ : ∃ j_ : Int, (mn (a0.size : Int) (a1.size : Int)) = j_ := ⟨_, rfl⟩
   replace H : (spec_LongestCommonFactor.l0 kj2 a0 a1 ji8) = some (r1, r2) := by first | (rw [hji8] at H; exact H) | (simp only [hji8] at H ⊢; exact H)
   have hji8_ : (if (a1.size : Int) < (a0.size : Int) then (a1.size : Int) else (a0.size : Int)) = ji8 := hji8
   have hji8_n : (if a1.size < a0.size then (a1.size : Int) else (a0.size : Int)) = ji8 := by rw [← hji8_]; simp only [Int.ofNat_lt]
   have H' := Aside0.mk H
   clear H
   go_wp2
   go_loopg [6] kj2 (fun kq v6 w' => ∃ (x6_2 : Int), v6 = .int .i64 x6_2 ∧ Aside0 (spec_LongestCommonFactor.l0 kq a0 a1 x6_2 = some (r1, r2)) ∧ Aside0 (kq ≤ kj2) ∧ Aside0 (Below w.heap.size w w'))
   case atStart => exact ⟨(ji8), (by first | rfl | (simp; done) | (simp only [← hji8] <;> (first | rfl | simp)) | (simp [*]; done)), H', ⟨Nat.le_refl _⟩, ⟨qB HB.out⟩⟩
   case round =>
    clear H'
    obtain ⟨x6_2, rfl, HA, HK2, HB⟩ := hrel
    cases gk with
    | zero => exact absurd HA.out (by simp [spec_LongestCommonFactor.l0])
    | succ k2 =>
     have H := HA.out
     clear HA
     simp only [spec_LongestCommonFactor.l0] at H
     by_cases c9 : x6_2 > 0
     rotate_left
     ·
      rw [if_neg c9] at H
      have c9b0 : decide (0 < x6_2) = false := decide_eq_false c9
      clear c9
      simp only [Option.some.injEq, Prod.mk.injEq] at H
      obtain ⟨rfl, rfl⟩ := H
      go_wp2
      go_ret2
      exact ⟨by first | rfl | (simp [errW_none, errW_some] <;> rfl) | (simp only [← hji8]; first | rfl | (simp [errW_none, errW_some] <;> rfl)) | (simp [*, errW_none, errW_some] <;> rfl), qB HB.out⟩

     rw [if_pos c9] at H
     have c9b0 : decide (0 < x6_2) = true := decide_eq_true c9
     clear c9
     replace H := qN H
     obtain ⟨t587, A10, H⟩ := H
     try dsimp only at H
     have H' := Aside0.mk H
     clear H
     go_wp2_with (first | ((with_reducible refine gate_callee (f := 44) rfl ?_); refine goesL_ (some 28) rfl rfl Tryz.func44 (by kernel_rfl) rfl #[.string a0, .int .i64 x6_2] rfl qV ?_; (with_reducible refine (spec_l01Factors.calls k2 a0 x6_2 t587 _ A10.out).mono ?_); rintro e w11 ⟨v588, rfl, ho0, hb⟩; refine ⟨_, rfl, ?_⟩; have HO589 := Aside0.mk (Kd.R_lower ho0 (below_size (qB HB.out))); replace HB := Aside0.mk (below_step (qB HB.out) hb)))
     go_loopg [8] k2 (fun kq v8 w' => ∃ (x8_3 : Int), v8 = .int .i64 x8_3 ∧ Aside0 (spec_LongestCommonFactor.l1 kq a0 a1 x6_2 t587 x8_3 = some (r1, r2)) ∧ Aside0 (kq ≤ k2) ∧ Aside0 (Kd.R Kd.string 9 w' w.heap.size (fun _ => True) v588 t587) ∧ Aside0 (Below w.heap.size w w'))
     case atStart => exact ⟨(0), qF, H', ⟨Nat.le_refl _⟩, ⟨qR HO589.out⟩, ⟨qB HB.out⟩⟩
     case round =>
      clear H'
      obtain ⟨x8_3, rfl, HA, HK3, HO_7, HB⟩ := hrel
      cases gk with
      | zero => exact absurd HA.out (by simp [spec_LongestCommonFactor.l1])
      | succ k3 =>
       have H := HA.out
       clear HA
       simp only [spec_LongestCommonFactor.l1] at H
       by_cases c12 : x8_3 < (t587.length : Int)
       rotate_left
       ·
        rw [if_neg c12] at H
        have c12b0 : decide (x8_3 < (t587.length : Int)) = false := decide_eq_false c12
        clear c12
        have H' := Aside0.mk H
        clear H
        obtain ⟨Ao22, co22, eo22⟩ := Kd.R_slice HO_7.out
        subst eo22
        go_wp2
        go_roundg k3
        case measure => have := HJ2.out; have := HK2.out; have := HK3.out; omega
        case rel => exact ⟨(wrap64 (x6_2 - 1)), qF, H', ⟨by have := HJ2.out; have := HK2.out; have := HK3.out; omega⟩, ⟨qB HB.out⟩⟩
       rw [if_pos c12] at H
       have c12b0 : decide (x8_3 < (t587.length : Int)) = true := decide_eq_true c12
       clear c12
       by_cases c13 : 0 ≤ x8_3
       rotate_left
       ·
        rw [if_neg c13] at H
        exact absurd H (by simp)
       rw [if_pos c13] at H
       have c13b0 : decide (0 ≤ x8_3) = true := decide_eq_true c13
       clear c13
       replace H := qN H
       obtain ⟨t591, A14, H⟩ := H
       try dsimp only at H
       by_cases c15 : (t591.length : Int) > 0
       ·
        rw [if_pos c15] at H
        have c15b0 : decide (0 < (t591.length : Int)) = true := decide_eq_true c15
        have c15b1 : decide (0 < t591.length) = true := decide_eq_true (by omega)
        clear c15
        simp only [Option.some.injEq, Prod.mk.injEq] at H
        obtain ⟨rfl, rfl⟩ := H
        obtain ⟨Ao16, co16, eo16⟩ := Kd.R_slice HO_7.out
        subst eo16
        have p590 : 0 ≤ (x8_3 : Int) := of_decide_eq_true (by first | (with_reducible assumption) | assumption)
        have q590 : x8_3 < (t587.length : Int) := of_decide_eq_true (by first | (with_reducible assumption) | assumption)
        obtain ⟨ad590, e590, hx590_0⟩ := Kd.at_string (Kd.R_reads' HO_7.out).2.2 x8_3 p590 q590
        cases e590
        replace p590 := eq_true p590
        replace q590 := eq_true q590
        go_wp2_with (first | ((with_reducible refine gate_callee (f := 30) rfl ?_); refine goesL_ (some 40) rfl rfl Tryz.func30 (by kernel_rfl) rfl #[.string a1, .string (rdOf ByteArray.empty t587 x8_3)] rfl qV ?_; (with_reducible refine (spec_l01Places.calls k3 a1 (rdOf ByteArray.empty t587 x8_3) t591 _ A14.out).mono ?_); rintro e w17 ⟨v592, rfl, ho0, hb⟩; refine ⟨_, rfl, ?_⟩; replace HO_7 := Aside0.mk (Kd.R_below (qR HO_7.out) hb); have HO593 := Aside0.mk (Kd.R_lower ho0 (below_size (qB HB.out))); replace HB := Aside0.mk (below_step (qB HB.out) hb); obtain ⟨Ao18, co18, eo18⟩ := Kd.R_slice HO593.out; subst eo18; have p594 : 0 ≤ (x8_3 : Int) := of_decide_eq_true (by first | (with_reducible assumption) | assumption); have q594 : x8_3 < (t587.length : Int) := of_decide_eq_true (by first | (with_reducible assumption) | assumption); obtain ⟨ad594, e594, hx594_0⟩ := Kd.at_string (Kd.R_reads' HO_7.out).2.2 x8_3 p594 q594; obtain rfl : ad590 = ad594 := (by injection e594); replace p594 := eq_true p594; replace q594 := eq_true q594))
        go_ret2
        exact ⟨by first | rfl | (simp [errW_none, errW_some] <;> rfl) | (simp only [← hji8]; first | rfl | (simp [errW_none, errW_some] <;> rfl)) | (simp [*, errW_none, errW_some] <;> rfl), qB HB.out⟩
       rw [if_neg c15] at H
       have c15b0 : decide (0 < (t591.length : Int)) = false := decide_eq_false c15
       have c15b1 : decide (0 < t591.length) = false := decide_eq_false (by omega)
       clear c15
       have H' := Aside0.mk H
       clear H
       obtain ⟨Ao19, co19, eo19⟩ := Kd.R_slice HO_7.out
       subst eo19
       have p590 : 0 ≤ (x8_3 : Int) := of_decide_eq_true (by first | (with_reducible assumption) | assumption)
       have q590 : x8_3 < (t587.length : Int) := of_decide_eq_true (by first | (with_reducible assumption) | assumption)
       obtain ⟨ad590, e590, hx590_0⟩ := Kd.at_string (Kd.R_reads' HO_7.out).2.2 x8_3 p590 q590
       cases e590
       replace p590 := eq_true p590
       replace q590 := eq_true q590
       go_wp2_with (first | ((with_reducible refine gate_callee (f := 30) rfl ?_); refine goesL_ (some 40) rfl rfl Tryz.func30 (by kernel_rfl) rfl #[.string a1, .string (rdOf ByteArray.empty t587 x8_3)] rfl qV ?_; (with_reducible refine (spec_l01Places.calls k3 a1 (rdOf ByteArray.empty t587 x8_3) t591 _ A14.out).mono ?_); rintro e w20 ⟨v592, rfl, ho0, hb⟩; refine ⟨_, rfl, ?_⟩; replace HO_7 := Aside0.mk (Kd.R_below (qR HO_7.out) hb); have HO593 := Aside0.mk (Kd.R_lower ho0 (below_size (qB HB.out))); replace HB := Aside0.mk (below_step (qB HB.out) hb); obtain ⟨Ao21, co21, eo21⟩ := Kd.R_slice HO593.out; subst eo21))
       go_roundg k3
       case measure => have := HJ2.out; have := HK2.out; have := HK3.out; omega
       case rel => exact ⟨(wrap64 (x8_3 + 1)), qF, H', ⟨by have := HJ2.out; have := HK2.out; have := HK3.out; omega⟩, ⟨qR HO_7.out⟩, ⟨qB HB.out⟩⟩
end Go.Proofs.YtfehmbifcoajeaaGreat.PF
