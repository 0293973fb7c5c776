-- an own text, written by a program of this place (wip/tools)
import Derived.Test.YtjmcffejpgblfaaPFx0
import Derived.Test.YtjmcffejpgblfaaPFx1
import Derived.Test.YtjmcffejpgblfaaPFx2
import Derived.Test.YtjmcffejpgblfaaPFx3
import Derived.Test.YtjmcffejpgblfaaPFx4
namespace Go.Proofs.Ytjmcffejpgblfaa.PF
open Go.RowKit Go.Proofs.YtjmcffejpgblfaaW.PrintWords Go.Proofs.YtjmcffejpgblfaaW.PrintLast Go.Proofs.YtjmcffejpgblfaaW.PrintMore
attribute [local go_sem] max2_int min2_int max_two min_two max_three min_three max_four min_four   -- for this text's walks alone
set_option linter.unusedVariables false
set_option linter.unusedSimpArgs false

/-! ### spec_DrawCountClosed: function 19 -/
def spec_DrawCountClosed.f (k : Nat) (l0 : List Int) : Option (ByteArray) := (spec_l01From.f k l0).bind fun bt437 => ((spec_l01Next.f bt437.1 bt437.2.1 bt437.2.2 22).bind fun bt441 => ((spec_l01Pick.f bt437.1 bt441.2.1 bt441.2.2 (([2, 2, 3] : List Int))).bind fun bt447 => ((spec_l01DrawOf.f k bt437.1 bt447.2.1 bt447.2.2 bt441.1 bt447.1).bind fun bt450 => ((spec_l01Bad.f k bt437.1 bt450.2.1 bt450.2.2 bt450.1).bind fun bt453 => (some bt453.1)))))
theorem spec_DrawCountClosed.mono : ∀ a0 k, LeO (spec_DrawCountClosed.f k a0) (spec_DrawCountClosed.f (k + 1) a0) := by
 intro a0 k
 unfold spec_DrawCountClosed.f
 with_reducible repeat' first
   | exact spec_l01Bad.mono _ _ _ _ _
   | exact spec_l01DrawOf.mono _ _ _ _ _ _
   | exact spec_l01From.mono _ _
   | exact LeO.refl _
   | exact LeO.none _
   | refine LeO.ite ?_ ?_
   | refine LeO.bind ?_ (fun _ => ?_)
set_option maxHeartbeats 8000000 in
set_option maxRecDepth 100000 in
theorem spec_DrawCountClosed.calls (k : Nat) (A0 : Option Addr) (c0 : Nat) (l0 : List Int) (r : ByteArray) (w : World) (hr0 : Kd.C (Kd.int .u8) w A0 l0.length l0) (hc0 : l0.length ≤ c0) (h : spec_DrawCountClosed.f k l0 = some r) :
  Calls Try.prog 19 #[.slice A0 l0.length c0] w fun e w' => e = .returned (.string r) ∧ Below w.heap.size w w' := by
 have HR0 := Aside0.mk hr0
 have HC0 := Aside0.mk hc0
 clear hr0 hc0
 have HB := Aside0.mk (Below.refl w.heap.size w)
 have H : ((spec_l01From.f k l0).bind fun bt437 => ((spec_l01Next.f bt437.1 bt437.2.1 bt437.2.2 22).bind fun bt441 => ((spec_l01Pick.f bt437.1 bt441.2.1 bt441.2.2 (([2, 2, 3] : List Int))).bind fun bt447 => ((spec_l01DrawOf.f k bt437.1 bt447.2.1 bt447.2.2 bt441.1 bt447.1).bind fun bt450 => ((spec_l01Bad.f k bt437.1 bt450.2.1 bt450.2.2 bt450.1).bind fun bt453 => (some bt453.1)))))) = some r := h
 clear h
 replace H := qN H
 obtain ⟨⟨t437, t438, t439⟩, A2, H⟩ := H
 try dsimp only at H
 replace H := qN H
 obtain ⟨⟨t441, t442, t443⟩, A3, H⟩ := H
 try dsimp only at H
 obtain ⟨y444, hy444⟩ : ∃ y_ : List Int, y_ = (([2, 2, 3] : List Int)) := ⟨_, rfl⟩
 replace H : ((spec_l01Pick.f t437 t442 t443 y444).bind fun bt447 => ((spec_l01DrawOf.f k t437 bt447.2.1 bt447.2.2 t441 bt447.1).bind fun bt450 => ((spec_l01Bad.f k t437 bt450.2.1 bt450.2.2 bt450.1).bind fun bt453 => (some bt453.1)))) = some r := by first | (rw [hy444]; with_reducible exact H) | (have H2_ := (Option.bind_some _ _).symm.trans H; rw [hy444]; with_reducible exact H2_) | (have H2_ := (Option.bind_some _ _).symm.trans H; with_reducible exact H2_) | with_reducible exact H | (rw [hy444]; exact H) | exact H
 have Ny444 := Aside0.mk hy444
 clear hy444
 replace H := qN H
 obtain ⟨⟨t447, t448, t449⟩, A4, H⟩ := H
 try dsimp only at H
 replace H := qN H
 obtain ⟨⟨t450, t451, t452⟩, A5, H⟩ := H
 try dsimp only at H
 replace H := qN H
 obtain ⟨⟨t453, t454, t455⟩, A6, H⟩ := H
 try dsimp only at H
 obtain rfl := Option.some.inj H
 go_enter Try.func19, Try.ntmps19
 go_wp2_with (first | ((with_reducible refine gate_callee (f := 26) rfl ?_); refine goesL_ (some 5) rfl rfl Try.func26 (by kernel_rfl) rfl #[.slice A0 l0.length c0] rfl qV ?_; (with_reducible refine (spec_l01From.calls k _ _ l0 t437 t438 t439 w _ ?side1 ?side2 ?side3 A2.out).mono ?_); (case side1 => exact qB HB.out); (case side2 => exact HR0.out); (case side3 => exact HC0.out); rintro e w7 ⟨g440, rfl, hi, hb, hb2⟩; refine ⟨_, rfl, ?_⟩; replace HB := Aside0.mk (hb); have HI440 := Aside0.mk (hi)) | ((with_reducible refine gate_callee (f := 36) rfl ?_); refine goesL_ (some 9) rfl rfl Try.func36 (by kernel_rfl) rfl #[.pointer (some ⟨g440, 0, none⟩), .int .i64 22] rfl qV ?_; (with_reducible refine (spec_l01Next.calls g440 t437 t438 t439 22 t441 t442 t443 w _ ?side1 ?side2 A3.out).mono ?_); (case side1 => exact qI HI440.out); (case side2 => exact qS HB.out); rintro e w8 ⟨rfl, hi, hb, hk⟩; refine ⟨_, rfl, ?_⟩; replace HB := Aside0.mk (hb); replace HI440 := Aside0.mk (hi)) | ((with_reducible refine gate_dst (N := 11) rfl ?_); refine Kd.R_lit (Kd.int .i64) _ 2 ?hg (N := 11) ?hd (xs := ([2, 2, 3] : List Int)) (inner := [.int .i64 2, .int .i64 2, .int .i64 3]) (ok := fun _ => True) (okp := fun _ => True) ?hr ?hp (fun _ hk => hk) trivial (Below.refl _ _) (Nat.le_refl _) (by simp) ?_; (case hd => rfl); (case hg => rfl); (case hr => first | (go_simp; done) | (go_simp; rfl)); (case hp => exact (Reps.one (show Kd.M (Kd.int .i64) _ _ _ 2 [.int .i64 2] from rfl) (Reps.one (show Kd.M (Kd.int .i64) _ _ _ 2 [.int .i64 2] from rfl) (Reps.one (show Kd.M (Kd.int .i64) _ _ _ 3 [.int .i64 3] from rfl) (Reps.none _ _))))); intro v445 w9 ho10 hb hg_ hnew_; clear hg_ hnew_; (first | rw [← Ny444.out] at ho10 | (simp only [Int.reduceToNat] at ho10; rw [← Ny444.out] at ho10)); have HO446 := Aside0.mk (Kd.R_lower ho10 (below_size (qS HB.out))); replace HI440 := Aside0.mk (IsS57.below (qI HI440.out) hb); replace HB := Aside0.mk (below_step (qS HB.out) hb); clear hb ho10; obtain ⟨Ao11, co11, eo11⟩ := Kd.R_slice HO446.out; subst eo11) | ((with_reducible refine gate_callee (f := 37) rfl ?_); refine goesL_ (some 12) rfl rfl Try.func37 (by kernel_rfl) rfl #[.pointer (some ⟨g440, 0, none⟩), .slice Ao11 y444.length co11] rfl qV ?_; (with_reducible refine (spec_l01Pick.calls g440 t437 t442 t443 _ _ y444 t447 t448 t449 w _ ?side1 ?side2 ?side3 ?side4 ?side5 A4.out).mono ?_); (case side1 => exact qI HI440.out); (case side2 => exact qS HB.out); (case side3 => exact qC (Kd.R_reads' HO446.out).2.2); (case side4 => exact (Kd.R_reads' HO446.out).2.1); (case side5 => exact far_slice (IsS57.own_ne HI440.out HO446.out (by decide))); rintro e w12 ⟨rfl, hi, hb, hk⟩; refine ⟨_, rfl, ?_⟩; replace HO446 := Aside0.mk (Kd.R_mono (Kd.R_keep (IsS57.apart (show IsS57 w _ g440 t437 t442 t443 from qI HI440.out) (qR HO446.out) (by decide)) hk (fun _ h => h.2)) (fun _ h => h.1)); replace HB := Aside0.mk (hb); replace HI440 := Aside0.mk (hi)) | ((with_reducible refine gate_callee (f := 35) rfl ?_); refine goesL_ (some 13) rfl rfl Try.func35 (by kernel_rfl) rfl #[.pointer (some ⟨g440, 0, none⟩), .int .i64 t441, .int .i64 t447] rfl qV ?_; (with_reducible refine (spec_l01DrawOf.calls k g440 t437 t448 t449 t441 t447 t450 t451 t452 w _ ?side1 ?side2 A5.out).mono ?_); (case side1 => exact qI HI440.out); (case side2 => exact qS HB.out); rintro e w13 ⟨rfl, hi, hb, hk⟩; refine ⟨_, rfl, ?_⟩; replace HO446 := Aside0.mk (Kd.R_mono (Kd.R_keep (IsS57.apart (show IsS57 w _ g440 t437 t448 t449 from qI HI440.out) (qR HO446.out) (by decide)) hk (fun _ h => h.2)) (fun _ h => h.1)); replace HB := Aside0.mk (hb); replace HI440 := Aside0.mk (hi)) | ((with_reducible refine gate_callee (f := 34) rfl ?_); refine goesL_ (some 14) rfl rfl Try.func34 (by kernel_rfl) rfl #[.pointer (some ⟨g440, 0, none⟩), .string t450] rfl qV ?_; (with_reducible refine (spec_l01Bad.calls k g440 t437 t451 t452 t450 t453 t454 t455 w _ ?side1 ?side2 A6.out).mono ?_); (case side1 => exact qI HI440.out); (case side2 => exact qS HB.out); rintro e w14 ⟨rfl, hi, hb, hk⟩; refine ⟨_, rfl, ?_⟩; replace HO446 := Aside0.mk (Kd.R_mono (Kd.R_keep (IsS57.apart (show IsS57 w _ g440 t437 t451 t452 from qI HI440.out) (qR HO446.out) (by decide)) hk (fun _ h => h.2)) (fun _ h => h.1)); replace HB := Aside0.mk (hb); replace HI440 := Aside0.mk (hi)))
 go_ret
 exact ⟨qE, qS HB.out⟩

end Go.Proofs.Ytjmcffejpgblfaa.PF

namespace Go.Proofs.Ytjmcffejpgblfaa.PF
open Go.RowKit Go.Proofs.YtjmcffejpgblfaaW.PrintWords Go.Proofs.YtjmcffejpgblfaaW.PrintLast Go.Proofs.YtjmcffejpgblfaaW.PrintMore
attribute [local go_sem] max2_int min2_int max_two min_two max_three min_three max_four min_four   -- for this text's walks alone
set_option linter.unusedVariables false
set_option linter.unusedSimpArgs false

/-! ### spec_l01Put: function 42 -/
def spec_l01Put.l0 : Nat → List ByteArray → ByteArray → Int → Option (List ByteArray)
 | 0, _, _, _ => none
 | k + 1, x0, x1, x5 => if x5 > 0 then (if 0 ≤ (wrap64 (x5 - 1)) then (if (wrap64 (x5 - 1)) < (x0.length : Int) then (if (Op.bytesLess x1.toList ((rdOf ByteArray.empty x0 (wrap64 (x5 - 1))).toList)) = true then (spec_l01Put.l0 k x0 x1 (wrap64 (x5 - 1))) else (if (rdOf ByteArray.empty x0 (wrap64 (x5 - 1))).toList = x1.toList then (some x0) else ((some (([] : List ByteArray) : List ByteArray)).bind fun y475 => (if 0 ≤ x5 then (if x5 ≤ (x0.length : Int) then ((some (x0.take (x5 : Int).toNat : List ByteArray)).bind fun y478 => (if y475.length + y478.length < 8796093022208 then ((some (y475 ++ y478 : List ByteArray)).bind fun y482 => (if y482.length < 8796093022208 then ((some (y482 ++ [x1] : List ByteArray)).bind fun y485 => ((some (x0.drop (x5 : Int).toNat : List ByteArray)).bind fun y488 => (if y485.length + y488.length < 8796093022208 then (some (y485 ++ y488)) else (none)))) else (none))) else (none))) else (none)) else (none))))) else (none)) else (none)) else ((some (([] : List ByteArray) : List ByteArray)).bind fun y495 => (if 0 ≤ x5 then (if x5 ≤ (x0.length : Int) then ((some (x0.take (x5 : Int).toNat : List ByteArray)).bind fun y498 => (if y495.length + y498.length < 8796093022208 then ((some (y495 ++ y498 : List ByteArray)).bind fun y502 => (if y502.length < 8796093022208 then ((some (y502 ++ [x1] : List ByteArray)).bind fun y505 => ((some (x0.drop (x5 : Int).toNat : List ByteArray)).bind fun y508 => (if y505.length + y508.length < 8796093022208 then (some (y505 ++ y508)) else (none)))) else (none))) else (none))) else (none)) else (none)))
def spec_l01Put.f (k : Nat) (l0 : List ByteArray) (a1 : ByteArray) : Option (List ByteArray) := spec_l01Put.l0 k l0 a1 (l0.length : Int)
theorem spec_l01Put.mono_l : ∀ k, (∀ y0 y1 y2, LeO (spec_l01Put.l0 k y0 y1 y2) (spec_l01Put.l0 (k + 1) y0 y1 y2))
 | 0 => fun _ _ _ r h => by simp [spec_l01Put.l0] at h
 | k + 1 => by
  have ih0 := spec_l01Put.mono_l k
  ·
   intro y0 y1 y2
   unfold spec_l01Put.l0
   with_reducible repeat' first
   | exact ih0 _ _ _
   | exact LeO.refl _
   | exact LeO.none _
   | refine LeO.ite ?_ ?_
   | refine LeO.bind ?_ (fun _ => ?_)
theorem spec_l01Put.mono : ∀ a0 a1 k, LeO (spec_l01Put.f k a0 a1) (spec_l01Put.f (k + 1) a0 a1) := by
 intro a0 a1 k
 have ih0 := spec_l01Put.mono_l k
 unfold spec_l01Put.f
 with_reducible repeat' first
   | exact ih0 _ _ _
   | exact LeO.refl _
   | exact LeO.none _
   | refine LeO.ite ?_ ?_
   | refine LeO.bind ?_ (fun _ => ?_)
set_option maxHeartbeats 8000000 in
set_option maxRecDepth 100000 in
theorem spec_l01Put.calls (k : Nat) (P0_ : Nat → Prop) (u9000_ : Value) (l0 : List ByteArray) (a1 : ByteArray) (r : List ByteArray) (w0 w : World) (hB : Below w0.heap.size w0 w) (ho0 : Kd.R Kd.string 9 w w0.heap.size P0_ u9000_ l0) (h : spec_l01Put.f k l0 a1 = some r) :
  Calls Try.prog 42 #[u9000_, .string a1] w fun e w' => ∃ v0_ : Value, e = .returned (v0_) ∧ Kd.R Kd.string 9 w' w0.heap.size (fun k_ => (P0_ k_ ∨ w.heap.size ≤ k_)) v0_ r ∧ Below w0.heap.size w0 w' ∧ Kept w w' (fun k_ => P0_ k_) := by
 have HO0 := Aside0.mk (show Kd.R Kd.string 9 w w0.heap.size (fun k_ => (P0_ k_ ∨ w.heap.size ≤ k_)) u9000_ l0 from Kd.R_mono ho0 (fun k_ hk => (.inl hk)))
 have HK := Aside0.mk (Kept.refl w (fun k_ => P0_ k_))
 have HW0 := Aside0.mk hB.size
 have HB := Aside0.mk hB
 clear hB
 have H : (spec_l01Put.l0 k l0 a1 (l0.length : Int)) = some r := h
 clear h
 have H' := Aside0.mk H
 clear H
 obtain ⟨Ao3, co3, eo3⟩ := Kd.R_slice HO0.out
 subst eo3
 go_enter Try.func42, Try.ntmps42
 go_wp2
 go_loopg [5] k (fun kq v5 w' => ∃ (x5_1 : Int), v5 = .int .i64 x5_1 ∧ Aside0 (spec_l01Put.l0 kq l0 a1 x5_1 = some r) ∧ Aside0 (kq ≤ k) ∧ Aside0 (Kd.R Kd.string 9 w' w0.heap.size (fun k_ => (P0_ k_ ∨ w.heap.size ≤ k_)) (.slice Ao3 l0.length co3) l0) ∧ Aside0 (Kept w w' (fun k_ => P0_ k_)) ∧ Aside0 (Below w0.heap.size w0 w'))
 case atStart => exact ⟨((l0.length : Int)), qF, H', ⟨Nat.le_refl _⟩, ⟨qR HO0.out⟩, ⟨by repeat (first | (with_reducible first | exact HK.out | apply Kept.alloc | apply Kept.drewN | apply Kept.drew) | exact HK.out)⟩, ⟨qB HB.out⟩⟩
 case round =>
  clear H'
  obtain ⟨x5_1, rfl, HA, HK1, HO_0, HK, HB⟩ := hrel
  cases gk with
  | zero => exact absurd HA.out (by simp [spec_l01Put.l0])
  | succ k1 =>
   have H := HA.out
   clear HA
   simp only [spec_l01Put.l0] at H
   by_cases c4 : x5_1 > 0
   rotate_left
   ·
    rw [if_neg c4] at H
    have c4b0 : decide (0 < x5_1) = false := decide_eq_false c4
    clear c4
    obtain ⟨y495, hy495⟩ : ∃ y_ : List ByteArray, y_ = (([] : List ByteArray)) := ⟨_, rfl⟩
    replace H : (if 0 ≤ x5_1 then (if x5_1 ≤ (l0.length : Int) then ((some (l0.take (x5_1 : Int).toNat : List ByteArray)).bind fun y498 => (if y495.length + y498.length < 8796093022208 then ((some (y495 ++ y498 : List ByteArray)).bind fun y502 => (if y502.length < 8796093022208 then ((some (y502 ++ [a1] : List ByteArray)).bind fun y505 => ((some (l0.drop (x5_1 : Int).toNat : List ByteArray)).bind fun y508 => (if y505.length + y508.length < 8796093022208 then (some (y505 ++ y508)) else (none)))) else (none))) else (none))) else (none)) else (none)) = some r := by first | (rw [hy495]; with_reducible exact H) | (have H2_ := (Option.bind_some _ _).symm.trans H; rw [hy495]; with_reducible exact H2_) | (have H2_ := (Option.bind_some _ _).symm.trans H; with_reducible exact H2_) | with_reducible exact H | (rw [hy495]; exact H) | exact H
    have Ny495 := Aside0.mk hy495
    clear hy495
    by_cases c24 : 0 ≤ x5_1
    rotate_left
    ·
     rw [if_neg c24] at H
     exact absurd H (by simp)

    rw [if_pos c24] at H
    have c24b0 := eq_true c24
    have c24b1 : decide (0 ≤ x5_1) = true := decide_eq_true c24
    clear c24
    by_cases c25 : x5_1 ≤ (l0.length : Int)
    rotate_left
    ·
     rw [if_neg c25] at H
     exact absurd H (by simp)
    rw [if_pos c25] at H
    have c25b0 := eq_true c25
    have c25b1 : decide (x5_1 ≤ (l0.length : Int)) = true := decide_eq_true c25
    clear c25
    obtain ⟨y498, hy498⟩ : ∃ y_ : List ByteArray, y_ = (l0.take (x5_1 : Int).toNat) := ⟨_, rfl⟩
    replace H : (if y495.length + y498.length < 8796093022208 then ((some (y495 ++ y498 : List ByteArray)).bind fun y502 => (if y502.length < 8796093022208 then ((some (y502 ++ [a1] : List ByteArray)).bind fun y505 => ((some (l0.drop (x5_1 : Int).toNat : List ByteArray)).bind fun y508 => (if y505.length + y508.length < 8796093022208 then (some (y505 ++ y508)) else (none)))) else (none))) else (none)) = some r := by first | (rw [hy498]; with_reducible exact H) | (have H2_ := (Option.bind_some _ _).symm.trans H; rw [hy498]; with_reducible exact H2_) | (have H2_ := (Option.bind_some _ _).symm.trans H; with_reducible exact H2_) | with_reducible exact H | (rw [hy498]; exact H) | exact H
    have Ny498 := Aside0.mk hy498
    clear hy498
    by_cases c26 : y495.length + y498.length < 8796093022208
    rotate_left
    ·
     rw [if_neg c26] at H
     exact absurd H (by simp)
    rw [if_pos c26] at H
    have LMc26 := Aside0.mk c26
    clear c26
    obtain ⟨y502, hy502⟩ : ∃ y_ : List ByteArray, y_ = (y495 ++ y498) := ⟨_, rfl⟩
    replace H : (if y502.length < 8796093022208 then ((some (y502 ++ [a1] : List ByteArray)).bind fun y505 => ((some (l0.drop (x5_1 : Int).toNat : List ByteArray)).bind fun y508 => (if y505.length + y508.length < 8796093022208 then (some (y505 ++ y508)) else (none)))) else (none)) = some r := by first | (rw [hy502]; with_reducible exact H) | (have H2_ := (Option.bind_some _ _).symm.trans H; rw [hy502]; with_reducible exact H2_) | (have H2_ := (Option.bind_some _ _).symm.trans H; with_reducible exact H2_) | with_reducible exact H | (rw [hy502]; exact H) | exact H
    have Ny502 := Aside0.mk hy502
    clear hy502
    by_cases c27 : y502.length < 8796093022208
    rotate_left
    ·
     rw [if_neg c27] at H
     exact absurd H (by simp)
    rw [if_pos c27] at H
    have LMc27 := Aside0.mk c27
    clear c27
    obtain ⟨y505, hy505⟩ : ∃ y_ : List ByteArray, y_ = (y502 ++ [a1]) := ⟨_, rfl⟩
    replace H : ((some (l0.drop (x5_1 : Int).toNat : List ByteArray)).bind fun y508 => (if y505.length + y508.length < 8796093022208 then (some (y505 ++ y508)) else (none))) = some r := by first | (rw [hy505]; with_reducible exact H) | (have H2_ := (Option.bind_some _ _).symm.trans H; rw [hy505]; with_reducible exact H2_) | (have H2_ := (Option.bind_some _ _).symm.trans H; with_reducible exact H2_) | with_reducible exact H | (rw [hy505]; exact H) | exact H
    have Ny505 := Aside0.mk hy505
    clear hy505
    have c28b0 := eq_true (of_decide_eq_true (by first | (with_reducible assumption) | assumption) : 0 ≤ x5_1)
    have c29b0 := eq_true (of_decide_eq_true (by first | (with_reducible assumption) | assumption) : x5_1 ≤ (l0.length : Int))
    obtain ⟨y508, hy508⟩ : ∃ y_ : List ByteArray, y_ = (l0.drop (x5_1 : Int).toNat) := ⟨_, rfl⟩
    replace H : (if y505.length + y508.length < 8796093022208 then (some (y505 ++ y508)) else (none)) = some r := by first | (rw [hy508]; with_reducible exact H) | (have H2_ := (Option.bind_some _ _).symm.trans H; rw [hy508]; with_reducible exact H2_) | (have H2_ := (Option.bind_some _ _).symm.trans H; with_reducible exact H2_) | with_reducible exact H | (rw [hy508]; exact H) | exact H
    have Ny508 := Aside0.mk hy508
    clear hy508
    by_cases c30 : y505.length + y508.length < 8796093022208
    rotate_left
    ·
     rw [if_neg c30] at H
     exact absurd H (by simp)
    rw [if_pos c30] at H
    have LMc30 := Aside0.mk c30
    clear c30
    obtain ⟨y512, hy512⟩ : ∃ y_ : List ByteArray, y_ = (y505 ++ y508) := ⟨_, rfl⟩
    replace H : (some y512) = some r := by first | (rw [hy512]; with_reducible exact H) | (have H2_ := (Option.bind_some _ _).symm.trans H; rw [hy512]; with_reducible exact H2_) | (have H2_ := (Option.bind_some _ _).symm.trans H; with_reducible exact H2_) | with_reducible exact H | (rw [hy512]; exact H) | exact H
    have Ny512 := Aside0.mk hy512
    clear hy512
    obtain rfl := Option.some.inj H
    go_wp2_with (first | ((with_reducible refine gate_dst (N := 34) rfl ?_); refine Kd.R_lit Kd.string _ 9 ?hg (N := 34) ?hd (xs := ([] : List ByteArray)) (inner := []) (ok := fun _ => True) (okp := fun _ => True) ?hr ?hp (fun _ hk => hk) trivial (Below.refl _ _) (Nat.le_refl _) (by simp) ?_; (case hd => rfl); (case hg => rfl); (case hr => first | (go_simp; done) | (go_simp; rfl)); (case hp => exact (Reps.none _ _)); intro v496 w31 ho32 hb hg_ hnew_; clear hg_ hnew_; (first | rw [← Ny495.out] at ho32 | (simp only [Int.reduceToNat] at ho32; rw [← Ny495.out] at ho32)); have HO497 := Aside0.mk (Kd.R_lower (Kd.R_new' (Kd.R_newM (M := fun k_ => (P0_ k_ ∨ w.heap.size ≤ k_)) ho32 (by first | exact HK.out.1 | exact (show Kept w _ (fun k_ => P0_ k_) from by repeat (first | (with_reducible first | exact HK.out | apply Kept.alloc | apply Kept.drewN | apply Kept.drew) | exact HK.out)).1) (fun k_ h_ => .inr h_)) (Kd.R_lt (qR HO_0.out))) (below_size (qB HB.out))); replace HO_0 := Aside0.mk (Kd.R_elder' (qR HO_0.out) (Kd.R_base ho32) hb); replace HK := Aside0.mk (Kept.below (S := (fun k_ => P0_ k_)) (by repeat (first | (with_reducible first | exact HK.out | apply Kept.alloc | apply Kept.drewN | apply Kept.drew) | exact HK.out)) hb); replace HB := Aside0.mk (below_step (qB HB.out) hb); clear hb ho32; have q33 : (x5_1 : Int) ≤ ((l0.length : Int) : Int) := of_decide_eq_true (by first | (with_reducible assumption) | assumption); obtain ⟨i033, hi033, _, hsz33, _⟩ := info_parts info9; have hroom33 : l0.length ≤ co3 := (Kd.R_reads' HO_0.out).2.1; have hC33 : Kd.C Kd.string _ Ao3 l0.length l0 := (Kd.R_reads' HO_0.out).2.2; have hcut33 := cut_to (P := Try.prog) 25 9 .i64 Try.underlying25 hi033 Ao3 l0.length co3 x5_1 (of_decide_eq_true (by first | (with_reducible assumption) | assumption)) q33 hroom33; have hr33 := Kd.C_take (m := (x5_1 : Int).toNat) hC33 (by omega); have hy33 : y498.length = (x5_1 : Int).toNat := (by rw [Ny498.out, List.length_take]; omega); rw [← Ny498.out] at hr33; rw [← hy33] at hcut33; have HR501 := Aside0.mk hr33; have HC501 := Aside0.mk (show y498.length ≤ co3 from by omega); clear hr33 hC33 hroom33 hi033 hsz33; have KY33 := Aside0.mk hy33; clear hy33; have KL33 := Aside0.mk (show (x5_1 : Int).toNat ≤ l0.length from by omega); replace q33 := eq_true q33) | ((with_reducible refine gate_builtin (b := .append) (xs := #[.tmp 34, .tmp 37]) rfl ?_); at_builtin; refine Kd.R_append_rows Kd.string (w0 := w0) w0.heap.size rfl (.tmp 34) (.tmp 37) 25 9 (.string ⟨#[]⟩) 16 rfl Try.underlying25 info9 rfl (by decide) (by omega) v496 y495 y498 _ _ _ (fun k_ => (P0_ k_ ∨ w.heap.size ≤ k_) ∧ some k_ ≠ (.slice Ao3 l0.length co3 : Value).ownBlock) (fun _ => False) rfl rfl ?aO ?aR (fun _ _ h => h) (fun _ h => h.elim) ?aF ?aB ?aS ?aL ?_; (case aR => repeat (first | exact (by repeat (first | (with_reducible exact HR501.out) | (with_reducible refine Kd.C_alloc ?_ _) | (with_reducible refine Kd.C_drewN ?_ _) | (with_reducible refine Kd.C_drew ?_) | exact HR501.out)) | (with_reducible refine Kd.C_alloc ?_ _) | (with_reducible refine Kd.C_drewN ?_ _) | (with_reducible refine Kd.C_drew ?_))); (case aB => exact (qB HB.out)); (case aF => exact (fun k_ hk => ⟨(.inr (Nat.le_trans (by first | exact HK.out.1 | exact (show Kept w _ (fun k_ => P0_ k_) from by repeat (first | (with_reducible first | exact HK.out | apply Kept.alloc | apply Kept.drewN | apply Kept.drew) | exact HK.out)).1) hk)), Kd.fresh' (Kd.R_lt (qR HO_0.out)) k_ hk⟩)); (case aO => exact (by (with_reducible repeat (first | apply Kd.R_alloc | apply Kd.R_drewN | apply Kd.R_drew)); exact Kd.R_mono HO497.out (fun _ hk => ⟨hk.1.1, hk.2⟩))); (case aS => exact (below_size (qB HB.out))); (case aL => have := LMc26.out; omega); intro v503 w34 ho hb hg hat; rw [← Ny502.out] at ho; replace HB := Aside0.mk (hb); replace HK := Aside0.mk (Kept.of_grown (S := (fun k_ => P0_ k_)) hg (by repeat (first | (with_reducible first | exact HK.out | apply Kept.alloc | apply Kept.drewN | apply Kept.drew) | exact HK.out)) (fun k_ e_ => (HO497.out.1 k_ e_).1.1)); replace HR501 := Aside0.mk ((show Kd.C Kd.string w34 Ao3 y498.length y498 from by rw [Ny498.out]; exact Kd.C_take (m := (x5_1 : Int).toNat) ((Kd.R_reads' (Kd.R_after (ok := (fun k_ => (P0_ k_ ∨ w.heap.size ≤ k_))) (qR HO_0.out) hg hat)).2.2) KL33.out)); replace HO_0 := Aside0.mk (Kd.R_after (ok := (fun k_ => (P0_ k_ ∨ w.heap.size ≤ k_))) (qR HO_0.out) hg hat); have HO504 := Aside0.mk (ho); clear HO497; clear ho hb hg hat) | ((with_reducible refine gate_builtin (b := .append) (xs := #[.tmp 38, .tmp 40]) rfl ?_); at_builtin; refine Kd.R_append Kd.string (w0 := w0) w0.heap.size rfl (.tmp 38) (.tmp 40) 25 9 (.string ⟨#[]⟩) 16 rfl Try.underlying25 info9 rfl (by decide) (by omega) v503 y502 a1 [.string a1] (fun k_ => (P0_ k_ ∨ w.heap.size ≤ k_) ∧ some k_ ≠ (.slice Ao3 l0.length co3 : Value).ownBlock) (fun _ => False) rfl rfl ?aP (fun _ hk => hk.elim) ?aF ?aO ?aB ?aS ?aL ?_; (case aP => exact rfl); (case aB => exact (qB HB.out)); (case aF => exact (fun k_ hk => ⟨(.inr (Nat.le_trans (by first | exact HK.out.1 | exact (show Kept w _ (fun k_ => P0_ k_) from by repeat (first | (with_reducible first | exact HK.out | apply Kept.alloc | apply Kept.drewN | apply Kept.drew) | exact HK.out)).1) hk)), Kd.fresh' (Kd.R_lt (qR HO_0.out)) k_ hk⟩)); (case aO => exact (qR HO504.out)); (case aS => exact (below_size (qB HB.out))); (case aL => have := LMc27.out; omega); intro v506 w35 ho hb hg hat; rw [← Ny505.out] at ho; replace HB := Aside0.mk (hb); replace HK := Aside0.mk (Kept.of_grown (S := (fun k_ => P0_ k_)) hg (by repeat (first | (with_reducible first | exact HK.out | apply Kept.alloc | apply Kept.drewN | apply Kept.drew) | exact HK.out)) (fun k_ e_ => (HO504.out.1 k_ e_).1)); replace HR501 := Aside0.mk ((show Kd.C Kd.string w35 Ao3 y498.length y498 from by rw [Ny498.out]; exact Kd.C_take (m := (x5_1 : Int).toNat) ((Kd.R_reads' (Kd.R_after (ok := (fun k_ => (P0_ k_ ∨ w.heap.size ≤ k_))) (qR HO_0.out) hg hat)).2.2) KL33.out)); replace HO_0 := Aside0.mk (Kd.R_after (ok := (fun k_ => (P0_ k_ ∨ w.heap.size ≤ k_))) (qR HO_0.out) hg hat); have HO507 := Aside0.mk (ho); clear HO504; clear ho hb hg hat; have q36 : (x5_1 : Int) ≤ ((l0.length : Int) : Int) := of_decide_eq_true (by first | (with_reducible assumption) | assumption); obtain ⟨i036, hi036, _, hsz36, _⟩ := info_parts info9; have hroom36 : l0.length ≤ co3 := (Kd.R_reads' HO_0.out).2.1; have hC36 : Kd.C Kd.string _ Ao3 l0.length l0 := (Kd.R_reads' HO_0.out).2.2; have q036 : (0 : Int) ≤ (x5_1 : Int) := of_decide_eq_true (by first | (with_reducible assumption) | assumption); have hcut36 := cut_from (P := Try.prog) 25 9 .i64 Try.underlying25 hi036 1 hsz36 Ao3 l0.length co3 x5_1 q036 q36; have hr36 := Kd.C_drop (m := (x5_1 : Int).toNat) (c := co3) hC36 (by omega) hroom36; obtain ⟨A36, hA36⟩ : ∃ A1, A1 = (if co3 = (x5_1 : Int).toNat then Ao3 else (Ao3 : Option Addr).map (·.add ((x5_1 : Int).toNat * 1))) := ⟨_, rfl⟩; obtain ⟨c36, hc36⟩ : ∃ c1, c1 = co3 - (x5_1 : Int).toNat := ⟨_, rfl⟩; have hy36 : y508.length = l0.length - (x5_1 : Int).toNat := (by rw [Ny508.out, List.length_drop] <;> omega); rw [show (l0).drop (x5_1 : Int).toNat = y508 from Ny508.out.symm] at hr36; replace hr36 : Kd.C Kd.string _ A36 y508.length y508 := (by rw [hA36]; exact hr36); rw [← hy36, ← hA36, ← hc36] at hcut36; have HR511 := Aside0.mk hr36; have HC511 := Aside0.mk (show y508.length ≤ c36 from by rw [hy36, hc36]; exact Nat.sub_le_sub_right hroom36 _); clear hr36 hC36 hroom36 hi036 hsz36 hc36; have KY36 := Aside0.mk hy36; have KA36 := Aside0.mk hA36; clear hy36 hA36; have KL36 := Aside0.mk (show (x5_1 : Int).toNat ≤ l0.length from by omega); replace q36 := eq_true q36) | ((with_reducible refine gate_builtin (b := .append) (xs := #[.tmp 42, .tmp 45]) rfl ?_); at_builtin; refine Kd.R_append_rows Kd.string (w0 := w0) w0.heap.size rfl (.tmp 42) (.tmp 45) 25 9 (.string ⟨#[]⟩) 16 rfl Try.underlying25 info9 rfl (by decide) (by omega) v506 y505 y508 _ _ _ (fun k_ => (P0_ k_ ∨ w.heap.size ≤ k_) ∧ some k_ ≠ (.slice Ao3 l0.length co3 : Value).ownBlock) (fun _ => False) rfl rfl ?aO ?aR (fun _ _ h => h) (fun _ h => h.elim) ?aF ?aB ?aS ?aL ?_; (case aR => repeat (first | exact (by repeat (first | (with_reducible exact HR511.out) | (with_reducible refine Kd.C_alloc ?_ _) | (with_reducible refine Kd.C_drewN ?_ _) | (with_reducible refine Kd.C_drew ?_) | exact HR511.out)) | (with_reducible refine Kd.C_alloc ?_ _) | (with_reducible refine Kd.C_drewN ?_ _) | (with_reducible refine Kd.C_drew ?_))); (case aB => exact (qB HB.out)); (case aF => exact (fun k_ hk => ⟨(.inr (Nat.le_trans (by first | exact HK.out.1 | exact (show Kept w _ (fun k_ => P0_ k_) from by repeat (first | (with_reducible first | exact HK.out | apply Kept.alloc | apply Kept.drewN | apply Kept.drew) | exact HK.out)).1) hk)), Kd.fresh' (Kd.R_lt (qR HO_0.out)) k_ hk⟩)); (case aO => exact (qR HO507.out)); (case aS => exact (below_size (qB HB.out))); (case aL => have := LMc30.out; omega); intro v513 w37 ho hb hg hat; rw [← Ny512.out] at ho; replace HB := Aside0.mk (hb); replace HK := Aside0.mk (Kept.of_grown (S := (fun k_ => P0_ k_)) hg (by repeat (first | (with_reducible first | exact HK.out | apply Kept.alloc | apply Kept.drewN | apply Kept.drew) | exact HK.out)) (fun k_ e_ => (HO507.out.1 k_ e_).1)); replace HR501 := Aside0.mk ((show Kd.C Kd.string w37 Ao3 y498.length y498 from by rw [Ny498.out]; exact Kd.C_take (m := (x5_1 : Int).toNat) ((Kd.R_reads' (Kd.R_after (ok := (fun k_ => (P0_ k_ ∨ w.heap.size ≤ k_))) (qR HO_0.out) hg hat)).2.2) KL33.out)); replace HR511 := Aside0.mk ((show Kd.C Kd.string w37 A36 y508.length y508 from by rw [Ny508.out, KA36.out]; exact Kd.C_drop (m := (x5_1 : Int).toNat) (c := co3) ((Kd.R_reads' (Kd.R_after (ok := (fun k_ => (P0_ k_ ∨ w.heap.size ≤ k_))) (qR HO_0.out) hg hat)).2.2) KL36.out ((Kd.R_reads' (Kd.R_after (ok := (fun k_ => (P0_ k_ ∨ w.heap.size ≤ k_))) (qR HO_0.out) hg hat)).2.1))); replace HO_0 := Aside0.mk (Kd.R_after (ok := (fun k_ => (P0_ k_ ∨ w.heap.size ≤ k_))) (qR HO_0.out) hg hat); have HO514 := Aside0.mk (ho); clear HO507; clear ho hb hg hat))
    go_ret
    exact ⟨_, qE, by (with_reducible repeat (first | apply Kd.R_alloc | apply Kd.R_drewN | apply Kd.R_drew)); exact Kd.R_mono HO514.out (fun _ hk => hk.1), qB HB.out, by repeat (first | (with_reducible first | exact HK.out | apply Kept.alloc | apply Kept.drewN | apply Kept.drew) | exact HK.out)⟩
   rw [if_pos c4] at H
   have c4b0 : decide (0 < x5_1) = true := decide_eq_true c4
   clear c4
   obtain ⟨ji5, hji5⟩ : ∃ j_ : Int, (wrap64 (x5_1 - 1)) = j_ := ⟨_, rfl⟩
   replace H : (if 0 ≤ (ji5) then (if (ji5) < (l0.length : Int) then (if (Op.bytesLess a1.toList ((rdOf ByteArray.empty l0 (ji5)).toList)) = true then (spec_l01Put.l0 k1 l0 a1 ji5) else (if (rdOf ByteArray.empty l0 (ji5)).toList = a1.toList then (some l0) else ((some (([] : List ByteArray) : List ByteArray)).bind fun y475 => (if 0 ≤ x5_1 then (if x5_1 ≤ (l0.length : Int) then ((some (l0.take (x5_1 : Int).toNat : List ByteArray)).bind fun y478 => (if y475.length + y478.length < 8796093022208 then ((some (y475 ++ y478 : List ByteArray)).bind fun y482 => (if y482.length < 8796093022208 then ((some (y482 ++ [a1] : List ByteArray)).bind fun y485 => ((some (l0.drop (x5_1 : Int).toNat : List ByteArray)).bind fun y488 => (if y485.length + y488.length < 8796093022208 then (some (y485 ++ y488)) else (none)))) else (none))) else (none))) else (none)) else (none))))) else (none)) else (none)) = some r := by first | (rw [hji5] at H; exact H) | (simp only [hji5] at H ⊢; exact H)
   have hji5w : (IntKind.i64.wrap (x5_1 - 1)) = ji5 := (i64_w _).trans hji5
   by_cases c6 : 0 ≤ (ji5)
   rotate_left
   ·
    rw [if_neg c6] at H
    exact absurd H (by simp)
   rw [if_pos c6] at H
   have c6b0 : decide (0 ≤ (ji5)) = true := decide_eq_true c6
   clear c6
   by_cases c7 : (ji5) < (l0.length : Int)
   rotate_left
   ·
    rw [if_neg c7] at H
    exact absurd H (by simp)
   rw [if_pos c7] at H
   have c7b0 : decide ((ji5) < (l0.length : Int)) = true := decide_eq_true c7
   clear c7
   by_cases c8 : (Op.bytesLess a1.toList ((rdOf ByteArray.empty l0 (ji5)).toList)) = true
   ·
    rw [if_pos c8] at H
    have c8b0 : (Op.bytesLess a1.toList ((rdOf ByteArray.empty l0 (ji5)).toList)) = true := c8
    clear c8
    have H' := Aside0.mk H
    clear H
    have p473 : 0 ≤ ((ji5) : Int) := of_decide_eq_true (by first | (with_reducible assumption) | assumption)
    have q473 : (ji5) < (l0.length : Int) := of_decide_eq_true (by first | (with_reducible assumption) | assumption)
    obtain ⟨ad473, e473, hx473_0⟩ := Kd.at_string (Kd.R_reads' HO_0.out).2.2 (ji5) p473 q473
    cases e473
    replace p473 := eq_true p473
    replace q473 := eq_true q473
    go_wp2
    go_roundg k1
    case measure => have := HK1.out; omega
    case rel => exact ⟨(ji5), (by first | rfl | (simp; done) | (simp only [← hji5] <;> (first | rfl | simp)) | (simp [*]; done)), H', ⟨by have := HK1.out; omega⟩, ⟨qR HO_0.out⟩, ⟨by repeat (first | (with_reducible first | exact HK.out | apply Kept.alloc | apply Kept.drewN | apply Kept.drew) | exact HK.out)⟩, ⟨qB HB.out⟩⟩
   rw [if_neg c8] at H
   have c8b0 : (Op.bytesLess a1.toList ((rdOf ByteArray.empty l0 (ji5)).toList)) = false := by simpa using c8
   clear c8
   by_cases c9 : (rdOf ByteArray.empty l0 (ji5)).toList = a1.toList
   ·
    rw [if_pos c9] at H
    obtain ⟨c9b0, c9b1⟩ := zT c9
    clear c9
    obtain rfl := Option.some.inj H
    have p473 : 0 ≤ ((ji5) : Int) := of_decide_eq_true (by first | (with_reducible assumption) | assumption)
    have q473 : (ji5) < (l0.length : Int) := of_decide_eq_true (by first | (with_reducible assumption) | assumption)
    obtain ⟨ad473, e473, hx473_0⟩ := Kd.at_string (Kd.R_reads' HO_0.out).2.2 (ji5) p473 q473
    cases e473
    replace p473 := eq_true p473
    replace q473 := eq_true q473
    have p474 : 0 ≤ ((ji5) : Int) := of_decide_eq_true (by first | (with_reducible assumption) | assumption)
    have q474 : (ji5) < (l0.length : Int) := of_decide_eq_true (by first | (with_reducible assumption) | assumption)
    obtain ⟨ad474, e474, hx474_0⟩ := Kd.at_string (Kd.R_reads' HO_0.out).2.2 (ji5) p474 q474
    obtain rfl : ad473 = ad474 := (by injection e474)
    replace p474 := eq_true p474
    replace q474 := eq_true q474
    go_wp2
    go_ret
    exact ⟨_, by first | rfl | (simp [errW_none, errW_some] <;> rfl) | (simp only [← hji5]; first | rfl | (simp [errW_none, errW_some] <;> rfl)) | (simp [*, errW_none, errW_some] <;> rfl), qR HO_0.out, qB HB.out, by repeat (first | (with_reducible first | exact HK.out | apply Kept.alloc | apply Kept.drewN | apply Kept.drew) | exact HK.out)⟩
   rw [if_neg c9] at H
   obtain ⟨c9b0, c9b1⟩ := zF c9
   obtain ⟨y475, hy475⟩ : ∃ y_ : List ByteArray, y_ = (([] : List ByteArray)) := ⟨_, rfl⟩
   replace H : (if 0 ≤ x5_1 then (if x5_1 ≤ (l0.length : Int) then ((some (l0.take (x5_1 : Int).toNat : List ByteArray)).bind fun y478 => (if y475.length + y478.length < 8796093022208 then ((some (y475 ++ y478 : List ByteArray)).bind fun y482 => (if y482.length < 8796093022208 then ((some (y482 ++ [a1] : List ByteArray)).bind fun y485 => ((some (l0.drop (x5_1 : Int).toNat : List ByteArray)).bind fun y488 => (if y485.length + y488.length < 8796093022208 then (some (y485 ++ y488)) else (none)))) else (none))) else (none))) else (none)) else (none)) = some r := by first | (rw [hy475]; with_reducible exact H) | (have H2_ := (Option.bind_some _ _).symm.trans H; rw [hy475]; with_reducible exact H2_) | (have H2_ := (Option.bind_some _ _).symm.trans H; with_reducible exact H2_) | with_reducible exact H | (rw [hy475]; exact H) | exact H
   have Ny475 := Aside0.mk hy475
   clear hy475
   by_cases c10 : 0 ≤ x5_1
   rotate_left
   ·
    rw [if_neg c10] at H
    exact absurd H (by simp)
   rw [if_pos c10] at H
   have c10b0 := eq_true c10
   have c10b1 : decide (0 ≤ x5_1) = true := decide_eq_true c10
   clear c10
   by_cases c11 : x5_1 ≤ (l0.length : Int)
   rotate_left
   ·
    rw [if_neg c11] at H
    exact absurd H (by simp)
   rw [if_pos c11] at H
   have c11b0 := eq_true c11
   have c11b1 : decide (x5_1 ≤ (l0.length : Int)) = true := decide_eq_true c11
   clear c11
   obtain ⟨y478, hy478⟩ : ∃ y_ : List ByteArray, y_ = (l0.take (x5_1 : Int).toNat) := ⟨_, rfl⟩
   replace H : (if y475.length + y478.length < 8796093022208 then ((some (y475 ++ y478 : List ByteArray)).bind fun y482 => (if y482.length < 8796093022208 then ((some (y482 ++ [a1] : List ByteArray)).bind fun y485 => ((some (l0.drop (x5_1 : Int).toNat : List ByteArray)).bind fun y488 => (if y485.length + y488.length < 8796093022208 then (some (y485 ++ y488)) else (none)))) else (none))) else (none)) = some r := by first | (rw [hy478]; with_reducible exact H) | (have H2_ := (Option.bind_some _ _).symm.trans H; rw [hy478]; with_reducible exact H2_) | (have H2_ := (Option.bind_some _ _).symm.trans H; with_reducible exact H2_) | with_reducible exact H | (rw [hy478]; exact H) | exact H
   have Ny478 := Aside0.mk hy478
   clear hy478
   by_cases c12 : y475.length + y478.length < 8796093022208
   rotate_left
   ·
    rw [if_neg c12] at H
    exact absurd H (by simp)
   rw [if_pos c12] at H
   have LMc12 := Aside0.mk c12
   clear c12
   obtain ⟨y482, hy482⟩ : ∃ y_ : List ByteArray, y_ = (y475 ++ y478) := ⟨_, rfl⟩
   replace H : (if y482.length < 8796093022208 then ((some (y482 ++ [a1] : List ByteArray)).bind fun y485 => ((some (l0.drop (x5_1 : Int).toNat : List ByteArray)).bind fun y488 => (if y485.length + y488.length < 8796093022208 then (some (y485 ++ y488)) else (none)))) else (none)) = some r := by first | (rw [hy482]; with_reducible exact H) | (have H2_ := (Option.bind_some _ _).symm.trans H; rw [hy482]; with_reducible exact H2_) | (have H2_ := (Option.bind_some _ _).symm.trans H; with_reducible exact H2_) | with_reducible exact H | (rw [hy482]; exact H) | exact H
   have Ny482 := Aside0.mk hy482
   clear hy482
   by_cases c13 : y482.length < 8796093022208
   rotate_left
   ·
    rw [if_neg c13] at H
    exact absurd H (by simp)
   rw [if_pos c13] at H
   have LMc13 := Aside0.mk c13
   clear c13
   obtain ⟨y485, hy485⟩ : ∃ y_ : List ByteArray, y_ = (y482 ++ [a1]) := ⟨_, rfl⟩
   replace H : ((some (l0.drop (x5_1 : Int).toNat : List ByteArray)).bind fun y488 => (if y485.length + y488.length < 8796093022208 then (some (y485 ++ y488)) else (none))) = some r := by first | (rw [hy485]; with_reducible exact H) | (have H2_ := (Option.bind_some _ _).symm.trans H; rw [hy485]; with_reducible exact H2_) | (have H2_ := (Option.bind_some _ _).symm.trans H; with_reducible exact H2_) | with_reducible exact H | (rw [hy485]; exact H) | exact H
   have Ny485 := Aside0.mk hy485
   clear hy485
   have c14b0 := eq_true (of_decide_eq_true (by first | (with_reducible assumption) | assumption) : 0 ≤ x5_1)
   have c15b0 := eq_true (of_decide_eq_true (by first | (with_reducible assumption) | assumption) : x5_1 ≤ (l0.length : Int))
   obtain ⟨y488, hy488⟩ : ∃ y_ : List ByteArray, y_ = (l0.drop (x5_1 : Int).toNat) := ⟨_, rfl⟩
   replace H : (if y485.length + y488.length < 8796093022208 then (some (y485 ++ y488)) else (none)) = some r := by first | (rw [hy488]; with_reducible exact H) | (have H2_ := (Option.bind_some _ _).symm.trans H; rw [hy488]; with_reducible exact H2_) | (have H2_ := (Option.bind_some _ _).symm.trans H; with_reducible exact H2_) | with_reducible exact H | (rw [hy488]; exact H) | exact H
   have Ny488 := Aside0.mk hy488
   clear hy488
   by_cases c16 : y485.length + y488.length < 8796093022208
   rotate_left
   ·
    rw [if_neg c16] at H
    exact absurd H (by simp)
   rw [if_pos c16] at H
   have LMc16 := Aside0.mk c16
   clear c16
   obtain ⟨y492, hy492⟩ : ∃ y_ : List ByteArray, y_ = (y485 ++ y488) := ⟨_, rfl⟩
   replace H : (some y492) = some r := by first | (rw [hy492]; with_reducible exact H) | (have H2_ := (Option.bind_some _ _).symm.trans H; rw [hy492]; with_reducible exact H2_) | (have H2_ := (Option.bind_some _ _).symm.trans H; with_reducible exact H2_) | with_reducible exact H | (rw [hy492]; exact H) | exact H
   have Ny492 := Aside0.mk hy492
   clear hy492
   obtain rfl := Option.some.inj H
   have p473 : 0 ≤ ((ji5) : Int) := of_decide_eq_true (by first | (with_reducible assumption) | assumption)
   have q473 : (ji5) < (l0.length : Int) := of_decide_eq_true (by first | (with_reducible assumption) | assumption)
   obtain ⟨ad473, e473, hx473_0⟩ := Kd.at_string (Kd.R_reads' HO_0.out).2.2 (ji5) p473 q473
   cases e473
   replace p473 := eq_true p473
   replace q473 := eq_true q473
   have p474 : 0 ≤ ((ji5) : Int) := of_decide_eq_true (by first | (with_reducible assumption) | assumption)
   have q474 : (ji5) < (l0.length : Int) := of_decide_eq_true (by first | (with_reducible assumption) | assumption)
   obtain ⟨ad474, e474, hx474_0⟩ := Kd.at_string (Kd.R_reads' HO_0.out).2.2 (ji5) p474 q474
   obtain rfl : ad473 = ad474 := (by injection e474)
   replace p474 := eq_true p474
   replace q474 := eq_true q474
   go_wp2_with (first | ((with_reducible refine gate_dst (N := 34) rfl ?_); refine Kd.R_lit Kd.string _ 9 ?hg (N := 34) ?hd (xs := ([] : List ByteArray)) (inner := []) (ok := fun _ => True) (okp := fun _ => True) ?hr ?hp (fun _ hk => hk) trivial (Below.refl _ _) (Nat.le_refl _) (by simp) ?_; (case hd => rfl); (case hg => rfl); (case hr => first | (go_simp; done) | (go_simp; rfl)); (case hp => exact (Reps.none _ _)); intro v476 w17 ho18 hb hg_ hnew_; clear hg_ hnew_; (first | rw [← Ny475.out] at ho18 | (simp only [Int.reduceToNat] at ho18; rw [← Ny475.out] at ho18)); have HO477 := Aside0.mk (Kd.R_lower (Kd.R_new' (Kd.R_newM (M := fun k_ => (P0_ k_ ∨ w.heap.size ≤ k_)) ho18 (by first | exact HK.out.1 | exact (show Kept w _ (fun k_ => P0_ k_) from by repeat (first | (with_reducible first | exact HK.out | apply Kept.alloc | apply Kept.drewN | apply Kept.drew) | exact HK.out)).1) (fun k_ h_ => .inr h_)) (Kd.R_lt (qR HO_0.out))) (below_size (qB HB.out))); replace HO_0 := Aside0.mk (Kd.R_elder' (qR HO_0.out) (Kd.R_base ho18) hb); replace HK := Aside0.mk (Kept.below (S := (fun k_ => P0_ k_)) (by repeat (first | (with_reducible first | exact HK.out | apply Kept.alloc | apply Kept.drewN | apply Kept.drew) | exact HK.out)) hb); replace HB := Aside0.mk (below_step (qB HB.out) hb); clear hb ho18; have q19 : (x5_1 : Int) ≤ ((l0.length : Int) : Int) := of_decide_eq_true (by first | (with_reducible assumption) | assumption); obtain ⟨i019, hi019, _, hsz19, _⟩ := info_parts info9; have hroom19 : l0.length ≤ co3 := (Kd.R_reads' HO_0.out).2.1; have hC19 : Kd.C Kd.string _ (some ad473) l0.length l0 := (Kd.R_reads' HO_0.out).2.2; have hcut19 := cut_to (P := Try.prog) 25 9 .i64 Try.underlying25 hi019 (some ad473) l0.length co3 x5_1 (of_decide_eq_true (by first | (with_reducible assumption) | assumption)) q19 hroom19; have hr19 := Kd.C_take (m := (x5_1 : Int).toNat) hC19 (by omega); have hy19 : y478.length = (x5_1 : Int).toNat := (by rw [Ny478.out, List.length_take]; omega); rw [← Ny478.out] at hr19; rw [← hy19] at hcut19; have HR481 := Aside0.mk hr19; have HC481 := Aside0.mk (show y478.length ≤ co3 from by omega); clear hr19 hC19 hroom19 hi019 hsz19; have KY19 := Aside0.mk hy19; clear hy19; have KL19 := Aside0.mk (show (x5_1 : Int).toNat ≤ l0.length from by omega); replace q19 := eq_true q19) | ((with_reducible refine gate_builtin (b := .append) (xs := #[.tmp 34, .tmp 37]) rfl ?_); at_builtin; refine Kd.R_append_rows Kd.string (w0 := w0) w0.heap.size rfl (.tmp 34) (.tmp 37) 25 9 (.string ⟨#[]⟩) 16 rfl Try.underlying25 info9 rfl (by decide) (by omega) v476 y475 y478 _ _ _ (fun k_ => (P0_ k_ ∨ w.heap.size ≤ k_) ∧ some k_ ≠ (.slice (some ad473) l0.length co3 : Value).ownBlock) (fun _ => False) rfl rfl ?aO ?aR (fun _ _ h => h) (fun _ h => h.elim) ?aF ?aB ?aS ?aL ?_; (case aR => repeat (first | exact (by repeat (first | (with_reducible exact HR481.out) | (with_reducible refine Kd.C_alloc ?_ _) | (with_reducible refine Kd.C_drewN ?_ _) | (with_reducible refine Kd.C_drew ?_) | exact HR481.out)) | (with_reducible refine Kd.C_alloc ?_ _) | (with_reducible refine Kd.C_drewN ?_ _) | (with_reducible refine Kd.C_drew ?_))); (case aB => exact (qB HB.out)); (case aF => exact (fun k_ hk => ⟨(.inr (Nat.le_trans (by first | exact HK.out.1 | exact (show Kept w _ (fun k_ => P0_ k_) from by repeat (first | (with_reducible first | exact HK.out | apply Kept.alloc | apply Kept.drewN | apply Kept.drew) | exact HK.out)).1) hk)), Kd.fresh' (Kd.R_lt (qR HO_0.out)) k_ hk⟩)); (case aO => exact (by (with_reducible repeat (first | apply Kd.R_alloc | apply Kd.R_drewN | apply Kd.R_drew)); exact Kd.R_mono HO477.out (fun _ hk => ⟨hk.1.1, hk.2⟩))); (case aS => exact (below_size (qB HB.out))); (case aL => have := LMc12.out; omega); intro v483 w20 ho hb hg hat; rw [← Ny482.out] at ho; replace HB := Aside0.mk (hb); replace HK := Aside0.mk (Kept.of_grown (S := (fun k_ => P0_ k_)) hg (by repeat (first | (with_reducible first | exact HK.out | apply Kept.alloc | apply Kept.drewN | apply Kept.drew) | exact HK.out)) (fun k_ e_ => (HO477.out.1 k_ e_).1.1)); replace HR481 := Aside0.mk ((show Kd.C Kd.string w20 (some ad473) y478.length y478 from by rw [Ny478.out]; exact Kd.C_take (m := (x5_1 : Int).toNat) ((Kd.R_reads' (Kd.R_after (ok := (fun k_ => (P0_ k_ ∨ w.heap.size ≤ k_))) (qR HO_0.out) hg hat)).2.2) KL19.out)); replace HO_0 := Aside0.mk (Kd.R_after (ok := (fun k_ => (P0_ k_ ∨ w.heap.size ≤ k_))) (qR HO_0.out) hg hat); have HO484 := Aside0.mk (ho); clear HO477; clear ho hb hg hat) | ((with_reducible refine gate_builtin (b := .append) (xs := #[.tmp 38, .tmp 40]) rfl ?_); at_builtin; refine Kd.R_append Kd.string (w0 := w0) w0.heap.size rfl (.tmp 38) (.tmp 40) 25 9 (.string ⟨#[]⟩) 16 rfl Try.underlying25 info9 rfl (by decide) (by omega) v483 y482 a1 [.string a1] (fun k_ => (P0_ k_ ∨ w.heap.size ≤ k_) ∧ some k_ ≠ (.slice (some ad473) l0.length co3 : Value).ownBlock) (fun _ => False) rfl rfl ?aP (fun _ hk => hk.elim) ?aF ?aO ?aB ?aS ?aL ?_; (case aP => exact rfl); (case aB => exact (qB HB.out)); (case aF => exact (fun k_ hk => ⟨(.inr (Nat.le_trans (by first | exact HK.out.1 | exact (show Kept w _ (fun k_ => P0_ k_) from by repeat (first | (with_reducible first | exact HK.out | apply Kept.alloc | apply Kept.drewN | apply Kept.drew) | exact HK.out)).1) hk)), Kd.fresh' (Kd.R_lt (qR HO_0.out)) k_ hk⟩)); (case aO => exact (qR HO484.out)); (case aS => exact (below_size (qB HB.out))); (case aL => have := LMc13.out; omega); intro v486 w21 ho hb hg hat; rw [← Ny485.out] at ho; replace HB := Aside0.mk (hb); replace HK := Aside0.mk (Kept.of_grown (S := (fun k_ => P0_ k_)) hg (by repeat (first | (with_reducible first | exact HK.out | apply Kept.alloc | apply Kept.drewN | apply Kept.drew) | exact HK.out)) (fun k_ e_ => (HO484.out.1 k_ e_).1)); replace HR481 := Aside0.mk ((show Kd.C Kd.string w21 (some ad473) y478.length y478 from by rw [Ny478.out]; exact Kd.C_take (m := (x5_1 : Int).toNat) ((Kd.R_reads' (Kd.R_after (ok := (fun k_ => (P0_ k_ ∨ w.heap.size ≤ k_))) (qR HO_0.out) hg hat)).2.2) KL19.out)); replace HO_0 := Aside0.mk (Kd.R_after (ok := (fun k_ => (P0_ k_ ∨ w.heap.size ≤ k_))) (qR HO_0.out) hg hat); have HO487 := Aside0.mk (ho); clear HO484; clear ho hb hg hat; have q22 : (x5_1 : Int) ≤ ((l0.length : Int) : Int) := of_decide_eq_true (by first | (with_reducible assumption) | assumption); obtain ⟨i022, hi022, _, hsz22, _⟩ := info_parts info9; have hroom22 : l0.length ≤ co3 := (Kd.R_reads' HO_0.out).2.1; have hC22 : Kd.C Kd.string _ (some ad473) l0.length l0 := (Kd.R_reads' HO_0.out).2.2; have q022 : (0 : Int) ≤ (x5_1 : Int) := of_decide_eq_true (by first | (with_reducible assumption) | assumption); have hcut22 := cut_from (P := Try.prog) 25 9 .i64 Try.underlying25 hi022 1 hsz22 (some ad473) l0.length co3 x5_1 q022 q22; have hr22 := Kd.C_drop (m := (x5_1 : Int).toNat) (c := co3) hC22 (by omega) hroom22; obtain ⟨A22, hA22⟩ : ∃ A1, A1 = (if co3 = (x5_1 : Int).toNat then (some ad473) else ((some ad473) : Option Addr).map (·.add ((x5_1 : Int).toNat * 1))) := ⟨_, rfl⟩; obtain ⟨c22, hc22⟩ : ∃ c1, c1 = co3 - (x5_1 : Int).toNat := ⟨_, rfl⟩; have hy22 : y488.length = l0.length - (x5_1 : Int).toNat := (by rw [Ny488.out, List.length_drop] <;> omega); rw [show (l0).drop (x5_1 : Int).toNat = y488 from Ny488.out.symm] at hr22; replace hr22 : Kd.C Kd.string _ A22 y488.length y488 := (by rw [hA22]; exact hr22); rw [← hy22, ← hA22, ← hc22] at hcut22; have HR491 := Aside0.mk hr22; have HC491 := Aside0.mk (show y488.length ≤ c22 from by rw [hy22, hc22]; exact Nat.sub_le_sub_right hroom22 _); clear hr22 hC22 hroom22 hi022 hsz22 hc22; have KY22 := Aside0.mk hy22; have KA22 := Aside0.mk hA22; clear hy22 hA22; have KL22 := Aside0.mk (show (x5_1 : Int).toNat ≤ l0.length from by omega); replace q22 := eq_true q22) | ((with_reducible refine gate_builtin (b := .append) (xs := #[.tmp 42, .tmp 45]) rfl ?_); at_builtin; refine Kd.R_append_rows Kd.string (w0 := w0) w0.heap.size rfl (.tmp 42) (.tmp 45) 25 9 (.string ⟨#[]⟩) 16 rfl Try.underlying25 info9 rfl (by decide) (by omega) v486 y485 y488 _ _ _ (fun k_ => (P0_ k_ ∨ w.heap.size ≤ k_) ∧ some k_ ≠ (.slice (some ad473) l0.length co3 : Value).ownBlock) (fun _ => False) rfl rfl ?aO ?aR (fun _ _ h => h) (fun _ h => h.elim) ?aF ?aB ?aS ?aL ?_; (case aR => repeat (first | exact (by repeat (first | (with_reducible exact HR491.out) | (with_reducible refine Kd.C_alloc ?_ _) | (with_reducible refine Kd.C_drewN ?_ _) | (with_reducible refine Kd.C_drew ?_) | exact HR491.out)) | (with_reducible refine Kd.C_alloc ?_ _) | (with_reducible refine Kd.C_drewN ?_ _) | (with_reducible refine Kd.C_drew ?_))); (case aB => exact (qB HB.out)); (case aF => exact (fun k_ hk => ⟨(.inr (Nat.le_trans (by first | exact HK.out.1 | exact (show Kept w _ (fun k_ => P0_ k_) from by repeat (first | (with_reducible first | exact HK.out | apply Kept.alloc | apply Kept.drewN | apply Kept.drew) | exact HK.out)).1) hk)), Kd.fresh' (Kd.R_lt (qR HO_0.out)) k_ hk⟩)); (case aO => exact (qR HO487.out)); (case aS => exact (below_size (qB HB.out))); (case aL => have := LMc16.out; omega); intro v493 w23 ho hb hg hat; rw [← Ny492.out] at ho; replace HB := Aside0.mk (hb); replace HK := Aside0.mk (Kept.of_grown (S := (fun k_ => P0_ k_)) hg (by repeat (first | (with_reducible first | exact HK.out | apply Kept.alloc | apply Kept.drewN | apply Kept.drew) | exact HK.out)) (fun k_ e_ => (HO487.out.1 k_ e_).1)); replace HR481 := Aside0.mk ((show Kd.C Kd.string w23 (some ad473) y478.length y478 from by rw [Ny478.out]; exact Kd.C_take (m := (x5_1 : Int).toNat) ((Kd.R_reads' (Kd.R_after (ok := (fun k_ => (P0_ k_ ∨ w.heap.size ≤ k_))) (qR HO_0.out) hg hat)).2.2) KL19.out)); replace HR491 := Aside0.mk ((show Kd.C Kd.string w23 A22 y488.length y488 from by rw [Ny488.out, KA22.out]; exact Kd.C_drop (m := (x5_1 : Int).toNat) (c := co3) ((Kd.R_reads' (Kd.R_after (ok := (fun k_ => (P0_ k_ ∨ w.heap.size ≤ k_))) (qR HO_0.out) hg hat)).2.2) KL22.out ((Kd.R_reads' (Kd.R_after (ok := (fun k_ => (P0_ k_ ∨ w.heap.size ≤ k_))) (qR HO_0.out) hg hat)).2.1))); replace HO_0 := Aside0.mk (Kd.R_after (ok := (fun k_ => (P0_ k_ ∨ w.heap.size ≤ k_))) (qR HO_0.out) hg hat); have HO494 := Aside0.mk (ho); clear HO487; clear ho hb hg hat))
   go_ret
   exact ⟨_, by first | rfl | (simp [errW_none, errW_some] <;> rfl) | (simp only [← hji5]; first | rfl | (simp [errW_none, errW_some] <;> rfl)) | (simp [*, errW_none, errW_some] <;> rfl), by (with_reducible repeat (first | apply Kd.R_alloc | apply Kd.R_drewN | apply Kd.R_drew)); exact Kd.R_mono HO494.out (fun _ hk => hk.1), qB HB.out, by repeat (first | (with_reducible first | exact HK.out | apply Kept.alloc | apply Kept.drewN | apply Kept.drew) | exact HK.out)⟩
end Go.Proofs.Ytjmcffejpgblfaa.PF

namespace Go.Proofs.Ytjmcffejpgblfaa.PF
open Go.RowKit Go.Proofs.YtjmcffejpgblfaaW.PrintWords Go.Proofs.YtjmcffejpgblfaaW.PrintLast Go.Proofs.YtjmcffejpgblfaaW.PrintMore
attribute [local go_sem] max2_int min2_int max_two min_two max_three min_three max_four min_four   -- for this text's walks alone
set_option linter.unusedVariables false
set_option linter.unusedSimpArgs false

/-! ### spec_CountClosed: function 21 -/
mutual
def spec_CountClosed.l0 : Nat → ByteArray → Int → Int → Int → Option (Int × Int × Int)
 | 0, _, _, _, _ => none
 | k + 1, x0, x5, x6, x7 => if x7 ≤ (x0.size : Int) then (spec_CountClosed.l1 k x0 x5 x6 x7 (([] : List ByteArray)) 0) else (some (x5, x6, 0))
def spec_CountClosed.l1 : Nat → ByteArray → Int → Int → Int → List ByteArray → Int → Option (Int × Int × Int)
 | 0, _, _, _, _, _, _ => none
 | k + 1, x0, x5, x6, x7, x8, x9 => if (wrap64 (x9 + x7)) ≤ (x0.size : Int) then (if 0 ≤ x9 then (if x9 ≤ (wrap64 (x9 + x7)) then ((spec_l01Put.f k x8 (x0.extract (x9 : Int).toNat ((wrap64 (x9 + x7)) : Int).toNat)).bind fun t519 => (spec_CountClosed.l1 k x0 x5 x6 x7 t519 (wrap64 (x9 + 1)))) else (none)) else (none)) else (spec_CountClosed.l2 k x0 x5 x6 x7 x8 0)
def spec_CountClosed.l2 : Nat → ByteArray → Int → Int → Int → List ByteArray → Int → Option (Int × Int × Int)
 | 0, _, _, _, _, _, _ => none
 | k + 1, x0, x5, x6, x7, x8, x10 => if x10 < (x8.length : Int) then (if 0 ≤ x10 then ((spec_l04Closed.f k (rdOf ByteArray.empty x8 x10) false).bind fun t523 => (if t523 = true then ((spec_l04Closed.f k (rdOf ByteArray.empty x8 x10) true).bind fun t525 => (if t525 = true then (spec_CountClosed.l2 k x0 (wrap64 (x5 + 1)) (wrap64 (x6 + 1)) x7 x8 (wrap64 (x10 + 1))) else (spec_CountClosed.l2 k x0 (wrap64 (x5 + 1)) x6 x7 x8 (wrap64 (x10 + 1))))) else ((spec_l04Closed.f k (rdOf ByteArray.empty x8 x10) true).bind fun t527 => (if t527 = true then (spec_CountClosed.l2 k x0 x5 (wrap64 (x6 + 1)) x7 x8 (wrap64 (x10 + 1))) else (spec_CountClosed.l2 k x0 x5 x6 x7 x8 (wrap64 (x10 + 1))))))) else (none)) else (spec_CountClosed.l0 k x0 x5 x6 (wrap64 (x7 + 1)))
end
def spec_CountClosed.f (k : Nat) (a0 : ByteArray) : Option (Int × Int × Int) := (spec_l01Is.f k a0).bind fun t515 => (if t515 = true then (spec_CountClosed.l0 k a0 0 0 1) else (some (0, 0, 1)))
theorem spec_CountClosed.mono_l : ∀ k, (∀ y0 y1 y2 y3, LeO (spec_CountClosed.l0 k y0 y1 y2 y3) (spec_CountClosed.l0 (k + 1) y0 y1 y2 y3)) ∧ (∀ y0 y1 y2 y3 y4 y5, LeO (spec_CountClosed.l1 k y0 y1 y2 y3 y4 y5) (spec_CountClosed.l1 (k + 1) y0 y1 y2 y3 y4 y5)) ∧ (∀ y0 y1 y2 y3 y4 y5, LeO (spec_CountClosed.l2 k y0 y1 y2 y3 y4 y5) (spec_CountClosed.l2 (k + 1) y0 y1 y2 y3 y4 y5))
 | 0 => ⟨fun _ _ _ _ r h => by simp [spec_CountClosed.l0] at h, fun _ _ _ _ _ _ r h => by simp [spec_CountClosed.l1] at h, fun _ _ _ _ _ _ r h => by simp [spec_CountClosed.l2] at h⟩
 | k + 1 => by
  obtain ⟨ih0, ih1, ih2⟩ := spec_CountClosed.mono_l k
  refine ⟨?_, ?_, ?_⟩
  all_goals intros
  all_goals first | unfold spec_CountClosed.l0 | unfold spec_CountClosed.l1 | unfold spec_CountClosed.l2
  all_goals with_reducible repeat' first
  | exact ih0 _ _ _ _
  | exact ih1 _ _ _ _ _ _
  | exact ih2 _ _ _ _ _ _
  | exact spec_l01Is.mono _ _
  | exact spec_l01Put.mono _ _ _
  | exact spec_l04Closed.mono _ _ _
  | exact LeO.refl _
  | exact LeO.none _
  | refine LeO.ite ?_ ?_
  | refine LeO.bind ?_ (fun _ => ?_)
theorem spec_CountClosed.mono : ∀ a0 k, LeO (spec_CountClosed.f k a0) (spec_CountClosed.f (k + 1) a0) := by
 intro a0 k
 obtain ⟨ih0, ih1, ih2⟩ := spec_CountClosed.mono_l k
 unfold spec_CountClosed.f
 with_reducible repeat' first
   | exact ih0 _ _ _ _
   | exact ih1 _ _ _ _ _ _
   | exact ih2 _ _ _ _ _ _
   | exact spec_l01Is.mono _ _
   | exact spec_l01Put.mono _ _ _
   | exact spec_l04Closed.mono _ _ _
   | exact LeO.refl _
   | exact LeO.none _
   | refine LeO.ite ?_ ?_
   | refine LeO.bind ?_ (fun _ => ?_)
set_option maxHeartbeats 8000000 in
set_option maxRecDepth 100000 in
theorem spec_CountClosed.calls (k : Nat) (a0 : ByteArray) (r1 : Int) (r2 : Int) (r3 : Int) (w : World) (h : spec_CountClosed.f k a0 = some (r1, r2, r3)) :
  Calls Try.prog 21 #[.string a0] w fun e w' => e = .returned (.tuple #[.int .i64 r1, .int .i64 r2, .int .i64 r3]) ∧ Below w.heap.size w w' := by
 have HB := Aside0.mk (Below.refl w.heap.size w)
 have H : ((spec_l01Is.f k a0).bind fun t515 => (if t515 = true then (spec_CountClosed.l0 k a0 0 0 1) else (some (0, 0, 1)))) = some (r1, r2, r3) := h
 clear h
 replace H := qN H
 obtain ⟨t515, A2, H⟩ := H
 try dsimp only at H
 by_cases c3 : t515 = true
 rotate_left
 ·
  replace c3 := Bool.eq_false_iff.mpr c3
  subst c3
  rw [if_neg (show ¬ (false = true) by decide)] at H
  simp only [Option.some.injEq, Prod.mk.injEq] at H
  obtain ⟨rfl, rfl, rfl⟩ := H
  go_enter Try.func21, Try.ntmps21
  go_wp2_with (first | ((with_reducible refine gate_callee (f := 30) rfl ?_); refine goesL_ (some 12) rfl rfl Try.func30 (by kernel_rfl) rfl #[.string a0] rfl qV ?_; (with_reducible refine (spec_l01Is.calls k a0 false _ A2.out).mono ?_); rintro e w' ⟨rfl, ⟨nd, rfl⟩⟩; refine ⟨_, rfl, ?_⟩))
  go_ret3
  exact ⟨qE, qB HB.out⟩

 subst c3
 rw [if_pos rfl] at H
 have H' := Aside0.mk H
 clear H
 go_enter Try.func21, Try.ntmps21
 go_wp2_with (first | ((with_reducible refine gate_callee (f := 30) rfl ?_); refine goesL_ (some 12) rfl rfl Try.func30 (by kernel_rfl) rfl #[.string a0] rfl qV ?_; (with_reducible refine (spec_l01Is.calls k a0 true _ A2.out).mono ?_); rintro e w' ⟨rfl, ⟨nd, rfl⟩⟩; refine ⟨_, rfl, ?_⟩))
 go_loopg [5, 6, 7] k (fun kq v5 v6 v7 w' => ∃ (x5_1 : Int) (x6_1 : Int) (x7_1 : Int), v5 = .int .i64 x5_1 ∧ v6 = .int .i64 x6_1 ∧ v7 = .int .i64 x7_1 ∧ Aside0 (spec_CountClosed.l0 kq a0 x5_1 x6_1 x7_1 = some (r1, r2, r3)) ∧ Aside0 (kq ≤ k) ∧ Aside0 (Below w.heap.size w w'))
 case atStart => exact ⟨(0), (0), (1), qF, qF, qF, H', ⟨Nat.le_refl _⟩, ⟨qB HB.out⟩⟩
 case round =>
  clear H'
  obtain ⟨x5_1, x6_1, x7_1, rfl, rfl, rfl, HA, HK1, HB⟩ := hrel
  cases gk with
  | zero => exact absurd HA.out (by simp [spec_CountClosed.l0])
  | succ k1 =>
   have H := HA.out
   clear HA
   simp only [spec_CountClosed.l0] at H
   by_cases c4 : x7_1 ≤ (a0.size : Int)
   rotate_left
   ·
    rw [if_neg c4] at H
    have c4b0 : decide (x7_1 ≤ (a0.size : Int)) = false := decide_eq_false c4
    clear c4
    simp only [Option.some.injEq, Prod.mk.injEq] at H
    obtain ⟨rfl, rfl, rfl⟩ := H
    go_wp2
    go_ret3
    exact ⟨qE, qB HB.out⟩
   rw [if_pos c4] at H
   have c4b0 : decide (x7_1 ≤ (a0.size : Int)) = true := decide_eq_true c4
   clear c4
   obtain ⟨y516, hy516⟩ : ∃ y_ : List ByteArray, y_ = (([] : List ByteArray)) := ⟨_, rfl⟩
   replace H : (spec_CountClosed.l1 k1 a0 x5_1 x6_1 x7_1 y516 0) = some (r1, r2, r3) := by first | (rw [hy516]; with_reducible exact H) | (have H2_ := (Option.bind_some _ _).symm.trans H; rw [hy516]; with_reducible exact H2_) | (have H2_ := (Option.bind_some _ _).symm.trans H; with_reducible exact H2_) | with_reducible exact H | (rw [hy516]; exact H) | exact H
   have Ny516 := Aside0.mk hy516
   clear hy516
   have H' := Aside0.mk H
   clear H
   go_wp2_with (first | ((with_reducible refine gate_dst (N := 20) rfl ?_); refine Kd.R_lit Kd.string _ 9 ?hg (N := 20) ?hd (xs := ([] : List ByteArray)) (inner := []) (ok := fun _ => True) (okp := fun _ => True) ?hr ?hp (fun _ hk => hk) trivial (Below.refl _ _) (Nat.le_refl _) (by simp) ?_; (case hd => rfl); (case hg => rfl); (case hr => first | (go_simp; done) | (go_simp; rfl)); (case hp => exact (Reps.none _ _)); intro v517 w5 ho6 hb hg_ hnew_; clear hg_ hnew_; (first | rw [← Ny516.out] at ho6 | (simp only [Int.reduceToNat] at ho6; rw [← Ny516.out] at ho6)); have HO518 := Aside0.mk (Kd.R_lower ho6 (below_size (qB HB.out))); replace HB := Aside0.mk (below_step (qB HB.out) hb); clear hb ho6))
   go_loopg [8, 9] k1 (fun kq v8 v9 w' => ∃ (x8_2 : List ByteArray) (x9_2 : Int), v9 = .int .i64 x9_2 ∧ Aside0 (spec_CountClosed.l1 kq a0 x5_1 x6_1 x7_1 x8_2 x9_2 = some (r1, r2, r3)) ∧ Aside0 (kq ≤ k1) ∧ Aside0 (Kd.R Kd.string 9 w' w.heap.size (fun _ => True) v8 x8_2) ∧ Aside0 (Below w.heap.size w w'))
   case atStart => exact ⟨(y516), (0), qF, H', ⟨Nat.le_refl _⟩, ⟨qR HO518.out⟩, ⟨qB HB.out⟩⟩
   case round =>
    clear H'
    obtain ⟨x8_2, x9_2, rfl, HA, HK2, HO_8, HB⟩ := hrel
    cases gk with
    | zero => exact absurd HA.out (by simp [spec_CountClosed.l1])
    | succ k2 =>
     have H := HA.out
     clear HA
     simp only [spec_CountClosed.l1] at H
     by_cases c7 : (wrap64 (x9_2 + x7_1)) ≤ (a0.size : Int)
     ·
      rw [if_pos c7] at H
      have c7b0 : decide ((wrap64 (x9_2 + x7_1)) ≤ (a0.size : Int)) = true := decide_eq_true c7
      clear c7
      by_cases c8 : 0 ≤ x9_2
      rotate_left
      ·
       rw [if_neg c8] at H
       exact absurd H (by simp)
      rw [if_pos c8] at H
      have c8b0 := eq_true c8
      have c8b1 : decide (0 ≤ x9_2) = true := decide_eq_true c8
      clear c8
      by_cases c9 : x9_2 ≤ (wrap64 (x9_2 + x7_1))
      rotate_left
      ·
       rw [if_neg c9] at H
       exact absurd H (by simp)
      rw [if_pos c9] at H
      have c9b0 := eq_true c9
      have c9b1 : decide (x9_2 ≤ (wrap64 (x9_2 + x7_1))) = true := decide_eq_true c9
      have c10b0 := eq_true (of_decide_eq_true (by first | (with_reducible assumption) | assumption) : (wrap64 (x9_2 + x7_1)) ≤ (a0.size : Int))
      replace H := qN H
      obtain ⟨t519, A11, H⟩ := H
      try dsimp only at H
      have H' := Aside0.mk H
      clear H
      obtain ⟨Ao12, co12, eo12⟩ := Kd.R_slice HO_8.out
      subst eo12
      go_wp2_with (first | ((with_reducible refine gate_callee (f := 42) rfl ?_); refine goesL_ (some 36) rfl rfl Try.func42 (by kernel_rfl) rfl #[.slice Ao12 x8_2.length co12, .string (a0.extract (x9_2 : Int).toNat ((wrap64 (x9_2 + x7_1)) : Int).toNat)] rfl qV ?_; (with_reducible refine (spec_l01Put.calls k2 (fun k_ => some k_ = (.slice Ao12 x8_2.length co12 : Value).ownBlock) (.slice Ao12 x8_2.length co12) x8_2 (a0.extract (x9_2 : Int).toNat ((wrap64 (x9_2 + x7_1)) : Int).toNat) t519 w _ ?side1 ?side2 A11.out).mono ?_); (case side1 => exact qB HB.out); (case side2 => exact Kd.R_tight rfl HO_8.out); rintro e w13 ⟨v520, rfl, ho0, hb, hkp⟩; refine ⟨_, rfl, ?_⟩; have HO521 := Aside0.mk (Kd.R_mono (ok' := fun k_ => True) ho0 (fun k_ hk_ => trivial)); replace HB := Aside0.mk (hb); clear HO_8))
      go_roundg k2
      case measure => have := HK1.out; have := HK2.out; omega
      case rel => exact ⟨(t519), (wrap64 (x9_2 + 1)), qF, H', ⟨by have := HK1.out; have := HK2.out; omega⟩, ⟨qR HO521.out⟩, ⟨qB HB.out⟩⟩
     rw [if_neg c7] at H
     have c7b0 : decide ((wrap64 (x9_2 + x7_1)) ≤ (a0.size : Int)) = false := decide_eq_false c7
     clear c7
     have H' := Aside0.mk H
     clear H
     go_wp2
     go_loopg [5, 6, 10] k2 (fun kq v5 v6 v10 w' => ∃ (x5_3 : Int) (x6_3 : Int) (x10_3 : Int), v5 = .int .i64 x5_3 ∧ v6 = .int .i64 x6_3 ∧ v10 = .int .i64 x10_3 ∧ Aside0 (spec_CountClosed.l2 kq a0 x5_3 x6_3 x7_1 x8_2 x10_3 = some (r1, r2, r3)) ∧ Aside0 (kq ≤ k2) ∧ Aside0 (Kd.R Kd.string 9 w' w.heap.size (fun _ => True) u8 x8_2) ∧ Aside0 (Below w.heap.size w w'))
     case atStart => exact ⟨(x5_1), (x6_1), (0), qF, qF, qF, H', ⟨Nat.le_refl _⟩, ⟨qR HO_8.out⟩, ⟨qB HB.out⟩⟩
     case round =>
      clear H'
      obtain ⟨x5_3, x6_3, x10_3, rfl, rfl, rfl, HA, HK3, HO_8, HB⟩ := hrel
      cases gk with
      | zero => exact absurd HA.out (by simp [spec_CountClosed.l2])
      | succ k3 =>
       have H := HA.out
       clear HA
       simp only [spec_CountClosed.l2] at H
       by_cases c14 : x10_3 < (x8_2.length : Int)
       rotate_left
       ·
        rw [if_neg c14] at H
        have c14b0 : decide (x10_3 < (x8_2.length : Int)) = false := decide_eq_false c14
        clear c14
        have H' := Aside0.mk H
        clear H
        obtain ⟨Ao34, co34, eo34⟩ := Kd.R_slice HO_8.out
        subst eo34
        go_wp2
        go_roundg k3
        case measure => have := HK1.out; have := HK2.out; have := HK3.out; omega
        case rel => exact ⟨(x5_3), (x6_3), (wrap64 (x7_1 + 1)), qF, qF, qF, H', ⟨by have := HK1.out; have := HK2.out; have := HK3.out; omega⟩, ⟨qB HB.out⟩⟩
       rw [if_pos c14] at H
       have c14b0 : decide (x10_3 < (x8_2.length : Int)) = true := decide_eq_true c14
       clear c14
       by_cases c15 : 0 ≤ x10_3
       rotate_left
       ·
        rw [if_neg c15] at H
        exact absurd H (by simp)
       rw [if_pos c15] at H
       have c15b0 : decide (0 ≤ x10_3) = true := decide_eq_true c15
       clear c15
       replace H := qN H
       obtain ⟨t523, A16, H⟩ := H
       try dsimp only at H
       by_cases c17 : t523 = true
       ·
        subst c17
        rw [if_pos rfl] at H
        replace H := qN H
        obtain ⟨t525, A18, H⟩ := H
        try dsimp only at H
        by_cases c19 : t525 = true
        ·
         subst c19
         rw [if_pos rfl] at H
         have H' := Aside0.mk H
         clear H
         obtain ⟨Ao20, co20, eo20⟩ := Kd.R_slice HO_8.out
         subst eo20
         have p522 : 0 ≤ (x10_3 : Int) := of_decide_eq_true (by first | (with_reducible assumption) | assumption)
         have q522 : x10_3 < (x8_2.length : Int) := of_decide_eq_true (by first | (with_reducible assumption) | assumption)
         obtain ⟨ad522, e522, hx522_0⟩ := Kd.at_string (Kd.R_reads' HO_8.out).2.2 x10_3 p522 q522
         cases e522
         replace p522 := eq_true p522
         replace q522 := eq_true q522
         go_wp2_with (first | ((with_reducible refine gate_callee (f := 39) rfl ?_); refine goesL_ (some 47) rfl rfl Try.func39 (by kernel_rfl) rfl #[.string (rdOf ByteArray.empty x8_2 x10_3), .bool false] rfl qV ?_; (with_reducible refine (spec_l04Closed.calls k3 (rdOf ByteArray.empty x8_2 x10_3) false true _ A16.out).mono ?_); rintro e w21 ⟨rfl, hb⟩; refine ⟨_, rfl, ?_⟩; replace HO_8 := Aside0.mk (Kd.R_below (qR HO_8.out) hb); replace HB := Aside0.mk (below_step (qB HB.out) hb); have p524 : 0 ≤ (x10_3 : Int) := of_decide_eq_true (by first | (with_reducible assumption) | assumption); have q524 : x10_3 < (x8_2.length : Int) := of_decide_eq_true (by first | (with_reducible assumption) | assumption); obtain ⟨ad524, e524, hx524_0⟩ := Kd.at_string (Kd.R_reads' HO_8.out).2.2 x10_3 p524 q524; obtain rfl : ad522 = ad524 := (by injection e524); replace p524 := eq_true p524; replace q524 := eq_true q524) | ((with_reducible refine gate_callee (f := 39) rfl ?_); refine goesL_ (some 54) rfl rfl Try.func39 (by kernel_rfl) rfl #[.string (rdOf ByteArray.empty x8_2 x10_3), .bool true] rfl qV ?_; (with_reducible refine (spec_l04Closed.calls k3 (rdOf ByteArray.empty x8_2 x10_3) true true _ A18.out).mono ?_); rintro e w22 ⟨rfl, hb⟩; refine ⟨_, rfl, ?_⟩; replace HO_8 := Aside0.mk (Kd.R_below (qR HO_8.out) hb); replace HB := Aside0.mk (below_step (qB HB.out) hb)))
         go_roundg k3
         case measure => have := HK1.out; have := HK2.out; have := HK3.out; omega
         case rel => exact ⟨(wrap64 (x5_3 + 1)), (wrap64 (x6_3 + 1)), (wrap64 (x10_3 + 1)), qF, qF, qF, H', ⟨by have := HK1.out; have := HK2.out; have := HK3.out; omega⟩, ⟨qR HO_8.out⟩, ⟨qB HB.out⟩⟩
        replace c19 := Bool.eq_false_iff.mpr c19
        subst c19
        rw [if_neg (show ¬ (false = true) by decide)] at H
        have H' := Aside0.mk H
        clear H
        obtain ⟨Ao23, co23, eo23⟩ := Kd.R_slice HO_8.out
        subst eo23
        have p522 : 0 ≤ (x10_3 : Int) := of_decide_eq_true (by first | (with_reducible assumption) | assumption)
        have q522 : x10_3 < (x8_2.length : Int) := of_decide_eq_true (by first | (with_reducible assumption) | assumption)
        obtain ⟨ad522, e522, hx522_0⟩ := Kd.at_string (Kd.R_reads' HO_8.out).2.2 x10_3 p522 q522
        cases e522
        replace p522 := eq_true p522
        replace q522 := eq_true q522
        go_wp2_with (first | ((with_reducible refine gate_callee (f := 39) rfl ?_); refine goesL_ (some 47) rfl rfl Try.func39 (by kernel_rfl) rfl #[.string (rdOf ByteArray.empty x8_2 x10_3), .bool false] rfl qV ?_; (with_reducible refine (spec_l04Closed.calls k3 (rdOf ByteArray.empty x8_2 x10_3) false true _ A16.out).mono ?_); rintro e w24 ⟨rfl, hb⟩; refine ⟨_, rfl, ?_⟩; replace HO_8 := Aside0.mk (Kd.R_below (qR HO_8.out) hb); replace HB := Aside0.mk (below_step (qB HB.out) hb); have p524 : 0 ≤ (x10_3 : Int) := of_decide_eq_true (by first | (with_reducible assumption) | assumption); have q524 : x10_3 < (x8_2.length : Int) := of_decide_eq_true (by first | (with_reducible assumption) | assumption); obtain ⟨ad524, e524, hx524_0⟩ := Kd.at_string (Kd.R_reads' HO_8.out).2.2 x10_3 p524 q524; obtain rfl : ad522 = ad524 := (by injection e524); replace p524 := eq_true p524; replace q524 := eq_true q524) | ((with_reducible refine gate_callee (f := 39) rfl ?_); refine goesL_ (some 54) rfl rfl Try.func39 (by kernel_rfl) rfl #[.string (rdOf ByteArray.empty x8_2 x10_3), .bool true] rfl qV ?_; (with_reducible refine (spec_l04Closed.calls k3 (rdOf ByteArray.empty x8_2 x10_3) true false _ A18.out).mono ?_); rintro e w25 ⟨rfl, hb⟩; refine ⟨_, rfl, ?_⟩; replace HO_8 := Aside0.mk (Kd.R_below (qR HO_8.out) hb); replace HB := Aside0.mk (below_step (qB HB.out) hb)))
        go_roundg k3
        case measure => have := HK1.out; have := HK2.out; have := HK3.out; omega
        case rel => exact ⟨(wrap64 (x5_3 + 1)), (x6_3), (wrap64 (x10_3 + 1)), qF, qF, qF, H', ⟨by have := HK1.out; have := HK2.out; have := HK3.out; omega⟩, ⟨qR HO_8.out⟩, ⟨qB HB.out⟩⟩
       replace c17 := Bool.eq_false_iff.mpr c17
       subst c17
       rw [if_neg (show ¬ (false = true) by decide)] at H
       replace H := qN H
       obtain ⟨t527, A26, H⟩ := H
       try dsimp only at H
       by_cases c27 : t527 = true
       ·
        subst c27
        rw [if_pos rfl] at H
        have H' := Aside0.mk H
        clear H
        obtain ⟨Ao28, co28, eo28⟩ := Kd.R_slice HO_8.out
        subst eo28
        have p522 : 0 ≤ (x10_3 : Int) := of_decide_eq_true (by first | (with_reducible assumption) | assumption)
        have q522 : x10_3 < (x8_2.length : Int) := of_decide_eq_true (by first | (with_reducible assumption) | assumption)
        obtain ⟨ad522, e522, hx522_0⟩ := Kd.at_string (Kd.R_reads' HO_8.out).2.2 x10_3 p522 q522
        cases e522
        replace p522 := eq_true p522
        replace q522 := eq_true q522
        go_wp2_with (first | ((with_reducible refine gate_callee (f := 39) rfl ?_); refine goesL_ (some 47) rfl rfl Try.func39 (by kernel_rfl) rfl #[.string (rdOf ByteArray.empty x8_2 x10_3), .bool false] rfl qV ?_; (with_reducible refine (spec_l04Closed.calls k3 (rdOf ByteArray.empty x8_2 x10_3) false false _ A16.out).mono ?_); rintro e w29 ⟨rfl, hb⟩; refine ⟨_, rfl, ?_⟩; replace HO_8 := Aside0.mk (Kd.R_below (qR HO_8.out) hb); replace HB := Aside0.mk (below_step (qB HB.out) hb); have p526 : 0 ≤ (x10_3 : Int) := of_decide_eq_true (by first | (with_reducible assumption) | assumption); have q526 : x10_3 < (x8_2.length : Int) := of_decide_eq_true (by first | (with_reducible assumption) | assumption); obtain ⟨ad526, e526, hx526_0⟩ := Kd.at_string (Kd.R_reads' HO_8.out).2.2 x10_3 p526 q526; obtain rfl : ad522 = ad526 := (by injection e526); replace p526 := eq_true p526; replace q526 := eq_true q526) | ((with_reducible refine gate_callee (f := 39) rfl ?_); refine goesL_ (some 54) rfl rfl Try.func39 (by kernel_rfl) rfl #[.string (rdOf ByteArray.empty x8_2 x10_3), .bool true] rfl qV ?_; (with_reducible refine (spec_l04Closed.calls k3 (rdOf ByteArray.empty x8_2 x10_3) true true _ A26.out).mono ?_); rintro e w30 ⟨rfl, hb⟩; refine ⟨_, rfl, ?_⟩; replace HO_8 := Aside0.mk (Kd.R_below (qR HO_8.out) hb); replace HB := Aside0.mk (below_step (qB HB.out) hb)))
        go_roundg k3
        case measure => have := HK1.out; have := HK2.out; have := HK3.out; omega
        case rel => exact ⟨(x5_3), (wrap64 (x6_3 + 1)), (wrap64 (x10_3 + 1)), qF, qF, qF, H', ⟨by have := HK1.out; have := HK2.out; have := HK3.out; omega⟩, ⟨qR HO_8.out⟩, ⟨qB HB.out⟩⟩
       replace c27 := Bool.eq_false_iff.mpr c27
       subst c27
       rw [if_neg (show ¬ (false = true) by decide)] at H
       have H' := Aside0.mk H
       clear H
       obtain ⟨Ao31, co31, eo31⟩ := Kd.R_slice HO_8.out
       subst eo31
       have p522 : 0 ≤ (x10_3 : Int) := of_decide_eq_true (by first | (with_reducible assumption) | assumption)
       have q522 : x10_3 < (x8_2.length : Int) := of_decide_eq_true (by first | (with_reducible assumption) | assumption)
       obtain ⟨ad522, e522, hx522_0⟩ := Kd.at_string (Kd.R_reads' HO_8.out).2.2 x10_3 p522 q522
       cases e522
       replace p522 := eq_true p522
       replace q522 := eq_true q522
       go_wp2_with (first | ((with_reducible refine gate_callee (f := 39) rfl ?_); refine goesL_ (some 47) rfl rfl Try.func39 (by kernel_rfl) rfl #[.string (rdOf ByteArray.empty x8_2 x10_3), .bool false] rfl qV ?_; (with_reducible refine (spec_l04Closed.calls k3 (rdOf ByteArray.empty x8_2 x10_3) false false _ A16.out).mono ?_); rintro e w32 ⟨rfl, hb⟩; refine ⟨_, rfl, ?_⟩; replace HO_8 := Aside0.mk (Kd.R_below (qR HO_8.out) hb); replace HB := Aside0.mk (below_step (qB HB.out) hb); have p526 : 0 ≤ (x10_3 : Int) := of_decide_eq_true (by first | (with_reducible assumption) | assumption); have q526 : x10_3 < (x8_2.length : Int) := of_decide_eq_true (by first | (with_reducible assumption) | assumption); obtain ⟨ad526, e526, hx526_0⟩ := Kd.at_string (Kd.R_reads' HO_8.out).2.2 x10_3 p526 q526; obtain rfl : ad522 = ad526 := (by injection e526); replace p526 := eq_true p526; replace q526 := eq_true q526) | ((with_reducible refine gate_callee (f := 39) rfl ?_); refine goesL_ (some 54) rfl rfl Try.func39 (by kernel_rfl) rfl #[.string (rdOf ByteArray.empty x8_2 x10_3), .bool true] rfl qV ?_; (with_reducible refine (spec_l04Closed.calls k3 (rdOf ByteArray.empty x8_2 x10_3) true false _ A26.out).mono ?_); rintro e w33 ⟨rfl, hb⟩; refine ⟨_, rfl, ?_⟩; replace HO_8 := Aside0.mk (Kd.R_below (qR HO_8.out) hb); replace HB := Aside0.mk (below_step (qB HB.out) hb)))
       go_roundg k3
       case measure => have := HK1.out; have := HK2.out; have := HK3.out; omega
       case rel => exact ⟨(x5_3), (x6_3), (wrap64 (x10_3 + 1)), qF, qF, qF, H', ⟨by have := HK1.out; have := HK2.out; have := HK3.out; omega⟩, ⟨qR HO_8.out⟩, ⟨qB HB.out⟩⟩
end Go.Proofs.Ytjmcffejpgblfaa.PF

namespace Go.Proofs.Ytjmcffejpgblfaa.PF
open Go.RowKit Go.Proofs.YtjmcffejpgblfaaW.PrintWords Go.Proofs.YtjmcffejpgblfaaW.PrintLast Go.Proofs.YtjmcffejpgblfaaW.PrintMore
attribute [local go_sem] max2_int min2_int max_two min_two max_three min_three max_four min_four   -- for this text's walks alone
set_option linter.unusedVariables false
set_option linter.unusedSimpArgs false

/-! ### impl_size: function 43 -/
def impl_size.f (a0 : ByteArray) : Option (Int) := some (a0.size : Int)
set_option maxHeartbeats 8000000 in
set_option maxRecDepth 100000 in
theorem impl_size.calls (a0 : ByteArray) (r : Int) (w : World) (h : impl_size.f a0 = some r) :
  Calls Try.prog 43 #[.string a0] w fun e w' => e = .returned (.int .i64 r) ∧ Drawn0 w w' := by
 have H : (some (a0.size : Int)) = some r := h
 clear h
 obtain rfl := Option.some.inj H
 go_enter Try.func43, Try.ntmps43
 go_wp2
 go_ret
 exact ⟨by first | rfl | (simp; done) | (simp [*]; done) | (simp; rw [Bool.eq_iff_iff]; simp; done), by repeat (first | exact Drawn0.refl _ | apply Drawn0.step)⟩

end Go.Proofs.Ytjmcffejpgblfaa.PF

namespace Go.Proofs.Ytjmcffejpgblfaa.PF
open Go.RowKit Go.Proofs.YtjmcffejpgblfaaW.PrintWords Go.Proofs.YtjmcffejpgblfaaW.PrintLast Go.Proofs.YtjmcffejpgblfaaW.PrintMore
attribute [local go_sem] max2_int min2_int max_two min_two max_three min_three max_four min_four   -- for this text's walks alone
set_option linter.unusedVariables false
set_option linter.unusedSimpArgs false

/-! ### laws_joined9: function 24 -/
def laws_joined9.l0 : Nat → List ByteArray → ByteArray → Int → Option (ByteArray)
 | 0, _, _, _ => none
 | k + 1, x0, x3, x4 => if x4 < (x0.length : Int) then (if 0 ≤ x4 then (if x3.size + (rdOf ByteArray.empty x0 x4).size ≤ 9223372036854775807 then (laws_joined9.l0 k x0 (x3 ++ (rdOf ByteArray.empty x0 x4)) (wrap64 (x4 + 1))) else (none)) else (none)) else (some x3)
def laws_joined9.f (k : Nat) (l0 : List ByteArray) : Option (ByteArray) := laws_joined9.l0 k l0 (⟨#[]⟩ : ByteArray) 0
theorem laws_joined9.mono_l : ∀ k, (∀ y0 y1 y2, LeO (laws_joined9.l0 k y0 y1 y2) (laws_joined9.l0 (k + 1) y0 y1 y2))
 | 0 => fun _ _ _ r h => by simp [laws_joined9.l0] at h
 | k + 1 => by
  have ih0 := laws_joined9.mono_l k
  ·
   intro y0 y1 y2
   unfold laws_joined9.l0
   with_reducible repeat' first
   | exact ih0 _ _ _
   | exact LeO.refl _
   | exact LeO.none _
   | refine LeO.ite ?_ ?_
   | refine LeO.bind ?_ (fun _ => ?_)
theorem laws_joined9.mono : ∀ a0 k, LeO (laws_joined9.f k a0) (laws_joined9.f (k + 1) a0) := by
 intro a0 k
 have ih0 := laws_joined9.mono_l k
 unfold laws_joined9.f
 with_reducible repeat' first
   | exact ih0 _ _ _
   | exact LeO.refl _
   | exact LeO.none _
   | refine LeO.ite ?_ ?_
   | refine LeO.bind ?_ (fun _ => ?_)
set_option maxHeartbeats 8000000 in
set_option maxRecDepth 100000 in
theorem laws_joined9.calls (k : Nat) (A0 : Option Addr) (c0 : Nat) (l0 : List ByteArray) (r : ByteArray) (w : World) (hr0 : Kd.C Kd.string w A0 l0.length l0) (hc0 : l0.length ≤ c0) (h : laws_joined9.f k l0 = some r) :
  Calls Try.prog 24 #[.slice A0 l0.length c0] w fun e w' => e = .returned (.string r) ∧ Drawn0 w w' := by
 have HR0 := Aside0.mk hr0
 have HC0 := Aside0.mk hc0
 clear hr0 hc0
 have H : (laws_joined9.l0 k l0 (⟨#[]⟩ : ByteArray) 0) = some r := h
 clear h
 have H' := Aside0.mk H
 clear H
 go_enter Try.func24, Try.ntmps24
 go_wp2
 go_loopg [3, 4] k (fun kq v3 v4 w' => ∃ (x3_1 : ByteArray) (x4_1 : Int), v3 = .string x3_1 ∧ v4 = .int .i64 x4_1 ∧ Aside0 (laws_joined9.l0 kq l0 x3_1 x4_1 = some r) ∧ Aside0 (kq ≤ k) ∧ Drawn0 w w')
 case atStart => exact ⟨((⟨#[]⟩ : ByteArray)), (0), qF, qF, H', ⟨Nat.le_refl _⟩, by repeat (first | exact Drawn0.refl _ | apply Drawn0.step)⟩
 case round =>
  clear H'
  obtain ⟨x3_1, x4_1, rfl, rfl, HA, HK1, ⟨m1, rfl⟩⟩ := hrel
  cases gk with
  | zero => exact absurd HA.out (by simp [laws_joined9.l0])
  | succ k1 =>
   have H := HA.out
   clear HA
   simp only [laws_joined9.l0] at H
   by_cases c2 : x4_1 < (l0.length : Int)
   rotate_left
   ·
    rw [if_neg c2] at H
    have c2b0 : decide (x4_1 < (l0.length : Int)) = false := decide_eq_false c2
    clear c2
    obtain rfl := Option.some.inj H
    go_wp2
    go_ret
    exact ⟨by first | rfl | (simp; done) | (simp [*]; done) | (simp; rw [Bool.eq_iff_iff]; simp; done), by repeat (first | exact Drawn0.refl _ | apply Drawn0.step)⟩

   rw [if_pos c2] at H
   have c2b0 : decide (x4_1 < (l0.length : Int)) = true := decide_eq_true c2
   clear c2
   by_cases c3 : 0 ≤ x4_1
   rotate_left
   ·
    rw [if_neg c3] at H
    exact absurd H (by simp)
   rw [if_pos c3] at H
   have c3b0 : decide (0 ≤ x4_1) = true := decide_eq_true c3
   clear c3
   by_cases c4 : x3_1.size + (rdOf ByteArray.empty l0 x4_1).size ≤ 9223372036854775807
   rotate_left
   ·
    rw [if_neg c4] at H
    exact absurd H (by simp)
   rw [if_pos c4] at H
   have c4b0 := eq_true c4
   have c4b1 : decide (x3_1.size + (rdOf ByteArray.empty l0 x4_1).size ≤ 9223372036854775807) = true := decide_eq_true c4
   try have c4b2 : (9223372036854775807 < x3_1.size + (rdOf ByteArray.empty l0 x4_1).size) = False := eq_false (Nat.not_lt.2 c4)
   have H' := Aside0.mk H
   clear H
   have p551 : 0 ≤ (x4_1 : Int) := of_decide_eq_true (by first | (with_reducible assumption) | assumption)
   have q551 : x4_1 < (l0.length : Int) := of_decide_eq_true (by first | (with_reducible assumption) | assumption)
   obtain ⟨ad551, e551, hx551_0⟩ := Kd.at_string HR0.out x4_1 p551 q551
   cases e551
   replace p551 := eq_true p551
   replace q551 := eq_true q551
   go_wp2
   go_roundg k1
   case measure => have := HK1.out; omega
   case rel => exact ⟨(x3_1 ++ (rdOf ByteArray.empty l0 x4_1)), (wrap64 (x4_1 + 1)), qF, qF, H', ⟨by have := HK1.out; omega⟩, by repeat (first | exact Drawn0.refl _ | apply Drawn0.step)⟩
end Go.Proofs.Ytjmcffejpgblfaa.PF
