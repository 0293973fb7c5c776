-- an own text, written by a program of this place (wip/tools)
import Derived.Test.YtcfphjjdbccnoaaGreatPFx0
import Derived.Test.YtcfphjjdbccnoaaGreatPFx5
import Derived.Test.YtcfphjjdbccnoaaGreatPFGivF
import Derived.Test.YtcfphjjdbccnoaaGreatPFGivE
namespace Go.Proofs.YtcfphjjdbccnoaaGreat.PF
open Go.RowKit Go.Proofs.YtcfphjjdbccnoaaGreatW.PrintWords Go.Proofs.YtcfphjjdbccnoaaGreatW.PrintLast Go.Proofs.YtcfphjjdbccnoaaGreatW.PrintMore
attribute [local go_sem] max2_int min2_int max_two min_two max_three min_three max_four min_four   -- for this text's walks alone
set_option linter.unusedVariables false
set_option linter.unusedSimpArgs false

/-! ### impl_IsSeed: function 8 -/
def impl_IsSeed.f (k : Nat) (a0 : ByteArray) (a1 : ByteArray) : Option (Bool × Int) := (impl_coverCode.f k (decide ((a1.size : Int) ≤ (a0.size : Int))) a0 (([a1] : List ByteArray))).bind fun t463 => (if t463 = 0 then ((impl_isSeed.f k a0 a1).bind fun t464 => (some (t464, 0))) else (some (false, t463)))
theorem impl_IsSeed.mono : ∀ a0 a1 k, LeO (impl_IsSeed.f k a0 a1) (impl_IsSeed.f (k + 1) a0 a1) := by
 intro a0 a1 k
 unfold impl_IsSeed.f
 with_reducible repeat' first
   | exact impl_coverCode.mono _ _ _ _
   | exact impl_isSeed.mono _ _ _
   | exact LeO.refl _
   | exact LeO.none _
   | refine LeO.ite ?_ ?_
   | refine LeO.bind ?_ (fun _ => ?_)
set_option maxHeartbeats 8000000 in
set_option maxRecDepth 100000 in
theorem impl_IsSeed.calls (k : Nat) (a0 : ByteArray) (a1 : ByteArray) (r1 : Bool) (r2 : Int) (w : World) (h : impl_IsSeed.f k a0 a1 = some (r1, r2)) :
  Calls Tryz.prog 8 #[.string a0, .string a1] w fun e w' => e = .returned (.tuple #[.bool r1, .int .i64 r2]) ∧ Below w.heap.size w w' := by
 have HB := Aside0.mk (Below.refl w.heap.size w)
 have H : ((impl_coverCode.f k (decide ((a1.size : Int) ≤ (a0.size : Int))) a0 (([a1] : List ByteArray))).bind fun t463 => (if t463 = 0 then ((impl_isSeed.f k a0 a1).bind fun t464 => (some (t464, 0))) else (some (false, t463)))) = some (r1, r2) := h
 clear h
 obtain ⟨y460, hy460⟩ : ∃ y_ : List ByteArray, y_ = (([a1] : List ByteArray)) := ⟨_, rfl⟩
 replace H : ((impl_coverCode.f k (decide ((a1.size : Int) ≤ (a0.size : Int))) a0 y460).bind fun t463 => (if t463 = 0 then ((impl_isSeed.f k a0 a1).bind fun t464 => (some (t464, 0))) else (some (false, t463)))) = some (r1, r2) := by first | (rw [hy460]; with_reducible exact H) | (have H2_ := (Option.bind_some _ _).symm.trans H; rw [hy460]; with_reducible exact H2_) | (have H2_ := (Option.bind_some _ _).symm.trans H; with_reducible exact H2_) | with_reducible exact H | (rw [hy460]; exact H) | exact H
 have Ny460 := Aside0.mk hy460
 clear hy460
 replace H := Option.bind_eq_some_iff.mp H
 obtain ⟨t463, A30, H⟩ := H
 replace H : (if t463 = 0 then ((impl_isSeed.f k a0 a1).bind fun t464 => (some (t464, 0))) else (some (false, t463))) = some (r1, r2) := H
 have A3 := Aside0.mk A30
 try simp only [Int.ofNat_le] at A3
 clear A30
 by_cases c4 : t463 = 0
 rotate_left
 ·
  rw [if_neg c4] at H
  obtain ⟨c4b0, c4b1⟩ := zF c4
  simp only [Option.some.injEq, Prod.mk.injEq] at H
  obtain ⟨rfl, rfl⟩ := H
  go_enter Tryz.func8, Tryz.ntmps8
  go_wp2_with (first | ((with_reducible refine gate_dst (N := 14) rfl ?_); refine Kd.R_lit Kd.string _ 9 ?hg (N := 14) ?hd (xs := ([a1] : List ByteArray)) (inner := [.string a1]) (ok := fun _ => True) (okp := fun _ => True) ?hr ?hp (fun _ hk => hk) trivial (Below.refl _ _) (Nat.le_refl _) (by simp) ?_; (case hd => rfl); (case hg => rfl); (case hr => first | (go_simp; done) | (go_simp; rfl)); (case hp => exact (Reps.one (show Kd.M Kd.string _ _ _ a1 [.string a1] from rfl) (Reps.none _ _))); intro v461 w11 ho12 hb hg_ hnew_; clear hg_ hnew_; (first | rw [← Ny460.out] at ho12 | (simp only [Int.reduceToNat] at ho12; rw [← Ny460.out] at ho12)); have HO462 := Aside0.mk (Kd.R_lower ho12 (below_size (qB HB.out))); replace HB := Aside0.mk (below_step (qB HB.out) hb); clear hb ho12; obtain ⟨Ao13, co13, eo13⟩ := Kd.R_slice HO462.out; subst eo13) | ((with_reducible refine gate_callee (f := 35) rfl ?_); refine goesL_ (some 15) rfl rfl Tryz.func35 (by kernel_rfl) rfl #[.bool (decide (a1.size ≤ a0.size)), .string a0, .slice Ao13 y460.length co13] rfl qV ?_; (with_reducible refine (impl_coverCode.calls k (decide (a1.size ≤ a0.size)) a0 _ _ y460 t463 _ ?side1 ?side2 A3.out).mono ?_); (case side1 => exact qC (Kd.R_reads' HO462.out).2.2); (case side2 => exact (Kd.R_reads' HO462.out).2.1); rintro e w14 ⟨rfl, hb⟩; refine ⟨_, rfl, ?_⟩; replace HO462 := Aside0.mk (Kd.R_below (qR HO462.out) hb); replace HB := Aside0.mk (below_step (qB HB.out) hb)))
  go_ret2
  exact ⟨qE, qB HB.out⟩

 rw [if_pos c4] at H
 obtain ⟨c4b0, c4b1⟩ := zT c4
 clear c4
 obtain ⟨t464, A5, H⟩ := qN H
 try dsimp only at H
 simp only [Option.some.injEq, Prod.mk.injEq] at H
 obtain ⟨rfl, rfl⟩ := H
 go_enter Tryz.func8, Tryz.ntmps8
 go_wp2_with (first | ((with_reducible refine gate_dst (N := 14) rfl ?_); refine Kd.R_lit Kd.string _ 9 ?hg (N := 14) ?hd (xs := ([a1] : List ByteArray)) (inner := [.string a1]) (ok := fun _ => True) (okp := fun _ => True) ?hr ?hp (fun _ hk => hk) trivial (Below.refl _ _) (Nat.le_refl _) (by simp) ?_; (case hd => rfl); (case hg => rfl); (case hr => first | (go_simp; done) | (go_simp; rfl)); (case hp => exact (Reps.one (show Kd.M Kd.string _ _ _ a1 [.string a1] from rfl) (Reps.none _ _))); intro v461 w6 ho7 hb hg_ hnew_; clear hg_ hnew_; (first | rw [← Ny460.out] at ho7 | (simp only [Int.reduceToNat] at ho7; rw [← Ny460.out] at ho7)); have HO462 := Aside0.mk (Kd.R_lower ho7 (below_size (qB HB.out))); replace HB := Aside0.mk (below_step (qB HB.out) hb); clear hb ho7; obtain ⟨Ao8, co8, eo8⟩ := Kd.R_slice HO462.out; subst eo8) | ((with_reducible refine gate_callee (f := 35) rfl ?_); refine goesL_ (some 15) rfl rfl Tryz.func35 (by kernel_rfl) rfl #[.bool (decide (a1.size ≤ a0.size)), .string a0, .slice Ao8 y460.length co8] rfl qV ?_; (with_reducible refine (impl_coverCode.calls k (decide (a1.size ≤ a0.size)) a0 _ _ y460 t463 _ ?side1 ?side2 A3.out).mono ?_); (case side1 => exact qC (Kd.R_reads' HO462.out).2.2); (case side2 => exact (Kd.R_reads' HO462.out).2.1); rintro e w9 ⟨rfl, hb⟩; refine ⟨_, rfl, ?_⟩; replace HO462 := Aside0.mk (Kd.R_below (qR HO462.out) hb); replace HB := Aside0.mk (below_step (qB HB.out) hb)) | ((with_reducible refine gate_callee (f := 36) rfl ?_); refine goesL_ (some 21) rfl rfl Tryz.func36 (by kernel_rfl) rfl #[.string a0, .string a1] rfl qV ?_; (with_reducible refine (impl_isSeed.calls k a0 a1 t464 _ A5.out).mono ?_); rintro e w10 ⟨rfl, hb⟩; refine ⟨_, rfl, ?_⟩; replace HO462 := Aside0.mk (Kd.R_below (qR HO462.out) hb); replace HB := Aside0.mk (below_step (qB HB.out) hb)))
 go_ret2
 exact ⟨qE, qB HB.out⟩
end Go.Proofs.YtcfphjjdbccnoaaGreat.PF

namespace Go.Proofs.YtcfphjjdbccnoaaGreat.PF
open Go.RowKit Go.Proofs.YtcfphjjdbccnoaaGreatW.PrintWords Go.Proofs.YtcfphjjdbccnoaaGreatW.PrintLast Go.Proofs.YtcfphjjdbccnoaaGreatW.PrintMore
attribute [local go_sem] max2_int min2_int max_two min_two max_three min_three max_four min_four   -- for this text's walks alone
set_option linter.unusedVariables false
set_option linter.unusedSimpArgs false

/-! ### impl_UncoveredPlaces: function 14 -/
def impl_UncoveredPlaces.l0 : Nat → List Int → List Bool → Int → Int → Option (List Int × Int)
 | 0, _, _, _, _ => none
 | k + 1, x7, x20, x21, x22 => if x22 < x21 then (if 0 ≤ x22 then (if x22 < (x20.length : Int) then (if rdOf false x20 x22 = true then (impl_UncoveredPlaces.l0 k x7 x20 x21 (wrap64 (x22 + 1))) else (if x7.length < 17592186044416 then (impl_UncoveredPlaces.l0 k (x7 ++ [x22]) x20 x21 (wrap64 (x22 + 1))) else (none))) else (none)) else (none)) else (some (x7, 0))
def impl_UncoveredPlaces.f (k : Nat) (a0 : ByteArray) (a1 : ByteArray) : Option (List Int × Int) := (impl_coverCode.f k true a0 (([a1] : List ByteArray))).bind fun t516 => (if t516 = 0 then ((impl_covered.f k a0 (([a1] : List ByteArray))).bind fun t520 => (impl_UncoveredPlaces.l0 k ([] : List Int) t520 (t520.length : Int) 0)) else (some (([] : List Int), t516)))
theorem impl_UncoveredPlaces.mono_l : ∀ k, (∀ y0 y1 y2 y3, LeO (impl_UncoveredPlaces.l0 k y0 y1 y2 y3) (impl_UncoveredPlaces.l0 (k + 1) y0 y1 y2 y3))
 | 0 => fun _ _ _ _ r h => by simp [impl_UncoveredPlaces.l0] at h
 | k + 1 => by
  have ih0 := impl_UncoveredPlaces.mono_l k
  ·
   intro y0 y1 y2 y3
   unfold impl_UncoveredPlaces.l0
   with_reducible repeat' first
   | exact ih0 _ _ _ _
   | exact impl_coverCode.mono _ _ _ _
   | exact impl_covered.mono _ _ _
   | exact LeO.refl _
   | exact LeO.none _
   | refine LeO.ite ?_ ?_
   | refine LeO.bind ?_ (fun _ => ?_)
theorem impl_UncoveredPlaces.mono : ∀ a0 a1 k, LeO (impl_UncoveredPlaces.f k a0 a1) (impl_UncoveredPlaces.f (k + 1) a0 a1) := by
 intro a0 a1 k
 have ih0 := impl_UncoveredPlaces.mono_l k
 unfold impl_UncoveredPlaces.f
 with_reducible repeat' first
   | exact ih0 _ _ _ _
   | exact impl_coverCode.mono _ _ _ _
   | exact impl_covered.mono _ _ _
   | exact LeO.refl _
   | exact LeO.none _
   | refine LeO.ite ?_ ?_
   | refine LeO.bind ?_ (fun _ => ?_)
set_option maxHeartbeats 8000000 in
set_option maxRecDepth 100000 in
theorem impl_UncoveredPlaces.calls (k : Nat) (a0 : ByteArray) (a1 : ByteArray) (r1 : List Int) (r2 : Int) (w : World) (h : impl_UncoveredPlaces.f k a0 a1 = some (r1, r2)) :
  Calls Tryz.prog 14 #[.string a0, .string a1] w fun e w' => ∃ v0_ : Value, e = .returned (.tuple #[v0_, .int .i64 r2]) ∧ Kd.R (Kd.int .i64) 2 w' w.heap.size (fun _ => True) v0_ r1 ∧ Below w.heap.size w w' := by
 have HB := Aside0.mk (Below.refl w.heap.size w)
 have H : ((impl_coverCode.f k true a0 (([a1] : List ByteArray))).bind fun t516 => (if t516 = 0 then ((impl_covered.f k a0 (([a1] : List ByteArray))).bind fun t520 => (impl_UncoveredPlaces.l0 k ([] : List Int) t520 (t520.length : Int) 0)) else (some (([] : List Int), t516)))) = some (r1, r2) := h
 clear h
 obtain ⟨y513, hy513⟩ : ∃ y_ : List ByteArray, y_ = (([a1] : List ByteArray)) := ⟨_, rfl⟩
 replace H : ((impl_coverCode.f k true a0 y513).bind fun t516 => (if t516 = 0 then ((impl_covered.f k a0 (([a1] : List ByteArray))).bind fun t520 => (impl_UncoveredPlaces.l0 k ([] : List Int) t520 (t520.length : Int) 0)) else (some (([] : List Int), t516)))) = some (r1, r2) := by first | (rw [hy513]; with_reducible exact H) | (have H2_ := (Option.bind_some _ _).symm.trans H; rw [hy513]; with_reducible exact H2_) | (have H2_ := (Option.bind_some _ _).symm.trans H; with_reducible exact H2_) | with_reducible exact H | (rw [hy513]; exact H) | exact H
 have Ny513 := Aside0.mk hy513
 clear hy513
 obtain ⟨t516, A3, H⟩ := qN H
 try dsimp only at H
 by_cases c4 : t516 = 0
 rotate_left
 ·
  rw [if_neg c4] at H
  obtain ⟨c4b0, c4b1⟩ := zF c4
  simp only [Option.some.injEq, Prod.mk.injEq] at H
  obtain ⟨rfl, rfl⟩ := H
  go_enter Tryz.func14, Tryz.ntmps14
  go_wp2_with (first | ((with_reducible refine gate_dst (N := 12) rfl ?_); refine Kd.R_lit Kd.string _ 9 ?hg (N := 12) ?hd (xs := ([a1] : List ByteArray)) (inner := [.string a1]) (ok := fun _ => True) (okp := fun _ => True) ?hr ?hp (fun _ hk => hk) trivial (Below.refl _ _) (Nat.le_refl _) (by simp) ?_; (case hd => rfl); (case hg => rfl); (case hr => first | (go_simp; done) | (go_simp; rfl)); (case hp => exact (Reps.one (show Kd.M Kd.string _ _ _ a1 [.string a1] from rfl) (Reps.none _ _))); intro v514 w22 ho23 hb hg_ hnew_; clear hg_ hnew_; (first | rw [← Ny513.out] at ho23 | (simp only [Int.reduceToNat] at ho23; rw [← Ny513.out] at ho23)); have HO515 := Aside0.mk (Kd.R_lower ho23 (below_size (qB HB.out))); replace HB := Aside0.mk (below_step (qB HB.out) hb); clear hb ho23; obtain ⟨Ao24, co24, eo24⟩ := Kd.R_slice HO515.out; subst eo24) | ((with_reducible refine gate_callee (f := 35) rfl ?_); refine goesL_ (some 13) rfl rfl Tryz.func35 (by kernel_rfl) rfl #[.bool true, .string a0, .slice Ao24 y513.length co24] rfl qV ?_; (with_reducible refine (impl_coverCode.calls k true a0 _ _ y513 t516 _ ?side1 ?side2 A3.out).mono ?_); (case side1 => exact qC (Kd.R_reads' HO515.out).2.2); (case side2 => exact (Kd.R_reads' HO515.out).2.1); rintro e w25 ⟨rfl, hb⟩; refine ⟨_, rfl, ?_⟩; replace HO515 := Aside0.mk (Kd.R_below (qR HO515.out) hb); replace HB := Aside0.mk (below_step (qB HB.out) hb)))
  go_ret2
  exact ⟨_, qE, by first | exact Kd.R_nil _ _ _ _ _ | exact Kd.N_nil _ _ _ _ _ | exact Kd.V_nil _ _ _ _ _ | exact Kd.Q_nil _ _ _ _ _ | exact Kd.S_nil _ _ _ _ _, qB HB.out⟩

 rw [if_pos c4] at H
 obtain ⟨c4b0, c4b1⟩ := zT c4
 clear c4
 obtain ⟨y517, hy517⟩ : ∃ y_ : List ByteArray, y_ = (([a1] : List ByteArray)) := ⟨_, rfl⟩
 replace H : ((impl_covered.f k a0 y517).bind fun t520 => (impl_UncoveredPlaces.l0 k ([] : List Int) t520 (t520.length : Int) 0)) = some (r1, r2) := by first | (rw [hy517]; with_reducible exact H) | (have H2_ := (Option.bind_some _ _).symm.trans H; rw [hy517]; with_reducible exact H2_) | (have H2_ := (Option.bind_some _ _).symm.trans H; with_reducible exact H2_) | with_reducible exact H | (rw [hy517]; exact H) | exact H
 have Ny517 := Aside0.mk hy517
 clear hy517
 obtain ⟨t520, A5, H⟩ := qN H
 try dsimp only at H
 have H' := Aside0.mk H
 clear H
 go_enter Tryz.func14, Tryz.ntmps14
 go_wp2_with (first | ((with_reducible refine gate_dst (N := 12) rfl ?_); refine Kd.R_lit Kd.string _ 9 ?hg (N := 12) ?hd (xs := ([a1] : List ByteArray)) (inner := [.string a1]) (ok := fun _ => True) (okp := fun _ => True) ?hr ?hp (fun _ hk => hk) trivial (Below.refl _ _) (Nat.le_refl _) (by simp) ?_; (case hd => rfl); (case hg => rfl); (case hr => first | (go_simp; done) | (go_simp; rfl)); (case hp => exact (Reps.one (show Kd.M Kd.string _ _ _ a1 [.string a1] from rfl) (Reps.none _ _))); intro v514 w6 ho7 hb hg_ hnew_; clear hg_ hnew_; (first | rw [← Ny513.out] at ho7 | (simp only [Int.reduceToNat] at ho7; rw [← Ny513.out] at ho7)); have HO515 := Aside0.mk (Kd.R_lower ho7 (below_size (qB HB.out))); replace HB := Aside0.mk (below_step (qB HB.out) hb); clear hb ho7; obtain ⟨Ao8, co8, eo8⟩ := Kd.R_slice HO515.out; subst eo8) | ((with_reducible refine gate_callee (f := 35) rfl ?_); refine goesL_ (some 13) rfl rfl Tryz.func35 (by kernel_rfl) rfl #[.bool true, .string a0, .slice Ao8 y513.length co8] rfl qV ?_; (with_reducible refine (impl_coverCode.calls k true a0 _ _ y513 t516 _ ?side1 ?side2 A3.out).mono ?_); (case side1 => exact qC (Kd.R_reads' HO515.out).2.2); (case side2 => exact (Kd.R_reads' HO515.out).2.1); rintro e w9 ⟨rfl, hb⟩; refine ⟨_, rfl, ?_⟩; replace HO515 := Aside0.mk (Kd.R_below (qR HO515.out) hb); replace HB := Aside0.mk (below_step (qB HB.out) hb)) | ((with_reducible refine gate_dst (N := 19) rfl ?_); refine Kd.R_lit Kd.string _ 9 ?hg (N := 19) ?hd (xs := ([a1] : List ByteArray)) (inner := [.string a1]) (ok := fun _ => True) (okp := fun _ => True) ?hr ?hp (fun _ hk => hk) trivial (Below.refl _ _) (Nat.le_refl _) (by simp) ?_; (case hd => rfl); (case hg => rfl); (case hr => first | (go_simp; done) | (go_simp; rfl)); (case hp => exact (Reps.one (show Kd.M Kd.string _ _ _ a1 [.string a1] from rfl) (Reps.none _ _))); intro v518 w10 ho11 hb hg_ hnew_; clear hg_ hnew_; (first | rw [← Ny517.out] at ho11 | (simp only [Int.reduceToNat] at ho11; rw [← Ny517.out] at ho11)); have HO519 := Aside0.mk (Kd.R_lower (Kd.R_new' ho11 (Kd.R_lt (qR HO515.out))) (below_size (qB HB.out))); replace HO515 := Aside0.mk (Kd.R_elder' (qR HO515.out) (Kd.R_base ho11) hb); replace HB := Aside0.mk (below_step (qB HB.out) hb); clear hb ho11; obtain ⟨Ao12, co12, eo12⟩ := Kd.R_slice HO519.out; subst eo12) | ((with_reducible refine gate_callee (f := 41) rfl ?_); refine goesL_ (some 20) rfl rfl Tryz.func41 (by kernel_rfl) rfl #[.string a0, .slice Ao12 y517.length co12] rfl qV ?_; (with_reducible refine (impl_covered.calls k a0 _ _ y517 t520 _ ?side1 ?side2 A5.out).mono ?_); (case side1 => exact qC (Kd.R_reads' HO519.out).2.2); (case side2 => exact (Kd.R_reads' HO519.out).2.1); rintro e w13 ⟨v521, rfl, ho0, hb⟩; refine ⟨_, rfl, ?_⟩; replace HO515 := Aside0.mk (Kd.R_below (qR HO515.out) hb); replace HO519 := Aside0.mk (Kd.R_below (qR HO519.out) hb); have HO522 := Aside0.mk (Kd.R_lower ho0 (below_size (qB HB.out))); replace HB := Aside0.mk (below_step (qB HB.out) hb); obtain ⟨Ao14, co14, eo14⟩ := Kd.R_slice HO522.out; subst eo14))
 go_loopg [7, 22] k (fun kq v7 v22 w' => ∃ (x7_1 : List Int) (x22_1 : Int), v22 = .int .i64 x22_1 ∧ Aside0 (impl_UncoveredPlaces.l0 kq x7_1 t520 (t520.length : Int) x22_1 = some (r1, r2)) ∧ Aside0 (kq ≤ k) ∧ Aside0 (Kd.R (Kd.int .i64) 2 w' w.heap.size (fun _ => True) v7 x7_1) ∧ Aside0 (Kd.R Kd.bool 4 w' w.heap.size (fun _ => True) (.slice Ao14 t520.length co14) t520) ∧ Aside0 (Below w.heap.size w w'))
 case atStart => exact ⟨(([] : List Int)), (0), qF, H', ⟨Nat.le_refl _⟩, ⟨by first | exact Kd.R_nil _ _ _ _ _ | exact Kd.N_nil _ _ _ _ _ | exact Kd.V_nil _ _ _ _ _ | exact Kd.Q_nil _ _ _ _ _ | exact Kd.S_nil _ _ _ _ _⟩, ⟨qR HO522.out⟩, ⟨qB HB.out⟩⟩
 case round =>
  clear H'
  obtain ⟨x7_1, x22_1, rfl, HA, HK1, HO_7, HO_20, HB⟩ := hrel
  cases gk with
  | zero => exact absurd HA.out (by simp [impl_UncoveredPlaces.l0])
  | succ k1 =>
   have H := HA.out
   clear HA
   simp only [impl_UncoveredPlaces.l0] at H
   by_cases c15 : x22_1 < (t520.length : Int)
   rotate_left
   ·
    rw [if_neg c15] at H
    have c15b0 : decide (x22_1 < (t520.length : Int)) = false := decide_eq_false c15
    clear c15
    simp only [Option.some.injEq, Prod.mk.injEq] at H
    obtain ⟨rfl, rfl⟩ := H
    go_wp2
    go_ret2
    exact ⟨_, qE, qR HO_7.out, qB HB.out⟩
   rw [if_pos c15] at H
   have c15b0 : decide (x22_1 < (t520.length : Int)) = true := decide_eq_true c15
   clear c15
   by_cases c16 : 0 ≤ x22_1
   rotate_left
   ·
    rw [if_neg c16] at H
    exact absurd H (by simp)
   rw [if_pos c16] at H
   have c16b0 : decide (0 ≤ x22_1) = true := decide_eq_true c16
   clear c16
   by_cases c17 : x22_1 < (t520.length : Int)
   rotate_left
   ·
    rw [if_neg c17] at H
    exact absurd H (by simp)
   rw [if_pos c17] at H
   have c17b0 : decide (x22_1 < (t520.length : Int)) = true := decide_eq_true c17
   clear c17
   obtain ⟨bq18, hbq18⟩ : ∃ b_ : Bool, b_ = (rdOf false t520 x22_1) := ⟨_, rfl⟩
   replace H : (if bq18 = true then (impl_UncoveredPlaces.l0 k1 x7_1 t520 (t520.length : Int) (wrap64 (x22_1 + 1))) else (if x7_1.length < 17592186044416 then (impl_UncoveredPlaces.l0 k1 (x7_1 ++ [x22_1]) t520 (t520.length : Int) (wrap64 (x22_1 + 1))) else (none))) = some (r1, r2) := by rw [← hbq18] at H; exact H
   have Nbq18 := Aside0.mk hbq18
   clear hbq18
   by_cases c19 : bq18 = true
   ·
    subst c19
    rw [if_pos rfl] at H
    have H' := Aside0.mk H
    clear H
    have p523 : 0 ≤ (x22_1 : Int) := of_decide_eq_true (by first | (with_reducible assumption) | assumption)
    have q523 : x22_1 < (t520.length : Int) := of_decide_eq_true (by first | (with_reducible assumption) | assumption)
    obtain ⟨ad523, e523, hx523_0⟩ := Kd.at_bool (Kd.R_reads' HO_20.out).2.2 x22_1 p523 q523
    (try rw [← Nbq18.out] at hx523_0)
    cases e523
    replace p523 := eq_true p523
    replace q523 := eq_true q523
    go_wp2
    go_roundg k1
    case measure => have := HK1.out; omega
    case rel => exact ⟨(x7_1), (wrap64 (x22_1 + 1)), qF, H', ⟨by have := HK1.out; omega⟩, ⟨qR HO_7.out⟩, ⟨qR HO_20.out⟩, ⟨qB HB.out⟩⟩
   replace c19 := Bool.eq_false_iff.mpr c19
   subst c19
   rw [if_neg (show ¬ (false = true) by decide)] at H
   by_cases c20 : x7_1.length < 17592186044416
   rotate_left
   ·
    rw [if_neg c20] at H
    exact absurd H (by simp)
   rw [if_pos c20] at H
   have LMc20 := Aside0.mk c20
   clear c20
   obtain ⟨y524, hy524⟩ : ∃ y_ : List Int, y_ = (x7_1 ++ [x22_1]) := ⟨_, rfl⟩
   replace H : (impl_UncoveredPlaces.l0 k1 y524 t520 (t520.length : Int) (wrap64 (x22_1 + 1))) = some (r1, r2) := by first | (rw [hy524]; with_reducible exact H) | (have H2_ := (Option.bind_some _ _).symm.trans H; rw [hy524]; with_reducible exact H2_) | (have H2_ := (Option.bind_some _ _).symm.trans H; with_reducible exact H2_) | with_reducible exact H | (rw [hy524]; exact H) | exact H
   have Ny524 := Aside0.mk hy524
   clear hy524
   have H' := Aside0.mk H
   clear H
   have p523 : 0 ≤ (x22_1 : Int) := of_decide_eq_true (by first | (with_reducible assumption) | assumption)
   have q523 : x22_1 < (t520.length : Int) := of_decide_eq_true (by first | (with_reducible assumption) | assumption)
   obtain ⟨ad523, e523, hx523_0⟩ := Kd.at_bool (Kd.R_reads' HO_20.out).2.2 x22_1 p523 q523
   (try rw [← Nbq18.out] at hx523_0)
   cases e523
   replace p523 := eq_true p523
   replace q523 := eq_true q523
   go_wp2_with (first | ((with_reducible refine gate_builtin (b := .append) (xs := #[.tmp 29, .tmp 31]) rfl ?_); at_builtin; refine Kd.R_append (Kd.int .i64) (w0 := w) w.heap.size rfl (.tmp 29) (.tmp 31) 34 2 (.int .i64 0) 8 rfl Tryz.underlying34 info2 rfl (by decide) (by omega) u7 x7_1 x22_1 [.int .i64 x22_1] (fun _ => True) (fun _ => False) rfl rfl ?aP (fun _ hk => hk.elim) ?aF ?aO ?aB ?aS ?aL ?_; (case aP => exact rfl); (case aB => exact (qB HB.out)); (case aF => exact (fun _ _ => trivial)); (case aO => exact (qR HO_7.out)); (case aS => exact (below_size (qB HB.out))); (case aL => have := LMc20.out; omega); intro v525 w21 ho hb hg hat; rw [← Ny524.out] at ho; replace HO_20 := Aside0.mk (Kd.R_over' (qR HO_20.out) (Kd.R_typed (qR HO_7.out)) (by decide) hg); replace HB := Aside0.mk (hb); have HO526 := Aside0.mk (ho); clear HO_7; clear ho hb hg hat))
   go_roundg k1
   case measure => have := HK1.out; omega
   case rel => exact ⟨(y524), (wrap64 (x22_1 + 1)), qF, H', ⟨by have := HK1.out; omega⟩, ⟨qR HO526.out⟩, ⟨qR HO_20.out⟩, ⟨qB HB.out⟩⟩
end Go.Proofs.YtcfphjjdbccnoaaGreat.PF

namespace Go.Proofs.YtcfphjjdbccnoaaGreat.PF
open Go.RowKit Go.Proofs.YtcfphjjdbccnoaaGreatW.PrintWords Go.Proofs.YtcfphjjdbccnoaaGreatW.PrintLast Go.Proofs.YtcfphjjdbccnoaaGreatW.PrintMore
attribute [local go_sem] max2_int min2_int max_two min_two max_three min_three max_four min_four   -- for this text's walks alone
set_option linter.unusedVariables false
set_option linter.unusedSimpArgs false

/-! ### impl_CoveredByTwo: function 21 -/
def impl_CoveredByTwo.f (k : Nat) (a0 : ByteArray) (a1 : ByteArray) (a2 : ByteArray) : Option (Bool × Int) := (impl_coverCode.f k true a0 (([a1, a2] : List ByteArray))).bind fun t604 => (if t604 = 0 then ((impl_isCovered.f k a0 (([a1, a2] : List ByteArray))).bind fun t608 => (some (t608, 0))) else (some (false, t604)))
theorem impl_CoveredByTwo.mono : ∀ a0 a1 a2 k, LeO (impl_CoveredByTwo.f k a0 a1 a2) (impl_CoveredByTwo.f (k + 1) a0 a1 a2) := by
 intro a0 a1 a2 k
 unfold impl_CoveredByTwo.f
 with_reducible repeat' first
   | exact impl_coverCode.mono _ _ _ _
   | exact impl_isCovered.mono _ _ _
   | exact LeO.refl _
   | exact LeO.none _
   | refine LeO.ite ?_ ?_
   | refine LeO.bind ?_ (fun _ => ?_)
set_option maxHeartbeats 8000000 in
set_option maxRecDepth 100000 in
theorem impl_CoveredByTwo.calls (k : Nat) (a0 : ByteArray) (a1 : ByteArray) (a2 : ByteArray) (r1 : Bool) (r2 : Int) (w : World) (h : impl_CoveredByTwo.f k a0 a1 a2 = some (r1, r2)) :
  Calls Tryz.prog 21 #[.string a0, .string a1, .string a2] w fun e w' => e = .returned (.tuple #[.bool r1, .int .i64 r2]) ∧ Below w.heap.size w w' := by
 have HB := Aside0.mk (Below.refl w.heap.size w)
 have H : ((impl_coverCode.f k true a0 (([a1, a2] : List ByteArray))).bind fun t604 => (if t604 = 0 then ((impl_isCovered.f k a0 (([a1, a2] : List ByteArray))).bind fun t608 => (some (t608, 0))) else (some (false, t604)))) = some (r1, r2) := h
 clear h
 obtain ⟨y601, hy601⟩ : ∃ y_ : List ByteArray, y_ = (([a1, a2] : List ByteArray)) := ⟨_, rfl⟩
 replace H : ((impl_coverCode.f k true a0 y601).bind fun t604 => (if t604 = 0 then ((impl_isCovered.f k a0 (([a1, a2] : List ByteArray))).bind fun t608 => (some (t608, 0))) else (some (false, t604)))) = some (r1, r2) := by first | (rw [hy601]; with_reducible exact H) | (have H2_ := (Option.bind_some _ _).symm.trans H; rw [hy601]; with_reducible exact H2_) | (have H2_ := (Option.bind_some _ _).symm.trans H; with_reducible exact H2_) | with_reducible exact H | (rw [hy601]; exact H) | exact H
 have Ny601 := Aside0.mk hy601
 clear hy601
 obtain ⟨t604, A4, H⟩ := qN H
 try dsimp only at H
 by_cases c5 : t604 = 0
 rotate_left
 ·
  rw [if_neg c5] at H
  obtain ⟨c5b0, c5b1⟩ := zF c5
  simp only [Option.some.injEq, Prod.mk.injEq] at H
  obtain ⟨rfl, rfl⟩ := H
  go_enter Tryz.func21, Tryz.ntmps21
  go_wp2_with (first | ((with_reducible refine gate_dst (N := 12) rfl ?_); refine Kd.R_lit Kd.string _ 9 ?hg (N := 12) ?hd (xs := ([a1, a2] : List ByteArray)) (inner := [.string a1, .string a2]) (ok := fun _ => True) (okp := fun _ => True) ?hr ?hp (fun _ hk => hk) trivial (Below.refl _ _) (Nat.le_refl _) (by simp) ?_; (case hd => rfl); (case hg => rfl); (case hr => first | (go_simp; done) | (go_simp; rfl)); (case hp => exact (Reps.one (show Kd.M Kd.string _ _ _ a1 [.string a1] from rfl) (Reps.one (show Kd.M Kd.string _ _ _ a2 [.string a2] from rfl) (Reps.none _ _)))); intro v602 w15 ho16 hb hg_ hnew_; clear hg_ hnew_; (first | rw [← Ny601.out] at ho16 | (simp only [Int.reduceToNat] at ho16; rw [← Ny601.out] at ho16)); have HO603 := Aside0.mk (Kd.R_lower ho16 (below_size (qB HB.out))); replace HB := Aside0.mk (below_step (qB HB.out) hb); clear hb ho16; obtain ⟨Ao17, co17, eo17⟩ := Kd.R_slice HO603.out; subst eo17) | ((with_reducible refine gate_callee (f := 35) rfl ?_); refine goesL_ (some 13) rfl rfl Tryz.func35 (by kernel_rfl) rfl #[.bool true, .string a0, .slice Ao17 y601.length co17] rfl qV ?_; (with_reducible refine (impl_coverCode.calls k true a0 _ _ y601 t604 _ ?side1 ?side2 A4.out).mono ?_); (case side1 => exact qC (Kd.R_reads' HO603.out).2.2); (case side2 => exact (Kd.R_reads' HO603.out).2.1); rintro e w18 ⟨rfl, hb⟩; refine ⟨_, rfl, ?_⟩; replace HO603 := Aside0.mk (Kd.R_below (qR HO603.out) hb); replace HB := Aside0.mk (below_step (qB HB.out) hb)))
  go_ret2
  exact ⟨qE, qB HB.out⟩

 rw [if_pos c5] at H
 obtain ⟨c5b0, c5b1⟩ := zT c5
 clear c5
 obtain ⟨y605, hy605⟩ : ∃ y_ : List ByteArray, y_ = (([a1, a2] : List ByteArray)) := ⟨_, rfl⟩
 replace H : ((impl_isCovered.f k a0 y605).bind fun t608 => (some (t608, 0))) = some (r1, r2) := by first | (rw [hy605]; with_reducible exact H) | (have H2_ := (Option.bind_some _ _).symm.trans H; rw [hy605]; with_reducible exact H2_) | (have H2_ := (Option.bind_some _ _).symm.trans H; with_reducible exact H2_) | with_reducible exact H | (rw [hy605]; exact H) | exact H
 have Ny605 := Aside0.mk hy605
 clear hy605
 obtain ⟨t608, A6, H⟩ := qN H
 try dsimp only at H
 simp only [Option.some.injEq, Prod.mk.injEq] at H
 obtain ⟨rfl, rfl⟩ := H
 go_enter Tryz.func21, Tryz.ntmps21
 go_wp2_with (first | ((with_reducible refine gate_dst (N := 12) rfl ?_); refine Kd.R_lit Kd.string _ 9 ?hg (N := 12) ?hd (xs := ([a1, a2] : List ByteArray)) (inner := [.string a1, .string a2]) (ok := fun _ => True) (okp := fun _ => True) ?hr ?hp (fun _ hk => hk) trivial (Below.refl _ _) (Nat.le_refl _) (by simp) ?_; (case hd => rfl); (case hg => rfl); (case hr => first | (go_simp; done) | (go_simp; rfl)); (case hp => exact (Reps.one (show Kd.M Kd.string _ _ _ a1 [.string a1] from rfl) (Reps.one (show Kd.M Kd.string _ _ _ a2 [.string a2] from rfl) (Reps.none _ _)))); intro v602 w7 ho8 hb hg_ hnew_; clear hg_ hnew_; (first | rw [← Ny601.out] at ho8 | (simp only [Int.reduceToNat] at ho8; rw [← Ny601.out] at ho8)); have HO603 := Aside0.mk (Kd.R_lower ho8 (below_size (qB HB.out))); replace HB := Aside0.mk (below_step (qB HB.out) hb); clear hb ho8; obtain ⟨Ao9, co9, eo9⟩ := Kd.R_slice HO603.out; subst eo9) | ((with_reducible refine gate_callee (f := 35) rfl ?_); refine goesL_ (some 13) rfl rfl Tryz.func35 (by kernel_rfl) rfl #[.bool true, .string a0, .slice Ao9 y601.length co9] rfl qV ?_; (with_reducible refine (impl_coverCode.calls k true a0 _ _ y601 t604 _ ?side1 ?side2 A4.out).mono ?_); (case side1 => exact qC (Kd.R_reads' HO603.out).2.2); (case side2 => exact (Kd.R_reads' HO603.out).2.1); rintro e w10 ⟨rfl, hb⟩; refine ⟨_, rfl, ?_⟩; replace HO603 := Aside0.mk (Kd.R_below (qR HO603.out) hb); replace HB := Aside0.mk (below_step (qB HB.out) hb)) | ((with_reducible refine gate_dst (N := 20) rfl ?_); refine Kd.R_lit Kd.string _ 9 ?hg (N := 20) ?hd (xs := ([a1, a2] : List ByteArray)) (inner := [.string a1, .string a2]) (ok := fun _ => True) (okp := fun _ => True) ?hr ?hp (fun _ hk => hk) trivial (Below.refl _ _) (Nat.le_refl _) (by simp) ?_; (case hd => rfl); (case hg => rfl); (case hr => first | (go_simp; done) | (go_simp; rfl)); (case hp => exact (Reps.one (show Kd.M Kd.string _ _ _ a1 [.string a1] from rfl) (Reps.one (show Kd.M Kd.string _ _ _ a2 [.string a2] from rfl) (Reps.none _ _)))); intro v606 w11 ho12 hb hg_ hnew_; clear hg_ hnew_; (first | rw [← Ny605.out] at ho12 | (simp only [Int.reduceToNat] at ho12; rw [← Ny605.out] at ho12)); have HO607 := Aside0.mk (Kd.R_lower (Kd.R_new' ho12 (Kd.R_lt (qR HO603.out))) (below_size (qB HB.out))); replace HO603 := Aside0.mk (Kd.R_elder' (qR HO603.out) (Kd.R_base ho12) hb); replace HB := Aside0.mk (below_step (qB HB.out) hb); clear hb ho12; obtain ⟨Ao13, co13, eo13⟩ := Kd.R_slice HO607.out; subst eo13) | ((with_reducible refine gate_callee (f := 51) rfl ?_); refine goesL_ (some 21) rfl rfl Tryz.func51 (by kernel_rfl) rfl #[.string a0, .slice Ao13 y605.length co13] rfl qV ?_; (with_reducible refine (impl_isCovered.calls k a0 _ _ y605 t608 _ ?side1 ?side2 A6.out).mono ?_); (case side1 => exact qC (Kd.R_reads' HO607.out).2.2); (case side2 => exact (Kd.R_reads' HO607.out).2.1); rintro e w14 ⟨rfl, hb⟩; refine ⟨_, rfl, ?_⟩; replace HO603 := Aside0.mk (Kd.R_below (qR HO603.out) hb); replace HO607 := Aside0.mk (Kd.R_below (qR HO607.out) hb); replace HB := Aside0.mk (below_step (qB HB.out) hb)))
 go_ret2
 exact ⟨qE, qB HB.out⟩
end Go.Proofs.YtcfphjjdbccnoaaGreat.PF

namespace Go.Proofs.YtcfphjjdbccnoaaGreat.PF
open Go.RowKit Go.Proofs.YtcfphjjdbccnoaaGreatW.PrintWords Go.Proofs.YtcfphjjdbccnoaaGreatW.PrintLast Go.Proofs.YtcfphjjdbccnoaaGreatW.PrintMore
attribute [local go_sem] max2_int min2_int max_two min_two max_three min_three max_four min_four   -- for this text's walks alone
set_option linter.unusedVariables false
set_option linter.unusedSimpArgs false

/-! ### impl_IsCover: function 28 -/
def impl_IsCover.f (k : Nat) (a0 : ByteArray) (a1 : ByteArray) : Option (Bool × Int) := (impl_coverCode.f k true a0 (([a1] : List ByteArray))).bind fun t679 => (if t679 = 0 then ((impl_isCovered.f k a0 (([a1] : List ByteArray))).bind fun t683 => (some (t683, 0))) else (some (false, t679)))
theorem impl_IsCover.mono : ∀ a0 a1 k, LeO (impl_IsCover.f k a0 a1) (impl_IsCover.f (k + 1) a0 a1) := by
 intro a0 a1 k
 unfold impl_IsCover.f
 with_reducible repeat' first
   | exact impl_coverCode.mono _ _ _ _
   | exact impl_isCovered.mono _ _ _
   | exact LeO.refl _
   | exact LeO.none _
   | refine LeO.ite ?_ ?_
   | refine LeO.bind ?_ (fun _ => ?_)
set_option maxHeartbeats 8000000 in
set_option maxRecDepth 100000 in
theorem impl_IsCover.calls (k : Nat) (a0 : ByteArray) (a1 : ByteArray) (r1 : Bool) (r2 : Int) (w : World) (h : impl_IsCover.f k a0 a1 = some (r1, r2)) :
  Calls Tryz.prog 28 #[.string a0, .string a1] w fun e w' => e = .returned (.tuple #[.bool r1, .int .i64 r2]) ∧ Below w.heap.size w w' := by
 have HB := Aside0.mk (Below.refl w.heap.size w)
 have H : ((impl_coverCode.f k true a0 (([a1] : List ByteArray))).bind fun t679 => (if t679 = 0 then ((impl_isCovered.f k a0 (([a1] : List ByteArray))).bind fun t683 => (some (t683, 0))) else (some (false, t679)))) = some (r1, r2) := h
 clear h
 obtain ⟨y676, hy676⟩ : ∃ y_ : List ByteArray, y_ = (([a1] : List ByteArray)) := ⟨_, rfl⟩
 replace H : ((impl_coverCode.f k true a0 y676).bind fun t679 => (if t679 = 0 then ((impl_isCovered.f k a0 (([a1] : List ByteArray))).bind fun t683 => (some (t683, 0))) else (some (false, t679)))) = some (r1, r2) := by first | (rw [hy676]; with_reducible exact H) | (have H2_ := (Option.bind_some _ _).symm.trans H; rw [hy676]; with_reducible exact H2_) | (have H2_ := (Option.bind_some _ _).symm.trans H; with_reducible exact H2_) | with_reducible exact H | (rw [hy676]; exact H) | exact H
 have Ny676 := Aside0.mk hy676
 clear hy676
 obtain ⟨t679, A3, H⟩ := qN H
 try dsimp only at H
 by_cases c4 : t679 = 0
 rotate_left
 ·
  rw [if_neg c4] at H
  obtain ⟨c4b0, c4b1⟩ := zF c4
  simp only [Option.some.injEq, Prod.mk.injEq] at H
  obtain ⟨rfl, rfl⟩ := H
  go_enter Tryz.func28, Tryz.ntmps28
  go_wp2_with (first | ((with_reducible refine gate_dst (N := 9) rfl ?_); refine Kd.R_lit Kd.string _ 9 ?hg (N := 9) ?hd (xs := ([a1] : List ByteArray)) (inner := [.string a1]) (ok := fun _ => True) (okp := fun _ => True) ?hr ?hp (fun _ hk => hk) trivial (Below.refl _ _) (Nat.le_refl _) (by simp) ?_; (case hd => rfl); (case hg => rfl); (case hr => first | (go_simp; done) | (go_simp; rfl)); (case hp => exact (Reps.one (show Kd.M Kd.string _ _ _ a1 [.string a1] from rfl) (Reps.none _ _))); intro v677 w14 ho15 hb hg_ hnew_; clear hg_ hnew_; (first | rw [← Ny676.out] at ho15 | (simp only [Int.reduceToNat] at ho15; rw [← Ny676.out] at ho15)); have HO678 := Aside0.mk (Kd.R_lower ho15 (below_size (qB HB.out))); replace HB := Aside0.mk (below_step (qB HB.out) hb); clear hb ho15; obtain ⟨Ao16, co16, eo16⟩ := Kd.R_slice HO678.out; subst eo16) | ((with_reducible refine gate_callee (f := 35) rfl ?_); refine goesL_ (some 10) rfl rfl Tryz.func35 (by kernel_rfl) rfl #[.bool true, .string a0, .slice Ao16 y676.length co16] rfl qV ?_; (with_reducible refine (impl_coverCode.calls k true a0 _ _ y676 t679 _ ?side1 ?side2 A3.out).mono ?_); (case side1 => exact qC (Kd.R_reads' HO678.out).2.2); (case side2 => exact (Kd.R_reads' HO678.out).2.1); rintro e w17 ⟨rfl, hb⟩; refine ⟨_, rfl, ?_⟩; replace HO678 := Aside0.mk (Kd.R_below (qR HO678.out) hb); replace HB := Aside0.mk (below_step (qB HB.out) hb)))
  go_ret2
  exact ⟨qE, qB HB.out⟩

 rw [if_pos c4] at H
 obtain ⟨c4b0, c4b1⟩ := zT c4
 clear c4
 obtain ⟨y680, hy680⟩ : ∃ y_ : List ByteArray, y_ = (([a1] : List ByteArray)) := ⟨_, rfl⟩
 replace H : ((impl_isCovered.f k a0 y680).bind fun t683 => (some (t683, 0))) = some (r1, r2) := by first | (rw [hy680]; with_reducible exact H) | (have H2_ := (Option.bind_some _ _).symm.trans H; rw [hy680]; with_reducible exact H2_) | (have H2_ := (Option.bind_some _ _).symm.trans H; with_reducible exact H2_) | with_reducible exact H | (rw [hy680]; exact H) | exact H
 have Ny680 := Aside0.mk hy680
 clear hy680
 obtain ⟨t683, A5, H⟩ := qN H
 try dsimp only at H
 simp only [Option.some.injEq, Prod.mk.injEq] at H
 obtain ⟨rfl, rfl⟩ := H
 go_enter Tryz.func28, Tryz.ntmps28
 go_wp2_with (first | ((with_reducible refine gate_dst (N := 9) rfl ?_); refine Kd.R_lit Kd.string _ 9 ?hg (N := 9) ?hd (xs := ([a1] : List ByteArray)) (inner := [.string a1]) (ok := fun _ => True) (okp := fun _ => True) ?hr ?hp (fun _ hk => hk) trivial (Below.refl _ _) (Nat.le_refl _) (by simp) ?_; (case hd => rfl); (case hg => rfl); (case hr => first | (go_simp; done) | (go_simp; rfl)); (case hp => exact (Reps.one (show Kd.M Kd.string _ _ _ a1 [.string a1] from rfl) (Reps.none _ _))); intro v677 w6 ho7 hb hg_ hnew_; clear hg_ hnew_; (first | rw [← Ny676.out] at ho7 | (simp only [Int.reduceToNat] at ho7; rw [← Ny676.out] at ho7)); have HO678 := Aside0.mk (Kd.R_lower ho7 (below_size (qB HB.out))); replace HB := Aside0.mk (below_step (qB HB.out) hb); clear hb ho7; obtain ⟨Ao8, co8, eo8⟩ := Kd.R_slice HO678.out; subst eo8) | ((with_reducible refine gate_callee (f := 35) rfl ?_); refine goesL_ (some 10) rfl rfl Tryz.func35 (by kernel_rfl) rfl #[.bool true, .string a0, .slice Ao8 y676.length co8] rfl qV ?_; (with_reducible refine (impl_coverCode.calls k true a0 _ _ y676 t679 _ ?side1 ?side2 A3.out).mono ?_); (case side1 => exact qC (Kd.R_reads' HO678.out).2.2); (case side2 => exact (Kd.R_reads' HO678.out).2.1); rintro e w9 ⟨rfl, hb⟩; refine ⟨_, rfl, ?_⟩; replace HO678 := Aside0.mk (Kd.R_below (qR HO678.out) hb); replace HB := Aside0.mk (below_step (qB HB.out) hb)) | ((with_reducible refine gate_dst (N := 16) rfl ?_); refine Kd.R_lit Kd.string _ 9 ?hg (N := 16) ?hd (xs := ([a1] : List ByteArray)) (inner := [.string a1]) (ok := fun _ => True) (okp := fun _ => True) ?hr ?hp (fun _ hk => hk) trivial (Below.refl _ _) (Nat.le_refl _) (by simp) ?_; (case hd => rfl); (case hg => rfl); (case hr => first | (go_simp; done) | (go_simp; rfl)); (case hp => exact (Reps.one (show Kd.M Kd.string _ _ _ a1 [.string a1] from rfl) (Reps.none _ _))); intro v681 w10 ho11 hb hg_ hnew_; clear hg_ hnew_; (first | rw [← Ny680.out] at ho11 | (simp only [Int.reduceToNat] at ho11; rw [← Ny680.out] at ho11)); have HO682 := Aside0.mk (Kd.R_lower (Kd.R_new' ho11 (Kd.R_lt (qR HO678.out))) (below_size (qB HB.out))); replace HO678 := Aside0.mk (Kd.R_elder' (qR HO678.out) (Kd.R_base ho11) hb); replace HB := Aside0.mk (below_step (qB HB.out) hb); clear hb ho11; obtain ⟨Ao12, co12, eo12⟩ := Kd.R_slice HO682.out; subst eo12) | ((with_reducible refine gate_callee (f := 51) rfl ?_); refine goesL_ (some 17) rfl rfl Tryz.func51 (by kernel_rfl) rfl #[.string a0, .slice Ao12 y680.length co12] rfl qV ?_; (with_reducible refine (impl_isCovered.calls k a0 _ _ y680 t683 _ ?side1 ?side2 A5.out).mono ?_); (case side1 => exact qC (Kd.R_reads' HO682.out).2.2); (case side2 => exact (Kd.R_reads' HO682.out).2.1); rintro e w13 ⟨rfl, hb⟩; refine ⟨_, rfl, ?_⟩; replace HO678 := Aside0.mk (Kd.R_below (qR HO678.out) hb); replace HO682 := Aside0.mk (Kd.R_below (qR HO682.out) hb); replace HB := Aside0.mk (below_step (qB HB.out) hb)))
 go_ret2
 exact ⟨qE, qB HB.out⟩
end Go.Proofs.YtcfphjjdbccnoaaGreat.PF
