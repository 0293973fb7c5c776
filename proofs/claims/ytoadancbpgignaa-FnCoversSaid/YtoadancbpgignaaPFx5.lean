-- an own text, written by a program of this place (wip/tools)
import Derived.Test.YtoadancbpgignaaPFx0
import Derived.Test.YtoadancbpgignaaPFx4
import Derived.Test.YtoadancbpgignaaPFGivF
import Derived.Test.YtoadancbpgignaaPFGivE
namespace Go.Proofs.Ytoadancbpgignaa.PF
open Go.RowKit Go.Proofs.YtoadancbpgignaaW.PrintWords Go.Proofs.YtoadancbpgignaaW.PrintLast Go.Proofs.YtoadancbpgignaaW.PrintMore
attribute [local go_sem] max2_int min2_int max_two min_two max_three min_three max_four min_four   -- for this text's walks alone
set_option linter.unusedVariables false
set_option linter.unusedSimpArgs false

/-! ### impl_IsCover: function 16 -/
def impl_IsCover.f (k : Nat) (a0 : ByteArray) (a1 : ByteArray) : Option (Bool × Int) := (impl_coverCode.f k true a0 (([a1] : List ByteArray))).bind fun t439 => (if t439 = 0 then ((impl_isCovered.f k a0 (([a1] : List ByteArray))).bind fun t443 => (some (t443, 0))) else (some (false, t439)))
theorem impl_IsCover.mono : ∀ a0 a1 k, LeO (impl_IsCover.f k a0 a1) (impl_IsCover.f (k + 1) a0 a1) := by
 intro a0 a1 k
 unfold impl_IsCover.f
 repeat' first
   | (with_reducible exact impl_coverCode.mono _ _ _ _)
   | (with_reducible exact impl_isCovered.mono _ _ _)
   | (with_reducible exact LeO.refl _)
   | (with_reducible exact LeO.none _)
   | (with_reducible refine LeO.ite ?_ ?_)
   | (with_reducible refine LeO.bind ?_ (fun _ => ?_))
set_option maxHeartbeats 8000000 in
set_option maxRecDepth 100000 in
theorem impl_IsCover.calls (k : Nat) (a0 : ByteArray) (a1 : ByteArray) (r1 : Bool) (r2 : Int) (w : World) (h : impl_IsCover.f k a0 a1 = some (r1, r2)) :
  Calls Try.prog 16 #[.string a0, .string a1] w fun e w' => e = .returned (.tuple #[.bool r1, .int .i64 r2]) ∧ Below w.heap.size w w' := by
 have HB := Aside0.mk (Below.refl w.heap.size w)
 have H : ((impl_coverCode.f k true a0 (([a1] : List ByteArray))).bind fun t439 => (if t439 = 0 then ((impl_isCovered.f k a0 (([a1] : List ByteArray))).bind fun t443 => (some (t443, 0))) else (some (false, t439)))) = some (r1, r2) := h
 clear h
 obtain ⟨y436, hy436⟩ : ∃ y_ : List ByteArray, y_ = (([a1] : List ByteArray)) := ⟨_, rfl⟩
 replace H : ((impl_coverCode.f k true a0 y436).bind fun t439 => (if t439 = 0 then ((impl_isCovered.f k a0 (([a1] : List ByteArray))).bind fun t443 => (some (t443, 0))) else (some (false, t439)))) = some (r1, r2) := by first | (rw [hy436]; with_reducible exact H) | (have H2_ := (Option.bind_some _ _).symm.trans H; rw [hy436]; with_reducible exact H2_) | (have H2_ := (Option.bind_some _ _).symm.trans H; with_reducible exact H2_) | with_reducible exact H | (rw [hy436]; exact H) | exact H
 have Ny436 := Aside0.mk hy436
 clear hy436
 replace H := Option.bind_eq_some_iff.mp H
 obtain ⟨t439, A30, H⟩ := H
 replace H : (if t439 = 0 then ((impl_isCovered.f k a0 (([a1] : List ByteArray))).bind fun t443 => (some (t443, 0))) else (some (false, t439))) = some (r1, r2) := H
 have A3 := Aside0.mk A30
 clear A30
 by_cases c4 : t439 = 0
 ·
  rw [if_pos c4] at H
  have c4b0 : (t439 == 0) = true := beq_iff_eq.mpr c4
  have c4b1 : (t439 != 0) = false := bne_eq_false_iff_eq.mpr c4
  clear c4
  obtain ⟨y440, hy440⟩ : ∃ y_ : List ByteArray, y_ = (([a1] : List ByteArray)) := ⟨_, rfl⟩
  replace H : ((impl_isCovered.f k a0 y440).bind fun t443 => (some (t443, 0))) = some (r1, r2) := by first | (rw [hy440]; with_reducible exact H) | (have H2_ := (Option.bind_some _ _).symm.trans H; rw [hy440]; with_reducible exact H2_) | (have H2_ := (Option.bind_some _ _).symm.trans H; with_reducible exact H2_) | with_reducible exact H | (rw [hy440]; exact H) | exact H
  have Ny440 := Aside0.mk hy440
  clear hy440
  replace H := Option.bind_eq_some_iff.mp H
  obtain ⟨t443, A50, H⟩ := H
  replace H : (some (t443, 0)) = some (r1, r2) := H
  have A5 := Aside0.mk A50
  clear A50
  simp only [Option.some.injEq, Prod.mk.injEq] at H
  obtain ⟨rfl, rfl⟩ := H
  go_enter Try.func16, Try.ntmps16
  go_wp2_with (first | ((with_reducible refine gate_dst (N := 9) rfl ?_); refine Kd.R_lit Kd.string _ 9 ?hg (N := 9) ?hd (xs := ([a1] : List ByteArray)) (inner := [.string a1]) (ok := fun _ => True) (okp := fun _ => True) ?hr ?hp (fun _ hk => hk) trivial (Below.refl _ _) (Nat.le_refl _) (by simp) ?_; (case hd => rfl); (case hg => rfl); (case hr => first | (go_simp; done) | (go_simp; rfl)); (case hp => exact (Reps.one (show Kd.M Kd.string _ _ _ a1 [.string a1] from rfl) (Reps.none _ _))); intro v437 w6 ho7 hb hg_ hnew_; clear hg_ hnew_; (first | rw [← Ny436.out] at ho7 | (simp only [Int.reduceToNat] at ho7; rw [← Ny436.out] at ho7)); have n0_ := Aside0.mk (Kd.R_lower ho7 (below_size (qB HB.out))); have n1_ := Aside0.mk (below_step (qB HB.out) hb); clear HB; have HO438 := n0_; have HB := n1_; clear n0_ n1_; clear hb ho7; obtain ⟨Ao8, co8, eo8⟩ := Kd.R_slice HO438.out; subst eo8) | ((with_reducible refine gate_callee (f := 34) rfl ?_); refine goesL_ (some 10) rfl rfl Try.func34 (by kernel_rfl) rfl #[.bool true, .string a0, .slice Ao8 y436.length co8] rfl qV ?_; (with_reducible refine (impl_coverCode.calls k true a0 _ _ y436 t439 _ ?side1 ?side2 A3.out).mono ?_); (case side1 => exact qC (Kd.R_reads' HO438.out).2.2); (case side2 => exact (Kd.R_reads' HO438.out).2.1); rintro e w9 ⟨rfl, hb⟩; refine ⟨_, rfl, ?_⟩; have n0_ := Aside0.mk (Kd.R_below (qR HO438.out) hb); have n1_ := Aside0.mk (below_step (qB HB.out) hb); clear HO438; clear HB; have HO438 := n0_; have HB := n1_; clear n0_ n1_) | ((with_reducible refine gate_dst (N := 16) rfl ?_); refine Kd.R_lit Kd.string _ 9 ?hg (N := 16) ?hd (xs := ([a1] : List ByteArray)) (inner := [.string a1]) (ok := fun _ => True) (okp := fun _ => True) ?hr ?hp (fun _ hk => hk) trivial (Below.refl _ _) (Nat.le_refl _) (by simp) ?_; (case hd => rfl); (case hg => rfl); (case hr => first | (go_simp; done) | (go_simp; rfl)); (case hp => exact (Reps.one (show Kd.M Kd.string _ _ _ a1 [.string a1] from rfl) (Reps.none _ _))); intro v441 w10 ho11 hb hg_ hnew_; clear hg_ hnew_; (first | rw [← Ny440.out] at ho11 | (simp only [Int.reduceToNat] at ho11; rw [← Ny440.out] at ho11)); have n0_ := Aside0.mk (Kd.R_elder' (qR HO438.out) (Kd.R_base ho11) hb); have n1_ := Aside0.mk (Kd.R_lower (Kd.R_new' ho11 (Kd.R_lt (qR HO438.out))) (below_size (qB HB.out))); have n2_ := Aside0.mk (below_step (qB HB.out) hb); clear HO438; clear HB; have HO438 := n0_; have HO442 := n1_; have HB := n2_; clear n0_ n1_ n2_; clear hb ho11; obtain ⟨Ao12, co12, eo12⟩ := Kd.R_slice HO442.out; subst eo12) | ((with_reducible refine gate_callee (f := 35) rfl ?_); refine goesL_ (some 17) rfl rfl Try.func35 (by kernel_rfl) rfl #[.string a0, .slice Ao12 y440.length co12] rfl qV ?_; (with_reducible refine (impl_isCovered.calls k a0 _ _ y440 t443 _ ?side1 ?side2 A5.out).mono ?_); (case side1 => exact qC (Kd.R_reads' HO442.out).2.2); (case side2 => exact (Kd.R_reads' HO442.out).2.1); rintro e w13 ⟨rfl, hb⟩; refine ⟨_, rfl, ?_⟩; have n0_ := Aside0.mk (Kd.R_below (qR HO438.out) hb); have n1_ := Aside0.mk (Kd.R_below (qR HO442.out) hb); have n2_ := Aside0.mk (below_step (qB HB.out) hb); clear HO438; clear HO442; clear HB; have HO438 := n0_; have HO442 := n1_; have HB := n2_; clear n0_ n1_ n2_))
  go_ret2
  exact ⟨qE, qB HB.out⟩
 ·
  rw [if_neg c4] at H
  have c4b0 : (t439 == 0) = false := beq_eq_false_iff_ne.mpr c4
  have c4b1 : (t439 != 0) = true := bne_iff_ne.mpr c4
  simp only [Option.some.injEq, Prod.mk.injEq] at H
  obtain ⟨rfl, rfl⟩ := H
  go_enter Try.func16, Try.ntmps16
  go_wp2_with (first | ((with_reducible refine gate_dst (N := 9) rfl ?_); refine Kd.R_lit Kd.string _ 9 ?hg (N := 9) ?hd (xs := ([a1] : List ByteArray)) (inner := [.string a1]) (ok := fun _ => True) (okp := fun _ => True) ?hr ?hp (fun _ hk => hk) trivial (Below.refl _ _) (Nat.le_refl _) (by simp) ?_; (case hd => rfl); (case hg => rfl); (case hr => first | (go_simp; done) | (go_simp; rfl)); (case hp => exact (Reps.one (show Kd.M Kd.string _ _ _ a1 [.string a1] from rfl) (Reps.none _ _))); intro v437 w14 ho15 hb hg_ hnew_; clear hg_ hnew_; (first | rw [← Ny436.out] at ho15 | (simp only [Int.reduceToNat] at ho15; rw [← Ny436.out] at ho15)); have n0_ := Aside0.mk (Kd.R_lower ho15 (below_size (qB HB.out))); have n1_ := Aside0.mk (below_step (qB HB.out) hb); clear HB; have HO438 := n0_; have HB := n1_; clear n0_ n1_; clear hb ho15; obtain ⟨Ao16, co16, eo16⟩ := Kd.R_slice HO438.out; subst eo16) | ((with_reducible refine gate_callee (f := 34) rfl ?_); refine goesL_ (some 10) rfl rfl Try.func34 (by kernel_rfl) rfl #[.bool true, .string a0, .slice Ao16 y436.length co16] rfl qV ?_; (with_reducible refine (impl_coverCode.calls k true a0 _ _ y436 t439 _ ?side1 ?side2 A3.out).mono ?_); (case side1 => exact qC (Kd.R_reads' HO438.out).2.2); (case side2 => exact (Kd.R_reads' HO438.out).2.1); rintro e w17 ⟨rfl, hb⟩; refine ⟨_, rfl, ?_⟩; have n0_ := Aside0.mk (Kd.R_below (qR HO438.out) hb); have n1_ := Aside0.mk (below_step (qB HB.out) hb); clear HO438; clear HB; have HO438 := n0_; have HB := n1_; clear n0_ n1_))
  go_ret2
  exact ⟨qE, qB HB.out⟩

end Go.Proofs.Ytoadancbpgignaa.PF

namespace Go.Proofs.Ytoadancbpgignaa.PF
open Go.RowKit Go.Proofs.YtoadancbpgignaaW.PrintWords Go.Proofs.YtoadancbpgignaaW.PrintLast Go.Proofs.YtoadancbpgignaaW.PrintMore
attribute [local go_sem] max2_int min2_int max_two min_two max_three min_three max_four min_four   -- for this text's walks alone
set_option linter.unusedVariables false
set_option linter.unusedSimpArgs false

/-! ### impl_UncoveredPlaces: function 17 -/
def impl_UncoveredPlaces.l0 : Nat → List Int → List Bool → Int → Int → Option (List Int × Int)
 | 0, _, _, _, _ => none
 | k + 1, x7, x20, x21, x22 => if x22 < x21 then (if 0 ≤ x22 then (if x22 < (x20.length : Int) then (if rdOf false x20 x22 = true then (impl_UncoveredPlaces.l0 k x7 x20 x21 (wrap64 (x22 + 1))) else (if x7.length < 17592186044416 then (impl_UncoveredPlaces.l0 k (x7 ++ [x22]) x20 x21 (wrap64 (x22 + 1))) else (none))) else (none)) else (none)) else (some (x7, 0))
def impl_UncoveredPlaces.f (k : Nat) (a0 : ByteArray) (a1 : ByteArray) : Option (List Int × Int) := (impl_coverCode.f k true a0 (([a1] : List ByteArray))).bind fun t447 => (if t447 = 0 then ((impl_covered.f k a0 (([a1] : List ByteArray))).bind fun t451 => (impl_UncoveredPlaces.l0 k ([] : List Int) t451 (t451.length : Int) 0)) else (some (([] : List Int), t447)))
theorem impl_UncoveredPlaces.mono_l : ∀ k, (∀ y0 y1 y2 y3, LeO (impl_UncoveredPlaces.l0 k y0 y1 y2 y3) (impl_UncoveredPlaces.l0 (k + 1) y0 y1 y2 y3))
 | 0 => fun _ _ _ _ r h => by simp [impl_UncoveredPlaces.l0] at h
 | k + 1 => by
  have ih0 := impl_UncoveredPlaces.mono_l k
  ·
   intro y0 y1 y2 y3
   unfold impl_UncoveredPlaces.l0
   repeat' first
   | (with_reducible exact ih0 _ _ _ _)
   | (with_reducible exact impl_coverCode.mono _ _ _ _)
   | (with_reducible exact impl_covered.mono _ _ _)
   | (with_reducible exact LeO.refl _)
   | (with_reducible exact LeO.none _)
   | (with_reducible refine LeO.ite ?_ ?_)
   | (with_reducible refine LeO.bind ?_ (fun _ => ?_))
theorem impl_UncoveredPlaces.mono : ∀ a0 a1 k, LeO (impl_UncoveredPlaces.f k a0 a1) (impl_UncoveredPlaces.f (k + 1) a0 a1) := by
 intro a0 a1 k
 have ih0 := impl_UncoveredPlaces.mono_l k
 unfold impl_UncoveredPlaces.f
 repeat' first
   | (with_reducible exact ih0 _ _ _ _)
   | (with_reducible exact impl_coverCode.mono _ _ _ _)
   | (with_reducible exact impl_covered.mono _ _ _)
   | (with_reducible exact LeO.refl _)
   | (with_reducible exact LeO.none _)
   | (with_reducible refine LeO.ite ?_ ?_)
   | (with_reducible refine LeO.bind ?_ (fun _ => ?_))
set_option maxHeartbeats 8000000 in
set_option maxRecDepth 100000 in
theorem impl_UncoveredPlaces.calls (k : Nat) (a0 : ByteArray) (a1 : ByteArray) (r1 : List Int) (r2 : Int) (w : World) (h : impl_UncoveredPlaces.f k a0 a1 = some (r1, r2)) :
  Calls Try.prog 17 #[.string a0, .string a1] w fun e w' => ∃ v0_ : Value, e = .returned (.tuple #[v0_, .int .i64 r2]) ∧ Kd.R (Kd.int .i64) 2 w' w.heap.size (fun _ => True) v0_ r1 ∧ Below w.heap.size w w' := by
 have HB := Aside0.mk (Below.refl w.heap.size w)
 have H : ((impl_coverCode.f k true a0 (([a1] : List ByteArray))).bind fun t447 => (if t447 = 0 then ((impl_covered.f k a0 (([a1] : List ByteArray))).bind fun t451 => (impl_UncoveredPlaces.l0 k ([] : List Int) t451 (t451.length : Int) 0)) else (some (([] : List Int), t447)))) = some (r1, r2) := h
 clear h
 obtain ⟨y444, hy444⟩ : ∃ y_ : List ByteArray, y_ = (([a1] : List ByteArray)) := ⟨_, rfl⟩
 replace H : ((impl_coverCode.f k true a0 y444).bind fun t447 => (if t447 = 0 then ((impl_covered.f k a0 (([a1] : List ByteArray))).bind fun t451 => (impl_UncoveredPlaces.l0 k ([] : List Int) t451 (t451.length : Int) 0)) else (some (([] : List Int), t447)))) = some (r1, r2) := by first | (rw [hy444]; with_reducible exact H) | (have H2_ := (Option.bind_some _ _).symm.trans H; rw [hy444]; with_reducible exact H2_) | (have H2_ := (Option.bind_some _ _).symm.trans H; with_reducible exact H2_) | with_reducible exact H | (rw [hy444]; exact H) | exact H
 have Ny444 := Aside0.mk hy444
 clear hy444
 replace H := Option.bind_eq_some_iff.mp H
 obtain ⟨t447, A30, H⟩ := H
 replace H : (if t447 = 0 then ((impl_covered.f k a0 (([a1] : List ByteArray))).bind fun t451 => (impl_UncoveredPlaces.l0 k ([] : List Int) t451 (t451.length : Int) 0)) else (some (([] : List Int), t447))) = some (r1, r2) := H
 have A3 := Aside0.mk A30
 clear A30
 by_cases c4 : t447 = 0
 ·
  rw [if_pos c4] at H
  have c4b0 : (t447 == 0) = true := beq_iff_eq.mpr c4
  have c4b1 : (t447 != 0) = false := bne_eq_false_iff_eq.mpr c4
  clear c4
  obtain ⟨y448, hy448⟩ : ∃ y_ : List ByteArray, y_ = (([a1] : List ByteArray)) := ⟨_, rfl⟩
  replace H : ((impl_covered.f k a0 y448).bind fun t451 => (impl_UncoveredPlaces.l0 k ([] : List Int) t451 (t451.length : Int) 0)) = some (r1, r2) := by first | (rw [hy448]; with_reducible exact H) | (have H2_ := (Option.bind_some _ _).symm.trans H; rw [hy448]; with_reducible exact H2_) | (have H2_ := (Option.bind_some _ _).symm.trans H; with_reducible exact H2_) | with_reducible exact H | (rw [hy448]; exact H) | exact H
  have Ny448 := Aside0.mk hy448
  clear hy448
  replace H := Option.bind_eq_some_iff.mp H
  obtain ⟨t451, A50, H⟩ := H
  replace H : (impl_UncoveredPlaces.l0 k ([] : List Int) t451 (t451.length : Int) 0) = some (r1, r2) := H
  have A5 := Aside0.mk A50
  clear A50
  have H' := Aside0.mk H
  clear H
  go_enter Try.func17, Try.ntmps17
  go_wp2_with (first | ((with_reducible refine gate_dst (N := 12) rfl ?_); refine Kd.R_lit Kd.string _ 9 ?hg (N := 12) ?hd (xs := ([a1] : List ByteArray)) (inner := [.string a1]) (ok := fun _ => True) (okp := fun _ => True) ?hr ?hp (fun _ hk => hk) trivial (Below.refl _ _) (Nat.le_refl _) (by simp) ?_; (case hd => rfl); (case hg => rfl); (case hr => first | (go_simp; done) | (go_simp; rfl)); (case hp => exact (Reps.one (show Kd.M Kd.string _ _ _ a1 [.string a1] from rfl) (Reps.none _ _))); intro v445 w6 ho7 hb hg_ hnew_; clear hg_ hnew_; (first | rw [← Ny444.out] at ho7 | (simp only [Int.reduceToNat] at ho7; rw [← Ny444.out] at ho7)); have n0_ := Aside0.mk (Kd.R_lower ho7 (below_size (qB HB.out))); have n1_ := Aside0.mk (below_step (qB HB.out) hb); clear HB; have HO446 := n0_; have HB := n1_; clear n0_ n1_; clear hb ho7; obtain ⟨Ao8, co8, eo8⟩ := Kd.R_slice HO446.out; subst eo8) | ((with_reducible refine gate_callee (f := 34) rfl ?_); refine goesL_ (some 13) rfl rfl Try.func34 (by kernel_rfl) rfl #[.bool true, .string a0, .slice Ao8 y444.length co8] rfl qV ?_; (with_reducible refine (impl_coverCode.calls k true a0 _ _ y444 t447 _ ?side1 ?side2 A3.out).mono ?_); (case side1 => exact qC (Kd.R_reads' HO446.out).2.2); (case side2 => exact (Kd.R_reads' HO446.out).2.1); rintro e w9 ⟨rfl, hb⟩; refine ⟨_, rfl, ?_⟩; have n0_ := Aside0.mk (Kd.R_below (qR HO446.out) hb); have n1_ := Aside0.mk (below_step (qB HB.out) hb); clear HO446; clear HB; have HO446 := n0_; have HB := n1_; clear n0_ n1_) | ((with_reducible refine gate_dst (N := 19) rfl ?_); refine Kd.R_lit Kd.string _ 9 ?hg (N := 19) ?hd (xs := ([a1] : List ByteArray)) (inner := [.string a1]) (ok := fun _ => True) (okp := fun _ => True) ?hr ?hp (fun _ hk => hk) trivial (Below.refl _ _) (Nat.le_refl _) (by simp) ?_; (case hd => rfl); (case hg => rfl); (case hr => first | (go_simp; done) | (go_simp; rfl)); (case hp => exact (Reps.one (show Kd.M Kd.string _ _ _ a1 [.string a1] from rfl) (Reps.none _ _))); intro v449 w10 ho11 hb hg_ hnew_; clear hg_ hnew_; (first | rw [← Ny448.out] at ho11 | (simp only [Int.reduceToNat] at ho11; rw [← Ny448.out] at ho11)); have n0_ := Aside0.mk (Kd.R_elder' (qR HO446.out) (Kd.R_base ho11) hb); have n1_ := Aside0.mk (Kd.R_lower (Kd.R_new' ho11 (Kd.R_lt (qR HO446.out))) (below_size (qB HB.out))); have n2_ := Aside0.mk (below_step (qB HB.out) hb); clear HO446; clear HB; have HO446 := n0_; have HO450 := n1_; have HB := n2_; clear n0_ n1_ n2_; clear hb ho11; obtain ⟨Ao12, co12, eo12⟩ := Kd.R_slice HO450.out; subst eo12) | ((with_reducible refine gate_callee (f := 36) rfl ?_); refine goesL_ (some 20) rfl rfl Try.func36 (by kernel_rfl) rfl #[.string a0, .slice Ao12 y448.length co12] rfl qV ?_; (with_reducible refine (impl_covered.calls k a0 _ _ y448 t451 _ ?side1 ?side2 A5.out).mono ?_); (case side1 => exact qC (Kd.R_reads' HO450.out).2.2); (case side2 => exact (Kd.R_reads' HO450.out).2.1); rintro e w13 ⟨v452, rfl, ho0, hb⟩; refine ⟨_, rfl, ?_⟩; have n0_ := Aside0.mk (Kd.R_below (qR HO446.out) hb); have n1_ := Aside0.mk (Kd.R_below (qR HO450.out) hb); have n2_ := Aside0.mk (Kd.R_lower ho0 (below_size (qB HB.out))); have n3_ := Aside0.mk (below_step (qB HB.out) hb); clear HO446; clear HO450; clear HB; have HO446 := n0_; have HO450 := n1_; have HO453 := n2_; have HB := n3_; clear n0_ n1_ n2_ n3_; obtain ⟨Ao14, co14, eo14⟩ := Kd.R_slice HO453.out; subst eo14))
  go_loopg [7, 22] k (fun kq v7 v22 w' => ∃ (x7_1 : List Int) (x22_1 : Int), v22 = .int .i64 x22_1 ∧ Aside0 (impl_UncoveredPlaces.l0 kq x7_1 t451 (t451.length : Int) x22_1 = some (r1, r2)) ∧ Aside0 (kq ≤ k) ∧ Aside0 (Kd.R (Kd.int .i64) 2 w' w.heap.size (fun _ => True) v7 x7_1) ∧ Aside0 (Kd.R Kd.bool 4 w' w.heap.size (fun _ => True) (.slice Ao14 t451.length co14) t451) ∧ Aside0 (Below w.heap.size w w'))
  case atStart => exact ⟨(([] : List Int)), (0), qF, H', ⟨Nat.le_refl _⟩, ⟨by first | exact Kd.R_nil _ _ _ _ _ | exact Kd.N_nil _ _ _ _ _ | exact Kd.V_nil _ _ _ _ _ | exact Kd.Q_nil _ _ _ _ _ | exact Kd.S_nil _ _ _ _ _⟩, ⟨qR HO453.out⟩, ⟨qB HB.out⟩⟩
  case round =>
   clear H'
   obtain ⟨x7_1, x22_1, rfl, HA, HK1, HO_7, HO_20, HB⟩ := hrel
   cases gk with
   | zero => exact absurd HA.out (by simp [impl_UncoveredPlaces.l0])
   | succ k1 =>
    have H := HA.out
    clear HA
    simp only [impl_UncoveredPlaces.l0] at H
    by_cases c15 : x22_1 < (t451.length : Int)
    ·
     rw [if_pos c15] at H
     have c15b0 : decide (x22_1 < (t451.length : Int)) = true := decide_eq_true c15
     clear c15
     by_cases c16 : 0 ≤ x22_1
     ·
      rw [if_pos c16] at H
      have c16b0 : decide (0 ≤ x22_1) = true := decide_eq_true c16
      clear c16
      by_cases c17 : x22_1 < (t451.length : Int)
      ·
       rw [if_pos c17] at H
       have c17b0 : decide (x22_1 < (t451.length : Int)) = true := decide_eq_true c17
       clear c17
       obtain ⟨bq18, hbq18⟩ : ∃ b_ : Bool, b_ = (rdOf false t451 x22_1) := ⟨_, rfl⟩
       replace H : (if bq18 = true then (impl_UncoveredPlaces.l0 k1 x7_1 t451 (t451.length : Int) (wrap64 (x22_1 + 1))) else (if x7_1.length < 17592186044416 then (impl_UncoveredPlaces.l0 k1 (x7_1 ++ [x22_1]) t451 (t451.length : Int) (wrap64 (x22_1 + 1))) else (none))) = some (r1, r2) := by rw [← hbq18] at H; exact H
       have Nbq18 := Aside0.mk hbq18
       clear hbq18
       by_cases c19 : bq18 = true
       ·
        subst c19
        have H1 : (impl_UncoveredPlaces.l0 k1 x7_1 t451 (t451.length : Int) (wrap64 (x22_1 + 1))) = some (r1, r2) := by rw [if_pos rfl] at H; exact H
        clear H
        have H := H1
        clear H1
        have H' := Aside0.mk H
        clear H
        have p454 : 0 ≤ (x22_1 : Int) := of_decide_eq_true (by first | (with_reducible assumption) | assumption)
        have q454 : x22_1 < (t451.length : Int) := of_decide_eq_true (by first | (with_reducible assumption) | assumption)
        obtain ⟨ad454, e454, hx454_0⟩ := Kd.at_bool (Kd.R_reads' HO_20.out).2.2 x22_1 p454 q454
        (try rw [← Nbq18.out] at hx454_0)
        cases e454
        replace p454 := eq_true p454
        replace q454 := eq_true q454
        go_wp2
        go_roundg k1
        case measure => have := HK1.out; omega
        case rel => exact ⟨(x7_1), (wrap64 (x22_1 + 1)), qF, H', ⟨by have := HK1.out; omega⟩, ⟨qR HO_7.out⟩, ⟨qR HO_20.out⟩, ⟨qB HB.out⟩⟩
       ·
        replace c19 := Bool.eq_false_iff.mpr c19
        subst c19
        have H1 : (if x7_1.length < 17592186044416 then (impl_UncoveredPlaces.l0 k1 (x7_1 ++ [x22_1]) t451 (t451.length : Int) (wrap64 (x22_1 + 1))) else (none)) = some (r1, r2) := by rw [if_neg (show ¬ (false = true) by decide)] at H; exact H
        clear H
        have H := H1
        clear H1
        by_cases c20 : x7_1.length < 17592186044416
        ·
         rw [if_pos c20] at H
         have LMc20 := Aside0.mk c20
         clear c20
         obtain ⟨y455, hy455⟩ : ∃ y_ : List Int, y_ = (x7_1 ++ [x22_1]) := ⟨_, rfl⟩
         replace H : (impl_UncoveredPlaces.l0 k1 y455 t451 (t451.length : Int) (wrap64 (x22_1 + 1))) = some (r1, r2) := by first | (rw [hy455]; with_reducible exact H) | (have H2_ := (Option.bind_some _ _).symm.trans H; rw [hy455]; with_reducible exact H2_) | (have H2_ := (Option.bind_some _ _).symm.trans H; with_reducible exact H2_) | with_reducible exact H | (rw [hy455]; exact H) | exact H
         have Ny455 := Aside0.mk hy455
         clear hy455
         have H' := Aside0.mk H
         clear H
         have p454 : 0 ≤ (x22_1 : Int) := of_decide_eq_true (by first | (with_reducible assumption) | assumption)
         have q454 : x22_1 < (t451.length : Int) := of_decide_eq_true (by first | (with_reducible assumption) | assumption)
         obtain ⟨ad454, e454, hx454_0⟩ := Kd.at_bool (Kd.R_reads' HO_20.out).2.2 x22_1 p454 q454
         (try rw [← Nbq18.out] at hx454_0)
         cases e454
         replace p454 := eq_true p454
         replace q454 := eq_true q454
         go_wp2_with (first | ((with_reducible refine gate_builtin (b := .append) (xs := #[.tmp 29, .tmp 31]) rfl ?_); at_builtin; refine Kd.R_append (Kd.int .i64) (w0 := w) w.heap.size rfl (.tmp 29) (.tmp 31) 30 2 (.int .i64 0) 8 rfl Try.underlying30 info2 rfl (by decide) (by omega) u7 x7_1 x22_1 [.int .i64 x22_1] (fun _ => True) (fun _ => False) rfl rfl ?aP (fun _ hk => hk.elim) ?aF ?aO ?aB ?aS ?aL ?_; (case aP => exact rfl); (case aB => exact (qB HB.out)); (case aF => exact (fun _ _ => trivial)); (case aO => exact (qR HO_7.out)); (case aS => exact (below_size (qB HB.out))); (case aL => have := LMc20.out; omega); intro v456 w21 ho hb hg hat; rw [← Ny455.out] at ho; have n0_ := Aside0.mk (Kd.R_over' (qR HO_20.out) (Kd.R_typed (qR HO_7.out)) (by decide) hg); have n1_ := Aside0.mk (hb); have n2_ := Aside0.mk (ho); clear HO_20; clear HB; clear HO_7; have HO_20 := n0_; have HB := n1_; have HO457 := n2_; clear n0_ n1_ n2_; clear ho hb hg hat))
         go_roundg k1
         case measure => have := HK1.out; omega
         case rel => exact ⟨(y455), (wrap64 (x22_1 + 1)), qF, H', ⟨by have := HK1.out; omega⟩, ⟨qR HO457.out⟩, ⟨qR HO_20.out⟩, ⟨qB HB.out⟩⟩
        ·
         rw [if_neg c20] at H
         exact absurd H (by simp)
      ·
       rw [if_neg c17] at H
       exact absurd H (by simp)
     ·
      rw [if_neg c16] at H
      exact absurd H (by simp)
    ·
     rw [if_neg c15] at H
     have c15b0 : decide (x22_1 < (t451.length : Int)) = false := decide_eq_false c15
     clear c15
     simp only [Option.some.injEq, Prod.mk.injEq] at H
     obtain ⟨rfl, rfl⟩ := H
     go_wp2
     go_ret2
     exact ⟨_, qE, qR HO_7.out, qB HB.out⟩
 ·
  rw [if_neg c4] at H
  have c4b0 : (t447 == 0) = false := beq_eq_false_iff_ne.mpr c4
  have c4b1 : (t447 != 0) = true := bne_iff_ne.mpr c4
  simp only [Option.some.injEq, Prod.mk.injEq] at H
  obtain ⟨rfl, rfl⟩ := H
  go_enter Try.func17, Try.ntmps17
  go_wp2_with (first | ((with_reducible refine gate_dst (N := 12) rfl ?_); refine Kd.R_lit Kd.string _ 9 ?hg (N := 12) ?hd (xs := ([a1] : List ByteArray)) (inner := [.string a1]) (ok := fun _ => True) (okp := fun _ => True) ?hr ?hp (fun _ hk => hk) trivial (Below.refl _ _) (Nat.le_refl _) (by simp) ?_; (case hd => rfl); (case hg => rfl); (case hr => first | (go_simp; done) | (go_simp; rfl)); (case hp => exact (Reps.one (show Kd.M Kd.string _ _ _ a1 [.string a1] from rfl) (Reps.none _ _))); intro v445 w22 ho23 hb hg_ hnew_; clear hg_ hnew_; (first | rw [← Ny444.out] at ho23 | (simp only [Int.reduceToNat] at ho23; rw [← Ny444.out] at ho23)); have n0_ := Aside0.mk (Kd.R_lower ho23 (below_size (qB HB.out))); have n1_ := Aside0.mk (below_step (qB HB.out) hb); clear HB; have HO446 := n0_; have HB := n1_; clear n0_ n1_; clear hb ho23; obtain ⟨Ao24, co24, eo24⟩ := Kd.R_slice HO446.out; subst eo24) | ((with_reducible refine gate_callee (f := 34) rfl ?_); refine goesL_ (some 13) rfl rfl Try.func34 (by kernel_rfl) rfl #[.bool true, .string a0, .slice Ao24 y444.length co24] rfl qV ?_; (with_reducible refine (impl_coverCode.calls k true a0 _ _ y444 t447 _ ?side1 ?side2 A3.out).mono ?_); (case side1 => exact qC (Kd.R_reads' HO446.out).2.2); (case side2 => exact (Kd.R_reads' HO446.out).2.1); rintro e w25 ⟨rfl, hb⟩; refine ⟨_, rfl, ?_⟩; have n0_ := Aside0.mk (Kd.R_below (qR HO446.out) hb); have n1_ := Aside0.mk (below_step (qB HB.out) hb); clear HO446; clear HB; have HO446 := n0_; have HB := n1_; clear n0_ n1_))
  go_ret2
  exact ⟨_, qE, by first | exact Kd.R_nil _ _ _ _ _ | exact Kd.N_nil _ _ _ _ _ | exact Kd.V_nil _ _ _ _ _ | exact Kd.Q_nil _ _ _ _ _ | exact Kd.S_nil _ _ _ _ _, qB HB.out⟩

end Go.Proofs.Ytoadancbpgignaa.PF

namespace Go.Proofs.Ytoadancbpgignaa.PF
open Go.RowKit Go.Proofs.YtoadancbpgignaaW.PrintWords Go.Proofs.YtoadancbpgignaaW.PrintLast Go.Proofs.YtoadancbpgignaaW.PrintMore
attribute [local go_sem] max2_int min2_int max_two min_two max_three min_three max_four min_four   -- for this text's walks alone
set_option linter.unusedVariables false
set_option linter.unusedSimpArgs false

/-! ### impl_IsSeed: function 18 -/
def impl_IsSeed.f (k : Nat) (a0 : ByteArray) (a1 : ByteArray) : Option (Bool × Int) := (impl_coverCode.f k (decide ((a1.size : Int) ≤ (a0.size : Int))) a0 (([a1] : List ByteArray))).bind fun t474 => (if t474 = 0 then ((impl_isSeed.f k a0 a1).bind fun t475 => (some (t475, 0))) else (some (false, t474)))
theorem impl_IsSeed.mono : ∀ a0 a1 k, LeO (impl_IsSeed.f k a0 a1) (impl_IsSeed.f (k + 1) a0 a1) := by
 intro a0 a1 k
 unfold impl_IsSeed.f
 repeat' first
   | (with_reducible exact impl_coverCode.mono _ _ _ _)
   | (with_reducible exact impl_isSeed.mono _ _ _)
   | (with_reducible exact LeO.refl _)
   | (with_reducible exact LeO.none _)
   | (with_reducible refine LeO.ite ?_ ?_)
   | (with_reducible refine LeO.bind ?_ (fun _ => ?_))
set_option maxHeartbeats 8000000 in
set_option maxRecDepth 100000 in
theorem impl_IsSeed.calls (k : Nat) (a0 : ByteArray) (a1 : ByteArray) (r1 : Bool) (r2 : Int) (w : World) (h : impl_IsSeed.f k a0 a1 = some (r1, r2)) :
  Calls Try.prog 18 #[.string a0, .string a1] w fun e w' => e = .returned (.tuple #[.bool r1, .int .i64 r2]) ∧ Below w.heap.size w w' := by
 have HB := Aside0.mk (Below.refl w.heap.size w)
 have H : ((impl_coverCode.f k (decide ((a1.size : Int) ≤ (a0.size : Int))) a0 (([a1] : List ByteArray))).bind fun t474 => (if t474 = 0 then ((impl_isSeed.f k a0 a1).bind fun t475 => (some (t475, 0))) else (some (false, t474)))) = some (r1, r2) := h
 clear h
 obtain ⟨y471, hy471⟩ : ∃ y_ : List ByteArray, y_ = (([a1] : List ByteArray)) := ⟨_, rfl⟩
 replace H : ((impl_coverCode.f k (decide ((a1.size : Int) ≤ (a0.size : Int))) a0 y471).bind fun t474 => (if t474 = 0 then ((impl_isSeed.f k a0 a1).bind fun t475 => (some (t475, 0))) else (some (false, t474)))) = some (r1, r2) := by first | (rw [hy471]; with_reducible exact H) | (have H2_ := (Option.bind_some _ _).symm.trans H; rw [hy471]; with_reducible exact H2_) | (have H2_ := (Option.bind_some _ _).symm.trans H; with_reducible exact H2_) | with_reducible exact H | (rw [hy471]; exact H) | exact H
 have Ny471 := Aside0.mk hy471
 clear hy471
 replace H := Option.bind_eq_some_iff.mp H
 obtain ⟨t474, A30, H⟩ := H
 replace H : (if t474 = 0 then ((impl_isSeed.f k a0 a1).bind fun t475 => (some (t475, 0))) else (some (false, t474))) = some (r1, r2) := H
 have A3 := Aside0.mk A30
 try simp only [Int.ofNat_le] at A3
 clear A30
 by_cases c4 : t474 = 0
 ·
  rw [if_pos c4] at H
  have c4b0 : (t474 == 0) = true := beq_iff_eq.mpr c4
  have c4b1 : (t474 != 0) = false := bne_eq_false_iff_eq.mpr c4
  clear c4
  replace H := Option.bind_eq_some_iff.mp H
  obtain ⟨t475, A50, H⟩ := H
  replace H : (some (t475, 0)) = some (r1, r2) := H
  have A5 := Aside0.mk A50
  clear A50
  simp only [Option.some.injEq, Prod.mk.injEq] at H
  obtain ⟨rfl, rfl⟩ := H
  go_enter Try.func18, Try.ntmps18
  go_wp2_with (first | ((with_reducible refine gate_dst (N := 14) rfl ?_); refine Kd.R_lit Kd.string _ 9 ?hg (N := 14) ?hd (xs := ([a1] : List ByteArray)) (inner := [.string a1]) (ok := fun _ => True) (okp := fun _ => True) ?hr ?hp (fun _ hk => hk) trivial (Below.refl _ _) (Nat.le_refl _) (by simp) ?_; (case hd => rfl); (case hg => rfl); (case hr => first | (go_simp; done) | (go_simp; rfl)); (case hp => exact (Reps.one (show Kd.M Kd.string _ _ _ a1 [.string a1] from rfl) (Reps.none _ _))); intro v472 w6 ho7 hb hg_ hnew_; clear hg_ hnew_; (first | rw [← Ny471.out] at ho7 | (simp only [Int.reduceToNat] at ho7; rw [← Ny471.out] at ho7)); have n0_ := Aside0.mk (Kd.R_lower ho7 (below_size (qB HB.out))); have n1_ := Aside0.mk (below_step (qB HB.out) hb); clear HB; have HO473 := n0_; have HB := n1_; clear n0_ n1_; clear hb ho7; obtain ⟨Ao8, co8, eo8⟩ := Kd.R_slice HO473.out; subst eo8) | ((with_reducible refine gate_callee (f := 34) rfl ?_); refine goesL_ (some 15) rfl rfl Try.func34 (by kernel_rfl) rfl #[.bool (decide (a1.size ≤ a0.size)), .string a0, .slice Ao8 y471.length co8] rfl qV ?_; (with_reducible refine (impl_coverCode.calls k (decide (a1.size ≤ a0.size)) a0 _ _ y471 t474 _ ?side1 ?side2 A3.out).mono ?_); (case side1 => exact qC (Kd.R_reads' HO473.out).2.2); (case side2 => exact (Kd.R_reads' HO473.out).2.1); rintro e w9 ⟨rfl, hb⟩; refine ⟨_, rfl, ?_⟩; have n0_ := Aside0.mk (Kd.R_below (qR HO473.out) hb); have n1_ := Aside0.mk (below_step (qB HB.out) hb); clear HO473; clear HB; have HO473 := n0_; have HB := n1_; clear n0_ n1_) | ((with_reducible refine gate_callee (f := 37) rfl ?_); refine goesL_ (some 21) rfl rfl Try.func37 (by kernel_rfl) rfl #[.string a0, .string a1] rfl qV ?_; (with_reducible refine (impl_isSeed.calls k a0 a1 t475 _ A5.out).mono ?_); rintro e w10 ⟨rfl, hb⟩; refine ⟨_, rfl, ?_⟩; have n0_ := Aside0.mk (Kd.R_below (qR HO473.out) hb); have n1_ := Aside0.mk (below_step (qB HB.out) hb); clear HO473; clear HB; have HO473 := n0_; have HB := n1_; clear n0_ n1_))
  go_ret2
  exact ⟨qE, qB HB.out⟩
 ·
  rw [if_neg c4] at H
  have c4b0 : (t474 == 0) = false := beq_eq_false_iff_ne.mpr c4
  have c4b1 : (t474 != 0) = true := bne_iff_ne.mpr c4
  simp only [Option.some.injEq, Prod.mk.injEq] at H
  obtain ⟨rfl, rfl⟩ := H
  go_enter Try.func18, Try.ntmps18
  go_wp2_with (first | ((with_reducible refine gate_dst (N := 14) rfl ?_); refine Kd.R_lit Kd.string _ 9 ?hg (N := 14) ?hd (xs := ([a1] : List ByteArray)) (inner := [.string a1]) (ok := fun _ => True) (okp := fun _ => True) ?hr ?hp (fun _ hk => hk) trivial (Below.refl _ _) (Nat.le_refl _) (by simp) ?_; (case hd => rfl); (case hg => rfl); (case hr => first | (go_simp; done) | (go_simp; rfl)); (case hp => exact (Reps.one (show Kd.M Kd.string _ _ _ a1 [.string a1] from rfl) (Reps.none _ _))); intro v472 w11 ho12 hb hg_ hnew_; clear hg_ hnew_; (first | rw [← Ny471.out] at ho12 | (simp only [Int.reduceToNat] at ho12; rw [← Ny471.out] at ho12)); have n0_ := Aside0.mk (Kd.R_lower ho12 (below_size (qB HB.out))); have n1_ := Aside0.mk (below_step (qB HB.out) hb); clear HB; have HO473 := n0_; have HB := n1_; clear n0_ n1_; clear hb ho12; obtain ⟨Ao13, co13, eo13⟩ := Kd.R_slice HO473.out; subst eo13) | ((with_reducible refine gate_callee (f := 34) rfl ?_); refine goesL_ (some 15) rfl rfl Try.func34 (by kernel_rfl) rfl #[.bool (decide (a1.size ≤ a0.size)), .string a0, .slice Ao13 y471.length co13] rfl qV ?_; (with_reducible refine (impl_coverCode.calls k (decide (a1.size ≤ a0.size)) a0 _ _ y471 t474 _ ?side1 ?side2 A3.out).mono ?_); (case side1 => exact qC (Kd.R_reads' HO473.out).2.2); (case side2 => exact (Kd.R_reads' HO473.out).2.1); rintro e w14 ⟨rfl, hb⟩; refine ⟨_, rfl, ?_⟩; have n0_ := Aside0.mk (Kd.R_below (qR HO473.out) hb); have n1_ := Aside0.mk (below_step (qB HB.out) hb); clear HO473; clear HB; have HO473 := n0_; have HB := n1_; clear n0_ n1_))
  go_ret2
  exact ⟨qE, qB HB.out⟩

end Go.Proofs.Ytoadancbpgignaa.PF
