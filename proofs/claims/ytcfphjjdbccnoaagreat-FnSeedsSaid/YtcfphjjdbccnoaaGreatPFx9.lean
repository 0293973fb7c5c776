-- an own text, written by a program of this place (wip/tools)
import Derived.Test.YtcfphjjdbccnoaaGreatPFx0
import Derived.Test.YtcfphjjdbccnoaaGreatPFx1
import Derived.Test.YtcfphjjdbccnoaaGreatPFx6
import Derived.Test.YtcfphjjdbccnoaaGreatPFx2
import Derived.Test.YtcfphjjdbccnoaaGreatPFx7
import Derived.Test.YtcfphjjdbccnoaaGreatPFx5
import Derived.Test.YtcfphjjdbccnoaaGreatPFx3
import Derived.Test.YtcfphjjdbccnoaaGreatPFGivW
namespace Go.Proofs.YtcfphjjdbccnoaaGreat.PF
open Go.RowKit Go.Proofs.YtcfphjjdbccnoaaGreatW.PrintWords Go.Proofs.YtcfphjjdbccnoaaGreatW.PrintLast Go.Proofs.YtcfphjjdbccnoaaGreatW.PrintMore
attribute [local go_sem] max2_int min2_int max_two min_two max_three min_three max_four min_four   -- for this text's walks alone
set_option linter.unusedVariables false
set_option linter.unusedSimpArgs false

/-! ### laws_FnSeeds: function 3 -/
mutual
def laws_FnSeeds.j0 : Nat → List Int → ByteArray → ByteArray → Int → Bool → Option (Bool)
 | 0, _, _, _, _, _ => none
 | k + 1, x0, x3, x4, x5, x75 => if x75 = true then (some false) else (if x5 = 0 then ((impl_IsSeed.f k x3 x4).bind fun bt690 => ((impl_LeastCover.f k x3).bind fun bt692 => ((impl_SeedsOf.f k x3 (x4.size : Int)).bind fun bt694 => (if bt690.2 = 0 then (if bt692.2 = 0 then (if bt694.2 = 0 then (if bt690.1 = true then (if (x4.size : Int) > (bt692.1.size : Int) then (some false) else (if (bt694.1.length : Int) < 1 then (some false) else (if 0 < (bt694.1.length : Int) then (if (rdOf ByteArray.empty bt694.1 0).toList = x4.toList then (laws_FnSeeds.j1 k x0) else (some false)) else (none)))) else (some false)) else (some false)) else (some false)) else (some false))))) else (laws_FnSeeds.j1 k x0))
def laws_FnSeeds.j1 : Nat → List Int → Option (Bool)
 | 0, _ => none
 | k + 1, x0 => (spec_DrawBestBorder.f k x0).bind fun t699 => ((impl_BestBorder.f k t699).bind fun bt700 => ((spec_BestBorder.f k t699).bind fun bt703 => (if bt700.2.2 = bt703.2.2 then (if bt700.1.toList = bt703.1.toList then (laws_FnSeeds.j2 k x0 t699 bt700.1 bt700.2.1 bt700.2.2 (bt700.2.1 != bt703.2.1)) else (laws_FnSeeds.j2 k x0 t699 bt700.1 bt700.2.1 bt700.2.2 true)) else (laws_FnSeeds.j2 k x0 t699 bt700.1 bt700.2.1 bt700.2.2 true))))
def laws_FnSeeds.j2 : Nat → List Int → ByteArray → ByteArray → Int → Int → Bool → Option (Bool)
 | 0, _, _, _, _, _, _ => none
 | k + 1, x0, x14, x15, x16, x17, x155 => if x155 = true then (some false) else (if x17 = 0 then ((impl_UncoveredPlaces.f k x14 x15).bind fun bt706 => ((impl_BordersOf.f k x14).bind fun bt710 => (if bt706.2 = 0 then (if bt710.2 = 0 then (if (wrap64 ((bt706.1.length : Int) + x16)) = (x14.size : Int) then ((laws_hasInt.f k bt710.1 (x15.size : Int)).bind fun t714 => (if t714 = true then (laws_FnSeeds.j3 k x0) else (some false))) else (some false)) else (some false)) else (some false)))) else (laws_FnSeeds.j3 k x0))
def laws_FnSeeds.j3 : Nat → List Int → Option (Bool)
 | 0, _ => none
 | k + 1, x0 => (spec_DrawFirstTwo.f k x0).bind fun bt715 => ((impl_FirstTwo.f k bt715.1 bt715.2).bind fun bt717 => ((spec_FirstTwo.f k bt715.1 bt715.2).bind fun bt721 => (if bt717.2 = bt721.2 then ((laws_words5.f k bt717.1 bt721.1).bind fun t725 => (laws_FnSeeds.j4 k x0 bt715.1 bt717.1 bt717.2 (!t725))) else (laws_FnSeeds.j4 k x0 bt715.1 bt717.1 bt717.2 true))))
def laws_FnSeeds.j4 : Nat → List Int → ByteArray → List ByteArray → Int → Bool → Option (Bool)
 | 0, _, _, _, _, _ => none
 | k + 1, x0, x25, x27, x28, x216 => if x216 = true then (some false) else (if x28 = 0 then (if 0 < (x27.length : Int) then (if 1 < (x27.length : Int) then ((impl_CoveredByTwo.f k x25 (rdOf ByteArray.empty x27 0) (rdOf ByteArray.empty x27 1)).bind fun bt728 => (if bt728.2 = 0 then (if bt728.1 = true then (if ((Op.bytesLess ((rdOf ByteArray.empty x27 0).toList) ((rdOf ByteArray.empty x27 1).toList)) = true) then (laws_FnSeeds.j5 k x0) else (some false)) else (some false)) else (some false))) else (none)) else (none)) else (laws_FnSeeds.j5 k x0))
def laws_FnSeeds.j5 : Nat → List Int → Option (Bool)
 | 0, _ => none
 | k + 1, x0 => (spec_DrawIsSeed.f k x0).bind fun bt732 => ((impl_IsSeed.f k bt732.1 bt732.2).bind fun bt734 => ((spec_IsSeed.f k bt732.1 bt732.2).bind fun bt736 => ((spec_DrawSeedsOf.f k x0).bind fun bt738 => ((impl_SeedsOf.f k bt738.1 bt738.2).bind fun bt740 => ((spec_SeedsOf.f k bt738.1 bt738.2).bind fun bt744 => ((spec_DrawCoveredByTwo.f k x0).bind fun bt748 => ((impl_CoveredByTwo.f k bt748.1 bt748.2.1 bt748.2.2).bind fun bt751 => ((spec_CoveredByTwo.f k bt748.1 bt748.2.1 bt748.2.2).bind fun bt753 => (if bt734.2 = bt736.2 then (if (bt734.1 != bt736.1) = true then (laws_FnSeeds.j6 k bt732.1 bt732.2 bt734.1 bt734.2 true) else (if bt740.2 = bt744.2 then ((laws_words5.f k bt740.1 bt744.1).bind fun t755 => (if t755 = true then (if bt751.2 = bt753.2 then (laws_FnSeeds.j6 k bt732.1 bt732.2 bt734.1 bt734.2 (bt751.1 != bt753.1)) else (laws_FnSeeds.j6 k bt732.1 bt732.2 bt734.1 bt734.2 true)) else (laws_FnSeeds.j6 k bt732.1 bt732.2 bt734.1 bt734.2 true))) else (laws_FnSeeds.j6 k bt732.1 bt732.2 bt734.1 bt734.2 true))) else (laws_FnSeeds.j6 k bt732.1 bt732.2 bt734.1 bt734.2 true))))))))))
def laws_FnSeeds.j6 : Nat → ByteArray → ByteArray → Bool → Int → Bool → Option (Bool)
 | 0, _, _, _, _, _ => none
 | k + 1, x33, x34, x35, x36, x327 => if x327 = true then (some false) else (if x36 = 0 then ((impl_IsCover.f k x33 x34).bind fun bt756 => (if bt756.2 = 0 then (if bt756.1 = true then (some x35) else (some true)) else (some false))) else (some true))
end
def laws_FnSeeds.f (k : Nat) (l0 : List Int) : Option (Bool) := (laws_big.f l0).bind fun t684 => (if t684 = true then (some true) else ((spec_DrawLeastSeed.f k l0).bind fun t685 => ((impl_LeastSeed.f k t685).bind fun bt686 => ((spec_LeastSeed.f k t685).bind fun bt688 => (if bt686.2 = bt688.2 then (laws_FnSeeds.j0 k l0 t685 bt686.1 bt686.2 (bt686.1.toList != bt688.1.toList)) else (laws_FnSeeds.j0 k l0 t685 bt686.1 bt686.2 true))))))
theorem laws_FnSeeds.mono_l : ∀ k, (∀ y0 y1 y2 y3 y4, LeO (laws_FnSeeds.j0 k y0 y1 y2 y3 y4) (laws_FnSeeds.j0 (k + 1) y0 y1 y2 y3 y4)) ∧ (∀ y0, LeO (laws_FnSeeds.j1 k y0) (laws_FnSeeds.j1 (k + 1) y0)) ∧ (∀ y0 y1 y2 y3 y4 y5, LeO (laws_FnSeeds.j2 k y0 y1 y2 y3 y4 y5) (laws_FnSeeds.j2 (k + 1) y0 y1 y2 y3 y4 y5)) ∧ (∀ y0, LeO (laws_FnSeeds.j3 k y0) (laws_FnSeeds.j3 (k + 1) y0)) ∧ (∀ y0 y1 y2 y3 y4, LeO (laws_FnSeeds.j4 k y0 y1 y2 y3 y4) (laws_FnSeeds.j4 (k + 1) y0 y1 y2 y3 y4)) ∧ (∀ y0, LeO (laws_FnSeeds.j5 k y0) (laws_FnSeeds.j5 (k + 1) y0)) ∧ (∀ y0 y1 y2 y3 y4, LeO (laws_FnSeeds.j6 k y0 y1 y2 y3 y4) (laws_FnSeeds.j6 (k + 1) y0 y1 y2 y3 y4))
 | 0 => ⟨fun _ _ _ _ _ r h => by simp [laws_FnSeeds.j0] at h, fun _ r h => by simp [laws_FnSeeds.j1] at h, fun _ _ _ _ _ _ r h => by simp [laws_FnSeeds.j2] at h, fun _ r h => by simp [laws_FnSeeds.j3] at h, fun _ _ _ _ _ r h => by simp [laws_FnSeeds.j4] at h, fun _ r h => by simp [laws_FnSeeds.j5] at h, fun _ _ _ _ _ r h => by simp [laws_FnSeeds.j6] at h⟩
 | k + 1 => by
  obtain ⟨ih0, ih1, ih2, ih3, ih4, ih5, ih6⟩ := laws_FnSeeds.mono_l k
  refine ⟨?_, ?_, ?_, ?_, ?_, ?_, ?_⟩
  all_goals intros
  all_goals first | unfold laws_FnSeeds.j0 | unfold laws_FnSeeds.j1 | unfold laws_FnSeeds.j2 | unfold laws_FnSeeds.j3 | unfold laws_FnSeeds.j4 | unfold laws_FnSeeds.j5 | unfold laws_FnSeeds.j6
  all_goals with_reducible repeat' first
  | exact ih0 _ _ _ _ _
  | exact ih1 _
  | exact ih2 _ _ _ _ _ _
  | exact ih3 _
  | exact ih4 _ _ _ _ _
  | exact ih5 _
  | exact ih6 _ _ _ _ _
  | exact impl_BestBorder.mono _ _
  | exact impl_BordersOf.mono _ _
  | exact impl_CoveredByTwo.mono _ _ _ _
  | exact impl_FirstTwo.mono _ _ _
  | exact impl_IsCover.mono _ _ _
  | exact impl_IsSeed.mono _ _ _
  | exact impl_LeastCover.mono _ _
  | exact impl_LeastSeed.mono _ _
  | exact impl_SeedsOf.mono _ _ _
  | exact impl_UncoveredPlaces.mono _ _ _
  | exact laws_hasInt.mono _ _ _
  | exact laws_words5.mono _ _ _
  | exact spec_BestBorder.mono _ _
  | exact spec_CoveredByTwo.mono _ _ _ _
  | exact spec_DrawBestBorder.mono _ _
  | exact spec_DrawCoveredByTwo.mono _ _
  | exact spec_DrawFirstTwo.mono _ _
  | exact spec_DrawIsSeed.mono _ _
  | exact spec_DrawLeastSeed.mono _ _
  | exact spec_DrawSeedsOf.mono _ _
  | exact spec_FirstTwo.mono _ _ _
  | exact spec_IsSeed.mono _ _ _
  | exact spec_LeastSeed.mono _ _
  | exact spec_SeedsOf.mono _ _ _
  | exact LeO.refl _
  | exact LeO.none _
  | refine LeO.ite ?_ ?_
  | refine LeO.bind ?_ (fun _ => ?_)
theorem laws_FnSeeds.mono : ∀ a0 k, LeO (laws_FnSeeds.f k a0) (laws_FnSeeds.f (k + 1) a0) := by
 intro a0 k
 obtain ⟨ih0, ih1, ih2, ih3, ih4, ih5, ih6⟩ := laws_FnSeeds.mono_l k
 unfold laws_FnSeeds.f
 with_reducible repeat' first
   | exact ih0 _ _ _ _ _
   | exact ih1 _
   | exact ih2 _ _ _ _ _ _
   | exact ih3 _
   | exact ih4 _ _ _ _ _
   | exact ih5 _
   | exact ih6 _ _ _ _ _
   | exact impl_BestBorder.mono _ _
   | exact impl_BordersOf.mono _ _
   | exact impl_CoveredByTwo.mono _ _ _ _
   | exact impl_FirstTwo.mono _ _ _
   | exact impl_IsCover.mono _ _ _
   | exact impl_IsSeed.mono _ _ _
   | exact impl_LeastCover.mono _ _
   | exact impl_LeastSeed.mono _ _
   | exact impl_SeedsOf.mono _ _ _
   | exact impl_UncoveredPlaces.mono _ _ _
   | exact laws_hasInt.mono _ _ _
   | exact laws_words5.mono _ _ _
   | exact spec_BestBorder.mono _ _
   | exact spec_CoveredByTwo.mono _ _ _ _
   | exact spec_DrawBestBorder.mono _ _
   | exact spec_DrawCoveredByTwo.mono _ _
   | exact spec_DrawFirstTwo.mono _ _
   | exact spec_DrawIsSeed.mono _ _
   | exact spec_DrawLeastSeed.mono _ _
   | exact spec_DrawSeedsOf.mono _ _
   | exact spec_FirstTwo.mono _ _ _
   | exact spec_IsSeed.mono _ _ _
   | exact spec_LeastSeed.mono _ _
   | exact spec_SeedsOf.mono _ _ _
   | exact LeO.refl _
   | exact LeO.none _
   | refine LeO.ite ?_ ?_
   | refine LeO.bind ?_ (fun _ => ?_)
def laws_FnSeeds.T30 : Bool × List (List Nat × List Nat) := (true, [([], []), ([], []), ([1], [1]), ([2], [2]), ([], []), ([4], [4]), ([5], [5]), ([0, 3, 6], [0, 3, 6]), ([7], [7]), ([8], [8]), ([8], [8]), ([9, 7, 0, 1, 2, 3, 4, 5, 6, 7, 8, 9], [9]), ([10, 11, 0, 1, 2, 3, 4, 5, 6, 7, 8, 9, 10, 11], [10])])
def laws_FnSeeds.B30 : List Nat := [0, 0, 2, 6, 0, 16, 48, 127, 255, 511, 511, 1023, 4095]
theorem laws_FnSeeds.tab30 : rtab .any (opsOf Tryz.f3 30) = laws_FnSeeds.T30 := by kernel_rfl
theorem laws_FnSeeds.bits30 : waitsOk laws_FnSeeds.T30.2 laws_FnSeeds.B30 = true := by kernel_rfl
def laws_FnSeeds.T31 : Bool × List (List Nat × List Nat) := (true, [([], []), ([0], [0]), ([1], [1]), ([2], [2]), ([3, 2], [2, 3]), ([2, 4], [2, 4]), ([5, 2], [5]), ([6], [6]), ([7, 6], [6, 7]), ([8, 6], [6, 8]), ([6], [6]), ([10, 6], [6, 10]), ([11, 6], [6, 11]), ([9, 12, 6], [6, 9, 12]), ([6, 13], [6, 13])])
def laws_FnSeeds.B31 : List Nat := [0, 1, 3, 7, 15, 31, 63, 127, 255, 511, 127, 1151, 3199, 8191, 16383]
theorem laws_FnSeeds.tab31 : rtab .any (opsOf Tryz.f3 31) = laws_FnSeeds.T31 := by kernel_rfl
theorem laws_FnSeeds.bits31 : waitsOk laws_FnSeeds.T31.2 laws_FnSeeds.B31 = true := by kernel_rfl
set_option maxHeartbeats 8000000 in
set_option maxRecDepth 100000 in
theorem laws_FnSeeds.calls (k : Nat) (A0 : Option Addr) (c0 : Nat) (l0 : List Int) (r : Bool) (w : World) (hr0 : Kd.C (Kd.int .u8) w A0 l0.length l0) (hc0 : l0.length ≤ c0) (h : laws_FnSeeds.f k l0 = some r) :
  Calls Tryz.prog 3 #[.slice A0 l0.length c0] w fun e w' => e = .returned (.bool r) ∧ Below w.heap.size w w' := by
 have HR0 := Aside0.mk hr0
 have HC0 := Aside0.mk hc0
 clear hr0 hc0
 have HB := Aside0.mk (Below.refl w.heap.size w)
 have H : ((laws_big.f l0).bind fun t684 => (if t684 = true then (some true) else ((spec_DrawLeastSeed.f k l0).bind fun t685 => ((impl_LeastSeed.f k t685).bind fun bt686 => ((spec_LeastSeed.f k t685).bind fun bt688 => (if bt686.2 = bt688.2 then (laws_FnSeeds.j0 k l0 t685 bt686.1 bt686.2 (bt686.1.toList != bt688.1.toList)) else (laws_FnSeeds.j0 k l0 t685 bt686.1 bt686.2 true))))))) = some r := h
 clear h
 obtain ⟨t684, A2, H⟩ := qN H
 try dsimp only at H
 by_cases c3 : t684 = true
 ·
  subst c3
  rw [if_pos rfl] at H
  obtain rfl := Option.some.inj H
  go_enter Tryz.func3, Tryz.ntmps3
  as_aux_lemma =>
   go_wp2_with (first | ((with_reducible refine gate_callee (f := 4) rfl ?_); refine goesL_ (some 55) rfl rfl Tryz.func4 (by kernel_rfl) rfl #[.slice A0 l0.length c0] rfl qV ?_; (with_reducible refine (laws_big.calls _ _ l0 true _ ?side1 ?side2 A2.out).mono ?_); (case side1 => exact qC HR0.out); (case side2 => exact HC0.out); rintro e w' ⟨rfl, ⟨nd, rfl⟩⟩; refine ⟨_, rfl, ?_⟩))
   go_ret
   exact ⟨qE, qB HB.out⟩
 replace c3 := Bool.eq_false_iff.mpr c3
 subst c3
 rw [if_neg (show ¬ (false = true) by decide)] at H
 obtain ⟨t685, A4, H⟩ := qN H
 try dsimp only at H
 obtain ⟨⟨t686, t687⟩, A5, H⟩ := qN H
 try dsimp only at H
 obtain ⟨⟨t688, t689⟩, A6, H⟩ := qN H
 try dsimp only at H
 have HC7 := Aside0.mk H
 clear H
 go_enter Tryz.func3, Tryz.ntmps3
 go_upto_region 6 with (first | ((with_reducible refine gate_callee (f := 4) rfl ?_); refine goesL_ (some 55) rfl rfl Tryz.func4 (by kernel_rfl) rfl #[.slice A0 l0.length c0] rfl qV ?_; (with_reducible refine (laws_big.calls _ _ l0 false _ ?side1 ?side2 A2.out).mono ?_); (case side1 => exact qC HR0.out); (case side2 => exact HC0.out); rintro e w' ⟨rfl, ⟨nd, rfl⟩⟩; refine ⟨_, rfl, ?_⟩) | ((with_reducible refine gate_callee (f := 5) rfl ?_); refine goesL_ (some 57) rfl rfl Tryz.func5 (by kernel_rfl) rfl #[.slice A0 l0.length c0] rfl qV ?_; (with_reducible refine (spec_DrawLeastSeed.calls k _ _ l0 t685 _ ?side1 ?side2 A4.out).mono ?_); (case side1 => exact qC HR0.out); (case side2 => exact HC0.out); rintro e w8 ⟨rfl, hb⟩; refine ⟨_, rfl, ?_⟩; replace HB := Aside0.mk (below_step (qB HB.out) hb)) | ((with_reducible refine gate_callee (f := 6) rfl ?_); refine goesL_ (some 60) rfl rfl Tryz.func6 (by kernel_rfl) rfl #[.string t685] rfl qV ?_; (with_reducible refine (impl_LeastSeed.calls k t685 t686 t687 _ A5.out).mono ?_); rintro e w9 ⟨rfl, hb⟩; refine ⟨_, rfl, ?_⟩; replace HB := Aside0.mk (below_step (qB HB.out) hb)) | ((with_reducible refine gate_callee (f := 7) rfl ?_); refine goesL_ (some 65) rfl rfl Tryz.func7 (by kernel_rfl) rfl #[.string t685] rfl qV ?_; (with_reducible refine (spec_LeastSeed.calls k t685 t688 t689 _ A6.out).mono ?_); rintro e w10 ⟨rfl, hb⟩; refine ⟨_, rfl, ?_⟩; replace HB := Aside0.mk (below_step (qB HB.out) hb)))
 (try simp only [Act.put, List.setIfInBounds_toArray, List.set_cons_zero, List.set_cons_succ])
 go_cut [75] (fun v75 wc => ∃ (kq : Nat) (x75_6 : Bool), v75 = .bool x75_6 ∧ Aside0 (laws_FnSeeds.j0 kq l0 t685 t686 t687 x75_6 = some r) ∧ Aside0 (kq ≤ k) ∧ Aside0 (Below w.heap.size w wc))
 case first => as_aux_lemma =>
  have H := HC7.out
  clear HC7
  by_cases c11 : t687 = t689
  ·
   rw [if_pos c11] at H
   obtain ⟨c11b0, c11b1⟩ := zT c11
   clear c11
   (first | rw [c11b0] | (simp only [i64_w, i32_w]; rw [c11b0]) | skip)
   have H' := Aside0.mk H
   clear H
   as_aux_lemma =>
    go_wp2
    go_meet
    case rel => exact ⟨_, ((t686.toList != t688.toList)), qF, H', ⟨by first | omega | exact Nat.le_refl _⟩, ⟨qB HB.out⟩⟩
  rw [if_neg c11] at H
  obtain ⟨c11b0, c11b1⟩ := zF c11
  (first | rw [c11b0] | (simp only [i64_w, i32_w]; rw [c11b0]) | skip)
  have H' := Aside0.mk H
  clear H
  as_aux_lemma =>
   go_wp2
   go_meet
   case rel => exact ⟨_, (true), qF, H', ⟨by first | omega | exact Nat.le_refl _⟩, ⟨qB HB.out⟩⟩
 case rest => as_aux_lemma =>
  clear HC7
  obtain ⟨kq, x75_6, rfl, HA, HJ6, HB⟩ := hcut
  cases kq with
  | zero => exact absurd HA.out (by simp [laws_FnSeeds.j0])
  | succ kj6 =>
   have H := HA.out
   clear HA
   simp only [laws_FnSeeds.j0] at H
   by_cases c12 : x75_6 = true
   ·
    subst c12
    rw [if_pos rfl] at H
    obtain rfl := Option.some.inj H
    as_aux_lemma =>
     go_wp2
     go_ret
     exact ⟨qE, qB HB.out⟩
   replace c12 := Bool.eq_false_iff.mpr c12
   subst c12
   rw [if_neg (show ¬ (false = true) by decide)] at H
   have HC13 := Aside0.mk H
   clear H
   go_upto_if 77 with (fail)
   go_cut [] (fun wc => ∃ (kq : Nat), Aside0 (laws_FnSeeds.j1 kq l0 = some r) ∧ Aside0 (kq ≤ kj6) ∧ Aside0 (Below w.heap.size w wc))
   case first => as_aux_lemma =>
    have H := HC13.out
    clear HC13
    by_cases c14 : t687 = 0
    rotate_left
    ·
     rw [if_neg c14] at H
     obtain ⟨c14b0, c14b1⟩ := zF c14
     (first | rw [c14b0] | (simp only [i64_w, i32_w]; rw [c14b0]) | skip)
     have H' := Aside0.mk H
     clear H
     as_aux_lemma =>
      go_wp2
      go_meet
      case rel => exact ⟨_, H', ⟨by have := HJ6.out; first | omega | exact Nat.le_refl _⟩, ⟨qB HB.out⟩⟩
    rw [if_pos c14] at H
    obtain ⟨c14b0, c14b1⟩ := zT c14
    clear c14
    (first | rw [c14b0] | (simp only [i64_w, i32_w]; rw [c14b0]) | skip)
    obtain ⟨⟨t690, t691⟩, A15, H⟩ := qN H
    try dsimp only at H
    obtain ⟨⟨t692, t693⟩, A16, H⟩ := qN H
    try dsimp only at H
    obtain ⟨⟨t694, t695⟩, A17, H⟩ := qN H
    try dsimp only at H
    by_cases c18 : t691 = 0
    rotate_left
    ·
     rw [if_neg c18] at H
     obtain ⟨c18b0, c18b1⟩ := zF c18
     obtain rfl := Option.some.inj H
     as_aux_lemma =>
      go_wp2_with (first | ((with_reducible refine gate_callee (f := 8) rfl ?_); refine goesL_ (some 81) rfl rfl Tryz.func8 (by kernel_rfl) rfl #[.string t685, .string t686] rfl qV ?_; (with_reducible refine (impl_IsSeed.calls kj6 t685 t686 t690 t691 _ A15.out).mono ?_); rintro e w50 ⟨rfl, hb⟩; refine ⟨_, rfl, ?_⟩; replace HB := Aside0.mk (below_step (qB HB.out) hb)) | ((with_reducible refine gate_callee (f := 9) rfl ?_); refine goesL_ (some 86) rfl rfl Tryz.func9 (by kernel_rfl) rfl #[.string t685] rfl qV ?_; (with_reducible refine (impl_LeastCover.calls kj6 t685 t692 t693 _ A16.out).mono ?_); rintro e w51 ⟨rfl, hb⟩; refine ⟨_, rfl, ?_⟩; replace HB := Aside0.mk (below_step (qB HB.out) hb)) | ((with_reducible refine gate_callee (f := 10) rfl ?_); refine goesL_ (some 93) rfl rfl Tryz.func10 (by kernel_rfl) rfl #[.string t685, .int .i64 (t686.size : Int)] rfl qV ?_; (with_reducible refine (impl_SeedsOf.calls kj6 t685 (t686.size : Int) t694 t695 _ A17.out).mono ?_); rintro e w52 ⟨v696, rfl, ho0, hb⟩; refine ⟨_, rfl, ?_⟩; have HO697 := Aside0.mk (Kd.R_lower ho0 (below_size (qB HB.out))); replace HB := Aside0.mk (below_step (qB HB.out) hb)))
      go_ret
      exact ⟨qE, qB HB.out⟩
    rw [if_pos c18] at H
    obtain ⟨c18b0, c18b1⟩ := zT c18
    clear c18
    by_cases c19 : t693 = 0
    rotate_left
    ·
     rw [if_neg c19] at H
     obtain ⟨c19b0, c19b1⟩ := zF c19
     obtain rfl := Option.some.inj H
     as_aux_lemma =>
      go_wp2_with (first | ((with_reducible refine gate_callee (f := 8) rfl ?_); refine goesL_ (some 81) rfl rfl Tryz.func8 (by kernel_rfl) rfl #[.string t685, .string t686] rfl qV ?_; (with_reducible refine (impl_IsSeed.calls kj6 t685 t686 t690 t691 _ A15.out).mono ?_); rintro e w47 ⟨rfl, hb⟩; refine ⟨_, rfl, ?_⟩; replace HB := Aside0.mk (below_step (qB HB.out) hb)) | ((with_reducible refine gate_callee (f := 9) rfl ?_); refine goesL_ (some 86) rfl rfl Tryz.func9 (by kernel_rfl) rfl #[.string t685] rfl qV ?_; (with_reducible refine (impl_LeastCover.calls kj6 t685 t692 t693 _ A16.out).mono ?_); rintro e w48 ⟨rfl, hb⟩; refine ⟨_, rfl, ?_⟩; replace HB := Aside0.mk (below_step (qB HB.out) hb)) | ((with_reducible refine gate_callee (f := 10) rfl ?_); refine goesL_ (some 93) rfl rfl Tryz.func10 (by kernel_rfl) rfl #[.string t685, .int .i64 (t686.size : Int)] rfl qV ?_; (with_reducible refine (impl_SeedsOf.calls kj6 t685 (t686.size : Int) t694 t695 _ A17.out).mono ?_); rintro e w49 ⟨v696, rfl, ho0, hb⟩; refine ⟨_, rfl, ?_⟩; have HO697 := Aside0.mk (Kd.R_lower ho0 (below_size (qB HB.out))); replace HB := Aside0.mk (below_step (qB HB.out) hb)))
      go_ret
      exact ⟨qE, qB HB.out⟩
    rw [if_pos c19] at H
    obtain ⟨c19b0, c19b1⟩ := zT c19
    clear c19
    by_cases c20 : t695 = 0
    rotate_left
    ·
     rw [if_neg c20] at H
     obtain ⟨c20b0, c20b1⟩ := zF c20
     obtain rfl := Option.some.inj H
     as_aux_lemma =>
      go_wp2_with (first | ((with_reducible refine gate_callee (f := 8) rfl ?_); refine goesL_ (some 81) rfl rfl Tryz.func8 (by kernel_rfl) rfl #[.string t685, .string t686] rfl qV ?_; (with_reducible refine (impl_IsSeed.calls kj6 t685 t686 t690 t691 _ A15.out).mono ?_); rintro e w44 ⟨rfl, hb⟩; refine ⟨_, rfl, ?_⟩; replace HB := Aside0.mk (below_step (qB HB.out) hb)) | ((with_reducible refine gate_callee (f := 9) rfl ?_); refine goesL_ (some 86) rfl rfl Tryz.func9 (by kernel_rfl) rfl #[.string t685] rfl qV ?_; (with_reducible refine (impl_LeastCover.calls kj6 t685 t692 t693 _ A16.out).mono ?_); rintro e w45 ⟨rfl, hb⟩; refine ⟨_, rfl, ?_⟩; replace HB := Aside0.mk (below_step (qB HB.out) hb)) | ((with_reducible refine gate_callee (f := 10) rfl ?_); refine goesL_ (some 93) rfl rfl Tryz.func10 (by kernel_rfl) rfl #[.string t685, .int .i64 (t686.size : Int)] rfl qV ?_; (with_reducible refine (impl_SeedsOf.calls kj6 t685 (t686.size : Int) t694 t695 _ A17.out).mono ?_); rintro e w46 ⟨v696, rfl, ho0, hb⟩; refine ⟨_, rfl, ?_⟩; have HO697 := Aside0.mk (Kd.R_lower ho0 (below_size (qB HB.out))); replace HB := Aside0.mk (below_step (qB HB.out) hb)))
      go_ret
      exact ⟨qE, qB HB.out⟩
    rw [if_pos c20] at H
    obtain ⟨c20b0, c20b1⟩ := zT c20
    clear c20
    by_cases c21 : t690 = true
    rotate_left
    ·
     replace c21 := Bool.eq_false_iff.mpr c21
     subst c21
     rw [if_neg (show ¬ (false = true) by decide)] at H
     obtain rfl := Option.some.inj H
     as_aux_lemma =>
      go_wp2_with (first | ((with_reducible refine gate_callee (f := 8) rfl ?_); refine goesL_ (some 81) rfl rfl Tryz.func8 (by kernel_rfl) rfl #[.string t685, .string t686] rfl qV ?_; (with_reducible refine (impl_IsSeed.calls kj6 t685 t686 false t691 _ A15.out).mono ?_); rintro e w41 ⟨rfl, hb⟩; refine ⟨_, rfl, ?_⟩; replace HB := Aside0.mk (below_step (qB HB.out) hb)) | ((with_reducible refine gate_callee (f := 9) rfl ?_); refine goesL_ (some 86) rfl rfl Tryz.func9 (by kernel_rfl) rfl #[.string t685] rfl qV ?_; (with_reducible refine (impl_LeastCover.calls kj6 t685 t692 t693 _ A16.out).mono ?_); rintro e w42 ⟨rfl, hb⟩; refine ⟨_, rfl, ?_⟩; replace HB := Aside0.mk (below_step (qB HB.out) hb)) | ((with_reducible refine gate_callee (f := 10) rfl ?_); refine goesL_ (some 93) rfl rfl Tryz.func10 (by kernel_rfl) rfl #[.string t685, .int .i64 (t686.size : Int)] rfl qV ?_; (with_reducible refine (impl_SeedsOf.calls kj6 t685 (t686.size : Int) t694 t695 _ A17.out).mono ?_); rintro e w43 ⟨v696, rfl, ho0, hb⟩; refine ⟨_, rfl, ?_⟩; have HO697 := Aside0.mk (Kd.R_lower ho0 (below_size (qB HB.out))); replace HB := Aside0.mk (below_step (qB HB.out) hb)))
      go_ret
      exact ⟨qE, qB HB.out⟩
    subst c21
    rw [if_pos rfl] at H
    by_cases c22 : (t686.size : Int) > (t692.size : Int)
    ·
     rw [if_pos c22] at H
     have c22b0 : decide ((t692.size : Int) < (t686.size : Int)) = true := decide_eq_true c22
     have c22b1 : decide (t692.size < t686.size) = true := decide_eq_true (Int.ofNat_lt.mp c22)
     clear c22
     obtain rfl := Option.some.inj H
     as_aux_lemma =>
      go_wp2_with (first | ((with_reducible refine gate_callee (f := 8) rfl ?_); refine goesL_ (some 81) rfl rfl Tryz.func8 (by kernel_rfl) rfl #[.string t685, .string t686] rfl qV ?_; (with_reducible refine (impl_IsSeed.calls kj6 t685 t686 true t691 _ A15.out).mono ?_); rintro e w23 ⟨rfl, hb⟩; refine ⟨_, rfl, ?_⟩; replace HB := Aside0.mk (below_step (qB HB.out) hb)) | ((with_reducible refine gate_callee (f := 9) rfl ?_); refine goesL_ (some 86) rfl rfl Tryz.func9 (by kernel_rfl) rfl #[.string t685] rfl qV ?_; (with_reducible refine (impl_LeastCover.calls kj6 t685 t692 t693 _ A16.out).mono ?_); rintro e w24 ⟨rfl, hb⟩; refine ⟨_, rfl, ?_⟩; replace HB := Aside0.mk (below_step (qB HB.out) hb)) | ((with_reducible refine gate_callee (f := 10) rfl ?_); refine goesL_ (some 93) rfl rfl Tryz.func10 (by kernel_rfl) rfl #[.string t685, .int .i64 (t686.size : Int)] rfl qV ?_; (with_reducible refine (impl_SeedsOf.calls kj6 t685 (t686.size : Int) t694 t695 _ A17.out).mono ?_); rintro e w25 ⟨v696, rfl, ho0, hb⟩; refine ⟨_, rfl, ?_⟩; have HO697 := Aside0.mk (Kd.R_lower ho0 (below_size (qB HB.out))); replace HB := Aside0.mk (below_step (qB HB.out) hb)))
      go_ret
      exact ⟨qE, qB HB.out⟩
    rw [if_neg c22] at H
    have c22b0 : decide ((t692.size : Int) < (t686.size : Int)) = false := decide_eq_false c22
    have c22b1 : decide (t692.size < t686.size) = false := decide_eq_false (fun h => c22 (Int.ofNat_lt.mpr h))
    clear c22
    by_cases c26 : (t694.length : Int) < 1
    ·
     rw [if_pos c26] at H
     have c26b0 : decide ((t694.length : Int) < 1) = true := decide_eq_true c26
     have c26b1 : decide (t694.length < 1) = true := decide_eq_true (by omega)
     clear c26
     obtain rfl := Option.some.inj H
     as_aux_lemma =>
      go_wp2_with (first | ((with_reducible refine gate_callee (f := 8) rfl ?_); refine goesL_ (some 81) rfl rfl Tryz.func8 (by kernel_rfl) rfl #[.string t685, .string t686] rfl qV ?_; (with_reducible refine (impl_IsSeed.calls kj6 t685 t686 true t691 _ A15.out).mono ?_); rintro e w27 ⟨rfl, hb⟩; refine ⟨_, rfl, ?_⟩; replace HB := Aside0.mk (below_step (qB HB.out) hb)) | ((with_reducible refine gate_callee (f := 9) rfl ?_); refine goesL_ (some 86) rfl rfl Tryz.func9 (by kernel_rfl) rfl #[.string t685] rfl qV ?_; (with_reducible refine (impl_LeastCover.calls kj6 t685 t692 t693 _ A16.out).mono ?_); rintro e w28 ⟨rfl, hb⟩; refine ⟨_, rfl, ?_⟩; replace HB := Aside0.mk (below_step (qB HB.out) hb)) | ((with_reducible refine gate_callee (f := 10) rfl ?_); refine goesL_ (some 93) rfl rfl Tryz.func10 (by kernel_rfl) rfl #[.string t685, .int .i64 (t686.size : Int)] rfl qV ?_; (with_reducible refine (impl_SeedsOf.calls kj6 t685 (t686.size : Int) t694 t695 _ A17.out).mono ?_); rintro e w29 ⟨v696, rfl, ho0, hb⟩; refine ⟨_, rfl, ?_⟩; have HO697 := Aside0.mk (Kd.R_lower ho0 (below_size (qB HB.out))); replace HB := Aside0.mk (below_step (qB HB.out) hb); obtain ⟨Ao30, co30, eo30⟩ := Kd.R_slice HO697.out; subst eo30))
      go_ret
      exact ⟨qE, qB HB.out⟩
    rw [if_neg c26] at H
    have c26b0 : decide ((t694.length : Int) < 1) = false := decide_eq_false c26
    have c26b1 : decide (t694.length < 1) = false := decide_eq_false (by omega)
    clear c26
    by_cases c31 : 0 < (t694.length : Int)
    rotate_left
    ·
     rw [if_neg c31] at H
     exact absurd H (by simp)
    rw [if_pos c31] at H
    have c31b0 : decide (0 < (t694.length : Int)) = true := decide_eq_true c31
    have c31b1 : decide (0 < t694.length) = true := decide_eq_true (by omega)
    clear c31
    by_cases c32 : (rdOf ByteArray.empty t694 0).toList = t686.toList
    rotate_left
    ·
     rw [if_neg c32] at H
     obtain ⟨c32b0, c32b1⟩ := zF c32
     obtain rfl := Option.some.inj H
     as_aux_lemma =>
      go_wp2_with (first | ((with_reducible refine gate_callee (f := 8) rfl ?_); refine goesL_ (some 81) rfl rfl Tryz.func8 (by kernel_rfl) rfl #[.string t685, .string t686] rfl qV ?_; (with_reducible refine (impl_IsSeed.calls kj6 t685 t686 true t691 _ A15.out).mono ?_); rintro e w37 ⟨rfl, hb⟩; refine ⟨_, rfl, ?_⟩; replace HB := Aside0.mk (below_step (qB HB.out) hb)) | ((with_reducible refine gate_callee (f := 9) rfl ?_); refine goesL_ (some 86) rfl rfl Tryz.func9 (by kernel_rfl) rfl #[.string t685] rfl qV ?_; (with_reducible refine (impl_LeastCover.calls kj6 t685 t692 t693 _ A16.out).mono ?_); rintro e w38 ⟨rfl, hb⟩; refine ⟨_, rfl, ?_⟩; replace HB := Aside0.mk (below_step (qB HB.out) hb)) | ((with_reducible refine gate_callee (f := 10) rfl ?_); refine goesL_ (some 93) rfl rfl Tryz.func10 (by kernel_rfl) rfl #[.string t685, .int .i64 (t686.size : Int)] rfl qV ?_; (with_reducible refine (impl_SeedsOf.calls kj6 t685 (t686.size : Int) t694 t695 _ A17.out).mono ?_); rintro e w39 ⟨v696, rfl, ho0, hb⟩; refine ⟨_, rfl, ?_⟩; have HO697 := Aside0.mk (Kd.R_lower ho0 (below_size (qB HB.out))); replace HB := Aside0.mk (below_step (qB HB.out) hb); obtain ⟨Ao40, co40, eo40⟩ := Kd.R_slice HO697.out; subst eo40; have p698 : 0 ≤ (0 : Int) := (by omega); have q698 : 0 < (t694.length : Int) := of_decide_eq_true (by first | (with_reducible assumption) | assumption); obtain ⟨ad698, e698, hx698_0⟩ := Kd.at_string (Kd.R_reads' HO697.out).2.2 0 p698 q698; cases e698; have qi698 : (0 < t694.length) = True := eq_true (by omega); (try rw [show ((0 : Int)).toNat = 0 from rfl] at hx698_0); (try rw [Addr.add_zero'] at hx698_0); replace p698 := eq_true p698; replace q698 := eq_true q698))
      go_ret
      exact ⟨qE, qB HB.out⟩
    rw [if_pos c32] at H
    obtain ⟨c32b0, c32b1⟩ := zT c32
    clear c32
    have H' := Aside0.mk H
    clear H
    as_aux_lemma =>
     go_wp2_with (first | ((with_reducible refine gate_callee (f := 8) rfl ?_); refine goesL_ (some 81) rfl rfl Tryz.func8 (by kernel_rfl) rfl #[.string t685, .string t686] rfl qV ?_; (with_reducible refine (impl_IsSeed.calls kj6 t685 t686 true t691 _ A15.out).mono ?_); rintro e w33 ⟨rfl, hb⟩; refine ⟨_, rfl, ?_⟩; replace HB := Aside0.mk (below_step (qB HB.out) hb)) | ((with_reducible refine gate_callee (f := 9) rfl ?_); refine goesL_ (some 86) rfl rfl Tryz.func9 (by kernel_rfl) rfl #[.string t685] rfl qV ?_; (with_reducible refine (impl_LeastCover.calls kj6 t685 t692 t693 _ A16.out).mono ?_); rintro e w34 ⟨rfl, hb⟩; refine ⟨_, rfl, ?_⟩; replace HB := Aside0.mk (below_step (qB HB.out) hb)) | ((with_reducible refine gate_callee (f := 10) rfl ?_); refine goesL_ (some 93) rfl rfl Tryz.func10 (by kernel_rfl) rfl #[.string t685, .int .i64 (t686.size : Int)] rfl qV ?_; (with_reducible refine (impl_SeedsOf.calls kj6 t685 (t686.size : Int) t694 t695 _ A17.out).mono ?_); rintro e w35 ⟨v696, rfl, ho0, hb⟩; refine ⟨_, rfl, ?_⟩; have HO697 := Aside0.mk (Kd.R_lower ho0 (below_size (qB HB.out))); replace HB := Aside0.mk (below_step (qB HB.out) hb); obtain ⟨Ao36, co36, eo36⟩ := Kd.R_slice HO697.out; subst eo36; have p698 : 0 ≤ (0 : Int) := (by omega); have q698 : 0 < (t694.length : Int) := of_decide_eq_true (by first | (with_reducible assumption) | assumption); obtain ⟨ad698, e698, hx698_0⟩ := Kd.at_string (Kd.R_reads' HO697.out).2.2 0 p698 q698; cases e698; have qi698 : (0 < t694.length) = True := eq_true (by omega); (try rw [show ((0 : Int)).toNat = 0 from rfl] at hx698_0); (try rw [Addr.add_zero'] at hx698_0); replace p698 := eq_true p698; replace q698 := eq_true q698))
     go_meet
     case rel => exact ⟨_, H', ⟨by have := HJ6.out; first | omega | exact Nat.le_refl _⟩, ⟨qB HB.out⟩⟩
   case rest => as_aux_lemma =>
    clear HC13
    obtain ⟨kq, HA, HJ12, HB⟩ := hcut
    cases kq with
    | zero => exact absurd HA.out (by simp [laws_FnSeeds.j1])
    | succ kj12 =>
     have H := HA.out
     clear HA
     simp only [laws_FnSeeds.j1] at H
     obtain ⟨t699, A53, H⟩ := qN H
     try dsimp only at H
     obtain ⟨⟨t700, t701, t702⟩, A54, H⟩ := qN H
     try dsimp only at H
     obtain ⟨⟨t703, t704, t705⟩, A55, H⟩ := qN H
     try dsimp only at H
     have HC56 := Aside0.mk H
     clear H
     go_upto_region 17 with (first | ((with_reducible refine gate_callee (f := 11) rfl ?_); refine goesL_ (some 130) rfl rfl Tryz.func11 (by kernel_rfl) rfl #[.slice A0 l0.length c0] rfl qV ?_; (with_reducible refine (spec_DrawBestBorder.calls kj12 _ _ l0 t699 _ ?side1 ?side2 A53.out).mono ?_); (case side1 => exact qC (Kd.C_below HR0.out HB.out)); (case side2 => exact HC0.out); rintro e w57 ⟨rfl, hb⟩; refine ⟨_, rfl, ?_⟩; replace HB := Aside0.mk (below_step (qB HB.out) hb)) | ((with_reducible refine gate_callee (f := 12) rfl ?_); refine goesL_ (some 133) rfl rfl Tryz.func12 (by kernel_rfl) rfl #[.string t699] rfl qV ?_; (with_reducible refine (impl_BestBorder.calls kj12 t699 t700 t701 t702 _ A54.out).mono ?_); rintro e w58 ⟨rfl, hb⟩; refine ⟨_, rfl, ?_⟩; replace HB := Aside0.mk (below_step (qB HB.out) hb)) | ((with_reducible refine gate_callee (f := 13) rfl ?_); refine goesL_ (some 139) rfl rfl Tryz.func13 (by kernel_rfl) rfl #[.string t699] rfl qV ?_; (with_reducible refine (spec_BestBorder.calls kj12 t699 t703 t704 t705 _ A55.out).mono ?_); rintro e w59 ⟨rfl, hb⟩; refine ⟨_, rfl, ?_⟩; replace HB := Aside0.mk (below_step (qB HB.out) hb)))
     (try simp only [Act.put, List.setIfInBounds_toArray, List.set_cons_zero, List.set_cons_succ])
     go_cut [155] (fun v155 wc => ∃ (kq : Nat) (x155_55 : Bool), v155 = .bool x155_55 ∧ Aside0 (laws_FnSeeds.j2 kq l0 t699 t700 t701 t702 x155_55 = some r) ∧ Aside0 (kq ≤ kj12) ∧ Aside0 (Below w.heap.size w wc))
     case first => as_aux_lemma =>
      have H := HC56.out
      clear HC56
      by_cases c60 : t702 = t705
      rotate_left
      ·
       rw [if_neg c60] at H
       obtain ⟨c60b0, c60b1⟩ := zF c60
       (first | rw [c60b0] | (simp only [i64_w, i32_w]; rw [c60b0]) | skip)
       have H' := Aside0.mk H
       clear H
       as_aux_lemma =>
        go_wp2
        go_meet
        case rel => exact ⟨_, (true), qF, H', ⟨by have := HJ6.out; have := HJ12.out; first | omega | exact Nat.le_refl _⟩, ⟨qB HB.out⟩⟩
      rw [if_pos c60] at H
      obtain ⟨c60b0, c60b1⟩ := zT c60
      clear c60
      (first | rw [c60b0] | (simp only [i64_w, i32_w]; rw [c60b0]) | skip)
      by_cases c61 : t700.toList = t703.toList
      ·
       rw [if_pos c61] at H
       obtain ⟨c61b0, c61b1⟩ := zT c61
       clear c61
       have H' := Aside0.mk H
       clear H
       as_aux_lemma =>
        go_wp2
        go_meet
        case rel => exact ⟨_, ((t701 != t704)), qF, H', ⟨by have := HJ6.out; have := HJ12.out; first | omega | exact Nat.le_refl _⟩, ⟨qB HB.out⟩⟩
      rw [if_neg c61] at H
      obtain ⟨c61b0, c61b1⟩ := zF c61
      have H' := Aside0.mk H
      clear H
      as_aux_lemma =>
       go_wp2
       go_meet
       case rel => exact ⟨_, (true), qF, H', ⟨by have := HJ6.out; have := HJ12.out; first | omega | exact Nat.le_refl _⟩, ⟨qB HB.out⟩⟩
     case rest => as_aux_lemma =>
      clear HC56
      obtain ⟨kq, x155_55, rfl, HA, HJ55, HB⟩ := hcut
      cases kq with
      | zero => exact absurd HA.out (by simp [laws_FnSeeds.j2])
      | succ kj55 =>
       have H := HA.out
       clear HA
       simp only [laws_FnSeeds.j2] at H
       by_cases c62 : x155_55 = true
       ·
        subst c62
        rw [if_pos rfl] at H
        obtain rfl := Option.some.inj H
        as_aux_lemma =>
         go_wp2
         go_ret
         exact ⟨qE, qB HB.out⟩
       replace c62 := Bool.eq_false_iff.mpr c62
       subst c62
       rw [if_neg (show ¬ (false = true) by decide)] at H
       have HC63 := Aside0.mk H
       clear H
       go_upto_if 157 with (fail)
       go_cut [] (fun wc => ∃ (kq : Nat), Aside0 (laws_FnSeeds.j3 kq l0 = some r) ∧ Aside0 (kq ≤ kj55) ∧ Aside0 (Below w.heap.size w wc))
       case first => as_aux_lemma =>
        have H := HC63.out
        clear HC63
        by_cases c64 : t702 = 0
        rotate_left
        ·
         rw [if_neg c64] at H
         obtain ⟨c64b0, c64b1⟩ := zF c64
         (first | rw [c64b0] | (simp only [i64_w, i32_w]; rw [c64b0]) | skip)
         have H' := Aside0.mk H
         clear H
         as_aux_lemma =>
          go_wp2
          go_meet
          case rel => exact ⟨_, H', ⟨by have := HJ6.out; have := HJ12.out; have := HJ55.out; first | omega | exact Nat.le_refl _⟩, ⟨qB HB.out⟩⟩
        rw [if_pos c64] at H
        obtain ⟨c64b0, c64b1⟩ := zT c64
        clear c64
        (first | rw [c64b0] | (simp only [i64_w, i32_w]; rw [c64b0]) | skip)
        obtain ⟨⟨t706, t707⟩, A65, H⟩ := qN H
        try dsimp only at H
        obtain ⟨⟨t710, t711⟩, A66, H⟩ := qN H
        try dsimp only at H
        by_cases c67 : t707 = 0
        rotate_left
        ·
         rw [if_neg c67] at H
         obtain ⟨c67b0, c67b1⟩ := zF c67
         obtain rfl := Option.some.inj H
         as_aux_lemma =>
          go_wp2_with (first | ((with_reducible refine gate_callee (f := 14) rfl ?_); refine goesL_ (some 161) rfl rfl Tryz.func14 (by kernel_rfl) rfl #[.string t699, .string t700] rfl qV ?_; (with_reducible refine (impl_UncoveredPlaces.calls kj55 t699 t700 t706 t707 _ A65.out).mono ?_); rintro e w85 ⟨v708, rfl, ho0, hb⟩; refine ⟨_, rfl, ?_⟩; have HO709 := Aside0.mk (Kd.R_lower ho0 (below_size (qB HB.out))); replace HB := Aside0.mk (below_step (qB HB.out) hb)) | ((with_reducible refine gate_callee (f := 15) rfl ?_); refine goesL_ (some 166) rfl rfl Tryz.func15 (by kernel_rfl) rfl #[.string t699] rfl qV ?_; (with_reducible refine (impl_BordersOf.calls kj55 t699 t710 t711 _ A66.out).mono ?_); rintro e w86 ⟨v712, rfl, ho0, hb⟩; refine ⟨_, rfl, ?_⟩; have HO713 := Aside0.mk (Kd.R_lower (Kd.R_new' ho0 (Kd.R_lt (qR HO709.out))) (below_size (qB HB.out))); replace HO709 := Aside0.mk (Kd.R_elder' (qR HO709.out) (Kd.R_base ho0) hb); replace HB := Aside0.mk (below_step (qB HB.out) hb)))
          go_ret
          exact ⟨qE, qB HB.out⟩
        rw [if_pos c67] at H
        obtain ⟨c67b0, c67b1⟩ := zT c67
        clear c67
        by_cases c68 : t711 = 0
        rotate_left
        ·
         rw [if_neg c68] at H
         obtain ⟨c68b0, c68b1⟩ := zF c68
         obtain rfl := Option.some.inj H
         as_aux_lemma =>
          go_wp2_with (first | ((with_reducible refine gate_callee (f := 14) rfl ?_); refine goesL_ (some 161) rfl rfl Tryz.func14 (by kernel_rfl) rfl #[.string t699, .string t700] rfl qV ?_; (with_reducible refine (impl_UncoveredPlaces.calls kj55 t699 t700 t706 t707 _ A65.out).mono ?_); rintro e w83 ⟨v708, rfl, ho0, hb⟩; refine ⟨_, rfl, ?_⟩; have HO709 := Aside0.mk (Kd.R_lower ho0 (below_size (qB HB.out))); replace HB := Aside0.mk (below_step (qB HB.out) hb)) | ((with_reducible refine gate_callee (f := 15) rfl ?_); refine goesL_ (some 166) rfl rfl Tryz.func15 (by kernel_rfl) rfl #[.string t699] rfl qV ?_; (with_reducible refine (impl_BordersOf.calls kj55 t699 t710 t711 _ A66.out).mono ?_); rintro e w84 ⟨v712, rfl, ho0, hb⟩; refine ⟨_, rfl, ?_⟩; have HO713 := Aside0.mk (Kd.R_lower (Kd.R_new' ho0 (Kd.R_lt (qR HO709.out))) (below_size (qB HB.out))); replace HO709 := Aside0.mk (Kd.R_elder' (qR HO709.out) (Kd.R_base ho0) hb); replace HB := Aside0.mk (below_step (qB HB.out) hb)))
          go_ret
          exact ⟨qE, qB HB.out⟩
        rw [if_pos c68] at H
        obtain ⟨c68b0, c68b1⟩ := zT c68
        clear c68
        by_cases c69 : (wrap64 ((t706.length : Int) + t701)) = (t699.size : Int)
        rotate_left
        ·
         rw [if_neg c69] at H
         obtain ⟨c69b0, c69b1⟩ := zF c69
         obtain rfl := Option.some.inj H
         as_aux_lemma =>
          go_wp2_with (first | ((with_reducible refine gate_callee (f := 14) rfl ?_); refine goesL_ (some 161) rfl rfl Tryz.func14 (by kernel_rfl) rfl #[.string t699, .string t700] rfl qV ?_; (with_reducible refine (impl_UncoveredPlaces.calls kj55 t699 t700 t706 t707 _ A65.out).mono ?_); rintro e w80 ⟨v708, rfl, ho0, hb⟩; refine ⟨_, rfl, ?_⟩; have HO709 := Aside0.mk (Kd.R_lower ho0 (below_size (qB HB.out))); replace HB := Aside0.mk (below_step (qB HB.out) hb)) | ((with_reducible refine gate_callee (f := 15) rfl ?_); refine goesL_ (some 166) rfl rfl Tryz.func15 (by kernel_rfl) rfl #[.string t699] rfl qV ?_; (with_reducible refine (impl_BordersOf.calls kj55 t699 t710 t711 _ A66.out).mono ?_); rintro e w81 ⟨v712, rfl, ho0, hb⟩; refine ⟨_, rfl, ?_⟩; have HO713 := Aside0.mk (Kd.R_lower (Kd.R_new' ho0 (Kd.R_lt (qR HO709.out))) (below_size (qB HB.out))); replace HO709 := Aside0.mk (Kd.R_elder' (qR HO709.out) (Kd.R_base ho0) hb); replace HB := Aside0.mk (below_step (qB HB.out) hb); obtain ⟨Ao82, co82, eo82⟩ := Kd.R_slice HO709.out; subst eo82))
          go_ret
          exact ⟨qE, qB HB.out⟩
        rw [if_pos c69] at H
        obtain ⟨c69b0, c69b1⟩ := zT c69
        clear c69
        obtain ⟨t714, A70, H⟩ := qN H
        try dsimp only at H
        by_cases c71 : t714 = true
        ·
         subst c71
         rw [if_pos rfl] at H
         have H' := Aside0.mk H
         clear H
         as_aux_lemma =>
          go_wp2_with (first | ((with_reducible refine gate_callee (f := 14) rfl ?_); refine goesL_ (some 161) rfl rfl Tryz.func14 (by kernel_rfl) rfl #[.string t699, .string t700] rfl qV ?_; (with_reducible refine (impl_UncoveredPlaces.calls kj55 t699 t700 t706 t707 _ A65.out).mono ?_); rintro e w72 ⟨v708, rfl, ho0, hb⟩; refine ⟨_, rfl, ?_⟩; have HO709 := Aside0.mk (Kd.R_lower ho0 (below_size (qB HB.out))); replace HB := Aside0.mk (below_step (qB HB.out) hb)) | ((with_reducible refine gate_callee (f := 15) rfl ?_); refine goesL_ (some 166) rfl rfl Tryz.func15 (by kernel_rfl) rfl #[.string t699] rfl qV ?_; (with_reducible refine (impl_BordersOf.calls kj55 t699 t710 t711 _ A66.out).mono ?_); rintro e w73 ⟨v712, rfl, ho0, hb⟩; refine ⟨_, rfl, ?_⟩; have HO713 := Aside0.mk (Kd.R_lower (Kd.R_new' ho0 (Kd.R_lt (qR HO709.out))) (below_size (qB HB.out))); replace HO709 := Aside0.mk (Kd.R_elder' (qR HO709.out) (Kd.R_base ho0) hb); replace HB := Aside0.mk (below_step (qB HB.out) hb); obtain ⟨Ao74, co74, eo74⟩ := Kd.R_slice HO709.out; subst eo74; obtain ⟨Ao75, co75, eo75⟩ := Kd.R_slice HO713.out; subst eo75) | (go_at_call 16; (with_reducible refine (laws_hasInt.calls kj55 _ _ t710 (t700.size : Int) true _ ?side1 ?side2 A70.out).mono ?_); (case side1 => exact qC (Kd.R_reads' HO713.out).2.2); (case side2 => exact (Kd.R_reads' HO713.out).2.1); rintro e w' ⟨rfl, ⟨nd, rfl⟩⟩))
          go_meet
          case rel => exact ⟨_, H', ⟨by have := HJ6.out; have := HJ12.out; have := HJ55.out; first | omega | exact Nat.le_refl _⟩, ⟨qB HB.out⟩⟩
        replace c71 := Bool.eq_false_iff.mpr c71
        subst c71
        rw [if_neg (show ¬ (false = true) by decide)] at H
        obtain rfl := Option.some.inj H
        as_aux_lemma =>
         go_wp2_with (first | ((with_reducible refine gate_callee (f := 14) rfl ?_); refine goesL_ (some 161) rfl rfl Tryz.func14 (by kernel_rfl) rfl #[.string t699, .string t700] rfl qV ?_; (with_reducible refine (impl_UncoveredPlaces.calls kj55 t699 t700 t706 t707 _ A65.out).mono ?_); rintro e w76 ⟨v708, rfl, ho0, hb⟩; refine ⟨_, rfl, ?_⟩; have HO709 := Aside0.mk (Kd.R_lower ho0 (below_size (qB HB.out))); replace HB := Aside0.mk (below_step (qB HB.out) hb)) | ((with_reducible refine gate_callee (f := 15) rfl ?_); refine goesL_ (some 166) rfl rfl Tryz.func15 (by kernel_rfl) rfl #[.string t699] rfl qV ?_; (with_reducible refine (impl_BordersOf.calls kj55 t699 t710 t711 _ A66.out).mono ?_); rintro e w77 ⟨v712, rfl, ho0, hb⟩; refine ⟨_, rfl, ?_⟩; have HO713 := Aside0.mk (Kd.R_lower (Kd.R_new' ho0 (Kd.R_lt (qR HO709.out))) (below_size (qB HB.out))); replace HO709 := Aside0.mk (Kd.R_elder' (qR HO709.out) (Kd.R_base ho0) hb); replace HB := Aside0.mk (below_step (qB HB.out) hb); obtain ⟨Ao78, co78, eo78⟩ := Kd.R_slice HO709.out; subst eo78; obtain ⟨Ao79, co79, eo79⟩ := Kd.R_slice HO713.out; subst eo79) | (go_at_call 16; (with_reducible refine (laws_hasInt.calls kj55 _ _ t710 (t700.size : Int) false _ ?side1 ?side2 A70.out).mono ?_); (case side1 => exact qC (Kd.R_reads' HO713.out).2.2); (case side2 => exact (Kd.R_reads' HO713.out).2.1); rintro e w' ⟨rfl, ⟨nd, rfl⟩⟩))
         go_ret
         exact ⟨qE, qB HB.out⟩
       case rest => as_aux_lemma =>
        clear HC63
        obtain ⟨kq, HA, HJ62, HB⟩ := hcut
        cases kq with
        | zero => exact absurd HA.out (by simp [laws_FnSeeds.j3])
        | succ kj62 =>
         have H := HA.out
         clear HA
         simp only [laws_FnSeeds.j3] at H
         obtain ⟨⟨t715, t716⟩, A87, H⟩ := qN H
         try dsimp only at H
         obtain ⟨⟨t717, t718⟩, A88, H⟩ := qN H
         try dsimp only at H
         obtain ⟨⟨t721, t722⟩, A89, H⟩ := qN H
         try dsimp only at H
         have HC90 := Aside0.mk H
         clear H
         go_upto_region 27 with (first | ((with_reducible refine gate_callee (f := 17) rfl ?_); refine goesL_ (some 193) rfl rfl Tryz.func17 (by kernel_rfl) rfl #[.slice A0 l0.length c0] rfl qV ?_; (with_reducible refine (spec_DrawFirstTwo.calls kj62 _ _ l0 t715 t716 _ ?side1 ?side2 A87.out).mono ?_); (case side1 => exact qC (Kd.C_below HR0.out HB.out)); (case side2 => exact HC0.out); rintro e w91 ⟨rfl, hb⟩; refine ⟨_, rfl, ?_⟩; replace HB := Aside0.mk (below_step (qB HB.out) hb)) | ((with_reducible refine gate_callee (f := 18) rfl ?_); refine goesL_ (some 199) rfl rfl Tryz.func18 (by kernel_rfl) rfl #[.string t715, .int .i64 t716] rfl qV ?_; (with_reducible refine (impl_FirstTwo.calls kj62 t715 t716 t717 t718 _ A88.out).mono ?_); rintro e w92 ⟨v719, rfl, ho0, hb⟩; refine ⟨_, rfl, ?_⟩; have HO720 := Aside0.mk (Kd.R_lower ho0 (below_size (qB HB.out))); replace HB := Aside0.mk (below_step (qB HB.out) hb)) | ((with_reducible refine gate_callee (f := 19) rfl ?_); refine goesL_ (some 205) rfl rfl Tryz.func19 (by kernel_rfl) rfl #[.string t715, .int .i64 t716] rfl qV ?_; (with_reducible refine (spec_FirstTwo.calls kj62 t715 t716 t721 t722 _ A89.out).mono ?_); rintro e w93 ⟨v723, rfl, ho0, hb⟩; refine ⟨_, rfl, ?_⟩; have HO724 := Aside0.mk (Kd.R_lower (Kd.R_new' ho0 (Kd.R_lt (qR HO720.out))) (below_size (qB HB.out))); replace HO720 := Aside0.mk (Kd.R_elder' (qR HO720.out) (Kd.R_base ho0) hb); replace HB := Aside0.mk (below_step (qB HB.out) hb)))
         (try simp only [Act.put, List.setIfInBounds_toArray, List.set_cons_zero, List.set_cons_succ])
         go_cut [216] (fun v216 wc => ∃ (kq : Nat) (x216_89 : Bool), v216 = .bool x216_89 ∧ Aside0 (laws_FnSeeds.j4 kq l0 t715 t717 t718 x216_89 = some r) ∧ Aside0 (kq ≤ kj62) ∧ Aside0 (Kd.R Kd.string 9 wc w.heap.size (fun _ => True) v719 t717) ∧ Aside0 (Below w.heap.size w wc))
         case first => as_aux_lemma =>
          have H := HC90.out
          clear HC90
          by_cases c94 : t718 = t722
          rotate_left
          ·
           rw [if_neg c94] at H
           obtain ⟨c94b0, c94b1⟩ := zF c94
           (first | rw [c94b0] | (simp only [i64_w, i32_w]; rw [c94b0]) | skip)
           have H' := Aside0.mk H
           clear H
           as_aux_lemma =>
            go_wp2
            go_meet
            case rel => exact ⟨_, (true), qF, H', ⟨by have := HJ6.out; have := HJ12.out; have := HJ55.out; have := HJ62.out; first | omega | exact Nat.le_refl _⟩, ⟨by (with_reducible repeat (first | apply Kd.R_alloc | apply Kd.R_drewN | apply Kd.R_drew)); exact Kd.R_mono HO720.out (fun _ hk => trivial)⟩, ⟨qB HB.out⟩⟩
          rw [if_pos c94] at H
          obtain ⟨c94b0, c94b1⟩ := zT c94
          clear c94
          (first | rw [c94b0] | (simp only [i64_w, i32_w]; rw [c94b0]) | skip)
          obtain ⟨t725, A95, H⟩ := qN H
          try dsimp only at H
          have H' := Aside0.mk H
          clear H
          obtain ⟨Ao96, co96, eo96⟩ := Kd.R_slice HO720.out
          subst eo96
          obtain ⟨Ao97, co97, eo97⟩ := Kd.R_slice HO724.out
          subst eo97
          as_aux_lemma =>
           go_wp2_with (first | (go_at_call 20; (with_reducible refine (laws_words5.calls kj62 _ _ t717 _ _ t721 t725 _ ?side1 ?side2 ?side3 ?side4 A95.out).mono ?_); (case side1 => exact qC (Kd.R_reads' HO720.out).2.2); (case side2 => exact (Kd.R_reads' HO720.out).2.1); (case side3 => exact qC (Kd.R_reads' HO724.out).2.2); (case side4 => exact (Kd.R_reads' HO724.out).2.1); rintro e w' ⟨rfl, ⟨nd, rfl⟩⟩))
           go_meet
           case rel => exact ⟨_, (!t725), qF, H', ⟨by have := HJ6.out; have := HJ12.out; have := HJ55.out; have := HJ62.out; first | omega | exact Nat.le_refl _⟩, ⟨by (with_reducible repeat (first | apply Kd.R_alloc | apply Kd.R_drewN | apply Kd.R_drew)); exact Kd.R_mono HO720.out (fun _ hk => trivial)⟩, ⟨qB HB.out⟩⟩
         case rest => as_aux_lemma =>
          clear HC90
          obtain ⟨kq, x216_89, rfl, HA, HJ89, HO_27, HB⟩ := hcut
          cases kq with
          | zero => exact absurd HA.out (by simp [laws_FnSeeds.j4])
          | succ kj89 =>
           have H := HA.out
           clear HA
           simp only [laws_FnSeeds.j4] at H
           by_cases c98 : x216_89 = true
           ·
            subst c98
            rw [if_pos rfl] at H
            obtain rfl := Option.some.inj H
            as_aux_lemma =>
             go_wp2
             go_ret
             exact ⟨qE, qB HB.out⟩
           replace c98 := Bool.eq_false_iff.mpr c98
           subst c98
           rw [if_neg (show ¬ (false = true) by decide)] at H
           have HC99 := Aside0.mk H
           clear H
           go_upto_if 218 with (fail)
           go_cut [] (fun wc => ∃ (kq : Nat), Aside0 (laws_FnSeeds.j5 kq l0 = some r) ∧ Aside0 (kq ≤ kj89) ∧ Aside0 (Below w.heap.size w wc))
           case first => as_aux_lemma =>
            have H := HC99.out
            clear HC99
            by_cases c100 : t718 = 0
            rotate_left
            ·
             rw [if_neg c100] at H
             obtain ⟨c100b0, c100b1⟩ := zF c100
             (first | rw [c100b0] | (simp only [i64_w, i32_w]; rw [c100b0]) | skip)
             have H' := Aside0.mk H
             clear H
             as_aux_lemma =>
              go_wp2
              go_meet
              case rel => exact ⟨_, H', ⟨by have := HJ6.out; have := HJ12.out; have := HJ55.out; have := HJ62.out; have := HJ89.out; first | omega | exact Nat.le_refl _⟩, ⟨qB HB.out⟩⟩
            rw [if_pos c100] at H
            obtain ⟨c100b0, c100b1⟩ := zT c100
            clear c100
            (first | rw [c100b0] | (simp only [i64_w, i32_w]; rw [c100b0]) | skip)
            by_cases c101 : 0 < (t717.length : Int)
            rotate_left
            ·
             rw [if_neg c101] at H
             exact absurd H (by simp)
            rw [if_pos c101] at H
            have c101b0 : decide (0 < (t717.length : Int)) = true := decide_eq_true c101
            have c101b1 : decide (0 < t717.length) = true := decide_eq_true (by omega)
            clear c101
            by_cases c102 : 1 < (t717.length : Int)
            rotate_left
            ·
             rw [if_neg c102] at H
             exact absurd H (by simp)
            rw [if_pos c102] at H
            have c102b0 : decide (1 < (t717.length : Int)) = true := decide_eq_true c102
            have c102b1 : decide (1 < t717.length) = true := decide_eq_true (by omega)
            clear c102
            obtain ⟨⟨t728, t729⟩, A103, H⟩ := qN H
            try dsimp only at H
            by_cases c104 : t729 = 0
            rotate_left
            ·
             rw [if_neg c104] at H
             obtain ⟨c104b0, c104b1⟩ := zF c104
             obtain rfl := Option.some.inj H
             try go_wp2
             have n0_ := Aside0.mk (Kd.R_drew HO_27.out)
             have n1_ := Aside0.mk (below_drew1 HB.out)
             clear HO_27
             clear HB
             have HO_27 := n0_
             have HB := n1_
             clear n0_ n1_
             obtain ⟨Ao120, co120, eo120⟩ := Kd.R_slice HO_27.out
             (first | subst eo120 | (injection eo120 with f1_ f2_ f3_; have f4_ := f1_.symm; have f5_ := f3_.symm; clear f1_ f2_ f3_; subst f4_; subst f5_))
             have p726 : 0 ≤ (0 : Int) := (by omega)
             have q726 : 0 < (t717.length : Int) := of_decide_eq_true (by first | (with_reducible assumption) | assumption)
             obtain ⟨ad726, e726, hx726_0⟩ := Kd.at_string (Kd.R_reads' HO_27.out).2.2 0 p726 q726
             cases e726
             have qi726 : (0 < t717.length) = True := eq_true (by omega)
             (try rw [show ((0 : Int)).toNat = 0 from rfl] at hx726_0)
             (try rw [Addr.add_zero'] at hx726_0)
             replace p726 := eq_true p726
             replace q726 := eq_true q726
             have p727 : 0 ≤ (1 : Int) := (by omega)
             have q727 : 1 < (t717.length : Int) := of_decide_eq_true (by first | (with_reducible assumption) | assumption)
             obtain ⟨ad727, e727, hx727_0⟩ := Kd.at_string (Kd.R_reads' HO_27.out).2.2 1 p727 q727
             obtain rfl : ad726 = ad727 := (by injection e727)
             (try simp only [show (1 : Int).toNat = 1 from rfl, Nat.reduceMul, Nat.reduceEqDiff, Go.Addr.add, ↓reduceIte] at hx727_0)
             have qi727 : (1 < t717.length) = True := eq_true (by omega)
             (try rw [show ((1 : Int)).toNat = 1 from rfl] at hx727_0)
             replace p727 := eq_true p727
             replace q727 := eq_true q727
             refine start_ (n := 13) (S := fun w' => w'.cell? ad726 = some (.string (rdOf ByteArray.empty t717 0)) ∧ w'.cell? ⟨ad726.block, ad726.off + 1, none⟩ = some (.string (rdOf ByteArray.empty t717 1))) (ds := []) #[false, false, false, false, false, false, false, false, false, false, false, false, false] (by kernel_rfl) rfl rfl ⟨hx726_0, hx727_0⟩ (fun hHeld => ?_); refine with_tabW laws_FnSeeds.tab30 laws_FnSeeds.bits30 (fun HT_ HW_ => ?_)
             generalize wc.drew = w119 at HO_27 HB hx726_0 hx727_0 hHeld ⊢
             refine pure_ (i := 0) (N := some 220) (v := ?_) (a' := ?_) #[true, false, false, false, false, false, false, false, false, false, false, false, false] rfl rfl (any_of HT_.out (by kernel_rfl)) (fun _ _ _ h => h) (Or.inl ⟨by rfl, ?_⟩) ?_ ?_
             rotate_left
             ·
              intro w'
              go_simp
              with_reducible rfl
             rotate_left
             ·
              simp only [Act.put, List.setIfInBounds_toArray, List.set_cons_zero, List.set_cons_succ, i64_w, i32_w]
              rfl
             refine pure_ (i := 1) (N := some 221) (v := ?_) (a' := ?_) #[true, true, false, false, false, false, false, false, false, false, false, false, false] rfl rfl (any_of HT_.out (by kernel_rfl)) (fun _ _ _ h => h) (Or.inl ⟨by rfl, ?_⟩) ?_ ?_
             rotate_left
             ·
              intro w'
              go_simp
              with_reducible rfl
             rotate_left
             ·
              simp only [Act.put, List.setIfInBounds_toArray, List.set_cons_zero, List.set_cons_succ, i64_w, i32_w]
              rfl
             refine pure_ (i := 2) (N := some 222) (v := ?_) (a' := ?_) #[true, true, true, false, false, false, false, false, false, false, false, false, false] rfl rfl (any_of HT_.out (by kernel_rfl)) (fun _ _ _ h => h) (Or.inl ⟨by rfl, ?_⟩) ?_ ?_
             rotate_left
             ·
              intro w'
              go_simp
              with_reducible rfl
             rotate_left
             ·
              simp only [Act.put, List.setIfInBounds_toArray, List.set_cons_zero, List.set_cons_succ, i64_w, i32_w]
              rfl
             refine pure_ (i := 4) (N := some 224) (v := ?_) (a' := ?_) #[true, true, true, false, true, false, false, false, false, false, false, false, false] rfl rfl (any_of HT_.out (by kernel_rfl)) (fun _ _ _ h => h) (Or.inl ⟨by rfl, ?_⟩) ?_ ?_
             rotate_left
             ·
              intro w'
              go_simp
              with_reducible rfl
             rotate_left
             ·
              simp only [Act.put, List.setIfInBounds_toArray, List.set_cons_zero, List.set_cons_succ, i64_w, i32_w]
              rfl
             refine pure_ (i := 5) (N := some 225) (v := ?_) (a' := ?_) #[true, true, true, false, true, true, false, false, false, false, false, false, false] rfl rfl (any_of HT_.out (by kernel_rfl)) (fun _ _ _ h => h) (Or.inl ⟨by rfl, ?_⟩) ?_ ?_
             rotate_left
             ·
              intro w'
              go_simp
              with_reducible rfl
             rotate_left
             ·
              simp only [Act.put, List.setIfInBounds_toArray, List.set_cons_zero, List.set_cons_succ, i64_w, i32_w]
              rfl
             refine take_ (i := 3) (N := some 223) (v := ?_) (a' := ?_) #[true, true, true, true, true, true, false, false, false, false, false, false, false] rfl rfl (take_ofW HT_.out HW_.out (by kernel_rfl)) (fun _ _ _ h => h) (Or.inl ⟨by rfl, ?_⟩) hHeld ?_ ?_
             rotate_left
             ·
              rintro w' ⟨s0, s1⟩
              go_simp
              with_reducible rfl
             rotate_left
             ·
              simp only [Act.put, List.setIfInBounds_toArray, List.set_cons_zero, List.set_cons_succ, i64_w, i32_w]
              rfl
             refine take_ (i := 6) (N := some 226) (v := ?_) (a' := ?_) #[true, true, true, true, true, true, true, false, false, false, false, false, false] rfl rfl (take_ofW HT_.out HW_.out (by kernel_rfl)) (fun _ _ _ h => h) (Or.inl ⟨by rfl, ?_⟩) hHeld ?_ ?_
             rotate_left
             ·
              rintro w' ⟨s0, s1⟩
              go_simp
              with_reducible rfl
             rotate_left
             ·
              simp only [Act.put, List.setIfInBounds_toArray, List.set_cons_zero, List.set_cons_succ, i64_w, i32_w]
              rfl
             refine one_ (i := 7) (N := some 227) #[true, true, true, true, true, true, true, true, false, false, false, false, false] rfl rfl (one_of HT_.out (by kernel_rfl)) (by decide) (fun K hK => ?_)
             refine goes_ Tryz.func21 (by kernel_rfl) rfl #[.string t715, .string (rdOf ByteArray.empty t717 0), .string (rdOf ByteArray.empty t717 1)] (by rfl) rfl rfl qV ?_
             with_reducible refine (impl_CoveredByTwo.calls kj89 t715 (rdOf ByteArray.empty t717 0) (rdOf ByteArray.empty t717 1) t728 t729 _ A103.out).mono ?_
             rintro e w121 ⟨rfl, hb⟩
             have HS0_ := (hb.cell (World.block_lt_of_cell? _ _ (hHeld.1))).trans (hHeld.1)
             have HS1_ := (hb.cell (World.block_lt_of_cell? _ _ (hHeld.2))).trans (hHeld.2)
             refine ⟨_, rfl, ?_⟩
             have n0_ := Aside0.mk (Kd.R_below (qR HO_27.out) hb)
             have n1_ := Aside0.mk (below_step (qB HB.out) hb)
             clear HO_27
             clear HB
             have HO_27 := n0_
             have HB := n1_
             clear n0_ n1_
             (try clear hb)
             (try clear hb2)
             (try clear hk)
             (try clear hi)
             refine hK.out _ _ ⟨HS0_, HS1_⟩ (fun hHeld => ?_)
             clear hK K
             refine norm_ (a' := ?_) ?_ ?_
             rotate_left
             ·
              show Act.put _ (some 227) _ = _
              simp only [Act.put, List.setIfInBounds_toArray, List.set_cons_zero, List.set_cons_succ, i64_w, i32_w]
              rfl
             refine pure_ (i := 8) (N := some 219) (v := ?_) (a' := ?_) #[true, true, true, true, true, true, true, true, true, false, false, false, false] rfl rfl (any_of HT_.out (by kernel_rfl)) (fun _ _ _ h => h) (Or.inl ⟨by rfl, ?_⟩) ?_ ?_
             rotate_left
             ·
              intro w'
              go_simp
              with_reducible rfl
             rotate_left
             ·
              simp only [Act.put, List.setIfInBounds_toArray, List.set_cons_zero, List.set_cons_succ, i64_w, i32_w]
              rfl
             refine pure_ (i := 9) (N := some 228) (v := ?_) (a' := ?_) #[true, true, true, true, true, true, true, true, true, true, false, false, false] rfl rfl (any_of HT_.out (by kernel_rfl)) (fun _ _ _ h => h) (Or.inl ⟨by rfl, ?_⟩) ?_ ?_
             rotate_left
             ·
              intro w'
              go_simp
              with_reducible rfl
             rotate_left
             ·
              simp only [Act.put, List.setIfInBounds_toArray, List.set_cons_zero, List.set_cons_succ, i64_w, i32_w]
              rfl
             refine pure_ (i := 10) (N := some 229) (v := ?_) (a' := ?_) #[true, true, true, true, true, true, true, true, true, true, true, false, false] rfl rfl (any_of HT_.out (by kernel_rfl)) (fun _ _ _ h => h) (Or.inl ⟨by rfl, ?_⟩) ?_ ?_
             rotate_left
             ·
              intro w'
              go_simp
              with_reducible rfl
             rotate_left
             ·
              simp only [Act.put, List.setIfInBounds_toArray, List.set_cons_zero, List.set_cons_succ, i64_w, i32_w]
              rfl
             refine pure_ (i := 11) (N := some 31) (v := ?_) (a' := ?_) #[true, true, true, true, true, true, true, true, true, true, true, true, false] rfl rfl (any_of HT_.out (by kernel_rfl)) (fun _ _ _ h => h) (Or.inl ⟨by rfl, ?_⟩) ?_ ?_
             rotate_left
             ·
              intro w'
              go_simp
              with_reducible rfl
             rotate_left
             ·
              simp only [Act.put, List.setIfInBounds_toArray, List.set_cons_zero, List.set_cons_succ, i64_w, i32_w]
              rfl
             refine pure_ (i := 12) (N := some 32) (v := ?_) (a' := ?_) #[true, true, true, true, true, true, true, true, true, true, true, true, true] rfl rfl (any_of HT_.out (by kernel_rfl)) (fun _ _ _ h => h) (Or.inl ⟨by rfl, ?_⟩) ?_ ?_
             rotate_left
             ·
              intro w'
              go_simp
              with_reducible rfl
             rotate_left
             ·
              simp only [Act.put, List.setIfInBounds_toArray, List.set_cons_zero, List.set_cons_succ, i64_w, i32_w]
              rfl
             refine done_ (done_of HT_.out (by kernel_rfl)) ?_
             try go_wp2
             have n0_ := Aside0.mk (Kd.R_drew HO_27.out)
             have n1_ := Aside0.mk (below_drew1 HB.out)
             clear HO_27
             clear HB
             have HO_27 := n0_
             have HB := n1_
             clear n0_ n1_
             refine start_ (n := 15) (S := fun w' => True) (ds := []) #[false, false, false, false, false, false, false, false, false, false, false, false, false, false, false] (by kernel_rfl) rfl rfl trivial (fun hHeld => ?_); refine with_tabW laws_FnSeeds.tab31 laws_FnSeeds.bits31 (fun HT_ HW_ => ?_)
             generalize w121.drew = w122 at HO_27 HB hHeld ⊢
             refine pure_ (i := 0) (N := some 230) (v := ?_) (a' := ?_) #[true, false, false, false, false, false, false, false, false, false, false, false, false, false, false] rfl rfl (any_of HT_.out (by kernel_rfl)) (fun _ _ _ h => h) (Or.inl ⟨by rfl, ?_⟩) ?_ ?_
             rotate_left
             ·
              intro w'
              go_simp
              with_reducible rfl
             rotate_left
             ·
              simp only [Act.put, List.setIfInBounds_toArray, List.set_cons_zero, List.set_cons_succ, i64_w, i32_w]
              rfl
             refine pure_ (i := 1) (N := some 231) (v := ?_) (a' := ?_) #[true, true, false, false, false, false, false, false, false, false, false, false, false, false, false] rfl rfl (any_of HT_.out (by kernel_rfl)) (fun _ _ _ h => h) (Or.inl ⟨by rfl, ?_⟩) ?_ ?_
             rotate_left
             ·
              intro w'
              go_simp
              with_reducible rfl
             rotate_left
             ·
              simp only [Act.put, List.setIfInBounds_toArray, List.set_cons_zero, List.set_cons_succ, i64_w, i32_w]
              rfl
             refine pure_ (i := 2) (N := some 232) (v := ?_) (a' := ?_) #[true, true, true, false, false, false, false, false, false, false, false, false, false, false, false] rfl rfl (any_of HT_.out (by kernel_rfl)) (fun _ _ _ h => h) (Or.inl ⟨by rfl, ?_⟩) ?_ ?_
             rotate_left
             ·
              intro w'
              go_simp
              with_reducible rfl
             rotate_left
             ·
              simp only [Act.put, List.setIfInBounds_toArray, List.set_cons_zero, List.set_cons_succ, i64_w, i32_w]
              rfl
             refine pure_ (i := 3) (N := some 233) (v := undef) (a' := ?_) #[true, true, true, true, false, false, false, false, false, false, false, false, false, false, false] rfl rfl (any_of HT_.out (by kernel_rfl)) (fun _ _ _ h => h) (Or.inr ⟨by rfl, rfl⟩) ?_ ?_
             rotate_left
             ·
              simp only [Act.put, List.setIfInBounds_toArray, List.set_cons_zero, List.set_cons_succ, i64_w, i32_w]
              rfl
             refine pure_ (i := 4) (N := some 234) (v := undef) (a' := ?_) #[true, true, true, true, true, false, false, false, false, false, false, false, false, false, false] rfl rfl (any_of HT_.out (by kernel_rfl)) (fun _ _ _ h => h) (Or.inr ⟨by rfl, rfl⟩) ?_ ?_
             rotate_left
             ·
              simp only [Act.put, List.setIfInBounds_toArray, List.set_cons_zero, List.set_cons_succ, i64_w, i32_w]
              rfl
             refine pure_ (i := 5) (N := some 235) (v := ?_) (a' := ?_) #[true, true, true, true, true, true, false, false, false, false, false, false, false, false, false] rfl rfl (any_of HT_.out (by kernel_rfl)) (fun _ _ _ h => h) (Or.inl ⟨by rfl, ?_⟩) ?_ ?_
             rotate_left
             ·
              intro w'
              go_simp
              with_reducible rfl
             rotate_left
             ·
              simp only [Act.put, List.setIfInBounds_toArray, List.set_cons_zero, List.set_cons_succ, i64_w, i32_w]
              rfl
             refine pure_ (i := 6) (N := some 236) (v := ?_) (a' := ?_) #[true, true, true, true, true, true, true, false, false, false, false, false, false, false, false] rfl rfl (any_of HT_.out (by kernel_rfl)) (fun _ _ _ h => h) (Or.inl ⟨by rfl, ?_⟩) ?_ ?_
             rotate_left
             ·
              intro w'
              go_simp
              with_reducible rfl
             rotate_left
             ·
              simp only [Act.put, List.setIfInBounds_toArray, List.set_cons_zero, List.set_cons_succ, i64_w, i32_w]
              rfl
             refine pure_ (i := 7) (N := some 237) (v := undef) (a' := ?_) #[true, true, true, true, true, true, true, true, false, false, false, false, false, false, false] rfl rfl (any_of HT_.out (by kernel_rfl)) (fun _ _ _ h => h) (Or.inr ⟨by rfl, rfl⟩) ?_ ?_
             rotate_left
             ·
              simp only [Act.put, List.setIfInBounds_toArray, List.set_cons_zero, List.set_cons_succ, i64_w, i32_w]
              rfl
             refine pure_ (i := 8) (N := some 238) (v := undef) (a' := ?_) #[true, true, true, true, true, true, true, true, true, false, false, false, false, false, false] rfl rfl (any_of HT_.out (by kernel_rfl)) (fun _ _ _ h => h) (Or.inr ⟨by rfl, rfl⟩) ?_ ?_
             rotate_left
             ·
              simp only [Act.put, List.setIfInBounds_toArray, List.set_cons_zero, List.set_cons_succ, i64_w, i32_w]
              rfl
             refine pure_ (i := 9) (N := some 239) (v := undef) (a' := ?_) #[true, true, true, true, true, true, true, true, true, true, false, false, false, false, false] rfl rfl (any_of HT_.out (by kernel_rfl)) (fun _ _ _ h => h) (Or.inr ⟨by rfl, rfl⟩) ?_ ?_
             rotate_left
             ·
              simp only [Act.put, List.setIfInBounds_toArray, List.set_cons_zero, List.set_cons_succ, i64_w, i32_w]
              rfl
             refine pure_ (i := 10) (N := some 240) (v := undef) (a' := ?_) #[true, true, true, true, true, true, true, true, true, true, true, false, false, false, false] rfl rfl (any_of HT_.out (by kernel_rfl)) (fun _ _ _ h => h) (Or.inr ⟨by rfl, rfl⟩) ?_ ?_
             rotate_left
             ·
              simp only [Act.put, List.setIfInBounds_toArray, List.set_cons_zero, List.set_cons_succ, i64_w, i32_w]
              rfl
             refine pure_ (i := 11) (N := some 241) (v := undef) (a' := ?_) #[true, true, true, true, true, true, true, true, true, true, true, true, false, false, false] rfl rfl (any_of HT_.out (by kernel_rfl)) (fun _ _ _ h => h) (Or.inr ⟨by rfl, rfl⟩) ?_ ?_
             rotate_left
             ·
              simp only [Act.put, List.setIfInBounds_toArray, List.set_cons_zero, List.set_cons_succ, i64_w, i32_w]
              rfl
             refine pure_ (i := 12) (N := some 242) (v := undef) (a' := ?_) #[true, true, true, true, true, true, true, true, true, true, true, true, true, false, false] rfl rfl (any_of HT_.out (by kernel_rfl)) (fun _ _ _ h => h) (Or.inr ⟨by rfl, rfl⟩) ?_ ?_
             rotate_left
             ·
              simp only [Act.put, List.setIfInBounds_toArray, List.set_cons_zero, List.set_cons_succ, i64_w, i32_w]
              rfl
             refine pure_ (i := 13) (N := some 243) (v := undef) (a' := ?_) #[true, true, true, true, true, true, true, true, true, true, true, true, true, true, false] rfl rfl (any_of HT_.out (by kernel_rfl)) (fun _ _ _ h => h) (Or.inr ⟨by rfl, rfl⟩) ?_ ?_
             rotate_left
             ·
              simp only [Act.put, List.setIfInBounds_toArray, List.set_cons_zero, List.set_cons_succ, i64_w, i32_w]
              rfl
             refine pure_ (i := 14) (N := some 244) (v := ?_) (a' := ?_) #[true, true, true, true, true, true, true, true, true, true, true, true, true, true, true] rfl rfl (any_of HT_.out (by kernel_rfl)) (fun _ _ _ h => h) (Or.inl ⟨by rfl, ?_⟩) ?_ ?_
             rotate_left
             ·
              intro w'
              go_simp
              with_reducible rfl
             rotate_left
             ·
              simp only [Act.put, List.setIfInBounds_toArray, List.set_cons_zero, List.set_cons_succ, i64_w, i32_w]
              rfl
             refine done_ (done_of HT_.out (by kernel_rfl)) ?_
             try go_wp2
             go_ret
             exact ⟨qE, qB HB.out⟩
            rw [if_pos c104] at H
            obtain ⟨c104b0, c104b1⟩ := zT c104
            clear c104
            by_cases c105 : t728 = true
            rotate_left
            ·
             replace c105 := Bool.eq_false_iff.mpr c105
             subst c105
             rw [if_neg (show ¬ (false = true) by decide)] at H
             obtain rfl := Option.some.inj H
             try go_wp2
             have n0_ := Aside0.mk (Kd.R_drew HO_27.out)
             have n1_ := Aside0.mk (below_drew1 HB.out)
             clear HO_27
             clear HB
             have HO_27 := n0_
             have HB := n1_
             clear n0_ n1_
             obtain ⟨Ao116, co116, eo116⟩ := Kd.R_slice HO_27.out
             (first | subst eo116 | (injection eo116 with f1_ f2_ f3_; have f4_ := f1_.symm; have f5_ := f3_.symm; clear f1_ f2_ f3_; subst f4_; subst f5_))
             have p726 : 0 ≤ (0 : Int) := (by omega)
             have q726 : 0 < (t717.length : Int) := of_decide_eq_true (by first | (with_reducible assumption) | assumption)
             obtain ⟨ad726, e726, hx726_0⟩ := Kd.at_string (Kd.R_reads' HO_27.out).2.2 0 p726 q726
             cases e726
             have qi726 : (0 < t717.length) = True := eq_true (by omega)
             (try rw [show ((0 : Int)).toNat = 0 from rfl] at hx726_0)
             (try rw [Addr.add_zero'] at hx726_0)
             replace p726 := eq_true p726
             replace q726 := eq_true q726
             have p727 : 0 ≤ (1 : Int) := (by omega)
             have q727 : 1 < (t717.length : Int) := of_decide_eq_true (by first | (with_reducible assumption) | assumption)
             obtain ⟨ad727, e727, hx727_0⟩ := Kd.at_string (Kd.R_reads' HO_27.out).2.2 1 p727 q727
             obtain rfl : ad726 = ad727 := (by injection e727)
             (try simp only [show (1 : Int).toNat = 1 from rfl, Nat.reduceMul, Nat.reduceEqDiff, Go.Addr.add, ↓reduceIte] at hx727_0)
             have qi727 : (1 < t717.length) = True := eq_true (by omega)
             (try rw [show ((1 : Int)).toNat = 1 from rfl] at hx727_0)
             replace p727 := eq_true p727
             replace q727 := eq_true q727
             refine start_ (n := 13) (S := fun w' => w'.cell? ad726 = some (.string (rdOf ByteArray.empty t717 0)) ∧ w'.cell? ⟨ad726.block, ad726.off + 1, none⟩ = some (.string (rdOf ByteArray.empty t717 1))) (ds := []) #[false, false, false, false, false, false, false, false, false, false, false, false, false] (by kernel_rfl) rfl rfl ⟨hx726_0, hx727_0⟩ (fun hHeld => ?_); refine with_tabW laws_FnSeeds.tab30 laws_FnSeeds.bits30 (fun HT_ HW_ => ?_)
             generalize wc.drew = w115 at HO_27 HB hx726_0 hx727_0 hHeld ⊢
             refine pure_ (i := 0) (N := some 220) (v := ?_) (a' := ?_) #[true, false, false, false, false, false, false, false, false, false, false, false, false] rfl rfl (any_of HT_.out (by kernel_rfl)) (fun _ _ _ h => h) (Or.inl ⟨by rfl, ?_⟩) ?_ ?_
             rotate_left
             ·
              intro w'
              go_simp
              with_reducible rfl
             rotate_left
             ·
              simp only [Act.put, List.setIfInBounds_toArray, List.set_cons_zero, List.set_cons_succ, i64_w, i32_w]
              rfl
             refine pure_ (i := 1) (N := some 221) (v := ?_) (a' := ?_) #[true, true, false, false, false, false, false, false, false, false, false, false, false] rfl rfl (any_of HT_.out (by kernel_rfl)) (fun _ _ _ h => h) (Or.inl ⟨by rfl, ?_⟩) ?_ ?_
             rotate_left
             ·
              intro w'
              go_simp
              with_reducible rfl
             rotate_left
             ·
              simp only [Act.put, List.setIfInBounds_toArray, List.set_cons_zero, List.set_cons_succ, i64_w, i32_w]
              rfl
             refine pure_ (i := 2) (N := some 222) (v := ?_) (a' := ?_) #[true, true, true, false, false, false, false, false, false, false, false, false, false] rfl rfl (any_of HT_.out (by kernel_rfl)) (fun _ _ _ h => h) (Or.inl ⟨by rfl, ?_⟩) ?_ ?_
             rotate_left
             ·
              intro w'
              go_simp
              with_reducible rfl
             rotate_left
             ·
              simp only [Act.put, List.setIfInBounds_toArray, List.set_cons_zero, List.set_cons_succ, i64_w, i32_w]
              rfl
             refine pure_ (i := 4) (N := some 224) (v := ?_) (a' := ?_) #[true, true, true, false, true, false, false, false, false, false, false, false, false] rfl rfl (any_of HT_.out (by kernel_rfl)) (fun _ _ _ h => h) (Or.inl ⟨by rfl, ?_⟩) ?_ ?_
             rotate_left
             ·
              intro w'
              go_simp
              with_reducible rfl
             rotate_left
             ·
              simp only [Act.put, List.setIfInBounds_toArray, List.set_cons_zero, List.set_cons_succ, i64_w, i32_w]
              rfl
             refine pure_ (i := 5) (N := some 225) (v := ?_) (a' := ?_) #[true, true, true, false, true, true, false, false, false, false, false, false, false] rfl rfl (any_of HT_.out (by kernel_rfl)) (fun _ _ _ h => h) (Or.inl ⟨by rfl, ?_⟩) ?_ ?_
             rotate_left
             ·
              intro w'
              go_simp
              with_reducible rfl
             rotate_left
             ·
              simp only [Act.put, List.setIfInBounds_toArray, List.set_cons_zero, List.set_cons_succ, i64_w, i32_w]
              rfl
             refine take_ (i := 3) (N := some 223) (v := ?_) (a' := ?_) #[true, true, true, true, true, true, false, false, false, false, false, false, false] rfl rfl (take_ofW HT_.out HW_.out (by kernel_rfl)) (fun _ _ _ h => h) (Or.inl ⟨by rfl, ?_⟩) hHeld ?_ ?_
             rotate_left
             ·
              rintro w' ⟨s0, s1⟩
              go_simp
              with_reducible rfl
             rotate_left
             ·
              simp only [Act.put, List.setIfInBounds_toArray, List.set_cons_zero, List.set_cons_succ, i64_w, i32_w]
              rfl
             refine take_ (i := 6) (N := some 226) (v := ?_) (a' := ?_) #[true, true, true, true, true, true, true, false, false, false, false, false, false] rfl rfl (take_ofW HT_.out HW_.out (by kernel_rfl)) (fun _ _ _ h => h) (Or.inl ⟨by rfl, ?_⟩) hHeld ?_ ?_
             rotate_left
             ·
              rintro w' ⟨s0, s1⟩
              go_simp
              with_reducible rfl
             rotate_left
             ·
              simp only [Act.put, List.setIfInBounds_toArray, List.set_cons_zero, List.set_cons_succ, i64_w, i32_w]
              rfl
             refine one_ (i := 7) (N := some 227) #[true, true, true, true, true, true, true, true, false, false, false, false, false] rfl rfl (one_of HT_.out (by kernel_rfl)) (by decide) (fun K hK => ?_)
             refine goes_ Tryz.func21 (by kernel_rfl) rfl #[.string t715, .string (rdOf ByteArray.empty t717 0), .string (rdOf ByteArray.empty t717 1)] (by rfl) rfl rfl qV ?_
             with_reducible refine (impl_CoveredByTwo.calls kj89 t715 (rdOf ByteArray.empty t717 0) (rdOf ByteArray.empty t717 1) false t729 _ A103.out).mono ?_
             rintro e w117 ⟨rfl, hb⟩
             have HS0_ := (hb.cell (World.block_lt_of_cell? _ _ (hHeld.1))).trans (hHeld.1)
             have HS1_ := (hb.cell (World.block_lt_of_cell? _ _ (hHeld.2))).trans (hHeld.2)
             refine ⟨_, rfl, ?_⟩
             have n0_ := Aside0.mk (Kd.R_below (qR HO_27.out) hb)
             have n1_ := Aside0.mk (below_step (qB HB.out) hb)
             clear HO_27
             clear HB
             have HO_27 := n0_
             have HB := n1_
             clear n0_ n1_
             (try clear hb)
             (try clear hb2)
             (try clear hk)
             (try clear hi)
             refine hK.out _ _ ⟨HS0_, HS1_⟩ (fun hHeld => ?_)
             clear hK K
             refine norm_ (a' := ?_) ?_ ?_
             rotate_left
             ·
              show Act.put _ (some 227) _ = _
              simp only [Act.put, List.setIfInBounds_toArray, List.set_cons_zero, List.set_cons_succ, i64_w, i32_w]
              rfl
             refine pure_ (i := 8) (N := some 219) (v := ?_) (a' := ?_) #[true, true, true, true, true, true, true, true, true, false, false, false, false] rfl rfl (any_of HT_.out (by kernel_rfl)) (fun _ _ _ h => h) (Or.inl ⟨by rfl, ?_⟩) ?_ ?_
             rotate_left
             ·
              intro w'
              go_simp
              with_reducible rfl
             rotate_left
             ·
              simp only [Act.put, List.setIfInBounds_toArray, List.set_cons_zero, List.set_cons_succ, i64_w, i32_w]
              rfl
             refine pure_ (i := 9) (N := some 228) (v := ?_) (a' := ?_) #[true, true, true, true, true, true, true, true, true, true, false, false, false] rfl rfl (any_of HT_.out (by kernel_rfl)) (fun _ _ _ h => h) (Or.inl ⟨by rfl, ?_⟩) ?_ ?_
             rotate_left
             ·
              intro w'
              go_simp
              with_reducible rfl
             rotate_left
             ·
              simp only [Act.put, List.setIfInBounds_toArray, List.set_cons_zero, List.set_cons_succ, i64_w, i32_w]
              rfl
             refine pure_ (i := 10) (N := some 229) (v := ?_) (a' := ?_) #[true, true, true, true, true, true, true, true, true, true, true, false, false] rfl rfl (any_of HT_.out (by kernel_rfl)) (fun _ _ _ h => h) (Or.inl ⟨by rfl, ?_⟩) ?_ ?_
             rotate_left
             ·
              intro w'
              go_simp
              with_reducible rfl
             rotate_left
             ·
              simp only [Act.put, List.setIfInBounds_toArray, List.set_cons_zero, List.set_cons_succ, i64_w, i32_w]
              rfl
             refine pure_ (i := 11) (N := some 31) (v := ?_) (a' := ?_) #[true, true, true, true, true, true, true, true, true, true, true, true, false] rfl rfl (any_of HT_.out (by kernel_rfl)) (fun _ _ _ h => h) (Or.inl ⟨by rfl, ?_⟩) ?_ ?_
             rotate_left
             ·
              intro w'
              go_simp
              with_reducible rfl
             rotate_left
             ·
              simp only [Act.put, List.setIfInBounds_toArray, List.set_cons_zero, List.set_cons_succ, i64_w, i32_w]
              rfl
             refine pure_ (i := 12) (N := some 32) (v := ?_) (a' := ?_) #[true, true, true, true, true, true, true, true, true, true, true, true, true] rfl rfl (any_of HT_.out (by kernel_rfl)) (fun _ _ _ h => h) (Or.inl ⟨by rfl, ?_⟩) ?_ ?_
             rotate_left
             ·
              intro w'
              go_simp
              with_reducible rfl
             rotate_left
             ·
              simp only [Act.put, List.setIfInBounds_toArray, List.set_cons_zero, List.set_cons_succ, i64_w, i32_w]
              rfl
             refine done_ (done_of HT_.out (by kernel_rfl)) ?_
             try go_wp2
             have n0_ := Aside0.mk (Kd.R_drew HO_27.out)
             have n1_ := Aside0.mk (below_drew1 HB.out)
             clear HO_27
             clear HB
             have HO_27 := n0_
             have HB := n1_
             clear n0_ n1_
             refine start_ (n := 15) (S := fun w' => True) (ds := []) #[false, false, false, false, false, false, false, false, false, false, false, false, false, false, false] (by kernel_rfl) rfl rfl trivial (fun hHeld => ?_); refine with_tabW laws_FnSeeds.tab31 laws_FnSeeds.bits31 (fun HT_ HW_ => ?_)
             generalize w117.drew = w118 at HO_27 HB hHeld ⊢
             refine pure_ (i := 0) (N := some 230) (v := ?_) (a' := ?_) #[true, false, false, false, false, false, false, false, false, false, false, false, false, false, false] rfl rfl (any_of HT_.out (by kernel_rfl)) (fun _ _ _ h => h) (Or.inl ⟨by rfl, ?_⟩) ?_ ?_
             rotate_left
             ·
              intro w'
              go_simp
              with_reducible rfl
             rotate_left
             ·
              simp only [Act.put, List.setIfInBounds_toArray, List.set_cons_zero, List.set_cons_succ, i64_w, i32_w]
              rfl
             refine pure_ (i := 1) (N := some 231) (v := ?_) (a' := ?_) #[true, true, false, false, false, false, false, false, false, false, false, false, false, false, false] rfl rfl (any_of HT_.out (by kernel_rfl)) (fun _ _ _ h => h) (Or.inl ⟨by rfl, ?_⟩) ?_ ?_
             rotate_left
             ·
              intro w'
              go_simp
              with_reducible rfl
             rotate_left
             ·
              simp only [Act.put, List.setIfInBounds_toArray, List.set_cons_zero, List.set_cons_succ, i64_w, i32_w]
              rfl
             refine pure_ (i := 2) (N := some 232) (v := ?_) (a' := ?_) #[true, true, true, false, false, false, false, false, false, false, false, false, false, false, false] rfl rfl (any_of HT_.out (by kernel_rfl)) (fun _ _ _ h => h) (Or.inl ⟨by rfl, ?_⟩) ?_ ?_
             rotate_left
             ·
              intro w'
              go_simp
              with_reducible rfl
             rotate_left
             ·
              simp only [Act.put, List.setIfInBounds_toArray, List.set_cons_zero, List.set_cons_succ, i64_w, i32_w]
              rfl
             refine pure_ (i := 3) (N := some 233) (v := ?_) (a' := ?_) #[true, true, true, true, false, false, false, false, false, false, false, false, false, false, false] rfl rfl (any_of HT_.out (by kernel_rfl)) (fun _ _ _ h => h) (Or.inl ⟨by rfl, ?_⟩) ?_ ?_
             rotate_left
             ·
              intro w'
              go_simp
              with_reducible rfl
             rotate_left
             ·
              simp only [Act.put, List.setIfInBounds_toArray, List.set_cons_zero, List.set_cons_succ, i64_w, i32_w]
              rfl
             refine pure_ (i := 4) (N := some 234) (v := ?_) (a' := ?_) #[true, true, true, true, true, false, false, false, false, false, false, false, false, false, false] rfl rfl (any_of HT_.out (by kernel_rfl)) (fun _ _ _ h => h) (Or.inl ⟨by rfl, ?_⟩) ?_ ?_
             rotate_left
             ·
              intro w'
              go_simp
              with_reducible rfl
             rotate_left
             ·
              simp only [Act.put, List.setIfInBounds_toArray, List.set_cons_zero, List.set_cons_succ, i64_w, i32_w]
              rfl
             refine pure_ (i := 5) (N := some 235) (v := ?_) (a' := ?_) #[true, true, true, true, true, true, false, false, false, false, false, false, false, false, false] rfl rfl (any_of HT_.out (by kernel_rfl)) (fun _ _ _ h => h) (Or.inl ⟨by rfl, ?_⟩) ?_ ?_
             rotate_left
             ·
              intro w'
              go_simp
              with_reducible rfl
             rotate_left
             ·
              simp only [Act.put, List.setIfInBounds_toArray, List.set_cons_zero, List.set_cons_succ, i64_w, i32_w]
              rfl
             refine pure_ (i := 6) (N := some 236) (v := ?_) (a' := ?_) #[true, true, true, true, true, true, true, false, false, false, false, false, false, false, false] rfl rfl (any_of HT_.out (by kernel_rfl)) (fun _ _ _ h => h) (Or.inl ⟨by rfl, ?_⟩) ?_ ?_
             rotate_left
             ·
              intro w'
              go_simp
              with_reducible rfl
             rotate_left
             ·
              simp only [Act.put, List.setIfInBounds_toArray, List.set_cons_zero, List.set_cons_succ, i64_w, i32_w]
              rfl
             refine pure_ (i := 7) (N := some 237) (v := undef) (a' := ?_) #[true, true, true, true, true, true, true, true, false, false, false, false, false, false, false] rfl rfl (any_of HT_.out (by kernel_rfl)) (fun _ _ _ h => h) (Or.inr ⟨by rfl, rfl⟩) ?_ ?_
             rotate_left
             ·
              simp only [Act.put, List.setIfInBounds_toArray, List.set_cons_zero, List.set_cons_succ, i64_w, i32_w]
              rfl
             refine pure_ (i := 8) (N := some 238) (v := undef) (a' := ?_) #[true, true, true, true, true, true, true, true, true, false, false, false, false, false, false] rfl rfl (any_of HT_.out (by kernel_rfl)) (fun _ _ _ h => h) (Or.inr ⟨by rfl, rfl⟩) ?_ ?_
             rotate_left
             ·
              simp only [Act.put, List.setIfInBounds_toArray, List.set_cons_zero, List.set_cons_succ, i64_w, i32_w]
              rfl
             refine pure_ (i := 9) (N := some 239) (v := undef) (a' := ?_) #[true, true, true, true, true, true, true, true, true, true, false, false, false, false, false] rfl rfl (any_of HT_.out (by kernel_rfl)) (fun _ _ _ h => h) (Or.inr ⟨by rfl, rfl⟩) ?_ ?_
             rotate_left
             ·
              simp only [Act.put, List.setIfInBounds_toArray, List.set_cons_zero, List.set_cons_succ, i64_w, i32_w]
              rfl
             refine pure_ (i := 10) (N := some 240) (v := undef) (a' := ?_) #[true, true, true, true, true, true, true, true, true, true, true, false, false, false, false] rfl rfl (any_of HT_.out (by kernel_rfl)) (fun _ _ _ h => h) (Or.inr ⟨by rfl, rfl⟩) ?_ ?_
             rotate_left
             ·
              simp only [Act.put, List.setIfInBounds_toArray, List.set_cons_zero, List.set_cons_succ, i64_w, i32_w]
              rfl
             refine pure_ (i := 11) (N := some 241) (v := undef) (a' := ?_) #[true, true, true, true, true, true, true, true, true, true, true, true, false, false, false] rfl rfl (any_of HT_.out (by kernel_rfl)) (fun _ _ _ h => h) (Or.inr ⟨by rfl, rfl⟩) ?_ ?_
             rotate_left
             ·
              simp only [Act.put, List.setIfInBounds_toArray, List.set_cons_zero, List.set_cons_succ, i64_w, i32_w]
              rfl
             refine pure_ (i := 12) (N := some 242) (v := undef) (a' := ?_) #[true, true, true, true, true, true, true, true, true, true, true, true, true, false, false] rfl rfl (any_of HT_.out (by kernel_rfl)) (fun _ _ _ h => h) (Or.inr ⟨by rfl, rfl⟩) ?_ ?_
             rotate_left
             ·
              simp only [Act.put, List.setIfInBounds_toArray, List.set_cons_zero, List.set_cons_succ, i64_w, i32_w]
              rfl
             refine pure_ (i := 13) (N := some 243) (v := undef) (a' := ?_) #[true, true, true, true, true, true, true, true, true, true, true, true, true, true, false] rfl rfl (any_of HT_.out (by kernel_rfl)) (fun _ _ _ h => h) (Or.inr ⟨by rfl, rfl⟩) ?_ ?_
             rotate_left
             ·
              simp only [Act.put, List.setIfInBounds_toArray, List.set_cons_zero, List.set_cons_succ, i64_w, i32_w]
              rfl
             refine pure_ (i := 14) (N := some 244) (v := ?_) (a' := ?_) #[true, true, true, true, true, true, true, true, true, true, true, true, true, true, true] rfl rfl (any_of HT_.out (by kernel_rfl)) (fun _ _ _ h => h) (Or.inl ⟨by rfl, ?_⟩) ?_ ?_
             rotate_left
             ·
              intro w'
              go_simp
              with_reducible rfl
             rotate_left
             ·
              simp only [Act.put, List.setIfInBounds_toArray, List.set_cons_zero, List.set_cons_succ, i64_w, i32_w]
              rfl
             refine done_ (done_of HT_.out (by kernel_rfl)) ?_
             try go_wp2
             go_ret
             exact ⟨qE, qB HB.out⟩
            subst c105
            rw [if_pos rfl] at H
            by_cases c106 : ((Op.bytesLess ((rdOf ByteArray.empty t717 0).toList) ((rdOf ByteArray.empty t717 1).toList)) = true)
            ·
             rw [if_pos c106] at H
             have c106b0 : (Op.bytesLess ((rdOf ByteArray.empty t717 0).toList) ((rdOf ByteArray.empty t717 1).toList)) = true := c106
             clear c106
             have H' := Aside0.mk H
             clear H
             try go_wp2
             have n0_ := Aside0.mk (Kd.R_drew HO_27.out)
             have n1_ := Aside0.mk (below_drew1 HB.out)
             clear HO_27
             clear HB
             have HO_27 := n0_
             have HB := n1_
             clear n0_ n1_
             obtain ⟨Ao108, co108, eo108⟩ := Kd.R_slice HO_27.out
             (first | subst eo108 | (injection eo108 with f1_ f2_ f3_; have f4_ := f1_.symm; have f5_ := f3_.symm; clear f1_ f2_ f3_; subst f4_; subst f5_))
             have p726 : 0 ≤ (0 : Int) := (by omega)
             have q726 : 0 < (t717.length : Int) := of_decide_eq_true (by first | (with_reducible assumption) | assumption)
             obtain ⟨ad726, e726, hx726_0⟩ := Kd.at_string (Kd.R_reads' HO_27.out).2.2 0 p726 q726
             cases e726
             have qi726 : (0 < t717.length) = True := eq_true (by omega)
             (try rw [show ((0 : Int)).toNat = 0 from rfl] at hx726_0)
             (try rw [Addr.add_zero'] at hx726_0)
             replace p726 := eq_true p726
             replace q726 := eq_true q726
             have p727 : 0 ≤ (1 : Int) := (by omega)
             have q727 : 1 < (t717.length : Int) := of_decide_eq_true (by first | (with_reducible assumption) | assumption)
             obtain ⟨ad727, e727, hx727_0⟩ := Kd.at_string (Kd.R_reads' HO_27.out).2.2 1 p727 q727
             obtain rfl : ad726 = ad727 := (by injection e727)
             (try simp only [show (1 : Int).toNat = 1 from rfl, Nat.reduceMul, Nat.reduceEqDiff, Go.Addr.add, ↓reduceIte] at hx727_0)
             have qi727 : (1 < t717.length) = True := eq_true (by omega)
             (try rw [show ((1 : Int)).toNat = 1 from rfl] at hx727_0)
             replace p727 := eq_true p727
             replace q727 := eq_true q727
             refine start_ (n := 13) (S := fun w' => w'.cell? ad726 = some (.string (rdOf ByteArray.empty t717 0)) ∧ w'.cell? ⟨ad726.block, ad726.off + 1, none⟩ = some (.string (rdOf ByteArray.empty t717 1))) (ds := []) #[false, false, false, false, false, false, false, false, false, false, false, false, false] (by kernel_rfl) rfl rfl ⟨hx726_0, hx727_0⟩ (fun hHeld => ?_); refine with_tabW laws_FnSeeds.tab30 laws_FnSeeds.bits30 (fun HT_ HW_ => ?_)
             generalize wc.drew = w107 at HO_27 HB hx726_0 hx727_0 hHeld ⊢
             refine pure_ (i := 0) (N := some 220) (v := ?_) (a' := ?_) #[true, false, false, false, false, false, false, false, false, false, false, false, false] rfl rfl (any_of HT_.out (by kernel_rfl)) (fun _ _ _ h => h) (Or.inl ⟨by rfl, ?_⟩) ?_ ?_
             rotate_left
             ·
              intro w'
              go_simp
              with_reducible rfl
             rotate_left
             ·
              simp only [Act.put, List.setIfInBounds_toArray, List.set_cons_zero, List.set_cons_succ, i64_w, i32_w]
              rfl
             refine pure_ (i := 1) (N := some 221) (v := ?_) (a' := ?_) #[true, true, false, false, false, false, false, false, false, false, false, false, false] rfl rfl (any_of HT_.out (by kernel_rfl)) (fun _ _ _ h => h) (Or.inl ⟨by rfl, ?_⟩) ?_ ?_
             rotate_left
             ·
              intro w'
              go_simp
              with_reducible rfl
             rotate_left
             ·
              simp only [Act.put, List.setIfInBounds_toArray, List.set_cons_zero, List.set_cons_succ, i64_w, i32_w]
              rfl
             refine pure_ (i := 2) (N := some 222) (v := ?_) (a' := ?_) #[true, true, true, false, false, false, false, false, false, false, false, false, false] rfl rfl (any_of HT_.out (by kernel_rfl)) (fun _ _ _ h => h) (Or.inl ⟨by rfl, ?_⟩) ?_ ?_
             rotate_left
             ·
              intro w'
              go_simp
              with_reducible rfl
             rotate_left
             ·
              simp only [Act.put, List.setIfInBounds_toArray, List.set_cons_zero, List.set_cons_succ, i64_w, i32_w]
              rfl
             refine pure_ (i := 4) (N := some 224) (v := ?_) (a' := ?_) #[true, true, true, false, true, false, false, false, false, false, false, false, false] rfl rfl (any_of HT_.out (by kernel_rfl)) (fun _ _ _ h => h) (Or.inl ⟨by rfl, ?_⟩) ?_ ?_
             rotate_left
             ·
              intro w'
              go_simp
              with_reducible rfl
             rotate_left
             ·
              simp only [Act.put, List.setIfInBounds_toArray, List.set_cons_zero, List.set_cons_succ, i64_w, i32_w]
              rfl
             refine pure_ (i := 5) (N := some 225) (v := ?_) (a' := ?_) #[true, true, true, false, true, true, false, false, false, false, false, false, false] rfl rfl (any_of HT_.out (by kernel_rfl)) (fun _ _ _ h => h) (Or.inl ⟨by rfl, ?_⟩) ?_ ?_
             rotate_left
             ·
              intro w'
              go_simp
              with_reducible rfl
             rotate_left
             ·
              simp only [Act.put, List.setIfInBounds_toArray, List.set_cons_zero, List.set_cons_succ, i64_w, i32_w]
              rfl
             refine take_ (i := 3) (N := some 223) (v := ?_) (a' := ?_) #[true, true, true, true, true, true, false, false, false, false, false, false, false] rfl rfl (take_ofW HT_.out HW_.out (by kernel_rfl)) (fun _ _ _ h => h) (Or.inl ⟨by rfl, ?_⟩) hHeld ?_ ?_
             rotate_left
             ·
              rintro w' ⟨s0, s1⟩
              go_simp
              with_reducible rfl
             rotate_left
             ·
              simp only [Act.put, List.setIfInBounds_toArray, List.set_cons_zero, List.set_cons_succ, i64_w, i32_w]
              rfl
             refine take_ (i := 6) (N := some 226) (v := ?_) (a' := ?_) #[true, true, true, true, true, true, true, false, false, false, false, false, false] rfl rfl (take_ofW HT_.out HW_.out (by kernel_rfl)) (fun _ _ _ h => h) (Or.inl ⟨by rfl, ?_⟩) hHeld ?_ ?_
             rotate_left
             ·
              rintro w' ⟨s0, s1⟩
              go_simp
              with_reducible rfl
             rotate_left
             ·
              simp only [Act.put, List.setIfInBounds_toArray, List.set_cons_zero, List.set_cons_succ, i64_w, i32_w]
              rfl
             refine one_ (i := 7) (N := some 227) #[true, true, true, true, true, true, true, true, false, false, false, false, false] rfl rfl (one_of HT_.out (by kernel_rfl)) (by decide) (fun K hK => ?_)
             refine goes_ Tryz.func21 (by kernel_rfl) rfl #[.string t715, .string (rdOf ByteArray.empty t717 0), .string (rdOf ByteArray.empty t717 1)] (by rfl) rfl rfl qV ?_
             with_reducible refine (impl_CoveredByTwo.calls kj89 t715 (rdOf ByteArray.empty t717 0) (rdOf ByteArray.empty t717 1) true t729 _ A103.out).mono ?_
             rintro e w109 ⟨rfl, hb⟩
             have HS0_ := (hb.cell (World.block_lt_of_cell? _ _ (hHeld.1))).trans (hHeld.1)
             have HS1_ := (hb.cell (World.block_lt_of_cell? _ _ (hHeld.2))).trans (hHeld.2)
             refine ⟨_, rfl, ?_⟩
             have n0_ := Aside0.mk (Kd.R_below (qR HO_27.out) hb)
             have n1_ := Aside0.mk (below_step (qB HB.out) hb)
             clear HO_27
             clear HB
             have HO_27 := n0_
             have HB := n1_
             clear n0_ n1_
             (try clear hb)
             (try clear hb2)
             (try clear hk)
             (try clear hi)
             refine hK.out _ _ ⟨HS0_, HS1_⟩ (fun hHeld => ?_)
             clear hK K
             refine norm_ (a' := ?_) ?_ ?_
             rotate_left
             ·
              show Act.put _ (some 227) _ = _
              simp only [Act.put, List.setIfInBounds_toArray, List.set_cons_zero, List.set_cons_succ, i64_w, i32_w]
              rfl
             refine pure_ (i := 8) (N := some 219) (v := ?_) (a' := ?_) #[true, true, true, true, true, true, true, true, true, false, false, false, false] rfl rfl (any_of HT_.out (by kernel_rfl)) (fun _ _ _ h => h) (Or.inl ⟨by rfl, ?_⟩) ?_ ?_
             rotate_left
             ·
              intro w'
              go_simp
              with_reducible rfl
             rotate_left
             ·
              simp only [Act.put, List.setIfInBounds_toArray, List.set_cons_zero, List.set_cons_succ, i64_w, i32_w]
              rfl
             refine pure_ (i := 9) (N := some 228) (v := ?_) (a' := ?_) #[true, true, true, true, true, true, true, true, true, true, false, false, false] rfl rfl (any_of HT_.out (by kernel_rfl)) (fun _ _ _ h => h) (Or.inl ⟨by rfl, ?_⟩) ?_ ?_
             rotate_left
             ·
              intro w'
              go_simp
              with_reducible rfl
             rotate_left
             ·
              simp only [Act.put, List.setIfInBounds_toArray, List.set_cons_zero, List.set_cons_succ, i64_w, i32_w]
              rfl
             refine pure_ (i := 10) (N := some 229) (v := ?_) (a' := ?_) #[true, true, true, true, true, true, true, true, true, true, true, false, false] rfl rfl (any_of HT_.out (by kernel_rfl)) (fun _ _ _ h => h) (Or.inl ⟨by rfl, ?_⟩) ?_ ?_
             rotate_left
             ·
              intro w'
              go_simp
              with_reducible rfl
             rotate_left
             ·
              simp only [Act.put, List.setIfInBounds_toArray, List.set_cons_zero, List.set_cons_succ, i64_w, i32_w]
              rfl
             refine pure_ (i := 11) (N := some 31) (v := ?_) (a' := ?_) #[true, true, true, true, true, true, true, true, true, true, true, true, false] rfl rfl (any_of HT_.out (by kernel_rfl)) (fun _ _ _ h => h) (Or.inl ⟨by rfl, ?_⟩) ?_ ?_
             rotate_left
             ·
              intro w'
              go_simp
              with_reducible rfl
             rotate_left
             ·
              simp only [Act.put, List.setIfInBounds_toArray, List.set_cons_zero, List.set_cons_succ, i64_w, i32_w]
              rfl
             refine pure_ (i := 12) (N := some 32) (v := ?_) (a' := ?_) #[true, true, true, true, true, true, true, true, true, true, true, true, true] rfl rfl (any_of HT_.out (by kernel_rfl)) (fun _ _ _ h => h) (Or.inl ⟨by rfl, ?_⟩) ?_ ?_
             rotate_left
             ·
              intro w'
              go_simp
              with_reducible rfl
             rotate_left
             ·
              simp only [Act.put, List.setIfInBounds_toArray, List.set_cons_zero, List.set_cons_succ, i64_w, i32_w]
              rfl
             refine done_ (done_of HT_.out (by kernel_rfl)) ?_
             try go_wp2
             have n0_ := Aside0.mk (Kd.R_drew HO_27.out)
             have n1_ := Aside0.mk (below_drew1 HB.out)
             clear HO_27
             clear HB
             have HO_27 := n0_
             have HB := n1_
             clear n0_ n1_
             have p730 : 0 ≤ (0 : Int) := (by omega)
             have q730 : 0 < (t717.length : Int) := of_decide_eq_true (by first | (with_reducible assumption) | assumption)
             obtain ⟨ad730, e730, hx730_0⟩ := Kd.at_string (Kd.R_reads' HO_27.out).2.2 0 p730 q730
             obtain rfl : ad726 = ad730 := (by injection e730)
             have qi730 : (0 < t717.length) = True := eq_true (by omega)
             (try rw [show ((0 : Int)).toNat = 0 from rfl] at hx730_0)
             (try rw [Addr.add_zero'] at hx730_0)
             replace p730 := eq_true p730
             replace q730 := eq_true q730
             have p731 : 0 ≤ (1 : Int) := (by omega)
             have q731 : 1 < (t717.length : Int) := of_decide_eq_true (by first | (with_reducible assumption) | assumption)
             obtain ⟨ad731, e731, hx731_0⟩ := Kd.at_string (Kd.R_reads' HO_27.out).2.2 1 p731 q731
             obtain rfl : ad726 = ad731 := (by injection e731)
             (try simp only [show (1 : Int).toNat = 1 from rfl, Nat.reduceMul, Nat.reduceEqDiff, Go.Addr.add, ↓reduceIte] at hx731_0)
             have qi731 : (1 < t717.length) = True := eq_true (by omega)
             (try rw [show ((1 : Int)).toNat = 1 from rfl] at hx731_0)
             replace p731 := eq_true p731
             replace q731 := eq_true q731
             refine start_ (n := 15) (S := fun w' => w'.cell? ad726 = some (.string (rdOf ByteArray.empty t717 0)) ∧ w'.cell? ⟨ad726.block, ad726.off + 1, none⟩ = some (.string (rdOf ByteArray.empty t717 1))) (ds := []) #[false, false, false, false, false, false, false, false, false, false, false, false, false, false, false] (by kernel_rfl) rfl rfl ⟨hx730_0, hx731_0⟩ (fun hHeld => ?_); refine with_tabW laws_FnSeeds.tab31 laws_FnSeeds.bits31 (fun HT_ HW_ => ?_)
             generalize w109.drew = w110 at HO_27 HB hx730_0 hx731_0 hHeld ⊢
             refine pure_ (i := 0) (N := some 230) (v := ?_) (a' := ?_) #[true, false, false, false, false, false, false, false, false, false, false, false, false, false, false] rfl rfl (any_of HT_.out (by kernel_rfl)) (fun _ _ _ h => h) (Or.inl ⟨by rfl, ?_⟩) ?_ ?_
             rotate_left
             ·
              intro w'
              go_simp
              with_reducible rfl
             rotate_left
             ·
              simp only [Act.put, List.setIfInBounds_toArray, List.set_cons_zero, List.set_cons_succ, i64_w, i32_w]
              rfl
             refine pure_ (i := 1) (N := some 231) (v := ?_) (a' := ?_) #[true, true, false, false, false, false, false, false, false, false, false, false, false, false, false] rfl rfl (any_of HT_.out (by kernel_rfl)) (fun _ _ _ h => h) (Or.inl ⟨by rfl, ?_⟩) ?_ ?_
             rotate_left
             ·
              intro w'
              go_simp
              with_reducible rfl
             rotate_left
             ·
              simp only [Act.put, List.setIfInBounds_toArray, List.set_cons_zero, List.set_cons_succ, i64_w, i32_w]
              rfl
             refine pure_ (i := 2) (N := some 232) (v := ?_) (a' := ?_) #[true, true, true, false, false, false, false, false, false, false, false, false, false, false, false] rfl rfl (any_of HT_.out (by kernel_rfl)) (fun _ _ _ h => h) (Or.inl ⟨by rfl, ?_⟩) ?_ ?_
             rotate_left
             ·
              intro w'
              go_simp
              with_reducible rfl
             rotate_left
             ·
              simp only [Act.put, List.setIfInBounds_toArray, List.set_cons_zero, List.set_cons_succ, i64_w, i32_w]
              rfl
             refine pure_ (i := 3) (N := some 233) (v := ?_) (a' := ?_) #[true, true, true, true, false, false, false, false, false, false, false, false, false, false, false] rfl rfl (any_of HT_.out (by kernel_rfl)) (fun _ _ _ h => h) (Or.inl ⟨by rfl, ?_⟩) ?_ ?_
             rotate_left
             ·
              intro w'
              go_simp
              with_reducible rfl
             rotate_left
             ·
              simp only [Act.put, List.setIfInBounds_toArray, List.set_cons_zero, List.set_cons_succ, i64_w, i32_w]
              rfl
             refine pure_ (i := 4) (N := some 234) (v := ?_) (a' := ?_) #[true, true, true, true, true, false, false, false, false, false, false, false, false, false, false] rfl rfl (any_of HT_.out (by kernel_rfl)) (fun _ _ _ h => h) (Or.inl ⟨by rfl, ?_⟩) ?_ ?_
             rotate_left
             ·
              intro w'
              go_simp
              with_reducible rfl
             rotate_left
             ·
              simp only [Act.put, List.setIfInBounds_toArray, List.set_cons_zero, List.set_cons_succ, i64_w, i32_w]
              rfl
             refine pure_ (i := 5) (N := some 235) (v := ?_) (a' := ?_) #[true, true, true, true, true, true, false, false, false, false, false, false, false, false, false] rfl rfl (any_of HT_.out (by kernel_rfl)) (fun _ _ _ h => h) (Or.inl ⟨by rfl, ?_⟩) ?_ ?_
             rotate_left
             ·
              intro w'
              go_simp
              with_reducible rfl
             rotate_left
             ·
              simp only [Act.put, List.setIfInBounds_toArray, List.set_cons_zero, List.set_cons_succ, i64_w, i32_w]
              rfl
             refine pure_ (i := 6) (N := some 236) (v := ?_) (a' := ?_) #[true, true, true, true, true, true, true, false, false, false, false, false, false, false, false] rfl rfl (any_of HT_.out (by kernel_rfl)) (fun _ _ _ h => h) (Or.inl ⟨by rfl, ?_⟩) ?_ ?_
             rotate_left
             ·
              intro w'
              go_simp
              with_reducible rfl
             rotate_left
             ·
              simp only [Act.put, List.setIfInBounds_toArray, List.set_cons_zero, List.set_cons_succ, i64_w, i32_w]
              rfl
             refine pure_ (i := 7) (N := some 237) (v := ?_) (a' := ?_) #[true, true, true, true, true, true, true, true, false, false, false, false, false, false, false] rfl rfl (any_of HT_.out (by kernel_rfl)) (fun _ _ _ h => h) (Or.inl ⟨by rfl, ?_⟩) ?_ ?_
             rotate_left
             ·
              intro w'
              go_simp
              with_reducible rfl
             rotate_left
             ·
              simp only [Act.put, List.setIfInBounds_toArray, List.set_cons_zero, List.set_cons_succ, i64_w, i32_w]
              rfl
             refine pure_ (i := 8) (N := some 238) (v := ?_) (a' := ?_) #[true, true, true, true, true, true, true, true, true, false, false, false, false, false, false] rfl rfl (any_of HT_.out (by kernel_rfl)) (fun _ _ _ h => h) (Or.inl ⟨by rfl, ?_⟩) ?_ ?_
             rotate_left
             ·
              intro w'
              go_simp
              with_reducible rfl
             rotate_left
             ·
              simp only [Act.put, List.setIfInBounds_toArray, List.set_cons_zero, List.set_cons_succ, i64_w, i32_w]
              rfl
             refine pure_ (i := 10) (N := some 240) (v := ?_) (a' := ?_) #[true, true, true, true, true, true, true, true, true, false, true, false, false, false, false] rfl rfl (any_of HT_.out (by kernel_rfl)) (fun _ _ _ h => h) (Or.inl ⟨by rfl, ?_⟩) ?_ ?_
             rotate_left
             ·
              intro w'
              go_simp
              with_reducible rfl
             rotate_left
             ·
              simp only [Act.put, List.setIfInBounds_toArray, List.set_cons_zero, List.set_cons_succ, i64_w, i32_w]
              rfl
             refine pure_ (i := 11) (N := some 241) (v := ?_) (a' := ?_) #[true, true, true, true, true, true, true, true, true, false, true, true, false, false, false] rfl rfl (any_of HT_.out (by kernel_rfl)) (fun _ _ _ h => h) (Or.inl ⟨by rfl, ?_⟩) ?_ ?_
             rotate_left
             ·
              intro w'
              go_simp
              with_reducible rfl
             rotate_left
             ·
              simp only [Act.put, List.setIfInBounds_toArray, List.set_cons_zero, List.set_cons_succ, i64_w, i32_w]
              rfl
             refine take_ (i := 9) (N := some 239) (v := ?_) (a' := ?_) #[true, true, true, true, true, true, true, true, true, true, true, true, false, false, false] rfl rfl (take_ofW HT_.out HW_.out (by kernel_rfl)) (fun _ _ _ h => h) (Or.inl ⟨by rfl, ?_⟩) hHeld ?_ ?_
             rotate_left
             ·
              rintro w' ⟨s0, s1⟩
              go_simp
              with_reducible rfl
             rotate_left
             ·
              simp only [Act.put, List.setIfInBounds_toArray, List.set_cons_zero, List.set_cons_succ, i64_w, i32_w]
              rfl
             refine take_ (i := 12) (N := some 242) (v := ?_) (a' := ?_) #[true, true, true, true, true, true, true, true, true, true, true, true, true, false, false] rfl rfl (take_ofW HT_.out HW_.out (by kernel_rfl)) (fun _ _ _ h => h) (Or.inl ⟨by rfl, ?_⟩) hHeld ?_ ?_
             rotate_left
             ·
              rintro w' ⟨s0, s1⟩
              go_simp
              with_reducible rfl
             rotate_left
             ·
              simp only [Act.put, List.setIfInBounds_toArray, List.set_cons_zero, List.set_cons_succ, i64_w, i32_w]
              rfl
             refine pure_ (i := 13) (N := some 243) (v := ?_) (a' := ?_) #[true, true, true, true, true, true, true, true, true, true, true, true, true, true, false] rfl rfl (any_of HT_.out (by kernel_rfl)) (fun _ _ _ h => h) (Or.inl ⟨by rfl, ?_⟩) ?_ ?_
             rotate_left
             ·
              intro w'
              go_simp
              with_reducible rfl
             rotate_left
             ·
              simp only [Act.put, List.setIfInBounds_toArray, List.set_cons_zero, List.set_cons_succ, i64_w, i32_w]
              rfl
             refine pure_ (i := 14) (N := some 244) (v := ?_) (a' := ?_) #[true, true, true, true, true, true, true, true, true, true, true, true, true, true, true] rfl rfl (any_of HT_.out (by kernel_rfl)) (fun _ _ _ h => h) (Or.inl ⟨by rfl, ?_⟩) ?_ ?_
             rotate_left
             ·
              intro w'
              go_simp
              with_reducible rfl
             rotate_left
             ·
              simp only [Act.put, List.setIfInBounds_toArray, List.set_cons_zero, List.set_cons_succ, i64_w, i32_w]
              rfl
             refine done_ (done_of HT_.out (by kernel_rfl)) ?_
             try go_wp2
             go_meet
             case rel => exact ⟨_, H', ⟨by have := HJ6.out; have := HJ12.out; have := HJ55.out; have := HJ62.out; have := HJ89.out; first | omega | exact Nat.le_refl _⟩, ⟨qB HB.out⟩⟩
            rw [if_neg c106] at H
            have c106b0 : (Op.bytesLess ((rdOf ByteArray.empty t717 0).toList) ((rdOf ByteArray.empty t717 1).toList)) = false := by simpa using c106
            clear c106
            obtain rfl := Option.some.inj H
            try go_wp2
            have n0_ := Aside0.mk (Kd.R_drew HO_27.out)
            have n1_ := Aside0.mk (below_drew1 HB.out)
            clear HO_27
            clear HB
            have HO_27 := n0_
            have HB := n1_
            clear n0_ n1_
            obtain ⟨Ao112, co112, eo112⟩ := Kd.R_slice HO_27.out
            (first | subst eo112 | (injection eo112 with f1_ f2_ f3_; have f4_ := f1_.symm; have f5_ := f3_.symm; clear f1_ f2_ f3_; subst f4_; subst f5_))
            have p726 : 0 ≤ (0 : Int) := (by omega)
            have q726 : 0 < (t717.length : Int) := of_decide_eq_true (by first | (with_reducible assumption) | assumption)
            obtain ⟨ad726, e726, hx726_0⟩ := Kd.at_string (Kd.R_reads' HO_27.out).2.2 0 p726 q726
            cases e726
            have qi726 : (0 < t717.length) = True := eq_true (by omega)
            (try rw [show ((0 : Int)).toNat = 0 from rfl] at hx726_0)
            (try rw [Addr.add_zero'] at hx726_0)
            replace p726 := eq_true p726
            replace q726 := eq_true q726
            have p727 : 0 ≤ (1 : Int) := (by omega)
            have q727 : 1 < (t717.length : Int) := of_decide_eq_true (by first | (with_reducible assumption) | assumption)
            obtain ⟨ad727, e727, hx727_0⟩ := Kd.at_string (Kd.R_reads' HO_27.out).2.2 1 p727 q727
            obtain rfl : ad726 = ad727 := (by injection e727)
            (try simp only [show (1 : Int).toNat = 1 from rfl, Nat.reduceMul, Nat.reduceEqDiff, Go.Addr.add, ↓reduceIte] at hx727_0)
            have qi727 : (1 < t717.length) = True := eq_true (by omega)
            (try rw [show ((1 : Int)).toNat = 1 from rfl] at hx727_0)
            replace p727 := eq_true p727
            replace q727 := eq_true q727
            refine start_ (n := 13) (S := fun w' => w'.cell? ad726 = some (.string (rdOf ByteArray.empty t717 0)) ∧ w'.cell? ⟨ad726.block, ad726.off + 1, none⟩ = some (.string (rdOf ByteArray.empty t717 1))) (ds := []) #[false, false, false, false, false, false, false, false, false, false, false, false, false] (by kernel_rfl) rfl rfl ⟨hx726_0, hx727_0⟩ (fun hHeld => ?_); refine with_tabW laws_FnSeeds.tab30 laws_FnSeeds.bits30 (fun HT_ HW_ => ?_)
            generalize wc.drew = w111 at HO_27 HB hx726_0 hx727_0 hHeld ⊢
            refine pure_ (i := 0) (N := some 220) (v := ?_) (a' := ?_) #[true, false, false, false, false, false, false, false, false, false, false, false, false] rfl rfl (any_of HT_.out (by kernel_rfl)) (fun _ _ _ h => h) (Or.inl ⟨by rfl, ?_⟩) ?_ ?_
            rotate_left
            ·
             intro w'
             go_simp
             with_reducible rfl
            rotate_left
            ·
             simp only [Act.put, List.setIfInBounds_toArray, List.set_cons_zero, List.set_cons_succ, i64_w, i32_w]
             rfl
            refine pure_ (i := 1) (N := some 221) (v := ?_) (a' := ?_) #[true, true, false, false, false, false, false, false, false, false, false, false, false] rfl rfl (any_of HT_.out (by kernel_rfl)) (fun _ _ _ h => h) (Or.inl ⟨by rfl, ?_⟩) ?_ ?_
            rotate_left
            ·
             intro w'
             go_simp
             with_reducible rfl
            rotate_left
            ·
             simp only [Act.put, List.setIfInBounds_toArray, List.set_cons_zero, List.set_cons_succ, i64_w, i32_w]
             rfl
            refine pure_ (i := 2) (N := some 222) (v := ?_) (a' := ?_) #[true, true, true, false, false, false, false, false, false, false, false, false, false] rfl rfl (any_of HT_.out (by kernel_rfl)) (fun _ _ _ h => h) (Or.inl ⟨by rfl, ?_⟩) ?_ ?_
            rotate_left
            ·
             intro w'
             go_simp
             with_reducible rfl
            rotate_left
            ·
             simp only [Act.put, List.setIfInBounds_toArray, List.set_cons_zero, List.set_cons_succ, i64_w, i32_w]
             rfl
            refine pure_ (i := 4) (N := some 224) (v := ?_) (a' := ?_) #[true, true, true, false, true, false, false, false, false, false, false, false, false] rfl rfl (any_of HT_.out (by kernel_rfl)) (fun _ _ _ h => h) (Or.inl ⟨by rfl, ?_⟩) ?_ ?_
            rotate_left
            ·
             intro w'
             go_simp
             with_reducible rfl
            rotate_left
            ·
             simp only [Act.put, List.setIfInBounds_toArray, List.set_cons_zero, List.set_cons_succ, i64_w, i32_w]
             rfl
            refine pure_ (i := 5) (N := some 225) (v := ?_) (a' := ?_) #[true, true, true, false, true, true, false, false, false, false, false, false, false] rfl rfl (any_of HT_.out (by kernel_rfl)) (fun _ _ _ h => h) (Or.inl ⟨by rfl, ?_⟩) ?_ ?_
            rotate_left
            ·
             intro w'
             go_simp
             with_reducible rfl
            rotate_left
            ·
             simp only [Act.put, List.setIfInBounds_toArray, List.set_cons_zero, List.set_cons_succ, i64_w, i32_w]
             rfl
            refine take_ (i := 3) (N := some 223) (v := ?_) (a' := ?_) #[true, true, true, true, true, true, false, false, false, false, false, false, false] rfl rfl (take_ofW HT_.out HW_.out (by kernel_rfl)) (fun _ _ _ h => h) (Or.inl ⟨by rfl, ?_⟩) hHeld ?_ ?_
            rotate_left
            ·
             rintro w' ⟨s0, s1⟩
             go_simp
             with_reducible rfl
            rotate_left
            ·
             simp only [Act.put, List.setIfInBounds_toArray, List.set_cons_zero, List.set_cons_succ, i64_w, i32_w]
             rfl
            refine take_ (i := 6) (N := some 226) (v := ?_) (a' := ?_) #[true, true, true, true, true, true, true, false, false, false, false, false, false] rfl rfl (take_ofW HT_.out HW_.out (by kernel_rfl)) (fun _ _ _ h => h) (Or.inl ⟨by rfl, ?_⟩) hHeld ?_ ?_
            rotate_left
            ·
             rintro w' ⟨s0, s1⟩
             go_simp
             with_reducible rfl
            rotate_left
            ·
             simp only [Act.put, List.setIfInBounds_toArray, List.set_cons_zero, List.set_cons_succ, i64_w, i32_w]
             rfl
            refine one_ (i := 7) (N := some 227) #[true, true, true, true, true, true, true, true, false, false, false, false, false] rfl rfl (one_of HT_.out (by kernel_rfl)) (by decide) (fun K hK => ?_)
            refine goes_ Tryz.func21 (by kernel_rfl) rfl #[.string t715, .string (rdOf ByteArray.empty t717 0), .string (rdOf ByteArray.empty t717 1)] (by rfl) rfl rfl qV ?_
            with_reducible refine (impl_CoveredByTwo.calls kj89 t715 (rdOf ByteArray.empty t717 0) (rdOf ByteArray.empty t717 1) true t729 _ A103.out).mono ?_
            rintro e w113 ⟨rfl, hb⟩
            have HS0_ := (hb.cell (World.block_lt_of_cell? _ _ (hHeld.1))).trans (hHeld.1)
            have HS1_ := (hb.cell (World.block_lt_of_cell? _ _ (hHeld.2))).trans (hHeld.2)
            refine ⟨_, rfl, ?_⟩
            have n0_ := Aside0.mk (Kd.R_below (qR HO_27.out) hb)
            have n1_ := Aside0.mk (below_step (qB HB.out) hb)
            clear HO_27
            clear HB
            have HO_27 := n0_
            have HB := n1_
            clear n0_ n1_
            (try clear hb)
            (try clear hb2)
            (try clear hk)
            (try clear hi)
            refine hK.out _ _ ⟨HS0_, HS1_⟩ (fun hHeld => ?_)
            clear hK K
            refine norm_ (a' := ?_) ?_ ?_
            rotate_left
            ·
             show Act.put _ (some 227) _ = _
             simp only [Act.put, List.setIfInBounds_toArray, List.set_cons_zero, List.set_cons_succ, i64_w, i32_w]
             rfl
            refine pure_ (i := 8) (N := some 219) (v := ?_) (a' := ?_) #[true, true, true, true, true, true, true, true, true, false, false, false, false] rfl rfl (any_of HT_.out (by kernel_rfl)) (fun _ _ _ h => h) (Or.inl ⟨by rfl, ?_⟩) ?_ ?_
            rotate_left
            ·
             intro w'
             go_simp
             with_reducible rfl
            rotate_left
            ·
             simp only [Act.put, List.setIfInBounds_toArray, List.set_cons_zero, List.set_cons_succ, i64_w, i32_w]
             rfl
            refine pure_ (i := 9) (N := some 228) (v := ?_) (a' := ?_) #[true, true, true, true, true, true, true, true, true, true, false, false, false] rfl rfl (any_of HT_.out (by kernel_rfl)) (fun _ _ _ h => h) (Or.inl ⟨by rfl, ?_⟩) ?_ ?_
            rotate_left
            ·
             intro w'
             go_simp
             with_reducible rfl
            rotate_left
            ·
             simp only [Act.put, List.setIfInBounds_toArray, List.set_cons_zero, List.set_cons_succ, i64_w, i32_w]
             rfl
            refine pure_ (i := 10) (N := some 229) (v := ?_) (a' := ?_) #[true, true, true, true, true, true, true, true, true, true, true, false, false] rfl rfl (any_of HT_.out (by kernel_rfl)) (fun _ _ _ h => h) (Or.inl ⟨by rfl, ?_⟩) ?_ ?_
            rotate_left
            ·
             intro w'
             go_simp
             with_reducible rfl
            rotate_left
            ·
             simp only [Act.put, List.setIfInBounds_toArray, List.set_cons_zero, List.set_cons_succ, i64_w, i32_w]
             rfl
            refine pure_ (i := 11) (N := some 31) (v := ?_) (a' := ?_) #[true, true, true, true, true, true, true, true, true, true, true, true, false] rfl rfl (any_of HT_.out (by kernel_rfl)) (fun _ _ _ h => h) (Or.inl ⟨by rfl, ?_⟩) ?_ ?_
            rotate_left
            ·
             intro w'
             go_simp
             with_reducible rfl
            rotate_left
            ·
             simp only [Act.put, List.setIfInBounds_toArray, List.set_cons_zero, List.set_cons_succ, i64_w, i32_w]
             rfl
            refine pure_ (i := 12) (N := some 32) (v := ?_) (a' := ?_) #[true, true, true, true, true, true, true, true, true, true, true, true, true] rfl rfl (any_of HT_.out (by kernel_rfl)) (fun _ _ _ h => h) (Or.inl ⟨by rfl, ?_⟩) ?_ ?_
            rotate_left
            ·
             intro w'
             go_simp
             with_reducible rfl
            rotate_left
            ·
             simp only [Act.put, List.setIfInBounds_toArray, List.set_cons_zero, List.set_cons_succ, i64_w, i32_w]
             rfl
            refine done_ (done_of HT_.out (by kernel_rfl)) ?_
            try go_wp2
            have n0_ := Aside0.mk (Kd.R_drew HO_27.out)
            have n1_ := Aside0.mk (below_drew1 HB.out)
            clear HO_27
            clear HB
            have HO_27 := n0_
            have HB := n1_
            clear n0_ n1_
            have p730 : 0 ≤ (0 : Int) := (by omega)
            have q730 : 0 < (t717.length : Int) := of_decide_eq_true (by first | (with_reducible assumption) | assumption)
            obtain ⟨ad730, e730, hx730_0⟩ := Kd.at_string (Kd.R_reads' HO_27.out).2.2 0 p730 q730
            obtain rfl : ad726 = ad730 := (by injection e730)
            have qi730 : (0 < t717.length) = True := eq_true (by omega)
            (try rw [show ((0 : Int)).toNat = 0 from rfl] at hx730_0)
            (try rw [Addr.add_zero'] at hx730_0)
            replace p730 := eq_true p730
            replace q730 := eq_true q730
            have p731 : 0 ≤ (1 : Int) := (by omega)
            have q731 : 1 < (t717.length : Int) := of_decide_eq_true (by first | (with_reducible assumption) | assumption)
            obtain ⟨ad731, e731, hx731_0⟩ := Kd.at_string (Kd.R_reads' HO_27.out).2.2 1 p731 q731
            obtain rfl : ad726 = ad731 := (by injection e731)
            (try simp only [show (1 : Int).toNat = 1 from rfl, Nat.reduceMul, Nat.reduceEqDiff, Go.Addr.add, ↓reduceIte] at hx731_0)
            have qi731 : (1 < t717.length) = True := eq_true (by omega)
            (try rw [show ((1 : Int)).toNat = 1 from rfl] at hx731_0)
            replace p731 := eq_true p731
            replace q731 := eq_true q731
            refine start_ (n := 15) (S := fun w' => w'.cell? ad726 = some (.string (rdOf ByteArray.empty t717 0)) ∧ w'.cell? ⟨ad726.block, ad726.off + 1, none⟩ = some (.string (rdOf ByteArray.empty t717 1))) (ds := []) #[false, false, false, false, false, false, false, false, false, false, false, false, false, false, false] (by kernel_rfl) rfl rfl ⟨hx730_0, hx731_0⟩ (fun hHeld => ?_); refine with_tabW laws_FnSeeds.tab31 laws_FnSeeds.bits31 (fun HT_ HW_ => ?_)
            generalize w113.drew = w114 at HO_27 HB hx730_0 hx731_0 hHeld ⊢
            refine pure_ (i := 0) (N := some 230) (v := ?_) (a' := ?_) #[true, false, false, false, false, false, false, false, false, false, false, false, false, false, false] rfl rfl (any_of HT_.out (by kernel_rfl)) (fun _ _ _ h => h) (Or.inl ⟨by rfl, ?_⟩) ?_ ?_
            rotate_left
            ·
             intro w'
             go_simp
             with_reducible rfl
            rotate_left
            ·
             simp only [Act.put, List.setIfInBounds_toArray, List.set_cons_zero, List.set_cons_succ, i64_w, i32_w]
             rfl
            refine pure_ (i := 1) (N := some 231) (v := ?_) (a' := ?_) #[true, true, false, false, false, false, false, false, false, false, false, false, false, false, false] rfl rfl (any_of HT_.out (by kernel_rfl)) (fun _ _ _ h => h) (Or.inl ⟨by rfl, ?_⟩) ?_ ?_
            rotate_left
            ·
             intro w'
             go_simp
             with_reducible rfl
            rotate_left
            ·
             simp only [Act.put, List.setIfInBounds_toArray, List.set_cons_zero, List.set_cons_succ, i64_w, i32_w]
             rfl
            refine pure_ (i := 2) (N := some 232) (v := ?_) (a' := ?_) #[true, true, true, false, false, false, false, false, false, false, false, false, false, false, false] rfl rfl (any_of HT_.out (by kernel_rfl)) (fun _ _ _ h => h) (Or.inl ⟨by rfl, ?_⟩) ?_ ?_
            rotate_left
            ·
             intro w'
             go_simp
             with_reducible rfl
            rotate_left
            ·
             simp only [Act.put, List.setIfInBounds_toArray, List.set_cons_zero, List.set_cons_succ, i64_w, i32_w]
             rfl
            refine pure_ (i := 3) (N := some 233) (v := ?_) (a' := ?_) #[true, true, true, true, false, false, false, false, false, false, false, false, false, false, false] rfl rfl (any_of HT_.out (by kernel_rfl)) (fun _ _ _ h => h) (Or.inl ⟨by rfl, ?_⟩) ?_ ?_
            rotate_left
            ·
             intro w'
             go_simp
             with_reducible rfl
            rotate_left
            ·
             simp only [Act.put, List.setIfInBounds_toArray, List.set_cons_zero, List.set_cons_succ, i64_w, i32_w]
             rfl
            refine pure_ (i := 4) (N := some 234) (v := ?_) (a' := ?_) #[true, true, true, true, true, false, false, false, false, false, false, false, false, false, false] rfl rfl (any_of HT_.out (by kernel_rfl)) (fun _ _ _ h => h) (Or.inl ⟨by rfl, ?_⟩) ?_ ?_
            rotate_left
            ·
             intro w'
             go_simp
             with_reducible rfl
            rotate_left
            ·
             simp only [Act.put, List.setIfInBounds_toArray, List.set_cons_zero, List.set_cons_succ, i64_w, i32_w]
             rfl
            refine pure_ (i := 5) (N := some 235) (v := ?_) (a' := ?_) #[true, true, true, true, true, true, false, false, false, false, false, false, false, false, false] rfl rfl (any_of HT_.out (by kernel_rfl)) (fun _ _ _ h => h) (Or.inl ⟨by rfl, ?_⟩) ?_ ?_
            rotate_left
            ·
             intro w'
             go_simp
             with_reducible rfl
            rotate_left
            ·
             simp only [Act.put, List.setIfInBounds_toArray, List.set_cons_zero, List.set_cons_succ, i64_w, i32_w]
             rfl
            refine pure_ (i := 6) (N := some 236) (v := ?_) (a' := ?_) #[true, true, true, true, true, true, true, false, false, false, false, false, false, false, false] rfl rfl (any_of HT_.out (by kernel_rfl)) (fun _ _ _ h => h) (Or.inl ⟨by rfl, ?_⟩) ?_ ?_
            rotate_left
            ·
             intro w'
             go_simp
             with_reducible rfl
            rotate_left
            ·
             simp only [Act.put, List.setIfInBounds_toArray, List.set_cons_zero, List.set_cons_succ, i64_w, i32_w]
             rfl
            refine pure_ (i := 7) (N := some 237) (v := ?_) (a' := ?_) #[true, true, true, true, true, true, true, true, false, false, false, false, false, false, false] rfl rfl (any_of HT_.out (by kernel_rfl)) (fun _ _ _ h => h) (Or.inl ⟨by rfl, ?_⟩) ?_ ?_
            rotate_left
            ·
             intro w'
             go_simp
             with_reducible rfl
            rotate_left
            ·
             simp only [Act.put, List.setIfInBounds_toArray, List.set_cons_zero, List.set_cons_succ, i64_w, i32_w]
             rfl
            refine pure_ (i := 8) (N := some 238) (v := ?_) (a' := ?_) #[true, true, true, true, true, true, true, true, true, false, false, false, false, false, false] rfl rfl (any_of HT_.out (by kernel_rfl)) (fun _ _ _ h => h) (Or.inl ⟨by rfl, ?_⟩) ?_ ?_
            rotate_left
            ·
             intro w'
             go_simp
             with_reducible rfl
            rotate_left
            ·
             simp only [Act.put, List.setIfInBounds_toArray, List.set_cons_zero, List.set_cons_succ, i64_w, i32_w]
             rfl
            refine pure_ (i := 10) (N := some 240) (v := ?_) (a' := ?_) #[true, true, true, true, true, true, true, true, true, false, true, false, false, false, false] rfl rfl (any_of HT_.out (by kernel_rfl)) (fun _ _ _ h => h) (Or.inl ⟨by rfl, ?_⟩) ?_ ?_
            rotate_left
            ·
             intro w'
             go_simp
             with_reducible rfl
            rotate_left
            ·
             simp only [Act.put, List.setIfInBounds_toArray, List.set_cons_zero, List.set_cons_succ, i64_w, i32_w]
             rfl
            refine pure_ (i := 11) (N := some 241) (v := ?_) (a' := ?_) #[true, true, true, true, true, true, true, true, true, false, true, true, false, false, false] rfl rfl (any_of HT_.out (by kernel_rfl)) (fun _ _ _ h => h) (Or.inl ⟨by rfl, ?_⟩) ?_ ?_
            rotate_left
            ·
             intro w'
             go_simp
             with_reducible rfl
            rotate_left
            ·
             simp only [Act.put, List.setIfInBounds_toArray, List.set_cons_zero, List.set_cons_succ, i64_w, i32_w]
             rfl
            refine take_ (i := 9) (N := some 239) (v := ?_) (a' := ?_) #[true, true, true, true, true, true, true, true, true, true, true, true, false, false, false] rfl rfl (take_ofW HT_.out HW_.out (by kernel_rfl)) (fun _ _ _ h => h) (Or.inl ⟨by rfl, ?_⟩) hHeld ?_ ?_
            rotate_left
            ·
             rintro w' ⟨s0, s1⟩
             go_simp
             with_reducible rfl
            rotate_left
            ·
             simp only [Act.put, List.setIfInBounds_toArray, List.set_cons_zero, List.set_cons_succ, i64_w, i32_w]
             rfl
            refine take_ (i := 12) (N := some 242) (v := ?_) (a' := ?_) #[true, true, true, true, true, true, true, true, true, true, true, true, true, false, false] rfl rfl (take_ofW HT_.out HW_.out (by kernel_rfl)) (fun _ _ _ h => h) (Or.inl ⟨by rfl, ?_⟩) hHeld ?_ ?_
            rotate_left
            ·
             rintro w' ⟨s0, s1⟩
             go_simp
             with_reducible rfl
            rotate_left
            ·
             simp only [Act.put, List.setIfInBounds_toArray, List.set_cons_zero, List.set_cons_succ, i64_w, i32_w]
             rfl
            refine pure_ (i := 13) (N := some 243) (v := ?_) (a' := ?_) #[true, true, true, true, true, true, true, true, true, true, true, true, true, true, false] rfl rfl (any_of HT_.out (by kernel_rfl)) (fun _ _ _ h => h) (Or.inl ⟨by rfl, ?_⟩) ?_ ?_
            rotate_left
            ·
             intro w'
             go_simp
             with_reducible rfl
            rotate_left
            ·
             simp only [Act.put, List.setIfInBounds_toArray, List.set_cons_zero, List.set_cons_succ, i64_w, i32_w]
             rfl
            refine pure_ (i := 14) (N := some 244) (v := ?_) (a' := ?_) #[true, true, true, true, true, true, true, true, true, true, true, true, true, true, true] rfl rfl (any_of HT_.out (by kernel_rfl)) (fun _ _ _ h => h) (Or.inl ⟨by rfl, ?_⟩) ?_ ?_
            rotate_left
            ·
             intro w'
             go_simp
             with_reducible rfl
            rotate_left
            ·
             simp only [Act.put, List.setIfInBounds_toArray, List.set_cons_zero, List.set_cons_succ, i64_w, i32_w]
             rfl
            refine done_ (done_of HT_.out (by kernel_rfl)) ?_
            try go_wp2
            go_ret
            exact ⟨qE, qB HB.out⟩
           case rest => as_aux_lemma =>
            clear HC99
            obtain ⟨kq, HA, HJ98, HB⟩ := hcut
            cases kq with
            | zero => exact absurd HA.out (by simp [laws_FnSeeds.j5])
            | succ kj98 =>
             have H := HA.out
             clear HA
             simp only [laws_FnSeeds.j5] at H
             obtain ⟨⟨t732, t733⟩, A123, H⟩ := qN H
             try dsimp only at H
             obtain ⟨⟨t734, t735⟩, A124, H⟩ := qN H
             try dsimp only at H
             obtain ⟨⟨t736, t737⟩, A125, H⟩ := qN H
             try dsimp only at H
             obtain ⟨⟨t738, t739⟩, A126, H⟩ := qN H
             try dsimp only at H
             obtain ⟨⟨t740, t741⟩, A127, H⟩ := qN H
             try dsimp only at H
             obtain ⟨⟨t744, t745⟩, A128, H⟩ := qN H
             try dsimp only at H
             obtain ⟨⟨t748, t749, t750⟩, A129, H⟩ := qN H
             try dsimp only at H
             obtain ⟨⟨t751, t752⟩, A130, H⟩ := qN H
             try dsimp only at H
             obtain ⟨⟨t753, t754⟩, A131, H⟩ := qN H
             try dsimp only at H
             have HC132 := Aside0.mk H
             clear H
             go_upto_region 42 with (first | ((with_reducible refine gate_callee (f := 22) rfl ?_); refine goesL_ (some 247) rfl rfl Tryz.func22 (by kernel_rfl) rfl #[.slice A0 l0.length c0] rfl qV ?_; (with_reducible refine (spec_DrawIsSeed.calls kj98 _ _ l0 t732 t733 _ ?side1 ?side2 A123.out).mono ?_); (case side1 => exact qC (Kd.C_below HR0.out HB.out)); (case side2 => exact HC0.out); rintro e w133 ⟨rfl, hb⟩; refine ⟨_, rfl, ?_⟩; replace HB := Aside0.mk (below_step (qB HB.out) hb)) | ((with_reducible refine gate_callee (f := 8) rfl ?_); refine goesL_ (some 253) rfl rfl Tryz.func8 (by kernel_rfl) rfl #[.string t732, .string t733] rfl qV ?_; (with_reducible refine (impl_IsSeed.calls kj98 t732 t733 t734 t735 _ A124.out).mono ?_); rintro e w134 ⟨rfl, hb⟩; refine ⟨_, rfl, ?_⟩; replace HB := Aside0.mk (below_step (qB HB.out) hb)) | ((with_reducible refine gate_callee (f := 23) rfl ?_); refine goesL_ (some 259) rfl rfl Tryz.func23 (by kernel_rfl) rfl #[.string t732, .string t733] rfl qV ?_; (with_reducible refine (spec_IsSeed.calls kj98 t732 t733 t736 t737 _ A125.out).mono ?_); rintro e w135 ⟨rfl, hb⟩; refine ⟨_, rfl, ?_⟩; replace HB := Aside0.mk (below_step (qB HB.out) hb)) | ((with_reducible refine gate_callee (f := 24) rfl ?_); refine goesL_ (some 264) rfl rfl Tryz.func24 (by kernel_rfl) rfl #[.slice A0 l0.length c0] rfl qV ?_; (with_reducible refine (spec_DrawSeedsOf.calls kj98 _ _ l0 t738 t739 _ ?side1 ?side2 A126.out).mono ?_); (case side1 => exact qC (Kd.C_below HR0.out HB.out)); (case side2 => exact HC0.out); rintro e w136 ⟨rfl, hb⟩; refine ⟨_, rfl, ?_⟩; replace HB := Aside0.mk (below_step (qB HB.out) hb)) | ((with_reducible refine gate_callee (f := 10) rfl ?_); refine goesL_ (some 270) rfl rfl Tryz.func10 (by kernel_rfl) rfl #[.string t738, .int .i64 t739] rfl qV ?_; (with_reducible refine (impl_SeedsOf.calls kj98 t738 t739 t740 t741 _ A127.out).mono ?_); rintro e w137 ⟨v742, rfl, ho0, hb⟩; refine ⟨_, rfl, ?_⟩; have HO743 := Aside0.mk (Kd.R_lower ho0 (below_size (qB HB.out))); replace HB := Aside0.mk (below_step (qB HB.out) hb)) | ((with_reducible refine gate_callee (f := 25) rfl ?_); refine goesL_ (some 276) rfl rfl Tryz.func25 (by kernel_rfl) rfl #[.string t738, .int .i64 t739] rfl qV ?_; (with_reducible refine (spec_SeedsOf.calls kj98 t738 t739 t744 t745 _ A128.out).mono ?_); rintro e w138 ⟨v746, rfl, ho0, hb⟩; refine ⟨_, rfl, ?_⟩; have HO747 := Aside0.mk (Kd.R_lower (Kd.R_new' ho0 (Kd.R_lt (qR HO743.out))) (below_size (qB HB.out))); replace HO743 := Aside0.mk (Kd.R_elder' (qR HO743.out) (Kd.R_base ho0) hb); replace HB := Aside0.mk (below_step (qB HB.out) hb)) | ((with_reducible refine gate_callee (f := 26) rfl ?_); refine goesL_ (some 281) rfl rfl Tryz.func26 (by kernel_rfl) rfl #[.slice A0 l0.length c0] rfl qV ?_; (with_reducible refine (spec_DrawCoveredByTwo.calls kj98 _ _ l0 t748 t749 t750 _ ?side1 ?side2 A129.out).mono ?_); (case side1 => exact qC (Kd.C_below HR0.out HB.out)); (case side2 => exact HC0.out); rintro e w139 ⟨rfl, hb⟩; refine ⟨_, rfl, ?_⟩; replace HO743 := Aside0.mk (Kd.R_below (qR HO743.out) hb); replace HO747 := Aside0.mk (Kd.R_below (qR HO747.out) hb); replace HB := Aside0.mk (below_step (qB HB.out) hb)) | ((with_reducible refine gate_callee (f := 21) rfl ?_); refine goesL_ (some 289) rfl rfl Tryz.func21 (by kernel_rfl) rfl #[.string t748, .string t749, .string t750] rfl qV ?_; (with_reducible refine (impl_CoveredByTwo.calls kj98 t748 t749 t750 t751 t752 _ A130.out).mono ?_); rintro e w140 ⟨rfl, hb⟩; refine ⟨_, rfl, ?_⟩; replace HO743 := Aside0.mk (Kd.R_below (qR HO743.out) hb); replace HO747 := Aside0.mk (Kd.R_below (qR HO747.out) hb); replace HB := Aside0.mk (below_step (qB HB.out) hb)) | ((with_reducible refine gate_callee (f := 27) rfl ?_); refine goesL_ (some 296) rfl rfl Tryz.func27 (by kernel_rfl) rfl #[.string t748, .string t749, .string t750] rfl qV ?_; (with_reducible refine (spec_CoveredByTwo.calls kj98 t748 t749 t750 t753 t754 _ A131.out).mono ?_); rintro e w141 ⟨rfl, hb⟩; refine ⟨_, rfl, ?_⟩; replace HO743 := Aside0.mk (Kd.R_below (qR HO743.out) hb); replace HO747 := Aside0.mk (Kd.R_below (qR HO747.out) hb); replace HB := Aside0.mk (below_step (qB HB.out) hb)))
             (try simp only [Act.put, List.setIfInBounds_toArray, List.set_cons_zero, List.set_cons_succ])
             go_cut [327] (fun v327 wc => ∃ (kq : Nat) (x327_131 : Bool), v327 = .bool x327_131 ∧ Aside0 (laws_FnSeeds.j6 kq t732 t733 t734 t735 x327_131 = some r) ∧ Aside0 (kq ≤ kj98) ∧ Aside0 (Below w.heap.size w wc))
             case first => as_aux_lemma =>
              have H := HC132.out
              clear HC132
              by_cases c142 : t735 = t737
              rotate_left
              ·
               rw [if_neg c142] at H
               obtain ⟨c142b0, c142b1⟩ := zF c142
               (first | rw [c142b0] | (simp only [i64_w, i32_w]; rw [c142b0]) | skip)
               have H' := Aside0.mk H
               clear H
               as_aux_lemma =>
                go_wp2
                go_meet
                case rel => exact ⟨_, (true), qF, H', ⟨by have := HJ6.out; have := HJ12.out; have := HJ55.out; have := HJ62.out; have := HJ89.out; have := HJ98.out; first | omega | exact Nat.le_refl _⟩, ⟨qB HB.out⟩⟩
              rw [if_pos c142] at H
              obtain ⟨c142b0, c142b1⟩ := zT c142
              clear c142
              (first | rw [c142b0] | (simp only [i64_w, i32_w]; rw [c142b0]) | skip)
              by_cases c143 : (t734 != t736) = true
              ·
               rw [if_pos c143] at H
               have c143b0 : (t734 != t736) = true := c143
               (try (have c143b1 : decide (t734 = t736) = false := by simpa using c143))
               (try (have c143b2 : (t734 == t736) = false := by simpa using c143))
               (try (have c143b3 : ¬ (t734 = t736) := by simpa using c143))
               clear c143
               have H' := Aside0.mk H
               clear H
               as_aux_lemma =>
                go_wp2
                go_meet
                case rel => exact ⟨_, (true), qF, H', ⟨by have := HJ6.out; have := HJ12.out; have := HJ55.out; have := HJ62.out; have := HJ89.out; have := HJ98.out; first | omega | exact Nat.le_refl _⟩, ⟨qB HB.out⟩⟩
              rw [if_neg c143] at H
              have c143b0 : (t734 != t736) = false := by simpa using c143
              (try (have c143b1 : decide (t734 = t736) = true := by simpa using c143))
              (try (have c143b2 : (t734 == t736) = true := by simpa using c143))
              clear c143
              by_cases c144 : t741 = t745
              rotate_left
              ·
               rw [if_neg c144] at H
               obtain ⟨c144b0, c144b1⟩ := zF c144
               have H' := Aside0.mk H
               clear H
               as_aux_lemma =>
                go_wp2
                go_meet
                case rel => exact ⟨_, (true), qF, H', ⟨by have := HJ6.out; have := HJ12.out; have := HJ55.out; have := HJ62.out; have := HJ89.out; have := HJ98.out; first | omega | exact Nat.le_refl _⟩, ⟨qB HB.out⟩⟩
              rw [if_pos c144] at H
              obtain ⟨c144b0, c144b1⟩ := zT c144
              clear c144
              obtain ⟨t755, A145, H⟩ := qN H
              try dsimp only at H
              by_cases c146 : t755 = true
              rotate_left
              ·
               replace c146 := Bool.eq_false_iff.mpr c146
               subst c146
               rw [if_neg (show ¬ (false = true) by decide)] at H
               have H' := Aside0.mk H
               clear H
               obtain ⟨Ao152, co152, eo152⟩ := Kd.R_slice HO743.out
               subst eo152
               obtain ⟨Ao153, co153, eo153⟩ := Kd.R_slice HO747.out
               subst eo153
               as_aux_lemma =>
                go_wp2_with (first | (go_at_call 20; (with_reducible refine (laws_words5.calls kj98 _ _ t740 _ _ t744 false _ ?side1 ?side2 ?side3 ?side4 A145.out).mono ?_); (case side1 => exact qC (Kd.R_reads' HO743.out).2.2); (case side2 => exact (Kd.R_reads' HO743.out).2.1); (case side3 => exact qC (Kd.R_reads' HO747.out).2.2); (case side4 => exact (Kd.R_reads' HO747.out).2.1); rintro e w' ⟨rfl, ⟨nd, rfl⟩⟩))
                go_meet
                case rel => exact ⟨_, (true), qF, H', ⟨by have := HJ6.out; have := HJ12.out; have := HJ55.out; have := HJ62.out; have := HJ89.out; have := HJ98.out; first | omega | exact Nat.le_refl _⟩, ⟨qB HB.out⟩⟩
              subst c146
              rw [if_pos rfl] at H
              by_cases c147 : t752 = t754
              ·
               rw [if_pos c147] at H
               obtain ⟨c147b0, c147b1⟩ := zT c147
               clear c147
               have H' := Aside0.mk H
               clear H
               obtain ⟨Ao148, co148, eo148⟩ := Kd.R_slice HO743.out
               subst eo148
               obtain ⟨Ao149, co149, eo149⟩ := Kd.R_slice HO747.out
               subst eo149
               as_aux_lemma =>
                go_wp2_with (first | (go_at_call 20; (with_reducible refine (laws_words5.calls kj98 _ _ t740 _ _ t744 true _ ?side1 ?side2 ?side3 ?side4 A145.out).mono ?_); (case side1 => exact qC (Kd.R_reads' HO743.out).2.2); (case side2 => exact (Kd.R_reads' HO743.out).2.1); (case side3 => exact qC (Kd.R_reads' HO747.out).2.2); (case side4 => exact (Kd.R_reads' HO747.out).2.1); rintro e w' ⟨rfl, ⟨nd, rfl⟩⟩))
                go_meet
                case rel => exact ⟨_, ((t751 != t753)), qF, H', ⟨by have := HJ6.out; have := HJ12.out; have := HJ55.out; have := HJ62.out; have := HJ89.out; have := HJ98.out; first | omega | exact Nat.le_refl _⟩, ⟨qB HB.out⟩⟩
              rw [if_neg c147] at H
              obtain ⟨c147b0, c147b1⟩ := zF c147
              have H' := Aside0.mk H
              clear H
              obtain ⟨Ao150, co150, eo150⟩ := Kd.R_slice HO743.out
              subst eo150
              obtain ⟨Ao151, co151, eo151⟩ := Kd.R_slice HO747.out
              subst eo151
              as_aux_lemma =>
               go_wp2_with (first | (go_at_call 20; (with_reducible refine (laws_words5.calls kj98 _ _ t740 _ _ t744 true _ ?side1 ?side2 ?side3 ?side4 A145.out).mono ?_); (case side1 => exact qC (Kd.R_reads' HO743.out).2.2); (case side2 => exact (Kd.R_reads' HO743.out).2.1); (case side3 => exact qC (Kd.R_reads' HO747.out).2.2); (case side4 => exact (Kd.R_reads' HO747.out).2.1); rintro e w' ⟨rfl, ⟨nd, rfl⟩⟩))
               go_meet
               case rel => exact ⟨_, (true), qF, H', ⟨by have := HJ6.out; have := HJ12.out; have := HJ55.out; have := HJ62.out; have := HJ89.out; have := HJ98.out; first | omega | exact Nat.le_refl _⟩, ⟨qB HB.out⟩⟩
             case rest => as_aux_lemma =>
              clear HC132
              obtain ⟨kq, x327_131, rfl, HA, HJ131, HB⟩ := hcut
              cases kq with
              | zero => exact absurd HA.out (by simp [laws_FnSeeds.j6])
              | succ kj131 =>
               have H := HA.out
               clear HA
               simp only [laws_FnSeeds.j6] at H
               by_cases c154 : x327_131 = true
               ·
                subst c154
                rw [if_pos rfl] at H
                obtain rfl := Option.some.inj H
                as_aux_lemma =>
                 go_wp2
                 go_ret
                 exact ⟨qE, qB HB.out⟩
               replace c154 := Bool.eq_false_iff.mpr c154
               subst c154
               rw [if_neg (show ¬ (false = true) by decide)] at H
               by_cases c155 : t735 = 0
               rotate_left
               ·
                rw [if_neg c155] at H
                obtain ⟨c155b0, c155b1⟩ := zF c155
                obtain rfl := Option.some.inj H
                as_aux_lemma =>
                 go_wp2
                 go_ret
                 exact ⟨qE, qB HB.out⟩

               rw [if_pos c155] at H
               obtain ⟨c155b0, c155b1⟩ := zT c155
               clear c155
               obtain ⟨⟨t756, t757⟩, A156, H⟩ := qN H
               try dsimp only at H
               by_cases c157 : t757 = 0
               rotate_left
               ·
                rw [if_neg c157] at H
                obtain ⟨c157b0, c157b1⟩ := zF c157
                obtain rfl := Option.some.inj H
                as_aux_lemma =>
                 go_wp2_with (first | ((with_reducible refine gate_callee (f := 28) rfl ?_); refine goesL_ (some 333) rfl rfl Tryz.func28 (by kernel_rfl) rfl #[.string t732, .string t733] rfl qV ?_; (with_reducible refine (impl_IsCover.calls kj131 t732 t733 t756 t757 _ A156.out).mono ?_); rintro e w161 ⟨rfl, hb⟩; refine ⟨_, rfl, ?_⟩; replace HB := Aside0.mk (below_step (qB HB.out) hb)))
                 go_ret
                 exact ⟨qE, qB HB.out⟩
               rw [if_pos c157] at H
               obtain ⟨c157b0, c157b1⟩ := zT c157
               clear c157
               by_cases c158 : t756 = true
               ·
                subst c158
                rw [if_pos rfl] at H
                obtain rfl := Option.some.inj H
                as_aux_lemma =>
                 go_wp2_with (first | ((with_reducible refine gate_callee (f := 28) rfl ?_); refine goesL_ (some 333) rfl rfl Tryz.func28 (by kernel_rfl) rfl #[.string t732, .string t733] rfl qV ?_; (with_reducible refine (impl_IsCover.calls kj131 t732 t733 true t757 _ A156.out).mono ?_); rintro e w159 ⟨rfl, hb⟩; refine ⟨_, rfl, ?_⟩; replace HB := Aside0.mk (below_step (qB HB.out) hb)))
                 go_ret
                 exact ⟨qE, qB HB.out⟩
               replace c158 := Bool.eq_false_iff.mpr c158
               subst c158
               rw [if_neg (show ¬ (false = true) by decide)] at H
               obtain rfl := Option.some.inj H
               as_aux_lemma =>
                go_wp2_with (first | ((with_reducible refine gate_callee (f := 28) rfl ?_); refine goesL_ (some 333) rfl rfl Tryz.func28 (by kernel_rfl) rfl #[.string t732, .string t733] rfl qV ?_; (with_reducible refine (impl_IsCover.calls kj131 t732 t733 false t757 _ A156.out).mono ?_); rintro e w160 ⟨rfl, hb⟩; refine ⟨_, rfl, ?_⟩; replace HB := Aside0.mk (below_step (qB HB.out) hb)))
                go_ret
                exact ⟨qE, qB HB.out⟩
/-- THE ONE PURE STATEMENT of laws_FnSeeds: yours. -/
def laws_FnSeeds.Pure : Prop := ∀ (l0 : List Int), l0.length ≤ maxLen → l0.length * 1 ≤ 140737488351232 → (∀ x ∈ l0, (Lit.int .u8 x).wf = true) → ∃ k, laws_FnSeeds.f k l0 = some true
theorem laws_FnSeeds.walk (P : laws_FnSeeds.Pure) (a0 : Option Addr) (len0 cap0 : Nat) (z0 : List Int) (w : World) (w0 : (a0 = none ∧ len0 = 0 ∧ cap0 = 0 ∧ z0 = []) ∨ ∃ x, a0 = some x ∧ len0 ≤ cap0 ∧ cap0 ≤ maxLen ∧ z0.length = cap0 ∧ (∀ i, i < z0.length → w.cell? (x.add i) = some (.int .u8 (z0.getD i 0))) ∧ ∀ n ∈ z0, (Lit.int .u8 n).wf = true) (y0 : len0 * 1 ≤ 140737488351232) :
  Calls Tryz.prog 3 #[.slice a0 len0 cap0] w fun e w' => e = .returned (.bool true) ∧ Below w.heap.size w w' := by
 obtain ⟨l0, rfl, hr0, hm0, hw0, hc0⟩ := ReadsInt.ofRowC w0
 obtain ⟨k, h⟩ := P l0 hm0 y0 hw0
 refine (laws_FnSeeds.calls k _ _ l0 true w (Kd.C_of_reads (d := (0 : Int)) (h1 := fun _ => rfl) hr0) hc0 h).mono ?_
 rintro e w' ⟨rfl, hd⟩
 exact ⟨rfl, hd⟩

end Go.Proofs.YtcfphjjdbccnoaaGreat.PF
