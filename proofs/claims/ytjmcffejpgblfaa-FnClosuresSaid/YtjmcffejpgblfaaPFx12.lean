-- an own text, written by a program of this place (wip/tools)
import Derived.Test.YtjmcffejpgblfaaPFx0
import Derived.Test.YtjmcffejpgblfaaPFx2
import Derived.Test.YtjmcffejpgblfaaPFx6
import Derived.Test.YtjmcffejpgblfaaPFx3
import Derived.Test.YtjmcffejpgblfaaPFx7
import Derived.Test.YtjmcffejpgblfaaPFx4
import Derived.Test.YtjmcffejpgblfaaPFx8
import Derived.Test.YtjmcffejpgblfaaPFx5
import Derived.Test.YtjmcffejpgblfaaPFx10
import Derived.Test.YtjmcffejpgblfaaPFx11
import Derived.Test.YtjmcffejpgblfaaPFGivDW
namespace Go.Proofs.Ytjmcffejpgblfaa.PF
open Go.RowKit Go.Proofs.YtjmcffejpgblfaaW.PrintWords Go.Proofs.YtjmcffejpgblfaaW.PrintLast Go.Proofs.YtjmcffejpgblfaaW.PrintMore
attribute [local go_sem] max2_int min2_int max_two min_two max_three min_three max_four min_four   -- for this text's walks alone
set_option linter.unusedVariables false
set_option linter.unusedSimpArgs false

/-! ### laws_FnClosures: function 3 -/
mutual
def laws_FnClosures.j0 : Nat → List Int → ByteArray → List ByteArray → Int → Bool → Option (Bool)
 | 0, _, _, _, _, _ => none
 | k + 1, x0, x3, x4, x5, x64 => if x64 = true then (some false) else ((impl_ClosureOf.f k x3).bind fun bt563 => ((spec_ClosureOf.f k x3).bind fun bt565 => (if bt563.2 = bt565.2 then (laws_FnClosures.j1 k x0 x3 x4 x5 bt563.1 bt563.2 (bt563.1.toList != bt565.1.toList)) else (laws_FnClosures.j1 k x0 x3 x4 x5 bt563.1 bt563.2 true))))
def laws_FnClosures.j1 : Nat → List Int → ByteArray → List ByteArray → Int → ByteArray → Int → Bool → Option (Bool)
 | 0, _, _, _, _, _, _, _ => none
 | k + 1, x0, x3, x4, x5, x8, x9, x82 => if x82 = true then (some false) else ((spec_DrawDirectedWord.f k x0).bind fun t567 => ((impl_DirectedWord.f k t567).bind fun bt568 => ((spec_DirectedWord.f k t567).bind fun bt570 => (if bt568.2 = bt570.2 then (laws_FnClosures.j2 k x0 x3 x4 x5 x8 x9 bt568.1 bt568.2 (bt568.1.toList != bt570.1.toList)) else (laws_FnClosures.j2 k x0 x3 x4 x5 x8 x9 bt568.1 bt568.2 true)))))
def laws_FnClosures.j2 : Nat → List Int → ByteArray → List ByteArray → Int → ByteArray → Int → ByteArray → Int → Bool → Option (Bool)
 | 0, _, _, _, _, _, _, _, _, _ => none
 | k + 1, x0, x3, x4, x5, x8, x9, x13, x14, x102 => if x102 = true then (some false) else ((spec_DrawIsClosedWord.f k x0).bind fun t572 => ((impl_IsClosedWord.f k t572).bind fun bt573 => ((spec_IsClosedWord.f k t572).bind fun bt575 => (if bt573.2 = bt575.2 then (laws_FnClosures.j3 k x0 x3 x4 x5 x8 x9 x13 x14 t572 bt573.1 bt573.2 (bt573.1 != bt575.1)) else (laws_FnClosures.j3 k x0 x3 x4 x5 x8 x9 x13 x14 t572 bt573.1 bt573.2 true)))))
def laws_FnClosures.j3 : Nat → List Int → ByteArray → List ByteArray → Int → ByteArray → Int → ByteArray → Int → ByteArray → Bool → Int → Bool → Option (Bool)
 | 0, _, _, _, _, _, _, _, _, _, _, _, _ => none
 | k + 1, x0, x3, x4, x5, x8, x9, x13, x14, x17, x18, x19, x122 => if x122 = true then (some false) else ((impl_IsPrivileged.f k x17).bind fun bt577 => ((spec_IsPrivileged.f k x17).bind fun bt579 => (if bt577.2 = bt579.2 then (laws_FnClosures.j4 k x0 x3 x4 x5 x8 x9 x13 x14 x18 x19 bt577.1 bt577.2 (bt577.1 != bt579.1)) else (laws_FnClosures.j4 k x0 x3 x4 x5 x8 x9 x13 x14 x18 x19 bt577.1 bt577.2 true))))
def laws_FnClosures.j4 : Nat → List Int → ByteArray → List ByteArray → Int → ByteArray → Int → ByteArray → Int → Bool → Int → Bool → Int → Bool → Option (Bool)
 | 0, _, _, _, _, _, _, _, _, _, _, _, _, _ => none
 | k + 1, x0, x3, x4, x5, x8, x9, x13, x14, x18, x19, x22, x23, x140 => if x140 = true then (some false) else ((spec_DrawCountClosed.f k x0).bind fun t581 => ((impl_CountClosed.f k t581).bind fun bt582 => ((spec_CountClosed.f k t581).bind fun bt585 => (if bt582.2.2 = bt585.2.2 then (if bt582.1 = bt585.1 then (laws_FnClosures.j5 k x3 x4 x5 x8 x9 x13 x14 x18 x19 x22 x23 t581 bt582.1 bt582.2.1 bt582.2.2 (bt582.2.1 != bt585.2.1)) else (laws_FnClosures.j5 k x3 x4 x5 x8 x9 x13 x14 x18 x19 x22 x23 t581 bt582.1 bt582.2.1 bt582.2.2 true)) else (laws_FnClosures.j5 k x3 x4 x5 x8 x9 x13 x14 x18 x19 x22 x23 t581 bt582.1 bt582.2.1 bt582.2.2 true)))))
def laws_FnClosures.j5 : Nat → ByteArray → List ByteArray → Int → ByteArray → Int → ByteArray → Int → Bool → Int → Bool → Int → ByteArray → Int → Int → Int → Bool → Option (Bool)
 | 0, _, _, _, _, _, _, _, _, _, _, _, _, _, _, _, _ => none
 | k + 1, x3, x4, x5, x8, x9, x13, x14, x18, x19, x22, x23, x26, x27, x28, x29, x167 => if x167 = true then (some false) else (if x29 = 0 then (if x28 > x27 then (laws_FnClosures.j6 k x3 x4 x5 x8 x9 x13 x14 x18 x19 x22 x23 true) else (if (x26.size : Int) > 0 then (laws_FnClosures.j6 k x3 x4 x5 x8 x9 x13 x14 x18 x19 x22 x23 (decide (x28 < 1))) else (laws_FnClosures.j6 k x3 x4 x5 x8 x9 x13 x14 x18 x19 x22 x23 false))) else (laws_FnClosures.j6 k x3 x4 x5 x8 x9 x13 x14 x18 x19 x22 x23 false))
def laws_FnClosures.j6 : Nat → ByteArray → List ByteArray → Int → ByteArray → Int → ByteArray → Int → Bool → Int → Bool → Int → Bool → Option (Bool)
 | 0, _, _, _, _, _, _, _, _, _, _, _, _ => none
 | k + 1, x3, x4, x5, x8, x9, x13, x14, x18, x19, x22, x23, x183 => if x183 = true then (some false) else (if x19 = 0 then (if x23 = 0 then (if x22 = true then (laws_FnClosures.j7 k x3 x4 x5 x8 x9 x13 x14 (!x18)) else (laws_FnClosures.j7 k x3 x4 x5 x8 x9 x13 x14 false)) else (laws_FnClosures.j7 k x3 x4 x5 x8 x9 x13 x14 true)) else (laws_FnClosures.j7 k x3 x4 x5 x8 x9 x13 x14 false))
def laws_FnClosures.j7 : Nat → ByteArray → List ByteArray → Int → ByteArray → Int → ByteArray → Int → Bool → Option (Bool)
 | 0, _, _, _, _, _, _, _, _ => none
 | k + 1, x3, x4, x5, x8, x9, x13, x14, x196 => if x196 = true then (some false) else (if x14 = 0 then ((impl_IsPalindrome.f k x13).bind fun bt588 => ((impl_DefectOf.f k x13).bind fun bt590 => (if bt588.2 = 0 then (if bt588.1 = true then (if bt590.2 = 0 then (if bt590.1 = 0 then (laws_FnClosures.j8 k x3 x4 x5 x8 x9) else (some false)) else (some false)) else (some false)) else (some false)))) else (laws_FnClosures.j8 k x3 x4 x5 x8 x9))
def laws_FnClosures.j8 : Nat → ByteArray → List ByteArray → Int → ByteArray → Int → Option (Bool)
 | 0, _, _, _, _, _ => none
 | k + 1, x3, x4, x5, x8, x9 => if x9 = 0 then ((impl_IsPalindrome.f k x8).bind fun bt592 => (if bt592.2 = 0 then (if bt592.1 = true then (if (x8.size : Int) < (x3.size : Int) then (some false) else (if 0 ≤ (x3.size : Int) then (if (x3.size : Int) ≤ (x8.size : Int) then (if (x8.extract 0 ((x3.size : Int) : Int).toNat).toList = x3.toList then (if (x3.size : Int) > 0 then (if (x8.size : Int) > (wrap64 ((wrap64 (2 * (x3.size : Int))) - 1)) then (some false) else (laws_FnClosures.j9 k x3 x4 x5)) else (laws_FnClosures.j9 k x3 x4 x5)) else (some false)) else (none)) else (none))) else (some false)) else (some false))) else (laws_FnClosures.j9 k x3 x4 x5)
def laws_FnClosures.j9 : Nat → ByteArray → List ByteArray → Int → Option (Bool)
 | 0, _, _, _ => none
 | k + 1, x3, x4, x5 => if x5 = 0 then (laws_FnClosures.l0 k x3 x4 0) else (some ((x4.length : Int) == 0))
def laws_FnClosures.l0 : Nat → ByteArray → List ByteArray → Int → Option (Bool)
 | 0, _, _, _ => none
 | k + 1, x3, x4, x39 => if x39 < (x4.length : Int) then (if 0 ≤ x39 then ((impl_IsPalindrome.f k (rdOf ByteArray.empty x4 x39)).bind fun bt595 => (if bt595.2 = 0 then (if bt595.1 = true then (if (rdOf ByteArray.empty x4 x39).toList = ([] : List UInt8) then (some false) else (laws_FnClosures.l0 k x3 x4 (wrap64 (x39 + 1)))) else (some false)) else (some false))) else (none)) else ((laws_joined9.f k x4).bind fun t598 => (some (t598.toList == x3.toList)))
end
def laws_FnClosures.f (k : Nat) (l0 : List Int) : Option (Bool) := (laws_big.f l0).bind fun t552 => (if t552 = true then (some true) else ((spec_DrawFewestParts.f k l0).bind fun t553 => ((impl_FewestParts.f k t553).bind fun bt554 => ((spec_FewestParts.f k t553).bind fun bt558 => (if bt554.2 = bt558.2 then ((laws_words9.f k bt554.1 bt558.1).bind fun t562 => (laws_FnClosures.j0 k l0 t553 bt554.1 bt554.2 (!t562))) else (laws_FnClosures.j0 k l0 t553 bt554.1 bt554.2 true))))))
theorem laws_FnClosures.mono_l : ∀ k, (∀ y0 y1 y2 y3 y4, LeO (laws_FnClosures.j0 k y0 y1 y2 y3 y4) (laws_FnClosures.j0 (k + 1) y0 y1 y2 y3 y4)) ∧ (∀ y0 y1 y2 y3 y4 y5 y6, LeO (laws_FnClosures.j1 k y0 y1 y2 y3 y4 y5 y6) (laws_FnClosures.j1 (k + 1) y0 y1 y2 y3 y4 y5 y6)) ∧ (∀ y0 y1 y2 y3 y4 y5 y6 y7 y8, LeO (laws_FnClosures.j2 k y0 y1 y2 y3 y4 y5 y6 y7 y8) (laws_FnClosures.j2 (k + 1) y0 y1 y2 y3 y4 y5 y6 y7 y8)) ∧ (∀ y0 y1 y2 y3 y4 y5 y6 y7 y8 y9 y10 y11, LeO (laws_FnClosures.j3 k y0 y1 y2 y3 y4 y5 y6 y7 y8 y9 y10 y11) (laws_FnClosures.j3 (k + 1) y0 y1 y2 y3 y4 y5 y6 y7 y8 y9 y10 y11)) ∧ (∀ y0 y1 y2 y3 y4 y5 y6 y7 y8 y9 y10 y11 y12, LeO (laws_FnClosures.j4 k y0 y1 y2 y3 y4 y5 y6 y7 y8 y9 y10 y11 y12) (laws_FnClosures.j4 (k + 1) y0 y1 y2 y3 y4 y5 y6 y7 y8 y9 y10 y11 y12)) ∧ (∀ y0 y1 y2 y3 y4 y5 y6 y7 y8 y9 y10 y11 y12 y13 y14 y15, LeO (laws_FnClosures.j5 k y0 y1 y2 y3 y4 y5 y6 y7 y8 y9 y10 y11 y12 y13 y14 y15) (laws_FnClosures.j5 (k + 1) y0 y1 y2 y3 y4 y5 y6 y7 y8 y9 y10 y11 y12 y13 y14 y15)) ∧ (∀ y0 y1 y2 y3 y4 y5 y6 y7 y8 y9 y10 y11, LeO (laws_FnClosures.j6 k y0 y1 y2 y3 y4 y5 y6 y7 y8 y9 y10 y11) (laws_FnClosures.j6 (k + 1) y0 y1 y2 y3 y4 y5 y6 y7 y8 y9 y10 y11)) ∧ (∀ y0 y1 y2 y3 y4 y5 y6 y7, LeO (laws_FnClosures.j7 k y0 y1 y2 y3 y4 y5 y6 y7) (laws_FnClosures.j7 (k + 1) y0 y1 y2 y3 y4 y5 y6 y7)) ∧ (∀ y0 y1 y2 y3 y4, LeO (laws_FnClosures.j8 k y0 y1 y2 y3 y4) (laws_FnClosures.j8 (k + 1) y0 y1 y2 y3 y4)) ∧ (∀ y0 y1 y2, LeO (laws_FnClosures.j9 k y0 y1 y2) (laws_FnClosures.j9 (k + 1) y0 y1 y2)) ∧ (∀ y0 y1 y2, LeO (laws_FnClosures.l0 k y0 y1 y2) (laws_FnClosures.l0 (k + 1) y0 y1 y2))
 | 0 => ⟨fun _ _ _ _ _ r h => by simp [laws_FnClosures.j0] at h, fun _ _ _ _ _ _ _ r h => by simp [laws_FnClosures.j1] at h, fun _ _ _ _ _ _ _ _ _ r h => by simp [laws_FnClosures.j2] at h, fun _ _ _ _ _ _ _ _ _ _ _ _ r h => by simp [laws_FnClosures.j3] at h, fun _ _ _ _ _ _ _ _ _ _ _ _ _ r h => by simp [laws_FnClosures.j4] at h, fun _ _ _ _ _ _ _ _ _ _ _ _ _ _ _ _ r h => by simp [laws_FnClosures.j5] at h, fun _ _ _ _ _ _ _ _ _ _ _ _ r h => by simp [laws_FnClosures.j6] at h, fun _ _ _ _ _ _ _ _ r h => by simp [laws_FnClosures.j7] at h, fun _ _ _ _ _ r h => by simp [laws_FnClosures.j8] at h, fun _ _ _ r h => by simp [laws_FnClosures.j9] at h, fun _ _ _ r h => by simp [laws_FnClosures.l0] at h⟩
 | k + 1 => by
  obtain ⟨ih0, ih1, ih2, ih3, ih4, ih5, ih6, ih7, ih8, ih9, ih10⟩ := laws_FnClosures.mono_l k
  refine ⟨?_, ?_, ?_, ?_, ?_, ?_, ?_, ?_, ?_, ?_, ?_⟩
  all_goals intros
  all_goals first | unfold laws_FnClosures.j0 | unfold laws_FnClosures.j1 | unfold laws_FnClosures.j2 | unfold laws_FnClosures.j3 | unfold laws_FnClosures.j4 | unfold laws_FnClosures.j5 | unfold laws_FnClosures.j6 | unfold laws_FnClosures.j7 | unfold laws_FnClosures.j8 | unfold laws_FnClosures.j9 | unfold laws_FnClosures.l0
  all_goals with_reducible repeat' first
  | exact ih0 _ _ _ _ _
  | exact ih1 _ _ _ _ _ _ _
  | exact ih2 _ _ _ _ _ _ _ _ _
  | exact ih3 _ _ _ _ _ _ _ _ _ _ _ _
  | exact ih4 _ _ _ _ _ _ _ _ _ _ _ _ _
  | exact ih5 _ _ _ _ _ _ _ _ _ _ _ _ _ _ _ _
  | exact ih6 _ _ _ _ _ _ _ _ _ _ _ _
  | exact ih7 _ _ _ _ _ _ _ _
  | exact ih8 _ _ _ _ _
  | exact ih9 _ _ _
  | exact ih10 _ _ _
  | exact impl_ClosureOf.mono _ _
  | exact impl_CountClosed.mono _ _
  | exact impl_DefectOf.mono _ _
  | exact impl_DirectedWord.mono _ _
  | exact impl_FewestParts.mono _ _
  | exact impl_IsClosedWord.mono _ _
  | exact impl_IsPalindrome.mono _ _
  | exact impl_IsPrivileged.mono _ _
  | exact laws_joined9.mono _ _
  | exact laws_words9.mono _ _ _
  | exact spec_ClosureOf.mono _ _
  | exact spec_CountClosed.mono _ _
  | exact spec_DirectedWord.mono _ _
  | exact spec_DrawCountClosed.mono _ _
  | exact spec_DrawDirectedWord.mono _ _
  | exact spec_DrawFewestParts.mono _ _
  | exact spec_DrawIsClosedWord.mono _ _
  | exact spec_FewestParts.mono _ _
  | exact spec_IsClosedWord.mono _ _
  | exact spec_IsPrivileged.mono _ _
  | exact LeO.refl _
  | exact LeO.none _
  | refine LeO.ite ?_ ?_
  | refine LeO.bind ?_ (fun _ => ?_)
theorem laws_FnClosures.mono : ∀ a0 k, LeO (laws_FnClosures.f k a0) (laws_FnClosures.f (k + 1) a0) := by
 intro a0 k
 obtain ⟨ih0, ih1, ih2, ih3, ih4, ih5, ih6, ih7, ih8, ih9, ih10⟩ := laws_FnClosures.mono_l k
 unfold laws_FnClosures.f
 with_reducible repeat' first
   | exact ih0 _ _ _ _ _
   | exact ih1 _ _ _ _ _ _ _
   | exact ih2 _ _ _ _ _ _ _ _ _
   | exact ih3 _ _ _ _ _ _ _ _ _ _ _ _
   | exact ih4 _ _ _ _ _ _ _ _ _ _ _ _ _
   | exact ih5 _ _ _ _ _ _ _ _ _ _ _ _ _ _ _ _
   | exact ih6 _ _ _ _ _ _ _ _ _ _ _ _
   | exact ih7 _ _ _ _ _ _ _ _
   | exact ih8 _ _ _ _ _
   | exact ih9 _ _ _
   | exact ih10 _ _ _
   | exact impl_ClosureOf.mono _ _
   | exact impl_CountClosed.mono _ _
   | exact impl_DefectOf.mono _ _
   | exact impl_DirectedWord.mono _ _
   | exact impl_FewestParts.mono _ _
   | exact impl_IsClosedWord.mono _ _
   | exact impl_IsPalindrome.mono _ _
   | exact impl_IsPrivileged.mono _ _
   | exact laws_joined9.mono _ _
   | exact laws_words9.mono _ _ _
   | exact spec_ClosureOf.mono _ _
   | exact spec_CountClosed.mono _ _
   | exact spec_DirectedWord.mono _ _
   | exact spec_DrawCountClosed.mono _ _
   | exact spec_DrawDirectedWord.mono _ _
   | exact spec_DrawFewestParts.mono _ _
   | exact spec_DrawIsClosedWord.mono _ _
   | exact spec_FewestParts.mono _ _
   | exact spec_IsClosedWord.mono _ _
   | exact spec_IsPrivileged.mono _ _
   | exact LeO.refl _
   | exact LeO.none _
   | refine LeO.ite ?_ ?_
   | refine LeO.bind ?_ (fun _ => ?_)
set_option maxHeartbeats 8000000 in
set_option maxRecDepth 100000 in
theorem laws_FnClosures.calls (k : Nat) (A0 : Option Addr) (c0 : Nat) (l0 : List Int) (r : Bool) (w : World) (hr0 : Kd.C (Kd.int .u8) w A0 l0.length l0) (hc0 : l0.length ≤ c0) (h : laws_FnClosures.f k l0 = some r) :
  Calls Try.prog 3 #[.slice A0 l0.length c0] w fun e w' => e = .returned (.bool r) ∧ Below w.heap.size w w' := by
 have HR0 := Aside0.mk hr0
 have HC0 := Aside0.mk hc0
 clear hr0 hc0
 have HB := Aside0.mk (Below.refl w.heap.size w)
 have H : ((laws_big.f l0).bind fun t552 => (if t552 = true then (some true) else ((spec_DrawFewestParts.f k l0).bind fun t553 => ((impl_FewestParts.f k t553).bind fun bt554 => ((spec_FewestParts.f k t553).bind fun bt558 => (if bt554.2 = bt558.2 then ((laws_words9.f k bt554.1 bt558.1).bind fun t562 => (laws_FnClosures.j0 k l0 t553 bt554.1 bt554.2 (!t562))) else (laws_FnClosures.j0 k l0 t553 bt554.1 bt554.2 true))))))) = some r := h
 clear h
 replace H := qN H
 obtain ⟨t552, A2, H⟩ := H
 try dsimp only at H
 by_cases c3 : t552 = true
 ·
  subst c3
  rw [if_pos rfl] at H
  obtain rfl := Option.some.inj H
  go_enter Try.func3, Try.ntmps3
  as_aux_lemma =>
   go_wp2_with (first | ((with_reducible refine gate_callee (f := 4) rfl ?_); refine goesL_ (some 43) rfl rfl Try.func4 (by kernel_rfl) rfl #[.slice A0 l0.length c0] rfl qV ?_; (with_reducible refine (laws_big.calls _ _ l0 true _ ?side1 ?side2 A2.out).mono ?_); (case side1 => exact qC HR0.out); (case side2 => exact HC0.out); rintro e w' ⟨rfl, ⟨nd, rfl⟩⟩; refine ⟨_, rfl, ?_⟩))
   go_ret
   exact ⟨qE, qB HB.out⟩
 replace c3 := Bool.eq_false_iff.mpr c3
 subst c3
 rw [if_neg (show ¬ (false = true) by decide)] at H
 replace H := qN H
 obtain ⟨t553, A4, H⟩ := H
 try dsimp only at H
 replace H := qN H
 obtain ⟨⟨t554, t555⟩, A5, H⟩ := H
 try dsimp only at H
 replace H := qN H
 obtain ⟨⟨t558, t559⟩, A6, H⟩ := H
 try dsimp only at H
 have HC7 := Aside0.mk H
 clear H
 go_enter Try.func3, Try.ntmps3
 go_upto_region 6 with (first | ((with_reducible refine gate_callee (f := 4) rfl ?_); refine goesL_ (some 43) rfl rfl Try.func4 (by kernel_rfl) rfl #[.slice A0 l0.length c0] rfl qV ?_; (with_reducible refine (laws_big.calls _ _ l0 false _ ?side1 ?side2 A2.out).mono ?_); (case side1 => exact qC HR0.out); (case side2 => exact HC0.out); rintro e w' ⟨rfl, ⟨nd, rfl⟩⟩; refine ⟨_, rfl, ?_⟩) | ((with_reducible refine gate_callee (f := 5) rfl ?_); refine goesL_ (some 45) rfl rfl Try.func5 (by kernel_rfl) rfl #[.slice A0 l0.length c0] rfl qV ?_; (with_reducible refine (spec_DrawFewestParts.calls k _ _ l0 t553 _ ?side1 ?side2 A4.out).mono ?_); (case side1 => exact qC HR0.out); (case side2 => exact HC0.out); rintro e w8 ⟨rfl, hb⟩; refine ⟨_, rfl, ?_⟩; replace HB := Aside0.mk (below_step (qB HB.out) hb)) | ((with_reducible refine gate_callee (f := 6) rfl ?_); refine goesL_ (some 48) rfl rfl Try.func6 (by kernel_rfl) rfl #[.string t553] rfl qV ?_; (with_reducible refine (impl_FewestParts.calls k t553 t554 t555 _ A5.out).mono ?_); rintro e w9 ⟨v556, rfl, ho0, hb⟩; refine ⟨_, rfl, ?_⟩; have HO557 := Aside0.mk (Kd.R_lower ho0 (below_size (qB HB.out))); replace HB := Aside0.mk (below_step (qB HB.out) hb)) | ((with_reducible refine gate_callee (f := 7) rfl ?_); refine goesL_ (some 53) rfl rfl Try.func7 (by kernel_rfl) rfl #[.string t553] rfl qV ?_; (with_reducible refine (spec_FewestParts.calls k t553 t558 t559 _ A6.out).mono ?_); rintro e w10 ⟨v560, rfl, ho0, hb⟩; refine ⟨_, rfl, ?_⟩; have HO561 := Aside0.mk (Kd.R_lower (Kd.R_new' ho0 (Kd.R_lt (qR HO557.out))) (below_size (qB HB.out))); replace HO557 := Aside0.mk (Kd.R_elder' (qR HO557.out) (Kd.R_base ho0) hb); replace HB := Aside0.mk (below_step (qB HB.out) hb)))
 (try simp only [Act.put, List.setIfInBounds_toArray, List.set_cons_zero, List.set_cons_succ])
 go_cut [64] (fun v64 wc => ∃ (kq : Nat) (x64_6 : Bool), v64 = .bool x64_6 ∧ Aside0 (laws_FnClosures.j0 kq l0 t553 t554 t555 x64_6 = some r) ∧ Aside0 (kq ≤ k) ∧ Aside0 (Kd.R Kd.string 9 wc w.heap.size (fun _ => True) v556 t554) ∧ Aside0 (Below w.heap.size w wc))
 case first => as_aux_lemma =>
  have H := HC7.out
  clear HC7
  by_cases c11 : t555 = t559
  rotate_left
  ·
   rw [if_neg c11] at H
   obtain ⟨c11b0, c11b1⟩ := zF c11
   (first | rw [c11b0] | (simp only [i64_w, i32_w]; rw [c11b0]) | skip)
   have H' := Aside0.mk H
   clear H
   as_aux_lemma =>
    go_wp2
    go_meet
    case rel => exact ⟨_, (true), qF, H', ⟨by first | omega | exact Nat.le_refl _⟩, ⟨by (with_reducible repeat (first | apply Kd.R_alloc | apply Kd.R_drewN | apply Kd.R_drew)); exact Kd.R_mono HO557.out (fun _ hk => trivial)⟩, ⟨qB HB.out⟩⟩
  rw [if_pos c11] at H
  obtain ⟨c11b0, c11b1⟩ := zT c11
  clear c11
  (first | rw [c11b0] | (simp only [i64_w, i32_w]; rw [c11b0]) | skip)
  replace H := qN H
  obtain ⟨t562, A12, H⟩ := H
  try dsimp only at H
  have H' := Aside0.mk H
  clear H
  obtain ⟨Ao13, co13, eo13⟩ := Kd.R_slice HO557.out
  subst eo13
  obtain ⟨Ao14, co14, eo14⟩ := Kd.R_slice HO561.out
  subst eo14
  as_aux_lemma =>
   go_wp2_with (first | (go_at_call 8; (with_reducible refine (laws_words9.calls k _ _ t554 _ _ t558 t562 _ ?side1 ?side2 ?side3 ?side4 A12.out).mono ?_); (case side1 => exact qC (Kd.R_reads' HO557.out).2.2); (case side2 => exact (Kd.R_reads' HO557.out).2.1); (case side3 => exact qC (Kd.R_reads' HO561.out).2.2); (case side4 => exact (Kd.R_reads' HO561.out).2.1); rintro e w' ⟨rfl, ⟨nd, rfl⟩⟩))
   go_meet
   case rel => exact ⟨_, (!t562), qF, H', ⟨by first | omega | exact Nat.le_refl _⟩, ⟨by (with_reducible repeat (first | apply Kd.R_alloc | apply Kd.R_drewN | apply Kd.R_drew)); exact Kd.R_mono HO557.out (fun _ hk => trivial)⟩, ⟨qB HB.out⟩⟩
 case rest => as_aux_lemma =>
  clear HC7
  obtain ⟨kq, x64_6, rfl, HA, HJ6, HO_4, HB⟩ := hcut
  cases kq with
  | zero => exact absurd HA.out (by simp [laws_FnClosures.j0])
  | succ kj6 =>
   have H := HA.out
   clear HA
   simp only [laws_FnClosures.j0] at H
   by_cases c15 : x64_6 = true
   ·
    subst c15
    rw [if_pos rfl] at H
    obtain rfl := Option.some.inj H
    as_aux_lemma =>
     go_wp2
     go_ret
     exact ⟨qE, qB HB.out⟩
   replace c15 := Bool.eq_false_iff.mpr c15
   subst c15
   rw [if_neg (show ¬ (false = true) by decide)] at H
   replace H := qN H
   obtain ⟨⟨t563, t564⟩, A16, H⟩ := H
   try dsimp only at H
   replace H := qN H
   obtain ⟨⟨t565, t566⟩, A17, H⟩ := H
   try dsimp only at H
   have HC18 := Aside0.mk H
   clear H
   go_upto_region 10 with (first | ((with_reducible refine gate_callee (f := 9) rfl ?_); refine goesL_ (some 67) rfl rfl Try.func9 (by kernel_rfl) rfl #[.string t553] rfl qV ?_; (with_reducible refine (impl_ClosureOf.calls kj6 t553 t563 t564 _ A16.out).mono ?_); rintro e w19 ⟨rfl, hb⟩; refine ⟨_, rfl, ?_⟩; replace HO_4 := Aside0.mk (Kd.R_below (qR HO_4.out) hb); replace HB := Aside0.mk (below_step (qB HB.out) hb)) | ((with_reducible refine gate_callee (f := 10) rfl ?_); refine goesL_ (some 72) rfl rfl Try.func10 (by kernel_rfl) rfl #[.string t553] rfl qV ?_; (with_reducible refine (spec_ClosureOf.calls kj6 t553 t565 t566 _ A17.out).mono ?_); rintro e w20 ⟨rfl, hb⟩; refine ⟨_, rfl, ?_⟩; replace HO_4 := Aside0.mk (Kd.R_below (qR HO_4.out) hb); replace HB := Aside0.mk (below_step (qB HB.out) hb)))
   (try simp only [Act.put, List.setIfInBounds_toArray, List.set_cons_zero, List.set_cons_succ])
   go_cut [82] (fun v82 wc => ∃ (kq : Nat) (x82_17 : Bool), v82 = .bool x82_17 ∧ Aside0 (laws_FnClosures.j1 kq l0 t553 t554 t555 t563 t564 x82_17 = some r) ∧ Aside0 (kq ≤ kj6) ∧ Aside0 (Kd.R Kd.string 9 wc w.heap.size (fun _ => True) v556 t554) ∧ Aside0 (Below w.heap.size w wc))
   case first => as_aux_lemma =>
    have H := HC18.out
    clear HC18
    by_cases c21 : t564 = t566
    ·
     rw [if_pos c21] at H
     obtain ⟨c21b0, c21b1⟩ := zT c21
     clear c21
     (first | rw [c21b0] | (simp only [i64_w, i32_w]; rw [c21b0]) | skip)
     have H' := Aside0.mk H
     clear H
     as_aux_lemma =>
      go_wp2
      go_meet
      case rel => exact ⟨_, ((t563.toList != t565.toList)), qF, H', ⟨by have := HJ6.out; first | omega | exact Nat.le_refl _⟩, ⟨qR HO_4.out⟩, ⟨qB HB.out⟩⟩
    rw [if_neg c21] at H
    obtain ⟨c21b0, c21b1⟩ := zF c21
    (first | rw [c21b0] | (simp only [i64_w, i32_w]; rw [c21b0]) | skip)
    have H' := Aside0.mk H
    clear H
    as_aux_lemma =>
     go_wp2
     go_meet
     case rel => exact ⟨_, (true), qF, H', ⟨by have := HJ6.out; first | omega | exact Nat.le_refl _⟩, ⟨qR HO_4.out⟩, ⟨qB HB.out⟩⟩
   case rest => as_aux_lemma =>
    clear HC18
    obtain ⟨kq, x82_17, rfl, HA, HJ17, HO_4, HB⟩ := hcut
    cases kq with
    | zero => exact absurd HA.out (by simp [laws_FnClosures.j1])
    | succ kj17 =>
     have H := HA.out
     clear HA
     simp only [laws_FnClosures.j1] at H
     by_cases c22 : x82_17 = true
     ·
      subst c22
      rw [if_pos rfl] at H
      obtain rfl := Option.some.inj H
      as_aux_lemma =>
       go_wp2
       go_ret
       exact ⟨qE, qB HB.out⟩
     replace c22 := Bool.eq_false_iff.mpr c22
     subst c22
     rw [if_neg (show ¬ (false = true) by decide)] at H
     replace H := qN H
     obtain ⟨t567, A23, H⟩ := H
     try dsimp only at H
     replace H := qN H
     obtain ⟨⟨t568, t569⟩, A24, H⟩ := H
     try dsimp only at H
     replace H := qN H
     obtain ⟨⟨t570, t571⟩, A25, H⟩ := H
     try dsimp only at H
     have HC26 := Aside0.mk H
     clear H
     go_upto_region 15 with (first | ((with_reducible refine gate_callee (f := 11) rfl ?_); refine goesL_ (some 84) rfl rfl Try.func11 (by kernel_rfl) rfl #[.slice A0 l0.length c0] rfl qV ?_; (with_reducible refine (spec_DrawDirectedWord.calls kj17 _ _ l0 t567 _ ?side1 ?side2 A23.out).mono ?_); (case side1 => exact qC (Kd.C_below HR0.out HB.out)); (case side2 => exact HC0.out); rintro e w27 ⟨rfl, hb⟩; refine ⟨_, rfl, ?_⟩; replace HO_4 := Aside0.mk (Kd.R_below (qR HO_4.out) hb); replace HB := Aside0.mk (below_step (qB HB.out) hb)) | ((with_reducible refine gate_callee (f := 12) rfl ?_); refine goesL_ (some 87) rfl rfl Try.func12 (by kernel_rfl) rfl #[.string t567] rfl qV ?_; (with_reducible refine (impl_DirectedWord.calls kj17 t567 t568 t569 _ A24.out).mono ?_); rintro e w28 ⟨rfl, hb⟩; refine ⟨_, rfl, ?_⟩; replace HO_4 := Aside0.mk (Kd.R_below (qR HO_4.out) hb); replace HB := Aside0.mk (below_step (qB HB.out) hb)) | ((with_reducible refine gate_callee (f := 13) rfl ?_); refine goesL_ (some 92) rfl rfl Try.func13 (by kernel_rfl) rfl #[.string t567] rfl qV ?_; (with_reducible refine (spec_DirectedWord.calls kj17 t567 t570 t571 _ A25.out).mono ?_); rintro e w29 ⟨rfl, hb⟩; refine ⟨_, rfl, ?_⟩; replace HO_4 := Aside0.mk (Kd.R_below (qR HO_4.out) hb); replace HB := Aside0.mk (below_step (qB HB.out) hb)))
     (try simp only [Act.put, List.setIfInBounds_toArray, List.set_cons_zero, List.set_cons_succ])
     go_cut [102] (fun v102 wc => ∃ (kq : Nat) (x102_25 : Bool), v102 = .bool x102_25 ∧ Aside0 (laws_FnClosures.j2 kq l0 t553 t554 t555 t563 t564 t568 t569 x102_25 = some r) ∧ Aside0 (kq ≤ kj17) ∧ Aside0 (Kd.R Kd.string 9 wc w.heap.size (fun _ => True) v556 t554) ∧ Aside0 (Below w.heap.size w wc))
     case first => as_aux_lemma =>
      have H := HC26.out
      clear HC26
      by_cases c30 : t569 = t571
      ·
       rw [if_pos c30] at H
       obtain ⟨c30b0, c30b1⟩ := zT c30
       clear c30
       (first | rw [c30b0] | (simp only [i64_w, i32_w]; rw [c30b0]) | skip)
       have H' := Aside0.mk H
       clear H
       as_aux_lemma =>
        go_wp2
        go_meet
        case rel => exact ⟨_, ((t568.toList != t570.toList)), qF, H', ⟨by have := HJ6.out; have := HJ17.out; first | omega | exact Nat.le_refl _⟩, ⟨qR HO_4.out⟩, ⟨qB HB.out⟩⟩
      rw [if_neg c30] at H
      obtain ⟨c30b0, c30b1⟩ := zF c30
      (first | rw [c30b0] | (simp only [i64_w, i32_w]; rw [c30b0]) | skip)
      have H' := Aside0.mk H
      clear H
      as_aux_lemma =>
       go_wp2
       go_meet
       case rel => exact ⟨_, (true), qF, H', ⟨by have := HJ6.out; have := HJ17.out; first | omega | exact Nat.le_refl _⟩, ⟨qR HO_4.out⟩, ⟨qB HB.out⟩⟩
     case rest => as_aux_lemma =>
      clear HC26
      obtain ⟨kq, x102_25, rfl, HA, HJ25, HO_4, HB⟩ := hcut
      cases kq with
      | zero => exact absurd HA.out (by simp [laws_FnClosures.j2])
      | succ kj25 =>
       have H := HA.out
       clear HA
       simp only [laws_FnClosures.j2] at H
       by_cases c31 : x102_25 = true
       ·
        subst c31
        rw [if_pos rfl] at H
        obtain rfl := Option.some.inj H
        as_aux_lemma =>
         go_wp2
         go_ret
         exact ⟨qE, qB HB.out⟩
       replace c31 := Bool.eq_false_iff.mpr c31
       subst c31
       rw [if_neg (show ¬ (false = true) by decide)] at H
       replace H := qN H
       obtain ⟨t572, A32, H⟩ := H
       try dsimp only at H
       replace H := qN H
       obtain ⟨⟨t573, t574⟩, A33, H⟩ := H
       try dsimp only at H
       replace H := qN H
       obtain ⟨⟨t575, t576⟩, A34, H⟩ := H
       try dsimp only at H
       have HC35 := Aside0.mk H
       clear H
       go_upto_region 20 with (first | ((with_reducible refine gate_callee (f := 14) rfl ?_); refine goesL_ (some 104) rfl rfl Try.func14 (by kernel_rfl) rfl #[.slice A0 l0.length c0] rfl qV ?_; (with_reducible refine (spec_DrawIsClosedWord.calls kj25 _ _ l0 t572 _ ?side1 ?side2 A32.out).mono ?_); (case side1 => exact qC (Kd.C_below HR0.out HB.out)); (case side2 => exact HC0.out); rintro e w36 ⟨rfl, hb⟩; refine ⟨_, rfl, ?_⟩; replace HO_4 := Aside0.mk (Kd.R_below (qR HO_4.out) hb); replace HB := Aside0.mk (below_step (qB HB.out) hb)) | ((with_reducible refine gate_callee (f := 15) rfl ?_); refine goesL_ (some 107) rfl rfl Try.func15 (by kernel_rfl) rfl #[.string t572] rfl qV ?_; (with_reducible refine (impl_IsClosedWord.calls kj25 t572 t573 t574 _ A33.out).mono ?_); rintro e w37 ⟨rfl, hb⟩; refine ⟨_, rfl, ?_⟩; replace HO_4 := Aside0.mk (Kd.R_below (qR HO_4.out) hb); replace HB := Aside0.mk (below_step (qB HB.out) hb)) | ((with_reducible refine gate_callee (f := 16) rfl ?_); refine goesL_ (some 112) rfl rfl Try.func16 (by kernel_rfl) rfl #[.string t572] rfl qV ?_; (with_reducible refine (spec_IsClosedWord.calls kj25 t572 t575 t576 _ A34.out).mono ?_); rintro e w38 ⟨rfl, hb⟩; refine ⟨_, rfl, ?_⟩; replace HO_4 := Aside0.mk (Kd.R_below (qR HO_4.out) hb); replace HB := Aside0.mk (below_step (qB HB.out) hb)))
       (try simp only [Act.put, List.setIfInBounds_toArray, List.set_cons_zero, List.set_cons_succ])
       go_cut [122] (fun v122 wc => ∃ (kq : Nat) (x122_34 : Bool), v122 = .bool x122_34 ∧ Aside0 (laws_FnClosures.j3 kq l0 t553 t554 t555 t563 t564 t568 t569 t572 t573 t574 x122_34 = some r) ∧ Aside0 (kq ≤ kj25) ∧ Aside0 (Kd.R Kd.string 9 wc w.heap.size (fun _ => True) v556 t554) ∧ Aside0 (Below w.heap.size w wc))
       case first => as_aux_lemma =>
        have H := HC35.out
        clear HC35
        by_cases c39 : t574 = t576
        ·
         rw [if_pos c39] at H
         obtain ⟨c39b0, c39b1⟩ := zT c39
         clear c39
         (first | rw [c39b0] | (simp only [i64_w, i32_w]; rw [c39b0]) | skip)
         have H' := Aside0.mk H
         clear H
         as_aux_lemma =>
          go_wp2
          go_meet
          case rel => exact ⟨_, ((t573 != t575)), qF, H', ⟨by have := HJ6.out; have := HJ17.out; have := HJ25.out; first | omega | exact Nat.le_refl _⟩, ⟨qR HO_4.out⟩, ⟨qB HB.out⟩⟩
        rw [if_neg c39] at H
        obtain ⟨c39b0, c39b1⟩ := zF c39
        (first | rw [c39b0] | (simp only [i64_w, i32_w]; rw [c39b0]) | skip)
        have H' := Aside0.mk H
        clear H
        as_aux_lemma =>
         go_wp2
         go_meet
         case rel => exact ⟨_, (true), qF, H', ⟨by have := HJ6.out; have := HJ17.out; have := HJ25.out; first | omega | exact Nat.le_refl _⟩, ⟨qR HO_4.out⟩, ⟨qB HB.out⟩⟩
       case rest => as_aux_lemma =>
        clear HC35
        obtain ⟨kq, x122_34, rfl, HA, HJ34, HO_4, HB⟩ := hcut
        cases kq with
        | zero => exact absurd HA.out (by simp [laws_FnClosures.j3])
        | succ kj34 =>
         have H := HA.out
         clear HA
         simp only [laws_FnClosures.j3] at H
         by_cases c40 : x122_34 = true
         ·
          subst c40
          rw [if_pos rfl] at H
          obtain rfl := Option.some.inj H
          as_aux_lemma =>
           go_wp2
           go_ret
           exact ⟨qE, qB HB.out⟩
         replace c40 := Bool.eq_false_iff.mpr c40
         subst c40
         rw [if_neg (show ¬ (false = true) by decide)] at H
         replace H := qN H
         obtain ⟨⟨t577, t578⟩, A41, H⟩ := H
         try dsimp only at H
         replace H := qN H
         obtain ⟨⟨t579, t580⟩, A42, H⟩ := H
         try dsimp only at H
         have HC43 := Aside0.mk H
         clear H
         go_upto_region 24 with (first | ((with_reducible refine gate_callee (f := 17) rfl ?_); refine goesL_ (some 125) rfl rfl Try.func17 (by kernel_rfl) rfl #[.string t572] rfl qV ?_; (with_reducible refine (impl_IsPrivileged.calls kj34 t572 t577 t578 _ A41.out).mono ?_); rintro e w44 ⟨rfl, hb⟩; refine ⟨_, rfl, ?_⟩; replace HO_4 := Aside0.mk (Kd.R_below (qR HO_4.out) hb); replace HB := Aside0.mk (below_step (qB HB.out) hb)) | ((with_reducible refine gate_callee (f := 18) rfl ?_); refine goesL_ (some 130) rfl rfl Try.func18 (by kernel_rfl) rfl #[.string t572] rfl qV ?_; (with_reducible refine (spec_IsPrivileged.calls kj34 t572 t579 t580 _ A42.out).mono ?_); rintro e w45 ⟨rfl, hb⟩; refine ⟨_, rfl, ?_⟩; replace HO_4 := Aside0.mk (Kd.R_below (qR HO_4.out) hb); replace HB := Aside0.mk (below_step (qB HB.out) hb)))
         (try simp only [Act.put, List.setIfInBounds_toArray, List.set_cons_zero, List.set_cons_succ])
         go_cut [140] (fun v140 wc => ∃ (kq : Nat) (x140_42 : Bool), v140 = .bool x140_42 ∧ Aside0 (laws_FnClosures.j4 kq l0 t553 t554 t555 t563 t564 t568 t569 t573 t574 t577 t578 x140_42 = some r) ∧ Aside0 (kq ≤ kj34) ∧ Aside0 (Kd.R Kd.string 9 wc w.heap.size (fun _ => True) v556 t554) ∧ Aside0 (Below w.heap.size w wc))
         case first => as_aux_lemma =>
          have H := HC43.out
          clear HC43
          by_cases c46 : t578 = t580
          ·
           rw [if_pos c46] at H
           obtain ⟨c46b0, c46b1⟩ := zT c46
           clear c46
           (first | rw [c46b0] | (simp only [i64_w, i32_w]; rw [c46b0]) | skip)
           have H' := Aside0.mk H
           clear H
           as_aux_lemma =>
            go_wp2
            go_meet
            case rel => exact ⟨_, ((t577 != t579)), qF, H', ⟨by have := HJ6.out; have := HJ17.out; have := HJ25.out; have := HJ34.out; first | omega | exact Nat.le_refl _⟩, ⟨qR HO_4.out⟩, ⟨qB HB.out⟩⟩
          rw [if_neg c46] at H
          obtain ⟨c46b0, c46b1⟩ := zF c46
          (first | rw [c46b0] | (simp only [i64_w, i32_w]; rw [c46b0]) | skip)
          have H' := Aside0.mk H
          clear H
          as_aux_lemma =>
           go_wp2
           go_meet
           case rel => exact ⟨_, (true), qF, H', ⟨by have := HJ6.out; have := HJ17.out; have := HJ25.out; have := HJ34.out; first | omega | exact Nat.le_refl _⟩, ⟨qR HO_4.out⟩, ⟨qB HB.out⟩⟩
         case rest => as_aux_lemma =>
          clear HC43
          obtain ⟨kq, x140_42, rfl, HA, HJ42, HO_4, HB⟩ := hcut
          cases kq with
          | zero => exact absurd HA.out (by simp [laws_FnClosures.j4])
          | succ kj42 =>
           have H := HA.out
           clear HA
           simp only [laws_FnClosures.j4] at H
           by_cases c47 : x140_42 = true
           ·
            subst c47
            rw [if_pos rfl] at H
            obtain rfl := Option.some.inj H
            as_aux_lemma =>
             go_wp2
             go_ret
             exact ⟨qE, qB HB.out⟩
           replace c47 := Bool.eq_false_iff.mpr c47
           subst c47
           rw [if_neg (show ¬ (false = true) by decide)] at H
           replace H := qN H
           obtain ⟨t581, A48, H⟩ := H
           try dsimp only at H
           replace H := qN H
           obtain ⟨⟨t582, t583, t584⟩, A49, H⟩ := H
           try dsimp only at H
           replace H := qN H
           obtain ⟨⟨t585, t586, t587⟩, A50, H⟩ := H
           try dsimp only at H
           have HC51 := Aside0.mk H
           clear H
           go_upto_region 29 with (first | ((with_reducible refine gate_callee (f := 19) rfl ?_); refine goesL_ (some 142) rfl rfl Try.func19 (by kernel_rfl) rfl #[.slice A0 l0.length c0] rfl qV ?_; (with_reducible refine (spec_DrawCountClosed.calls kj42 _ _ l0 t581 _ ?side1 ?side2 A48.out).mono ?_); (case side1 => exact qC (Kd.C_below HR0.out HB.out)); (case side2 => exact HC0.out); rintro e w52 ⟨rfl, hb⟩; refine ⟨_, rfl, ?_⟩; replace HO_4 := Aside0.mk (Kd.R_below (qR HO_4.out) hb); replace HB := Aside0.mk (below_step (qB HB.out) hb)) | ((with_reducible refine gate_callee (f := 20) rfl ?_); refine goesL_ (some 145) rfl rfl Try.func20 (by kernel_rfl) rfl #[.string t581] rfl qV ?_; (with_reducible refine (impl_CountClosed.calls kj42 t581 t582 t583 t584 _ A49.out).mono ?_); rintro e w53 ⟨rfl, hb⟩; refine ⟨_, rfl, ?_⟩; replace HO_4 := Aside0.mk (Kd.R_below (qR HO_4.out) hb); replace HB := Aside0.mk (below_step (qB HB.out) hb)) | ((with_reducible refine gate_callee (f := 21) rfl ?_); refine goesL_ (some 151) rfl rfl Try.func21 (by kernel_rfl) rfl #[.string t581] rfl qV ?_; (with_reducible refine (spec_CountClosed.calls kj42 t581 t585 t586 t587 _ A50.out).mono ?_); rintro e w54 ⟨rfl, hb⟩; refine ⟨_, rfl, ?_⟩; replace HO_4 := Aside0.mk (Kd.R_below (qR HO_4.out) hb); replace HB := Aside0.mk (below_step (qB HB.out) hb)))
           (try simp only [Act.put, List.setIfInBounds_toArray, List.set_cons_zero, List.set_cons_succ])
           go_cut [167] (fun v167 wc => ∃ (kq : Nat) (x167_50 : Bool), v167 = .bool x167_50 ∧ Aside0 (laws_FnClosures.j5 kq t553 t554 t555 t563 t564 t568 t569 t573 t574 t577 t578 t581 t582 t583 t584 x167_50 = some r) ∧ Aside0 (kq ≤ kj42) ∧ Aside0 (Kd.R Kd.string 9 wc w.heap.size (fun _ => True) v556 t554) ∧ Aside0 (Below w.heap.size w wc))
           case first => as_aux_lemma =>
            have H := HC51.out
            clear HC51
            by_cases c55 : t584 = t587
            rotate_left
            ·
             rw [if_neg c55] at H
             obtain ⟨c55b0, c55b1⟩ := zF c55
             (first | rw [c55b0] | (simp only [i64_w, i32_w]; rw [c55b0]) | skip)
             have H' := Aside0.mk H
             clear H
             as_aux_lemma =>
              go_wp2
              go_meet
              case rel => exact ⟨_, (true), qF, H', ⟨by have := HJ6.out; have := HJ17.out; have := HJ25.out; have := HJ34.out; have := HJ42.out; first | omega | exact Nat.le_refl _⟩, ⟨qR HO_4.out⟩, ⟨qB HB.out⟩⟩
            rw [if_pos c55] at H
            obtain ⟨c55b0, c55b1⟩ := zT c55
            clear c55
            (first | rw [c55b0] | (simp only [i64_w, i32_w]; rw [c55b0]) | skip)
            by_cases c56 : t582 = t585
            ·
             rw [if_pos c56] at H
             obtain ⟨c56b0, c56b1⟩ := zT c56
             clear c56
             have H' := Aside0.mk H
             clear H
             as_aux_lemma =>
              go_wp2
              go_meet
              case rel => exact ⟨_, ((t583 != t586)), qF, H', ⟨by have := HJ6.out; have := HJ17.out; have := HJ25.out; have := HJ34.out; have := HJ42.out; first | omega | exact Nat.le_refl _⟩, ⟨qR HO_4.out⟩, ⟨qB HB.out⟩⟩
            rw [if_neg c56] at H
            obtain ⟨c56b0, c56b1⟩ := zF c56
            have H' := Aside0.mk H
            clear H
            as_aux_lemma =>
             go_wp2
             go_meet
             case rel => exact ⟨_, (true), qF, H', ⟨by have := HJ6.out; have := HJ17.out; have := HJ25.out; have := HJ34.out; have := HJ42.out; first | omega | exact Nat.le_refl _⟩, ⟨qR HO_4.out⟩, ⟨qB HB.out⟩⟩
           case rest => as_aux_lemma =>
            clear HC51
            obtain ⟨kq, x167_50, rfl, HA, HJ50, HO_4, HB⟩ := hcut
            cases kq with
            | zero => exact absurd HA.out (by simp [laws_FnClosures.j5])
            | succ kj50 =>
             have H := HA.out
             clear HA
             simp only [laws_FnClosures.j5] at H
             by_cases c57 : x167_50 = true
             ·
              subst c57
              rw [if_pos rfl] at H
              obtain rfl := Option.some.inj H
              as_aux_lemma =>
               go_wp2
               go_ret
               exact ⟨qE, qB HB.out⟩
             replace c57 := Bool.eq_false_iff.mpr c57
             subst c57
             rw [if_neg (show ¬ (false = true) by decide)] at H
             have HC58 := Aside0.mk H
             clear H
             go_upto_region 31 with (fail)
             go_cut [183] (fun v183 wc => ∃ (kq : Nat) (x183_57 : Bool), v183 = .bool x183_57 ∧ Aside0 (laws_FnClosures.j6 kq t553 t554 t555 t563 t564 t568 t569 t573 t574 t577 t578 x183_57 = some r) ∧ Aside0 (kq ≤ kj50) ∧ Aside0 (Kd.R Kd.string 9 wc w.heap.size (fun _ => True) v556 t554) ∧ Aside0 (Below w.heap.size w wc))
             case first => as_aux_lemma =>
              have H := HC58.out
              clear HC58
              by_cases c59 : t584 = 0
              rotate_left
              ·
               rw [if_neg c59] at H
               obtain ⟨c59b0, c59b1⟩ := zF c59
               (first | rw [c59b0] | (simp only [i64_w, i32_w]; rw [c59b0]) | skip)
               have H' := Aside0.mk H
               clear H
               as_aux_lemma =>
                go_wp2
                go_meet
                case rel => exact ⟨_, (false), qF, H', ⟨by have := HJ6.out; have := HJ17.out; have := HJ25.out; have := HJ34.out; have := HJ42.out; have := HJ50.out; first | omega | exact Nat.le_refl _⟩, ⟨qR HO_4.out⟩, ⟨qB HB.out⟩⟩
              rw [if_pos c59] at H
              obtain ⟨c59b0, c59b1⟩ := zT c59
              clear c59
              (first | rw [c59b0] | (simp only [i64_w, i32_w]; rw [c59b0]) | skip)
              by_cases c60 : t583 > t582
              ·
               rw [if_pos c60] at H
               have c60b0 : decide (t582 < t583) = true := decide_eq_true c60
               clear c60
               have H' := Aside0.mk H
               clear H
               as_aux_lemma =>
                go_wp2
                go_meet
                case rel => exact ⟨_, (true), qF, H', ⟨by have := HJ6.out; have := HJ17.out; have := HJ25.out; have := HJ34.out; have := HJ42.out; have := HJ50.out; first | omega | exact Nat.le_refl _⟩, ⟨qR HO_4.out⟩, ⟨qB HB.out⟩⟩
              rw [if_neg c60] at H
              have c60b0 : decide (t582 < t583) = false := decide_eq_false c60
              clear c60
              by_cases c61 : (t581.size : Int) > 0
              ·
               rw [if_pos c61] at H
               have c61b0 : decide (0 < (t581.size : Int)) = true := decide_eq_true c61
               have c61b1 : decide (0 < t581.size) = true := decide_eq_true (by omega)
               clear c61
               have H' := Aside0.mk H
               clear H
               as_aux_lemma =>
                go_wp2
                go_meet
                case rel => exact ⟨_, (decide (t583 < 1)), qF, H', ⟨by have := HJ6.out; have := HJ17.out; have := HJ25.out; have := HJ34.out; have := HJ42.out; have := HJ50.out; first | omega | exact Nat.le_refl _⟩, ⟨qR HO_4.out⟩, ⟨qB HB.out⟩⟩
              rw [if_neg c61] at H
              have c61b0 : decide (0 < (t581.size : Int)) = false := decide_eq_false c61
              have c61b1 : decide (0 < t581.size) = false := decide_eq_false (by omega)
              clear c61
              have H' := Aside0.mk H
              clear H
              as_aux_lemma =>
               go_wp2
               go_meet
               case rel => exact ⟨_, (false), qF, H', ⟨by have := HJ6.out; have := HJ17.out; have := HJ25.out; have := HJ34.out; have := HJ42.out; have := HJ50.out; first | omega | exact Nat.le_refl _⟩, ⟨qR HO_4.out⟩, ⟨qB HB.out⟩⟩
             case rest => as_aux_lemma =>
              clear HC58
              obtain ⟨kq, x183_57, rfl, HA, HJ57, HO_4, HB⟩ := hcut
              cases kq with
              | zero => exact absurd HA.out (by simp [laws_FnClosures.j6])
              | succ kj57 =>
               have H := HA.out
               clear HA
               simp only [laws_FnClosures.j6] at H
               by_cases c62 : x183_57 = true
               ·
                subst c62
                rw [if_pos rfl] at H
                obtain rfl := Option.some.inj H
                as_aux_lemma =>
                 go_wp2
                 go_ret
                 exact ⟨qE, qB HB.out⟩
               replace c62 := Bool.eq_false_iff.mpr c62
               subst c62
               rw [if_neg (show ¬ (false = true) by decide)] at H
               have HC63 := Aside0.mk H
               clear H
               go_upto_region 33 with (fail)
               go_cut [196] (fun v196 wc => ∃ (kq : Nat) (x196_62 : Bool), v196 = .bool x196_62 ∧ Aside0 (laws_FnClosures.j7 kq t553 t554 t555 t563 t564 t568 t569 x196_62 = some r) ∧ Aside0 (kq ≤ kj57) ∧ Aside0 (Kd.R Kd.string 9 wc w.heap.size (fun _ => True) v556 t554) ∧ Aside0 (Below w.heap.size w wc))
               case first => as_aux_lemma =>
                have H := HC63.out
                clear HC63
                by_cases c64 : t574 = 0
                rotate_left
                ·
                 rw [if_neg c64] at H
                 obtain ⟨c64b0, c64b1⟩ := zF c64
                 (first | rw [c64b0] | (simp only [i64_w, i32_w]; rw [c64b0]) | skip)
                 have H' := Aside0.mk H
                 clear H
                 as_aux_lemma =>
                  go_wp2
                  go_meet
                  case rel => exact ⟨_, (false), qF, H', ⟨by have := HJ6.out; have := HJ17.out; have := HJ25.out; have := HJ34.out; have := HJ42.out; have := HJ50.out; have := HJ57.out; first | omega | exact Nat.le_refl _⟩, ⟨qR HO_4.out⟩, ⟨qB HB.out⟩⟩
                rw [if_pos c64] at H
                obtain ⟨c64b0, c64b1⟩ := zT c64
                clear c64
                (first | rw [c64b0] | (simp only [i64_w, i32_w]; rw [c64b0]) | skip)
                by_cases c65 : t578 = 0
                rotate_left
                ·
                 rw [if_neg c65] at H
                 obtain ⟨c65b0, c65b1⟩ := zF c65
                 have H' := Aside0.mk H
                 clear H
                 as_aux_lemma =>
                  go_wp2
                  go_meet
                  case rel => exact ⟨_, (true), qF, H', ⟨by have := HJ6.out; have := HJ17.out; have := HJ25.out; have := HJ34.out; have := HJ42.out; have := HJ50.out; have := HJ57.out; first | omega | exact Nat.le_refl _⟩, ⟨qR HO_4.out⟩, ⟨qB HB.out⟩⟩
                rw [if_pos c65] at H
                obtain ⟨c65b0, c65b1⟩ := zT c65
                clear c65
                by_cases c66 : t577 = true
                ·
                 subst c66
                 rw [if_pos rfl] at H
                 have H' := Aside0.mk H
                 clear H
                 as_aux_lemma =>
                  go_wp2
                  go_meet
                  case rel => exact ⟨_, (!t573), qF, H', ⟨by have := HJ6.out; have := HJ17.out; have := HJ25.out; have := HJ34.out; have := HJ42.out; have := HJ50.out; have := HJ57.out; first | omega | exact Nat.le_refl _⟩, ⟨qR HO_4.out⟩, ⟨qB HB.out⟩⟩
                replace c66 := Bool.eq_false_iff.mpr c66
                subst c66
                rw [if_neg (show ¬ (false = true) by decide)] at H
                have H' := Aside0.mk H
                clear H
                as_aux_lemma =>
                 go_wp2
                 go_meet
                 case rel => exact ⟨_, (false), qF, H', ⟨by have := HJ6.out; have := HJ17.out; have := HJ25.out; have := HJ34.out; have := HJ42.out; have := HJ50.out; have := HJ57.out; first | omega | exact Nat.le_refl _⟩, ⟨qR HO_4.out⟩, ⟨qB HB.out⟩⟩
               case rest => as_aux_lemma =>
                clear HC63
                obtain ⟨kq, x196_62, rfl, HA, HJ62, HO_4, HB⟩ := hcut
                cases kq with
                | zero => exact absurd HA.out (by simp [laws_FnClosures.j7])
                | succ kj62 =>
                 have H := HA.out
                 clear HA
                 simp only [laws_FnClosures.j7] at H
                 by_cases c67 : x196_62 = true
                 ·
                  subst c67
                  rw [if_pos rfl] at H
                  obtain rfl := Option.some.inj H
                  as_aux_lemma =>
                   go_wp2
                   go_ret
                   exact ⟨qE, qB HB.out⟩
                 replace c67 := Bool.eq_false_iff.mpr c67
                 subst c67
                 rw [if_neg (show ¬ (false = true) by decide)] at H
                 have HC68 := Aside0.mk H
                 clear H
                 go_upto_if 198 with (fail)
                 go_cut [] (fun wc => ∃ (kq : Nat), Aside0 (laws_FnClosures.j8 kq t553 t554 t555 t563 t564 = some r) ∧ Aside0 (kq ≤ kj62) ∧ Aside0 (Kd.R Kd.string 9 wc w.heap.size (fun _ => True) v556 t554) ∧ Aside0 (Below w.heap.size w wc))
                 case first => as_aux_lemma =>
                  have H := HC68.out
                  clear HC68
                  by_cases c69 : t569 = 0
                  rotate_left
                  ·
                   rw [if_neg c69] at H
                   obtain ⟨c69b0, c69b1⟩ := zF c69
                   (first | rw [c69b0] | (simp only [i64_w, i32_w]; rw [c69b0]) | skip)
                   have H' := Aside0.mk H
                   clear H
                   as_aux_lemma =>
                    go_wp2
                    go_meet
                    case rel => exact ⟨_, H', ⟨by have := HJ6.out; have := HJ17.out; have := HJ25.out; have := HJ34.out; have := HJ42.out; have := HJ50.out; have := HJ57.out; have := HJ62.out; first | omega | exact Nat.le_refl _⟩, ⟨qR HO_4.out⟩, ⟨qB HB.out⟩⟩
                  rw [if_pos c69] at H
                  obtain ⟨c69b0, c69b1⟩ := zT c69
                  clear c69
                  (first | rw [c69b0] | (simp only [i64_w, i32_w]; rw [c69b0]) | skip)
                  replace H := qN H
                  obtain ⟨⟨t588, t589⟩, A70, H⟩ := H
                  try dsimp only at H
                  replace H := qN H
                  obtain ⟨⟨t590, t591⟩, A71, H⟩ := H
                  try dsimp only at H
                  by_cases c72 : t589 = 0
                  rotate_left
                  ·
                   rw [if_neg c72] at H
                   obtain ⟨c72b0, c72b1⟩ := zF c72
                   obtain rfl := Option.some.inj H
                   as_aux_lemma =>
                    go_wp2_with (first | ((with_reducible refine gate_callee (f := 22) rfl ?_); refine goesL_ (some 201) rfl rfl Try.func22 (by kernel_rfl) rfl #[.string t568] rfl qV ?_; (with_reducible refine (impl_IsPalindrome.calls kj62 t568 t588 t589 _ A70.out).mono ?_); rintro e w84 ⟨rfl, hb⟩; refine ⟨_, rfl, ?_⟩; replace HO_4 := Aside0.mk (Kd.R_below (qR HO_4.out) hb); replace HB := Aside0.mk (below_step (qB HB.out) hb)) | ((with_reducible refine gate_callee (f := 23) rfl ?_); refine goesL_ (some 206) rfl rfl Try.func23 (by kernel_rfl) rfl #[.string t568] rfl qV ?_; (with_reducible refine (impl_DefectOf.calls kj62 t568 t590 t591 _ A71.out).mono ?_); rintro e w85 ⟨rfl, hb⟩; refine ⟨_, rfl, ?_⟩; replace HO_4 := Aside0.mk (Kd.R_below (qR HO_4.out) hb); replace HB := Aside0.mk (below_step (qB HB.out) hb)))
                    go_ret
                    exact ⟨qE, qB HB.out⟩
                  rw [if_pos c72] at H
                  obtain ⟨c72b0, c72b1⟩ := zT c72
                  clear c72
                  by_cases c73 : t588 = true
                  rotate_left
                  ·
                   replace c73 := Bool.eq_false_iff.mpr c73
                   subst c73
                   rw [if_neg (show ¬ (false = true) by decide)] at H
                   obtain rfl := Option.some.inj H
                   as_aux_lemma =>
                    go_wp2_with (first | ((with_reducible refine gate_callee (f := 22) rfl ?_); refine goesL_ (some 201) rfl rfl Try.func22 (by kernel_rfl) rfl #[.string t568] rfl qV ?_; (with_reducible refine (impl_IsPalindrome.calls kj62 t568 false t589 _ A70.out).mono ?_); rintro e w82 ⟨rfl, hb⟩; refine ⟨_, rfl, ?_⟩; replace HO_4 := Aside0.mk (Kd.R_below (qR HO_4.out) hb); replace HB := Aside0.mk (below_step (qB HB.out) hb)) | ((with_reducible refine gate_callee (f := 23) rfl ?_); refine goesL_ (some 206) rfl rfl Try.func23 (by kernel_rfl) rfl #[.string t568] rfl qV ?_; (with_reducible refine (impl_DefectOf.calls kj62 t568 t590 t591 _ A71.out).mono ?_); rintro e w83 ⟨rfl, hb⟩; refine ⟨_, rfl, ?_⟩; replace HO_4 := Aside0.mk (Kd.R_below (qR HO_4.out) hb); replace HB := Aside0.mk (below_step (qB HB.out) hb)))
                    go_ret
                    exact ⟨qE, qB HB.out⟩
                  subst c73
                  rw [if_pos rfl] at H
                  by_cases c74 : t591 = 0
                  rotate_left
                  ·
                   rw [if_neg c74] at H
                   obtain ⟨c74b0, c74b1⟩ := zF c74
                   obtain rfl := Option.some.inj H
                   as_aux_lemma =>
                    go_wp2_with (first | ((with_reducible refine gate_callee (f := 22) rfl ?_); refine goesL_ (some 201) rfl rfl Try.func22 (by kernel_rfl) rfl #[.string t568] rfl qV ?_; (with_reducible refine (impl_IsPalindrome.calls kj62 t568 true t589 _ A70.out).mono ?_); rintro e w80 ⟨rfl, hb⟩; refine ⟨_, rfl, ?_⟩; replace HO_4 := Aside0.mk (Kd.R_below (qR HO_4.out) hb); replace HB := Aside0.mk (below_step (qB HB.out) hb)) | ((with_reducible refine gate_callee (f := 23) rfl ?_); refine goesL_ (some 206) rfl rfl Try.func23 (by kernel_rfl) rfl #[.string t568] rfl qV ?_; (with_reducible refine (impl_DefectOf.calls kj62 t568 t590 t591 _ A71.out).mono ?_); rintro e w81 ⟨rfl, hb⟩; refine ⟨_, rfl, ?_⟩; replace HO_4 := Aside0.mk (Kd.R_below (qR HO_4.out) hb); replace HB := Aside0.mk (below_step (qB HB.out) hb)))
                    go_ret
                    exact ⟨qE, qB HB.out⟩
                  rw [if_pos c74] at H
                  obtain ⟨c74b0, c74b1⟩ := zT c74
                  clear c74
                  by_cases c75 : t590 = 0
                  rotate_left
                  ·
                   rw [if_neg c75] at H
                   obtain ⟨c75b0, c75b1⟩ := zF c75
                   obtain rfl := Option.some.inj H
                   as_aux_lemma =>
                    go_wp2_with (first | ((with_reducible refine gate_callee (f := 22) rfl ?_); refine goesL_ (some 201) rfl rfl Try.func22 (by kernel_rfl) rfl #[.string t568] rfl qV ?_; (with_reducible refine (impl_IsPalindrome.calls kj62 t568 true t589 _ A70.out).mono ?_); rintro e w78 ⟨rfl, hb⟩; refine ⟨_, rfl, ?_⟩; replace HO_4 := Aside0.mk (Kd.R_below (qR HO_4.out) hb); replace HB := Aside0.mk (below_step (qB HB.out) hb)) | ((with_reducible refine gate_callee (f := 23) rfl ?_); refine goesL_ (some 206) rfl rfl Try.func23 (by kernel_rfl) rfl #[.string t568] rfl qV ?_; (with_reducible refine (impl_DefectOf.calls kj62 t568 t590 t591 _ A71.out).mono ?_); rintro e w79 ⟨rfl, hb⟩; refine ⟨_, rfl, ?_⟩; replace HO_4 := Aside0.mk (Kd.R_below (qR HO_4.out) hb); replace HB := Aside0.mk (below_step (qB HB.out) hb)))
                    go_ret
                    exact ⟨qE, qB HB.out⟩
                  rw [if_pos c75] at H
                  obtain ⟨c75b0, c75b1⟩ := zT c75
                  clear c75
                  have H' := Aside0.mk H
                  clear H
                  as_aux_lemma =>
                   go_wp2_with (first | ((with_reducible refine gate_callee (f := 22) rfl ?_); refine goesL_ (some 201) rfl rfl Try.func22 (by kernel_rfl) rfl #[.string t568] rfl qV ?_; (with_reducible refine (impl_IsPalindrome.calls kj62 t568 true t589 _ A70.out).mono ?_); rintro e w76 ⟨rfl, hb⟩; refine ⟨_, rfl, ?_⟩; replace HO_4 := Aside0.mk (Kd.R_below (qR HO_4.out) hb); replace HB := Aside0.mk (below_step (qB HB.out) hb)) | ((with_reducible refine gate_callee (f := 23) rfl ?_); refine goesL_ (some 206) rfl rfl Try.func23 (by kernel_rfl) rfl #[.string t568] rfl qV ?_; (with_reducible refine (impl_DefectOf.calls kj62 t568 t590 t591 _ A71.out).mono ?_); rintro e w77 ⟨rfl, hb⟩; refine ⟨_, rfl, ?_⟩; replace HO_4 := Aside0.mk (Kd.R_below (qR HO_4.out) hb); replace HB := Aside0.mk (below_step (qB HB.out) hb)))
                   go_meet
                   case rel => exact ⟨_, H', ⟨by have := HJ6.out; have := HJ17.out; have := HJ25.out; have := HJ34.out; have := HJ42.out; have := HJ50.out; have := HJ57.out; have := HJ62.out; first | omega | exact Nat.le_refl _⟩, ⟨qR HO_4.out⟩, ⟨qB HB.out⟩⟩
                 case rest => as_aux_lemma =>
                  clear HC68
                  obtain ⟨kq, HA, HJ67, HO_4, HB⟩ := hcut
                  cases kq with
                  | zero => exact absurd HA.out (by simp [laws_FnClosures.j8])
                  | succ kj67 =>
                   have H := HA.out
                   clear HA
                   simp only [laws_FnClosures.j8] at H
                   have HC86 := Aside0.mk H
                   clear H
                   go_upto_if 224 with (fail)
                   go_cut [] (fun wc => ∃ (kq : Nat), Aside0 (laws_FnClosures.j9 kq t553 t554 t555 = some r) ∧ Aside0 (kq ≤ kj67) ∧ Aside0 (Kd.R Kd.string 9 wc w.heap.size (fun _ => True) v556 t554) ∧ Aside0 (Below w.heap.size w wc))
                   case first => as_aux_lemma =>
                    have H := HC86.out
                    clear HC86
                    by_cases c87 : t564 = 0
                    rotate_left
                    ·
                     rw [if_neg c87] at H
                     obtain ⟨c87b0, c87b1⟩ := zF c87
                     (first | rw [c87b0] | (simp only [i64_w, i32_w]; rw [c87b0]) | skip)
                     have H' := Aside0.mk H
                     clear H
                     as_aux_lemma =>
                      go_wp2
                      go_meet
                      case rel => exact ⟨_, H', ⟨by have := HJ6.out; have := HJ17.out; have := HJ25.out; have := HJ34.out; have := HJ42.out; have := HJ50.out; have := HJ57.out; have := HJ62.out; have := HJ67.out; first | omega | exact Nat.le_refl _⟩, ⟨qR HO_4.out⟩, ⟨qB HB.out⟩⟩
                    rw [if_pos c87] at H
                    obtain ⟨c87b0, c87b1⟩ := zT c87
                    clear c87
                    (first | rw [c87b0] | (simp only [i64_w, i32_w]; rw [c87b0]) | skip)
                    replace H := qN H
                    obtain ⟨⟨t592, t593⟩, A88, H⟩ := H
                    try dsimp only at H
                    by_cases c89 : t593 = 0
                    rotate_left
                    ·
                     rw [if_neg c89] at H
                     obtain ⟨c89b0, c89b1⟩ := zF c89
                     obtain rfl := Option.some.inj H
                     as_aux_lemma =>
                      go_wp2_with (first | ((with_reducible refine gate_callee (f := 22) rfl ?_); refine goesL_ (some 227) rfl rfl Try.func22 (by kernel_rfl) rfl #[.string t563] rfl qV ?_; (with_reducible refine (impl_IsPalindrome.calls kj67 t563 t592 t593 _ A88.out).mono ?_); rintro e w103 ⟨rfl, hb⟩; refine ⟨_, rfl, ?_⟩; replace HO_4 := Aside0.mk (Kd.R_below (qR HO_4.out) hb); replace HB := Aside0.mk (below_step (qB HB.out) hb)))
                      go_ret
                      exact ⟨qE, qB HB.out⟩
                    rw [if_pos c89] at H
                    obtain ⟨c89b0, c89b1⟩ := zT c89
                    clear c89
                    by_cases c90 : t592 = true
                    rotate_left
                    ·
                     replace c90 := Bool.eq_false_iff.mpr c90
                     subst c90
                     rw [if_neg (show ¬ (false = true) by decide)] at H
                     obtain rfl := Option.some.inj H
                     as_aux_lemma =>
                      go_wp2_with (first | ((with_reducible refine gate_callee (f := 22) rfl ?_); refine goesL_ (some 227) rfl rfl Try.func22 (by kernel_rfl) rfl #[.string t563] rfl qV ?_; (with_reducible refine (impl_IsPalindrome.calls kj67 t563 false t593 _ A88.out).mono ?_); rintro e w102 ⟨rfl, hb⟩; refine ⟨_, rfl, ?_⟩; replace HO_4 := Aside0.mk (Kd.R_below (qR HO_4.out) hb); replace HB := Aside0.mk (below_step (qB HB.out) hb)))
                      go_ret
                      exact ⟨qE, qB HB.out⟩
                    subst c90
                    rw [if_pos rfl] at H
                    by_cases c91 : (t563.size : Int) < (t553.size : Int)
                    ·
                     rw [if_pos c91] at H
                     have c91b0 : decide ((t563.size : Int) < (t553.size : Int)) = true := decide_eq_true c91
                     have c91b1 : decide (t563.size < t553.size) = true := decide_eq_true (Int.ofNat_lt.mp c91)
                     clear c91
                     obtain rfl := Option.some.inj H
                     as_aux_lemma =>
                      go_wp2_with (first | ((with_reducible refine gate_callee (f := 22) rfl ?_); refine goesL_ (some 227) rfl rfl Try.func22 (by kernel_rfl) rfl #[.string t563] rfl qV ?_; (with_reducible refine (impl_IsPalindrome.calls kj67 t563 true t593 _ A88.out).mono ?_); rintro e w92 ⟨rfl, hb⟩; refine ⟨_, rfl, ?_⟩; replace HO_4 := Aside0.mk (Kd.R_below (qR HO_4.out) hb); replace HB := Aside0.mk (below_step (qB HB.out) hb)))
                      go_ret
                      exact ⟨qE, qB HB.out⟩
                    rw [if_neg c91] at H
                    have c91b0 : decide ((t563.size : Int) < (t553.size : Int)) = false := decide_eq_false c91
                    have c91b1 : decide (t563.size < t553.size) = false := decide_eq_false (fun h => c91 (Int.ofNat_lt.mpr h))
                    clear c91
                    by_cases c93 : 0 ≤ (t553.size : Int)
                    rotate_left
                    ·
                     rw [if_neg c93] at H
                     exact absurd H (by simp)
                    rw [if_pos c93] at H
                    have c93b0 := eq_true c93
                    have c93b1 : decide (0 ≤ (t553.size : Int)) = true := decide_eq_true c93
                    clear c93
                    by_cases c94 : (t553.size : Int) ≤ (t563.size : Int)
                    rotate_left
                    ·
                     rw [if_neg c94] at H
                     exact absurd H (by simp)
                    rw [if_pos c94] at H
                    have c94b0 := eq_true c94
                    have c94b1 : decide ((t553.size : Int) ≤ (t563.size : Int)) = true := decide_eq_true c94
                    clear c94
                    by_cases c95 : (t563.extract 0 ((t553.size : Int) : Int).toNat).toList = t553.toList
                    rotate_left
                    ·
                     rw [if_neg c95] at H
                     obtain ⟨c95b0, c95b1⟩ := zF c95
                     obtain rfl := Option.some.inj H
                     as_aux_lemma =>
                      go_wp2_with (first | ((with_reducible refine gate_callee (f := 22) rfl ?_); refine goesL_ (some 227) rfl rfl Try.func22 (by kernel_rfl) rfl #[.string t563] rfl qV ?_; (with_reducible refine (impl_IsPalindrome.calls kj67 t563 true t593 _ A88.out).mono ?_); rintro e w101 ⟨rfl, hb⟩; refine ⟨_, rfl, ?_⟩; replace HO_4 := Aside0.mk (Kd.R_below (qR HO_4.out) hb); replace HB := Aside0.mk (below_step (qB HB.out) hb)))
                      go_ret
                      exact ⟨qE, qB HB.out⟩
                    rw [if_pos c95] at H
                    obtain ⟨c95b0, c95b1⟩ := zT c95
                    have c95n0 : ((t563.extract 0 t553.size).toList == t553.toList) = true := c95b0
                    have c95n1 : ((t563.extract 0 t553.size).toList != t553.toList) = false := c95b1
                    by_cases c96 : (t553.size : Int) > 0
                    rotate_left
                    ·
                     rw [if_neg c96] at H
                     have c96b0 : decide (0 < (t553.size : Int)) = false := decide_eq_false c96
                     have c96b1 : decide (0 < t553.size) = false := decide_eq_false (by omega)
                     clear c96
                     have H' := Aside0.mk H
                     clear H
                     as_aux_lemma =>
                      go_wp2_with (first | ((with_reducible refine gate_callee (f := 22) rfl ?_); refine goesL_ (some 227) rfl rfl Try.func22 (by kernel_rfl) rfl #[.string t563] rfl qV ?_; (with_reducible refine (impl_IsPalindrome.calls kj67 t563 true t593 _ A88.out).mono ?_); rintro e w100 ⟨rfl, hb⟩; refine ⟨_, rfl, ?_⟩; replace HO_4 := Aside0.mk (Kd.R_below (qR HO_4.out) hb); replace HB := Aside0.mk (below_step (qB HB.out) hb)))
                      go_meet
                      case rel => exact ⟨_, H', ⟨by have := HJ6.out; have := HJ17.out; have := HJ25.out; have := HJ34.out; have := HJ42.out; have := HJ50.out; have := HJ57.out; have := HJ62.out; have := HJ67.out; first | omega | exact Nat.le_refl _⟩, ⟨qR HO_4.out⟩, ⟨qB HB.out⟩⟩
                    rw [if_pos c96] at H
                    have c96b0 : decide (0 < (t553.size : Int)) = true := decide_eq_true c96
                    have c96b1 : decide (0 < t553.size) = true := decide_eq_true (by omega)
                    clear c96
                    by_cases c97 : (t563.size : Int) > (wrap64 ((wrap64 (2 * (t553.size : Int))) - 1))
                    ·
                     rw [if_pos c97] at H
                     have c97b0 : decide ((wrap64 ((wrap64 (2 * (t553.size : Int))) - 1)) < (t563.size : Int)) = true := decide_eq_true c97
                     clear c97
                     obtain rfl := Option.some.inj H
                     as_aux_lemma =>
                      go_wp2_with (first | ((with_reducible refine gate_callee (f := 22) rfl ?_); refine goesL_ (some 227) rfl rfl Try.func22 (by kernel_rfl) rfl #[.string t563] rfl qV ?_; (with_reducible refine (impl_IsPalindrome.calls kj67 t563 true t593 _ A88.out).mono ?_); rintro e w98 ⟨rfl, hb⟩; refine ⟨_, rfl, ?_⟩; replace HO_4 := Aside0.mk (Kd.R_below (qR HO_4.out) hb); replace HB := Aside0.mk (below_step (qB HB.out) hb)))
                      go_ret
                      exact ⟨qE, qB HB.out⟩
                    rw [if_neg c97] at H
                    have c97b0 : decide ((wrap64 ((wrap64 (2 * (t553.size : Int))) - 1)) < (t563.size : Int)) = false := decide_eq_false c97
                    clear c97
                    have H' := Aside0.mk H
                    clear H
                    as_aux_lemma =>
                     go_wp2_with (first | ((with_reducible refine gate_callee (f := 22) rfl ?_); refine goesL_ (some 227) rfl rfl Try.func22 (by kernel_rfl) rfl #[.string t563] rfl qV ?_; (with_reducible refine (impl_IsPalindrome.calls kj67 t563 true t593 _ A88.out).mono ?_); rintro e w99 ⟨rfl, hb⟩; refine ⟨_, rfl, ?_⟩; replace HO_4 := Aside0.mk (Kd.R_below (qR HO_4.out) hb); replace HB := Aside0.mk (below_step (qB HB.out) hb)))
                     go_meet
                     case rel => exact ⟨_, H', ⟨by have := HJ6.out; have := HJ17.out; have := HJ25.out; have := HJ34.out; have := HJ42.out; have := HJ50.out; have := HJ57.out; have := HJ62.out; have := HJ67.out; first | omega | exact Nat.le_refl _⟩, ⟨qR HO_4.out⟩, ⟨qB HB.out⟩⟩
                   case rest => as_aux_lemma =>
                    clear HC86
                    obtain ⟨kq, HA, HJ85, HO_4, HB⟩ := hcut
                    cases kq with
                    | zero => exact absurd HA.out (by simp [laws_FnClosures.j9])
                    | succ kj85 =>
                     have H := HA.out
                     clear HA
                     simp only [laws_FnClosures.j9] at H
                     by_cases c104 : t555 = 0
                     rotate_left
                     ·
                      rw [if_neg c104] at H
                      obtain ⟨c104b0, c104b1⟩ := zF c104
                      obtain rfl := Option.some.inj H
                      obtain ⟨Ao121, co121, eo121⟩ := Kd.R_slice HO_4.out
                      subst eo121
                      as_aux_lemma =>
                       go_wp2
                       go_ret
                       exact ⟨qE, qB HB.out⟩

                     rw [if_pos c104] at H
                     obtain ⟨c104b0, c104b1⟩ := zT c104
                     clear c104
                     have H' := Aside0.mk H
                     clear H
                     go_wp2
                     go_loopg [39] kj85 (fun kq v39 w' => ∃ (x39_11 : Int), v39 = .int .i64 x39_11 ∧ Aside0 (laws_FnClosures.l0 kq t553 t554 x39_11 = some r) ∧ Aside0 (kq ≤ kj85) ∧ Aside0 (Kd.R Kd.string 9 w' w.heap.size (fun _ => True) v556 t554) ∧ Aside0 (Below w.heap.size w w'))
                     case atStart => exact ⟨(0), qF, H', ⟨Nat.le_refl _⟩, ⟨qR HO_4.out⟩, ⟨qB HB.out⟩⟩
                     case round =>
                      clear H'
                      obtain ⟨x39_11, rfl, HA, HK11, HO_4, HB⟩ := hrel
                      cases gk with
                      | zero => exact absurd HA.out (by simp [laws_FnClosures.l0])
                      | succ k11 =>
                       have H := HA.out
                       clear HA
                       simp only [laws_FnClosures.l0] at H
                       by_cases c105 : x39_11 < (t554.length : Int)
                       rotate_left
                       ·
                        rw [if_neg c105] at H
                        have c105b0 : decide (x39_11 < (t554.length : Int)) = false := decide_eq_false c105
                        clear c105
                        replace H := qN H
                        obtain ⟨t598, A119, H⟩ := H
                        try dsimp only at H
                        obtain rfl := Option.some.inj H
                        obtain ⟨Ao120, co120, eo120⟩ := Kd.R_slice HO_4.out
                        subst eo120
                        as_aux_lemma =>
                         go_wp2_with (first | ((with_reducible refine gate_callee (f := 24) rfl ?_); refine goesL_ (some 298) rfl rfl Try.func24 (by kernel_rfl) rfl #[.slice Ao120 t554.length co120] rfl qV ?_; (with_reducible refine (laws_joined9.calls k11 _ _ t554 t598 _ ?side1 ?side2 A119.out).mono ?_); (case side1 => exact qC (Kd.R_reads' HO_4.out).2.2); (case side2 => exact (Kd.R_reads' HO_4.out).2.1); rintro e w' ⟨rfl, ⟨nd, rfl⟩⟩; refine ⟨_, rfl, ?_⟩))
                         go_ret
                         exact ⟨qE, qB HB.out⟩
                       rw [if_pos c105] at H
                       have c105b0 : decide (x39_11 < (t554.length : Int)) = true := decide_eq_true c105
                       clear c105
                       by_cases c106 : 0 ≤ x39_11
                       rotate_left
                       ·
                        rw [if_neg c106] at H
                        exact absurd H (by simp)
                       rw [if_pos c106] at H
                       have c106b0 : decide (0 ≤ x39_11) = true := decide_eq_true c106
                       clear c106
                       replace H := qN H
                       obtain ⟨⟨t595, t596⟩, A107, H⟩ := H
                       try dsimp only at H
                       by_cases c108 : t596 = 0
                       rotate_left
                       ·
                        rw [if_neg c108] at H
                        obtain ⟨c108b0, c108b1⟩ := zF c108
                        obtain rfl := Option.some.inj H
                        obtain ⟨Ao117, co117, eo117⟩ := Kd.R_slice HO_4.out
                        subst eo117
                        have p594 : 0 ≤ (x39_11 : Int) := of_decide_eq_true (by first | (with_reducible assumption) | assumption)
                        have q594 : x39_11 < (t554.length : Int) := of_decide_eq_true (by first | (with_reducible assumption) | assumption)
                        obtain ⟨ad594, e594, hx594_0⟩ := Kd.at_string (Kd.R_reads' HO_4.out).2.2 x39_11 p594 q594
                        cases e594
                        replace p594 := eq_true p594
                        replace q594 := eq_true q594
                        as_aux_lemma =>
                         go_wp2_with (first | ((with_reducible refine gate_callee (f := 22) rfl ?_); refine goesL_ (some 281) rfl rfl Try.func22 (by kernel_rfl) rfl #[.string (rdOf ByteArray.empty t554 x39_11)] rfl qV ?_; (with_reducible refine (impl_IsPalindrome.calls k11 (rdOf ByteArray.empty t554 x39_11) t595 t596 _ A107.out).mono ?_); rintro e w118 ⟨rfl, hb⟩; refine ⟨_, rfl, ?_⟩; replace HO_4 := Aside0.mk (Kd.R_below (qR HO_4.out) hb); replace HB := Aside0.mk (below_step (qB HB.out) hb)))
                         go_ret
                         exact ⟨qE, qB HB.out⟩
                       rw [if_pos c108] at H
                       obtain ⟨c108b0, c108b1⟩ := zT c108
                       clear c108
                       by_cases c109 : t595 = true
                       rotate_left
                       ·
                        replace c109 := Bool.eq_false_iff.mpr c109
                        subst c109
                        rw [if_neg (show ¬ (false = true) by decide)] at H
                        obtain rfl := Option.some.inj H
                        obtain ⟨Ao115, co115, eo115⟩ := Kd.R_slice HO_4.out
                        subst eo115
                        have p594 : 0 ≤ (x39_11 : Int) := of_decide_eq_true (by first | (with_reducible assumption) | assumption)
                        have q594 : x39_11 < (t554.length : Int) := of_decide_eq_true (by first | (with_reducible assumption) | assumption)
                        obtain ⟨ad594, e594, hx594_0⟩ := Kd.at_string (Kd.R_reads' HO_4.out).2.2 x39_11 p594 q594
                        cases e594
                        replace p594 := eq_true p594
                        replace q594 := eq_true q594
                        as_aux_lemma =>
                         go_wp2_with (first | ((with_reducible refine gate_callee (f := 22) rfl ?_); refine goesL_ (some 281) rfl rfl Try.func22 (by kernel_rfl) rfl #[.string (rdOf ByteArray.empty t554 x39_11)] rfl qV ?_; (with_reducible refine (impl_IsPalindrome.calls k11 (rdOf ByteArray.empty t554 x39_11) false t596 _ A107.out).mono ?_); rintro e w116 ⟨rfl, hb⟩; refine ⟨_, rfl, ?_⟩; replace HO_4 := Aside0.mk (Kd.R_below (qR HO_4.out) hb); replace HB := Aside0.mk (below_step (qB HB.out) hb)))
                         go_ret
                         exact ⟨qE, qB HB.out⟩
                       subst c109
                       rw [if_pos rfl] at H
                       by_cases c110 : (rdOf ByteArray.empty t554 x39_11).toList = ([] : List UInt8)
                       ·
                        rw [if_pos c110] at H
                        obtain ⟨c110b0, c110b1⟩ := zT c110
                        clear c110
                        obtain rfl := Option.some.inj H
                        obtain ⟨Ao111, co111, eo111⟩ := Kd.R_slice HO_4.out
                        subst eo111
                        have p594 : 0 ≤ (x39_11 : Int) := of_decide_eq_true (by first | (with_reducible assumption) | assumption)
                        have q594 : x39_11 < (t554.length : Int) := of_decide_eq_true (by first | (with_reducible assumption) | assumption)
                        obtain ⟨ad594, e594, hx594_0⟩ := Kd.at_string (Kd.R_reads' HO_4.out).2.2 x39_11 p594 q594
                        cases e594
                        replace p594 := eq_true p594
                        replace q594 := eq_true q594
                        as_aux_lemma =>
                         go_wp2_with (first | ((with_reducible refine gate_callee (f := 22) rfl ?_); refine goesL_ (some 281) rfl rfl Try.func22 (by kernel_rfl) rfl #[.string (rdOf ByteArray.empty t554 x39_11)] rfl qV ?_; (with_reducible refine (impl_IsPalindrome.calls k11 (rdOf ByteArray.empty t554 x39_11) true t596 _ A107.out).mono ?_); rintro e w112 ⟨rfl, hb⟩; refine ⟨_, rfl, ?_⟩; replace HO_4 := Aside0.mk (Kd.R_below (qR HO_4.out) hb); replace HB := Aside0.mk (below_step (qB HB.out) hb); have p597 : 0 ≤ (x39_11 : Int) := of_decide_eq_true (by first | (with_reducible assumption) | assumption); have q597 : x39_11 < (t554.length : Int) := of_decide_eq_true (by first | (with_reducible assumption) | assumption); obtain ⟨ad597, e597, hx597_0⟩ := Kd.at_string (Kd.R_reads' HO_4.out).2.2 x39_11 p597 q597; obtain rfl : ad594 = ad597 := (by injection e597); replace p597 := eq_true p597; replace q597 := eq_true q597))
                         go_ret
                         exact ⟨qE, qB HB.out⟩
                       rw [if_neg c110] at H
                       obtain ⟨c110b0, c110b1⟩ := zF c110
                       have H' := Aside0.mk H
                       clear H
                       obtain ⟨Ao113, co113, eo113⟩ := Kd.R_slice HO_4.out
                       subst eo113
                       have p594 : 0 ≤ (x39_11 : Int) := of_decide_eq_true (by first | (with_reducible assumption) | assumption)
                       have q594 : x39_11 < (t554.length : Int) := of_decide_eq_true (by first | (with_reducible assumption) | assumption)
                       obtain ⟨ad594, e594, hx594_0⟩ := Kd.at_string (Kd.R_reads' HO_4.out).2.2 x39_11 p594 q594
                       cases e594
                       replace p594 := eq_true p594
                       replace q594 := eq_true q594
                       as_aux_lemma =>
                        go_wp2_with (first | ((with_reducible refine gate_callee (f := 22) rfl ?_); refine goesL_ (some 281) rfl rfl Try.func22 (by kernel_rfl) rfl #[.string (rdOf ByteArray.empty t554 x39_11)] rfl qV ?_; (with_reducible refine (impl_IsPalindrome.calls k11 (rdOf ByteArray.empty t554 x39_11) true t596 _ A107.out).mono ?_); rintro e w114 ⟨rfl, hb⟩; refine ⟨_, rfl, ?_⟩; replace HO_4 := Aside0.mk (Kd.R_below (qR HO_4.out) hb); replace HB := Aside0.mk (below_step (qB HB.out) hb); have p597 : 0 ≤ (x39_11 : Int) := of_decide_eq_true (by first | (with_reducible assumption) | assumption); have q597 : x39_11 < (t554.length : Int) := of_decide_eq_true (by first | (with_reducible assumption) | assumption); obtain ⟨ad597, e597, hx597_0⟩ := Kd.at_string (Kd.R_reads' HO_4.out).2.2 x39_11 p597 q597; obtain rfl : ad594 = ad597 := (by injection e597); replace p597 := eq_true p597; replace q597 := eq_true q597))
                        go_roundg k11
                        case measure => have := HJ6.out; have := HJ17.out; have := HJ25.out; have := HJ34.out; have := HJ42.out; have := HJ50.out; have := HJ57.out; have := HJ62.out; have := HJ67.out; have := HJ85.out; have := HK11.out; omega
                        case rel => exact ⟨(wrap64 (x39_11 + 1)), qF, H', ⟨by have := HJ6.out; have := HJ17.out; have := HJ25.out; have := HJ34.out; have := HJ42.out; have := HJ50.out; have := HJ57.out; have := HJ62.out; have := HJ67.out; have := HJ85.out; have := HK11.out; omega⟩, ⟨qR HO_4.out⟩, ⟨qB HB.out⟩⟩
/-- THE ONE PURE STATEMENT of laws_FnClosures: yours. -/
def laws_FnClosures.Pure : Prop := ∀ (l0 : List Int), l0.length ≤ maxLen → l0.length * 1 ≤ 140737488351232 → (∀ x ∈ l0, (Lit.int .u8 x).wf = true) → ∃ k, laws_FnClosures.f k l0 = some true
theorem laws_FnClosures.walk (P : laws_FnClosures.Pure) (a0 : Option Addr) (len0 cap0 : Nat) (z0 : List Int) (w : World) (w0 : (a0 = none ∧ len0 = 0 ∧ cap0 = 0 ∧ z0 = []) ∨ ∃ x, a0 = some x ∧ len0 ≤ cap0 ∧ cap0 ≤ maxLen ∧ z0.length = cap0 ∧ (∀ i, i < z0.length → w.cell? (x.add i) = some (.int .u8 (z0.getD i 0))) ∧ ∀ n ∈ z0, (Lit.int .u8 n).wf = true) (y0 : len0 * 1 ≤ 140737488351232) :
  Calls Try.prog 3 #[.slice a0 len0 cap0] w fun e w' => e = .returned (.bool true) ∧ Below w.heap.size w w' := by
 obtain ⟨l0, rfl, hr0, hm0, hw0, hc0⟩ := ReadsInt.ofRowC w0
 obtain ⟨k, h⟩ := P l0 hm0 y0 hw0
 refine (laws_FnClosures.calls k _ _ l0 true w (Kd.C_of_reads (d := (0 : Int)) (h1 := fun _ => rfl) hr0) hc0 h).mono ?_
 rintro e w' ⟨rfl, hd⟩
 exact ⟨rfl, hd⟩

end Go.Proofs.Ytjmcffejpgblfaa.PF
