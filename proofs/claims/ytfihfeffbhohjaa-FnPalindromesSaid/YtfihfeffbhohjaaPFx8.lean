-- an own text, written by a program of this place (wip/tools)
import Derived.Test.YtfihfeffbhohjaaPFx0
import Derived.Test.YtfihfeffbhohjaaPFx2
import Derived.Test.YtfihfeffbhohjaaPFx7
import Derived.Test.YtfihfeffbhohjaaPFx3
import Derived.Test.YtfihfeffbhohjaaPFx6
import Derived.Test.YtfihfeffbhohjaaPFx4
import Derived.Test.YtfihfeffbhohjaaPFx9
namespace Go.Proofs.Ytfihfeffbhohjaa.PF
open Go.RowKit Go.Proofs.YtfihfeffbhohjaaW.PrintWords Go.Proofs.YtfihfeffbhohjaaW.PrintLast Go.Proofs.YtfihfeffbhohjaaW.PrintMore
attribute [local go_sem] max2_int min2_int max_two min_two max_three min_three max_four min_four   -- for this text's walks alone
set_option linter.unusedVariables false
set_option linter.unusedSimpArgs false

/-! ### laws_FnPalindromes: function 3 -/
mutual
def laws_FnPalindromes.j0 : Nat → List Int → ByteArray → List ByteArray → Int → Bool → Option (Bool)
 | 0, _, _, _, _, _ => none
 | k + 1, x0, x3, x4, x5, x60 => if x60 = true then (some false) else ((impl_CountPalindromes.f k x3).bind fun bt477 => ((spec_CountPalindromes.f k x3).bind fun bt479 => (if bt477.2 = bt479.2 then (laws_FnPalindromes.j1 k x0 x3 x4 x5 bt477.1 bt477.2 (bt477.1 != bt479.1)) else (laws_FnPalindromes.j1 k x0 x3 x4 x5 bt477.1 bt477.2 true))))
def laws_FnPalindromes.j1 : Nat → List Int → ByteArray → List ByteArray → Int → Int → Int → Bool → Option (Bool)
 | 0, _, _, _, _, _, _, _ => none
 | k + 1, x0, x3, x4, x5, x8, x9, x78 => if x78 = true then (some false) else ((impl_DefectOf.f k x3).bind fun bt481 => ((spec_DefectOf.f k x3).bind fun bt483 => (if bt481.2 = bt483.2 then (laws_FnPalindromes.j2 k x0 x3 x4 x5 x8 x9 bt481.1 bt481.2 (bt481.1 != bt483.1)) else (laws_FnPalindromes.j2 k x0 x3 x4 x5 x8 x9 bt481.1 bt481.2 true))))
def laws_FnPalindromes.j2 : Nat → List Int → ByteArray → List ByteArray → Int → Int → Int → Int → Int → Bool → Option (Bool)
 | 0, _, _, _, _, _, _, _, _, _ => none
 | k + 1, x0, x3, x4, x5, x8, x9, x12, x13, x96 => if x96 = true then (some false) else ((impl_LongestPalindrome.f k x3).bind fun bt485 => ((spec_LongestPalindrome.f k x3).bind fun bt488 => (if bt485.2.2 = bt488.2.2 then (if bt485.1.toList = bt488.1.toList then (laws_FnPalindromes.j3 k x0 x3 x4 x5 x8 x9 x12 x13 bt485.1 bt485.2.2 (bt485.2.1 != bt488.2.1)) else (laws_FnPalindromes.j3 k x0 x3 x4 x5 x8 x9 x12 x13 bt485.1 bt485.2.2 true)) else (laws_FnPalindromes.j3 k x0 x3 x4 x5 x8 x9 x12 x13 bt485.1 bt485.2.2 true))))
def laws_FnPalindromes.j3 : Nat → List Int → ByteArray → List ByteArray → Int → Int → Int → Int → Int → ByteArray → Int → Bool → Option (Bool)
 | 0, _, _, _, _, _, _, _, _, _, _, _ => none
 | k + 1, x0, x3, x4, x5, x8, x9, x12, x13, x16, x18, x121 => if x121 = true then (some false) else ((impl_EndLengths.f k x3).bind fun bt491 => ((spec_EndLengths.f k x3).bind fun bt495 => (if bt491.2 = bt495.2 then ((laws_likeInts.f k bt491.1 bt495.1).bind fun t499 => (laws_FnPalindromes.j4 k x0 x3 x4 x5 x8 x9 x12 x13 x16 x18 bt491.1 bt491.2 (!t499))) else (laws_FnPalindromes.j4 k x0 x3 x4 x5 x8 x9 x12 x13 x16 x18 bt491.1 bt491.2 true))))
def laws_FnPalindromes.j4 : Nat → List Int → ByteArray → List ByteArray → Int → Int → Int → Int → Int → ByteArray → Int → List Int → Int → Bool → Option (Bool)
 | 0, _, _, _, _, _, _, _, _, _, _, _, _, _ => none
 | k + 1, x0, x3, x4, x5, x8, x9, x12, x13, x16, x18, x22, x23, x140 => if x140 = true then (some false) else ((spec_DrawIsPalindrome.f k x0).bind fun t500 => ((impl_IsPalindrome.f k t500).bind fun bt501 => ((spec_IsPalindrome.f k t500).bind fun bt503 => (if bt501.2 = bt503.2 then (laws_FnPalindromes.j5 k x3 x4 x5 x8 x9 x12 x13 x16 x18 x22 x23 (bt501.1 != bt503.1)) else (laws_FnPalindromes.j5 k x3 x4 x5 x8 x9 x12 x13 x16 x18 x22 x23 true)))))
def laws_FnPalindromes.j5 : Nat → ByteArray → List ByteArray → Int → Int → Int → Int → Int → ByteArray → Int → List Int → Int → Bool → Option (Bool)
 | 0, _, _, _, _, _, _, _, _, _, _, _, _ => none
 | k + 1, x3, x4, x5, x8, x9, x12, x13, x16, x18, x22, x23, x160 => if x160 = true then (some false) else (if x5 = 0 then (if x9 = 0 then (if x13 = 0 then (if x23 = 0 then (if x12 < 0 then (laws_FnPalindromes.j6 k x3 x4 x16 x18 x22 true) else (if x12 = (wrap64 ((x3.size : Int) - (x4.length : Int))) then (if x8 < (x3.size : Int) then (laws_FnPalindromes.j6 k x3 x4 x16 x18 x22 true) else (laws_FnPalindromes.j6 k x3 x4 x16 x18 x22 ((x22.length : Int) != (x3.size : Int)))) else (laws_FnPalindromes.j6 k x3 x4 x16 x18 x22 true))) else (laws_FnPalindromes.j6 k x3 x4 x16 x18 x22 true)) else (laws_FnPalindromes.j6 k x3 x4 x16 x18 x22 true)) else (laws_FnPalindromes.j6 k x3 x4 x16 x18 x22 true)) else (if (x4.length : Int) = 0 then (if x9 = x5 then (if x13 = x5 then (some (x18 == x5)) else (some false)) else (some false)) else (some false)))
def laws_FnPalindromes.j6 : Nat → ByteArray → List ByteArray → ByteArray → Int → List Int → Bool → Option (Bool)
 | 0, _, _, _, _, _, _ => none
 | k + 1, x3, x4, x16, x18, x22, x216 => if x216 = true then (some false) else (laws_FnPalindromes.l0 k x3 x4 x16 x18 x22 0 0)
def laws_FnPalindromes.l0 : Nat → ByteArray → List ByteArray → ByteArray → Int → List Int → Int → Int → Option (Bool)
 | 0, _, _, _, _, _, _, _ => none
 | k + 1, x3, x4, x16, x18, x22, x31, x32 => if x32 < (x22.length : Int) then (if 0 ≤ x32 then (if (rd x22 x32) < 1 then (some false) else (if x32 > 0 then (if 0 ≤ (wrap64 (x32 - 1)) then (if (wrap64 (x32 - 1)) < (x22.length : Int) then (if (rd x22 x32) > (wrap64 ((rd x22 (wrap64 (x32 - 1))) + 2)) then (some false) else (laws_FnPalindromes.l0 k x3 x4 x16 x18 x22 (mx x31 (rd x22 x32)) (wrap64 (x32 + 1)))) else (none)) else (none)) else (laws_FnPalindromes.l0 k x3 x4 x16 x18 x22 (mx x31 (rd x22 x32)) (wrap64 (x32 + 1))))) else (none)) else (laws_FnPalindromes.l1 k x3 x4 x16 x18 x31 0)
def laws_FnPalindromes.l1 : Nat → ByteArray → List ByteArray → ByteArray → Int → Int → Int → Option (Bool)
 | 0, _, _, _, _, _, _ => none
 | k + 1, x3, x4, x16, x18, x31, x33 => if x33 < (x4.length : Int) then (laws_FnPalindromes.j9 k x3 x4 x16 x18 x31 x33 (decide (x33 < 12))) else (laws_FnPalindromes.j9 k x3 x4 x16 x18 x31 x33 false)
def laws_FnPalindromes.j9 : Nat → ByteArray → List ByteArray → ByteArray → Int → Int → Int → Bool → Option (Bool)
 | 0, _, _, _, _, _, _, _ => none
 | k + 1, x3, x4, x16, x18, x31, x33, x258 => if x258 = true then (if 0 ≤ x33 then (if x33 < (x4.length : Int) then ((impl_IsPalindrome.f k (rdOf ByteArray.empty x4 x33)).bind fun bt511 => ((impl_PlacesOf.f k x3 (rdOf ByteArray.empty x4 x33)).bind fun bt514 => (if bt511.2 = 0 then (if bt511.1 = true then (if bt514.2 = 0 then (if (bt514.1.length : Int) = 0 then (some false) else (laws_FnPalindromes.l1 k x3 x4 x16 x18 x31 (wrap64 (x33 + 1)))) else (some false)) else (some false)) else (some false)))) else (none)) else (none)) else (if x3.toList = ([] : List UInt8) then (some true) else (if x18 = 0 then (some ((x16.size : Int) == x31)) else (some false)))
end
def laws_FnPalindromes.f (k : Nat) (l0 : List Int) : Option (Bool) := (laws_big.f l0).bind fun t466 => (if t466 = true then (some true) else ((spec_DrawPalindromesOf.f k l0).bind fun t467 => ((impl_PalindromesOf.f k t467).bind fun bt468 => ((spec_PalindromesOf.f k t467).bind fun bt472 => (if bt468.2 = bt472.2 then ((laws_words9.f k bt468.1 bt472.1).bind fun t476 => (laws_FnPalindromes.j0 k l0 t467 bt468.1 bt468.2 (!t476))) else (laws_FnPalindromes.j0 k l0 t467 bt468.1 bt468.2 true))))))
theorem laws_FnPalindromes.mono_l : ∀ k, (∀ y0 y1 y2 y3 y4, LeO (laws_FnPalindromes.j0 k y0 y1 y2 y3 y4) (laws_FnPalindromes.j0 (k + 1) y0 y1 y2 y3 y4)) ∧ (∀ y0 y1 y2 y3 y4 y5 y6, LeO (laws_FnPalindromes.j1 k y0 y1 y2 y3 y4 y5 y6) (laws_FnPalindromes.j1 (k + 1) y0 y1 y2 y3 y4 y5 y6)) ∧ (∀ y0 y1 y2 y3 y4 y5 y6 y7 y8, LeO (laws_FnPalindromes.j2 k y0 y1 y2 y3 y4 y5 y6 y7 y8) (laws_FnPalindromes.j2 (k + 1) y0 y1 y2 y3 y4 y5 y6 y7 y8)) ∧ (∀ y0 y1 y2 y3 y4 y5 y6 y7 y8 y9 y10, LeO (laws_FnPalindromes.j3 k y0 y1 y2 y3 y4 y5 y6 y7 y8 y9 y10) (laws_FnPalindromes.j3 (k + 1) y0 y1 y2 y3 y4 y5 y6 y7 y8 y9 y10)) ∧ (∀ y0 y1 y2 y3 y4 y5 y6 y7 y8 y9 y10 y11 y12, LeO (laws_FnPalindromes.j4 k y0 y1 y2 y3 y4 y5 y6 y7 y8 y9 y10 y11 y12) (laws_FnPalindromes.j4 (k + 1) y0 y1 y2 y3 y4 y5 y6 y7 y8 y9 y10 y11 y12)) ∧ (∀ y0 y1 y2 y3 y4 y5 y6 y7 y8 y9 y10 y11, LeO (laws_FnPalindromes.j5 k y0 y1 y2 y3 y4 y5 y6 y7 y8 y9 y10 y11) (laws_FnPalindromes.j5 (k + 1) y0 y1 y2 y3 y4 y5 y6 y7 y8 y9 y10 y11)) ∧ (∀ y0 y1 y2 y3 y4 y5, LeO (laws_FnPalindromes.j6 k y0 y1 y2 y3 y4 y5) (laws_FnPalindromes.j6 (k + 1) y0 y1 y2 y3 y4 y5)) ∧ (∀ y0 y1 y2 y3 y4 y5 y6, LeO (laws_FnPalindromes.l0 k y0 y1 y2 y3 y4 y5 y6) (laws_FnPalindromes.l0 (k + 1) y0 y1 y2 y3 y4 y5 y6)) ∧ (∀ y0 y1 y2 y3 y4 y5, LeO (laws_FnPalindromes.l1 k y0 y1 y2 y3 y4 y5) (laws_FnPalindromes.l1 (k + 1) y0 y1 y2 y3 y4 y5)) ∧ (∀ y0 y1 y2 y3 y4 y5 y6, LeO (laws_FnPalindromes.j9 k y0 y1 y2 y3 y4 y5 y6) (laws_FnPalindromes.j9 (k + 1) y0 y1 y2 y3 y4 y5 y6))
 | 0 => ⟨fun _ _ _ _ _ r h => by simp [laws_FnPalindromes.j0] at h, fun _ _ _ _ _ _ _ r h => by simp [laws_FnPalindromes.j1] at h, fun _ _ _ _ _ _ _ _ _ r h => by simp [laws_FnPalindromes.j2] at h, fun _ _ _ _ _ _ _ _ _ _ _ r h => by simp [laws_FnPalindromes.j3] at h, fun _ _ _ _ _ _ _ _ _ _ _ _ _ r h => by simp [laws_FnPalindromes.j4] at h, fun _ _ _ _ _ _ _ _ _ _ _ _ r h => by simp [laws_FnPalindromes.j5] at h, fun _ _ _ _ _ _ r h => by simp [laws_FnPalindromes.j6] at h, fun _ _ _ _ _ _ _ r h => by simp [laws_FnPalindromes.l0] at h, fun _ _ _ _ _ _ r h => by simp [laws_FnPalindromes.l1] at h, fun _ _ _ _ _ _ _ r h => by simp [laws_FnPalindromes.j9] at h⟩
 | k + 1 => by
  obtain ⟨ih0, ih1, ih2, ih3, ih4, ih5, ih6, ih7, ih8, ih9⟩ := laws_FnPalindromes.mono_l k
  refine ⟨?_, ?_, ?_, ?_, ?_, ?_, ?_, ?_, ?_, ?_⟩
  all_goals intros
  all_goals first | unfold laws_FnPalindromes.j0 | unfold laws_FnPalindromes.j1 | unfold laws_FnPalindromes.j2 | unfold laws_FnPalindromes.j3 | unfold laws_FnPalindromes.j4 | unfold laws_FnPalindromes.j5 | unfold laws_FnPalindromes.j6 | unfold laws_FnPalindromes.l0 | unfold laws_FnPalindromes.l1 | unfold laws_FnPalindromes.j9
  all_goals with_reducible repeat' first
  | exact ih0 _ _ _ _ _
  | exact ih1 _ _ _ _ _ _ _
  | exact ih2 _ _ _ _ _ _ _ _ _
  | exact ih3 _ _ _ _ _ _ _ _ _ _ _
  | exact ih4 _ _ _ _ _ _ _ _ _ _ _ _ _
  | exact ih5 _ _ _ _ _ _ _ _ _ _ _ _
  | exact ih6 _ _ _ _ _ _
  | exact ih7 _ _ _ _ _ _ _
  | exact ih8 _ _ _ _ _ _
  | exact ih9 _ _ _ _ _ _ _
  | exact impl_CountPalindromes.mono _ _
  | exact impl_DefectOf.mono _ _
  | exact impl_EndLengths.mono _ _
  | exact impl_IsPalindrome.mono _ _
  | exact impl_LongestPalindrome.mono _ _
  | exact impl_PalindromesOf.mono _ _
  | exact impl_PlacesOf.mono _ _ _
  | exact laws_likeInts.mono _ _ _
  | exact laws_words9.mono _ _ _
  | exact spec_CountPalindromes.mono _ _
  | exact spec_DefectOf.mono _ _
  | exact spec_DrawIsPalindrome.mono _ _
  | exact spec_DrawPalindromesOf.mono _ _
  | exact spec_EndLengths.mono _ _
  | exact spec_IsPalindrome.mono _ _
  | exact spec_LongestPalindrome.mono _ _
  | exact spec_PalindromesOf.mono _ _
  | exact LeO.refl _
  | exact LeO.none _
  | refine LeO.ite ?_ ?_
  | refine LeO.bind ?_ (fun _ => ?_)
theorem laws_FnPalindromes.mono : ∀ a0 k, LeO (laws_FnPalindromes.f k a0) (laws_FnPalindromes.f (k + 1) a0) := by
 intro a0 k
 obtain ⟨ih0, ih1, ih2, ih3, ih4, ih5, ih6, ih7, ih8, ih9⟩ := laws_FnPalindromes.mono_l k
 unfold laws_FnPalindromes.f
 with_reducible repeat' first
   | exact ih0 _ _ _ _ _
   | exact ih1 _ _ _ _ _ _ _
   | exact ih2 _ _ _ _ _ _ _ _ _
   | exact ih3 _ _ _ _ _ _ _ _ _ _ _
   | exact ih4 _ _ _ _ _ _ _ _ _ _ _ _ _
   | exact ih5 _ _ _ _ _ _ _ _ _ _ _ _
   | exact ih6 _ _ _ _ _ _
   | exact ih7 _ _ _ _ _ _ _
   | exact ih8 _ _ _ _ _ _
   | exact ih9 _ _ _ _ _ _ _
   | exact impl_CountPalindromes.mono _ _
   | exact impl_DefectOf.mono _ _
   | exact impl_EndLengths.mono _ _
   | exact impl_IsPalindrome.mono _ _
   | exact impl_LongestPalindrome.mono _ _
   | exact impl_PalindromesOf.mono _ _
   | exact impl_PlacesOf.mono _ _ _
   | exact laws_likeInts.mono _ _ _
   | exact laws_words9.mono _ _ _
   | exact spec_CountPalindromes.mono _ _
   | exact spec_DefectOf.mono _ _
   | exact spec_DrawIsPalindrome.mono _ _
   | exact spec_DrawPalindromesOf.mono _ _
   | exact spec_EndLengths.mono _ _
   | exact spec_IsPalindrome.mono _ _
   | exact spec_LongestPalindrome.mono _ _
   | exact spec_PalindromesOf.mono _ _
   | exact LeO.refl _
   | exact LeO.none _
   | refine LeO.ite ?_ ?_
   | refine LeO.bind ?_ (fun _ => ?_)
set_option maxHeartbeats 8000000 in
set_option maxRecDepth 100000 in
theorem laws_FnPalindromes.calls (k : Nat) (A0 : Option Addr) (c0 : Nat) (l0 : List Int) (r : Bool) (w : World) (hr0 : Kd.C (Kd.int .u8) w A0 l0.length l0) (hc0 : l0.length ≤ c0) (h : laws_FnPalindromes.f k l0 = some r) :
  Calls Try.prog 3 #[.slice A0 l0.length c0] w fun e w' => e = .returned (.bool r) ∧ Below w.heap.size w w' := by
 have HR0 := Aside0.mk hr0
 have HC0 := Aside0.mk hc0
 clear hr0 hc0
 have HB := Aside0.mk (Below.refl w.heap.size w)
 have H : ((laws_big.f l0).bind fun t466 => (if t466 = true then (some true) else ((spec_DrawPalindromesOf.f k l0).bind fun t467 => ((impl_PalindromesOf.f k t467).bind fun bt468 => ((spec_PalindromesOf.f k t467).bind fun bt472 => (if bt468.2 = bt472.2 then ((laws_words9.f k bt468.1 bt472.1).bind fun t476 => (laws_FnPalindromes.j0 k l0 t467 bt468.1 bt468.2 (!t476))) else (laws_FnPalindromes.j0 k l0 t467 bt468.1 bt468.2 true))))))) = some r := h
 clear h
 replace H := qN H
 obtain ⟨t466, A2, H⟩ := H
 try dsimp only at H
 by_cases c3 : t466 = true
 ·
  subst c3
  rw [if_pos rfl] at H
  obtain rfl := Option.some.inj H
  go_enter Try.func3, Try.ntmps3
  as_aux_lemma =>
   go_wp2_with (first | (go_at_call 4; (with_reducible refine (laws_big.calls _ _ l0 true _ ?side1 ?side2 A2.out).mono ?_); (case side1 => exact qC HR0.out); (case side2 => exact HC0.out); rintro e w' ⟨rfl, ⟨nd, rfl⟩⟩; (try first | exact ⟨rfl, _, World.drewN_drewN _ _ _⟩ | exact ⟨rfl, _, Eq.trans (World.drewN_drewN _ _ _) (congrArg (World.drewN _) (Nat.add_assoc _ _ _))⟩)))
   repeat (go_quiet (first | (go_at_call 4; (with_reducible refine (laws_big.calls _ _ l0 true _ ?side1 ?side2 A2.out).mono ?_); (case side1 => exact qC HR0.out); (case side2 => exact HC0.out); rintro e w' ⟨rfl, ⟨nd, rfl⟩⟩; (try first | exact ⟨rfl, _, World.drewN_drewN _ _ _⟩ | exact ⟨rfl, _, Eq.trans (World.drewN_drewN _ _ _) (congrArg (World.drewN _) (Nat.add_assoc _ _ _))⟩))); try go_wp2_with (first | (go_at_call 4; (with_reducible refine (laws_big.calls _ _ l0 true _ ?side1 ?side2 A2.out).mono ?_); (case side1 => exact qC HR0.out); (case side2 => exact HC0.out); rintro e w' ⟨rfl, ⟨nd, rfl⟩⟩; (try first | exact ⟨rfl, _, World.drewN_drewN _ _ _⟩ | exact ⟨rfl, _, Eq.trans (World.drewN_drewN _ _ _) (congrArg (World.drewN _) (Nat.add_assoc _ _ _))⟩))))
   go_ret
   exact ⟨qE, qB HB.out⟩
 replace c3 := Bool.eq_false_iff.mpr c3
 subst c3
 rw [if_neg (show ¬ (false = true) by decide)] at H
 replace H := qN H
 obtain ⟨t467, A4, H⟩ := H
 try dsimp only at H
 replace H := qN H
 obtain ⟨⟨t468, t469⟩, A5, H⟩ := H
 try dsimp only at H
 replace H := qN H
 obtain ⟨⟨t472, t473⟩, A6, H⟩ := H
 try dsimp only at H
 have HC7 := Aside0.mk H
 clear H
 go_enter Try.func3, Try.ntmps3
 go_upto_region 6 with (first | (go_at_call 4; (with_reducible refine (laws_big.calls _ _ l0 false _ ?side1 ?side2 A2.out).mono ?_); (case side1 => exact qC HR0.out); (case side2 => exact HC0.out); rintro e w' ⟨rfl, ⟨nd, rfl⟩⟩; (try first | exact ⟨rfl, _, World.drewN_drewN _ _ _⟩ | exact ⟨rfl, _, Eq.trans (World.drewN_drewN _ _ _) (congrArg (World.drewN _) (Nat.add_assoc _ _ _))⟩)) | (go_at_call 5; (with_reducible refine (spec_DrawPalindromesOf.calls k _ _ l0 t467 _ ?side1 ?side2 A4.out).mono ?_); (case side1 => exact qC HR0.out); (case side2 => exact HC0.out); rintro e w8 ⟨rfl, hb⟩; replace HB := Aside0.mk (below_step (qB HB.out) hb)) | (go_at_call 6; (with_reducible refine (impl_PalindromesOf.calls k t467 t468 t469 _ A5.out).mono ?_); rintro e w9 ⟨v470, rfl, ho0, hb⟩; have HO471 := Aside0.mk (Kd.R_lower ho0 (below_size (qB HB.out))); replace HB := Aside0.mk (below_step (qB HB.out) hb)) | (go_at_call 7; (with_reducible refine (spec_PalindromesOf.calls k t467 t472 t473 _ A6.out).mono ?_); rintro e w10 ⟨v474, rfl, ho0, hb⟩; have HO475 := Aside0.mk (Kd.R_lower (Kd.R_new' ho0 (Kd.R_lt (qR HO471.out))) (below_size (qB HB.out))); replace HO471 := Aside0.mk (Kd.R_elder' (qR HO471.out) (Kd.R_base ho0) hb); replace HB := Aside0.mk (below_step (qB HB.out) hb)))
 repeat (go_quiet (first | (go_at_call 4; (with_reducible refine (laws_big.calls _ _ l0 false _ ?side1 ?side2 A2.out).mono ?_); (case side1 => exact qC HR0.out); (case side2 => exact HC0.out); rintro e w' ⟨rfl, ⟨nd, rfl⟩⟩; (try first | exact ⟨rfl, _, World.drewN_drewN _ _ _⟩ | exact ⟨rfl, _, Eq.trans (World.drewN_drewN _ _ _) (congrArg (World.drewN _) (Nat.add_assoc _ _ _))⟩)) | (go_at_call 5; (with_reducible refine (spec_DrawPalindromesOf.calls k _ _ l0 t467 _ ?side1 ?side2 A4.out).mono ?_); (case side1 => exact qC HR0.out); (case side2 => exact HC0.out); rintro e w8 ⟨rfl, hb⟩; replace HB := Aside0.mk (below_step (qB HB.out) hb)) | (go_at_call 6; (with_reducible refine (impl_PalindromesOf.calls k t467 t468 t469 _ A5.out).mono ?_); rintro e w9 ⟨v470, rfl, ho0, hb⟩; have HO471 := Aside0.mk (Kd.R_lower ho0 (below_size (qB HB.out))); replace HB := Aside0.mk (below_step (qB HB.out) hb)) | (go_at_call 7; (with_reducible refine (spec_PalindromesOf.calls k t467 t472 t473 _ A6.out).mono ?_); rintro e w10 ⟨v474, rfl, ho0, hb⟩; have HO475 := Aside0.mk (Kd.R_lower (Kd.R_new' ho0 (Kd.R_lt (qR HO471.out))) (below_size (qB HB.out))); replace HO471 := Aside0.mk (Kd.R_elder' (qR HO471.out) (Kd.R_base ho0) hb); replace HB := Aside0.mk (below_step (qB HB.out) hb))); go_upto_region 6 with (first | (go_at_call 4; (with_reducible refine (laws_big.calls _ _ l0 false _ ?side1 ?side2 A2.out).mono ?_); (case side1 => exact qC HR0.out); (case side2 => exact HC0.out); rintro e w' ⟨rfl, ⟨nd, rfl⟩⟩; (try first | exact ⟨rfl, _, World.drewN_drewN _ _ _⟩ | exact ⟨rfl, _, Eq.trans (World.drewN_drewN _ _ _) (congrArg (World.drewN _) (Nat.add_assoc _ _ _))⟩)) | (go_at_call 5; (with_reducible refine (spec_DrawPalindromesOf.calls k _ _ l0 t467 _ ?side1 ?side2 A4.out).mono ?_); (case side1 => exact qC HR0.out); (case side2 => exact HC0.out); rintro e w8 ⟨rfl, hb⟩; replace HB := Aside0.mk (below_step (qB HB.out) hb)) | (go_at_call 6; (with_reducible refine (impl_PalindromesOf.calls k t467 t468 t469 _ A5.out).mono ?_); rintro e w9 ⟨v470, rfl, ho0, hb⟩; have HO471 := Aside0.mk (Kd.R_lower ho0 (below_size (qB HB.out))); replace HB := Aside0.mk (below_step (qB HB.out) hb)) | (go_at_call 7; (with_reducible refine (spec_PalindromesOf.calls k t467 t472 t473 _ A6.out).mono ?_); rintro e w10 ⟨v474, rfl, ho0, hb⟩; have HO475 := Aside0.mk (Kd.R_lower (Kd.R_new' ho0 (Kd.R_lt (qR HO471.out))) (below_size (qB HB.out))); replace HO471 := Aside0.mk (Kd.R_elder' (qR HO471.out) (Kd.R_base ho0) hb); replace HB := Aside0.mk (below_step (qB HB.out) hb))))
 (try simp only [Act.put, List.setIfInBounds_toArray, List.set_cons_zero, List.set_cons_succ])
 go_cut [60] (fun v60 wc => ∃ (kq : Nat) (x60_6 : Bool), v60 = .bool x60_6 ∧ Aside0 (laws_FnPalindromes.j0 kq l0 t467 t468 t469 x60_6 = some r) ∧ Aside0 (kq ≤ k) ∧ Aside0 (Kd.R Kd.string 9 wc w.heap.size (fun _ => True) v470 t468) ∧ Aside0 (Below w.heap.size w wc))
 case first => as_aux_lemma =>
  have H := HC7.out
  clear HC7
  by_cases c11 : t469 = t473
  rotate_left
  ·
   rw [if_neg c11] at H
   obtain ⟨c11b0, c11b1⟩ := zF c11
   (first | rw [c11b0] | (simp only [i64_w, i32_w]; rw [c11b0]) | skip)
   have H' := Aside0.mk H
   clear H
   as_aux_lemma =>
    go_wp2
    repeat (go_quiet (fail); try go_wp2)
    go_meet
    case rel => exact ⟨_, (true), qF, H', ⟨by first | omega | exact Nat.le_refl _⟩, ⟨by (with_reducible repeat (first | apply Kd.R_alloc | apply Kd.R_drewN | apply Kd.R_drew)); exact Kd.R_mono HO471.out (fun _ hk => trivial)⟩, ⟨qB HB.out⟩⟩
  rw [if_pos c11] at H
  obtain ⟨c11b0, c11b1⟩ := zT c11
  clear c11
  (first | rw [c11b0] | (simp only [i64_w, i32_w]; rw [c11b0]) | skip)
  replace H := qN H
  obtain ⟨t476, A12, H⟩ := H
  try dsimp only at H
  have H' := Aside0.mk H
  clear H
  obtain ⟨Ao13, co13, eo13⟩ := Kd.R_slice HO471.out
  subst eo13
  obtain ⟨Ao14, co14, eo14⟩ := Kd.R_slice HO475.out
  subst eo14
  as_aux_lemma =>
   go_wp2_with (first | (go_at_call 8; (with_reducible refine (laws_words9.calls k _ _ t468 _ _ t472 t476 _ ?side1 ?side2 ?side3 ?side4 A12.out).mono ?_); (case side1 => exact qC (Kd.R_reads' HO471.out).2.2); (case side2 => exact (Kd.R_reads' HO471.out).2.1); (case side3 => exact qC (Kd.R_reads' HO475.out).2.2); (case side4 => exact (Kd.R_reads' HO475.out).2.1); rintro e w' ⟨rfl, ⟨nd, rfl⟩⟩; (try first | exact ⟨rfl, _, World.drewN_drewN _ _ _⟩ | exact ⟨rfl, _, Eq.trans (World.drewN_drewN _ _ _) (congrArg (World.drewN _) (Nat.add_assoc _ _ _))⟩)))
   repeat (go_quiet (first | (go_at_call 8; (with_reducible refine (laws_words9.calls k _ _ t468 _ _ t472 t476 _ ?side1 ?side2 ?side3 ?side4 A12.out).mono ?_); (case side1 => exact qC (Kd.R_reads' HO471.out).2.2); (case side2 => exact (Kd.R_reads' HO471.out).2.1); (case side3 => exact qC (Kd.R_reads' HO475.out).2.2); (case side4 => exact (Kd.R_reads' HO475.out).2.1); rintro e w' ⟨rfl, ⟨nd, rfl⟩⟩; (try first | exact ⟨rfl, _, World.drewN_drewN _ _ _⟩ | exact ⟨rfl, _, Eq.trans (World.drewN_drewN _ _ _) (congrArg (World.drewN _) (Nat.add_assoc _ _ _))⟩))); try go_wp2_with (first | (go_at_call 8; (with_reducible refine (laws_words9.calls k _ _ t468 _ _ t472 t476 _ ?side1 ?side2 ?side3 ?side4 A12.out).mono ?_); (case side1 => exact qC (Kd.R_reads' HO471.out).2.2); (case side2 => exact (Kd.R_reads' HO471.out).2.1); (case side3 => exact qC (Kd.R_reads' HO475.out).2.2); (case side4 => exact (Kd.R_reads' HO475.out).2.1); rintro e w' ⟨rfl, ⟨nd, rfl⟩⟩; (try first | exact ⟨rfl, _, World.drewN_drewN _ _ _⟩ | exact ⟨rfl, _, Eq.trans (World.drewN_drewN _ _ _) (congrArg (World.drewN _) (Nat.add_assoc _ _ _))⟩))))
   go_meet
   case rel => exact ⟨_, (!t476), qF, H', ⟨by first | omega | exact Nat.le_refl _⟩, ⟨by (with_reducible repeat (first | apply Kd.R_alloc | apply Kd.R_drewN | apply Kd.R_drew)); exact Kd.R_mono HO471.out (fun _ hk => trivial)⟩, ⟨qB HB.out⟩⟩
 case rest => as_aux_lemma =>
  clear HC7
  obtain ⟨kq, x60_6, rfl, HA, HJ6, HO_4, HB⟩ := hcut
  cases kq with
  | zero => exact absurd HA.out (by simp [laws_FnPalindromes.j0])
  | succ kj6 =>
   have H := HA.out
   clear HA
   simp only [laws_FnPalindromes.j0] at H
   by_cases c15 : x60_6 = true
   ·
    subst c15
    rw [if_pos rfl] at H
    obtain rfl := Option.some.inj H
    as_aux_lemma =>
     go_wp2
     repeat (go_quiet (fail); try go_wp2)
     go_ret
     exact ⟨qE, qB HB.out⟩
   replace c15 := Bool.eq_false_iff.mpr c15
   subst c15
   rw [if_neg (show ¬ (false = true) by decide)] at H
   replace H := qN H
   obtain ⟨⟨t477, t478⟩, A16, H⟩ := H
   try dsimp only at H
   replace H := qN H
   obtain ⟨⟨t479, t480⟩, A17, H⟩ := H
   try dsimp only at H
   have HC18 := Aside0.mk H
   clear H
   go_upto_region 10 with (first | (go_at_call 9; (with_reducible refine (impl_CountPalindromes.calls kj6 t467 t477 t478 _ A16.out).mono ?_); rintro e w19 ⟨rfl, hb⟩; replace HO_4 := Aside0.mk (Kd.R_below (qR HO_4.out) hb); replace HB := Aside0.mk (below_step (qB HB.out) hb)) | (go_at_call 10; (with_reducible refine (spec_CountPalindromes.calls kj6 t467 t479 t480 _ A17.out).mono ?_); rintro e w' ⟨rfl, ⟨nd, rfl⟩⟩; (try first | exact ⟨rfl, _, World.drewN_drewN _ _ _⟩ | exact ⟨rfl, _, Eq.trans (World.drewN_drewN _ _ _) (congrArg (World.drewN _) (Nat.add_assoc _ _ _))⟩)))
   repeat (go_quiet (first | (go_at_call 9; (with_reducible refine (impl_CountPalindromes.calls kj6 t467 t477 t478 _ A16.out).mono ?_); rintro e w19 ⟨rfl, hb⟩; replace HO_4 := Aside0.mk (Kd.R_below (qR HO_4.out) hb); replace HB := Aside0.mk (below_step (qB HB.out) hb)) | (go_at_call 10; (with_reducible refine (spec_CountPalindromes.calls kj6 t467 t479 t480 _ A17.out).mono ?_); rintro e w' ⟨rfl, ⟨nd, rfl⟩⟩; (try first | exact ⟨rfl, _, World.drewN_drewN _ _ _⟩ | exact ⟨rfl, _, Eq.trans (World.drewN_drewN _ _ _) (congrArg (World.drewN _) (Nat.add_assoc _ _ _))⟩))); go_upto_region 10 with (first | (go_at_call 9; (with_reducible refine (impl_CountPalindromes.calls kj6 t467 t477 t478 _ A16.out).mono ?_); rintro e w19 ⟨rfl, hb⟩; replace HO_4 := Aside0.mk (Kd.R_below (qR HO_4.out) hb); replace HB := Aside0.mk (below_step (qB HB.out) hb)) | (go_at_call 10; (with_reducible refine (spec_CountPalindromes.calls kj6 t467 t479 t480 _ A17.out).mono ?_); rintro e w' ⟨rfl, ⟨nd, rfl⟩⟩; (try first | exact ⟨rfl, _, World.drewN_drewN _ _ _⟩ | exact ⟨rfl, _, Eq.trans (World.drewN_drewN _ _ _) (congrArg (World.drewN _) (Nat.add_assoc _ _ _))⟩))))
   (try simp only [Act.put, List.setIfInBounds_toArray, List.set_cons_zero, List.set_cons_succ])
   go_cut [78] (fun v78 wc => ∃ (kq : Nat) (x78_17 : Bool), v78 = .bool x78_17 ∧ Aside0 (laws_FnPalindromes.j1 kq l0 t467 t468 t469 t477 t478 x78_17 = some r) ∧ Aside0 (kq ≤ kj6) ∧ Aside0 (Kd.R Kd.string 9 wc w.heap.size (fun _ => True) v470 t468) ∧ Aside0 (Below w.heap.size w wc))
   case first => as_aux_lemma =>
    have H := HC18.out
    clear HC18
    by_cases c20 : t478 = t480
    ·
     rw [if_pos c20] at H
     obtain ⟨c20b0, c20b1⟩ := zT c20
     clear c20
     (first | rw [c20b0] | (simp only [i64_w, i32_w]; rw [c20b0]) | skip)
     have H' := Aside0.mk H
     clear H
     as_aux_lemma =>
      go_wp2
      repeat (go_quiet (fail); try go_wp2)
      go_meet
      case rel => exact ⟨_, ((t477 != t479)), qF, H', ⟨by have := HJ6.out; first | omega | exact Nat.le_refl _⟩, ⟨qR HO_4.out⟩, ⟨qB HB.out⟩⟩
    rw [if_neg c20] at H
    obtain ⟨c20b0, c20b1⟩ := zF c20
    (first | rw [c20b0] | (simp only [i64_w, i32_w]; rw [c20b0]) | skip)
    have H' := Aside0.mk H
    clear H
    as_aux_lemma =>
     go_wp2
     repeat (go_quiet (fail); try go_wp2)
     go_meet
     case rel => exact ⟨_, (true), qF, H', ⟨by have := HJ6.out; first | omega | exact Nat.le_refl _⟩, ⟨qR HO_4.out⟩, ⟨qB HB.out⟩⟩
   case rest => as_aux_lemma =>
    clear HC18
    obtain ⟨kq, x78_17, rfl, HA, HJ17, HO_4, HB⟩ := hcut
    cases kq with
    | zero => exact absurd HA.out (by simp [laws_FnPalindromes.j1])
    | succ kj17 =>
     have H := HA.out
     clear HA
     simp only [laws_FnPalindromes.j1] at H
     by_cases c21 : x78_17 = true
     ·
      subst c21
      rw [if_pos rfl] at H
      obtain rfl := Option.some.inj H
      as_aux_lemma =>
       go_wp2
       repeat (go_quiet (fail); try go_wp2)
       go_ret
       exact ⟨qE, qB HB.out⟩
     replace c21 := Bool.eq_false_iff.mpr c21
     subst c21
     rw [if_neg (show ¬ (false = true) by decide)] at H
     replace H := qN H
     obtain ⟨⟨t481, t482⟩, A22, H⟩ := H
     try dsimp only at H
     replace H := qN H
     obtain ⟨⟨t483, t484⟩, A23, H⟩ := H
     try dsimp only at H
     have HC24 := Aside0.mk H
     clear H
     go_upto_region 14 with (first | (go_at_call 11; (with_reducible refine (impl_DefectOf.calls kj17 t467 t481 t482 _ A22.out).mono ?_); rintro e w25 ⟨rfl, hb⟩; replace HO_4 := Aside0.mk (Kd.R_below (qR HO_4.out) hb); replace HB := Aside0.mk (below_step (qB HB.out) hb)) | (go_at_call 12; (with_reducible refine (spec_DefectOf.calls kj17 t467 t483 t484 _ A23.out).mono ?_); rintro e w26 ⟨rfl, hb⟩; replace HO_4 := Aside0.mk (Kd.R_below (qR HO_4.out) hb); replace HB := Aside0.mk (below_step (qB HB.out) hb)))
     repeat (go_quiet (first | (go_at_call 11; (with_reducible refine (impl_DefectOf.calls kj17 t467 t481 t482 _ A22.out).mono ?_); rintro e w25 ⟨rfl, hb⟩; replace HO_4 := Aside0.mk (Kd.R_below (qR HO_4.out) hb); replace HB := Aside0.mk (below_step (qB HB.out) hb)) | (go_at_call 12; (with_reducible refine (spec_DefectOf.calls kj17 t467 t483 t484 _ A23.out).mono ?_); rintro e w26 ⟨rfl, hb⟩; replace HO_4 := Aside0.mk (Kd.R_below (qR HO_4.out) hb); replace HB := Aside0.mk (below_step (qB HB.out) hb))); go_upto_region 14 with (first | (go_at_call 11; (with_reducible refine (impl_DefectOf.calls kj17 t467 t481 t482 _ A22.out).mono ?_); rintro e w25 ⟨rfl, hb⟩; replace HO_4 := Aside0.mk (Kd.R_below (qR HO_4.out) hb); replace HB := Aside0.mk (below_step (qB HB.out) hb)) | (go_at_call 12; (with_reducible refine (spec_DefectOf.calls kj17 t467 t483 t484 _ A23.out).mono ?_); rintro e w26 ⟨rfl, hb⟩; replace HO_4 := Aside0.mk (Kd.R_below (qR HO_4.out) hb); replace HB := Aside0.mk (below_step (qB HB.out) hb))))
     (try simp only [Act.put, List.setIfInBounds_toArray, List.set_cons_zero, List.set_cons_succ])
     go_cut [96] (fun v96 wc => ∃ (kq : Nat) (x96_23 : Bool), v96 = .bool x96_23 ∧ Aside0 (laws_FnPalindromes.j2 kq l0 t467 t468 t469 t477 t478 t481 t482 x96_23 = some r) ∧ Aside0 (kq ≤ kj17) ∧ Aside0 (Kd.R Kd.string 9 wc w.heap.size (fun _ => True) v470 t468) ∧ Aside0 (Below w.heap.size w wc))
     case first => as_aux_lemma =>
      have H := HC24.out
      clear HC24
      by_cases c27 : t482 = t484
      ·
       rw [if_pos c27] at H
       obtain ⟨c27b0, c27b1⟩ := zT c27
       clear c27
       (first | rw [c27b0] | (simp only [i64_w, i32_w]; rw [c27b0]) | skip)
       have H' := Aside0.mk H
       clear H
       as_aux_lemma =>
        go_wp2
        repeat (go_quiet (fail); try go_wp2)
        go_meet
        case rel => exact ⟨_, ((t481 != t483)), qF, H', ⟨by have := HJ6.out; have := HJ17.out; first | omega | exact Nat.le_refl _⟩, ⟨qR HO_4.out⟩, ⟨qB HB.out⟩⟩
      rw [if_neg c27] at H
      obtain ⟨c27b0, c27b1⟩ := zF c27
      (first | rw [c27b0] | (simp only [i64_w, i32_w]; rw [c27b0]) | skip)
      have H' := Aside0.mk H
      clear H
      as_aux_lemma =>
       go_wp2
       repeat (go_quiet (fail); try go_wp2)
       go_meet
       case rel => exact ⟨_, (true), qF, H', ⟨by have := HJ6.out; have := HJ17.out; first | omega | exact Nat.le_refl _⟩, ⟨qR HO_4.out⟩, ⟨qB HB.out⟩⟩
     case rest => as_aux_lemma =>
      clear HC24
      obtain ⟨kq, x96_23, rfl, HA, HJ23, HO_4, HB⟩ := hcut
      cases kq with
      | zero => exact absurd HA.out (by simp [laws_FnPalindromes.j2])
      | succ kj23 =>
       have H := HA.out
       clear HA
       simp only [laws_FnPalindromes.j2] at H
       by_cases c28 : x96_23 = true
       ·
        subst c28
        rw [if_pos rfl] at H
        obtain rfl := Option.some.inj H
        as_aux_lemma =>
         go_wp2
         repeat (go_quiet (fail); try go_wp2)
         go_ret
         exact ⟨qE, qB HB.out⟩
       replace c28 := Bool.eq_false_iff.mpr c28
       subst c28
       rw [if_neg (show ¬ (false = true) by decide)] at H
       replace H := qN H
       obtain ⟨⟨t485, t486, t487⟩, A29, H⟩ := H
       try dsimp only at H
       replace H := qN H
       obtain ⟨⟨t488, t489, t490⟩, A30, H⟩ := H
       try dsimp only at H
       have HC31 := Aside0.mk H
       clear H
       go_upto_region 18 with (first | (go_at_call 13; (with_reducible refine (impl_LongestPalindrome.calls kj23 t467 t485 t486 t487 _ A29.out).mono ?_); rintro e w32 ⟨rfl, hb⟩; replace HO_4 := Aside0.mk (Kd.R_below (qR HO_4.out) hb); replace HB := Aside0.mk (below_step (qB HB.out) hb)) | (go_at_call 14; (with_reducible refine (spec_LongestPalindrome.calls kj23 t467 t488 t489 t490 _ A30.out).mono ?_); rintro e w' ⟨rfl, ⟨nd, rfl⟩⟩; (try first | exact ⟨rfl, _, World.drewN_drewN _ _ _⟩ | exact ⟨rfl, _, Eq.trans (World.drewN_drewN _ _ _) (congrArg (World.drewN _) (Nat.add_assoc _ _ _))⟩)))
       repeat (go_quiet (first | (go_at_call 13; (with_reducible refine (impl_LongestPalindrome.calls kj23 t467 t485 t486 t487 _ A29.out).mono ?_); rintro e w32 ⟨rfl, hb⟩; replace HO_4 := Aside0.mk (Kd.R_below (qR HO_4.out) hb); replace HB := Aside0.mk (below_step (qB HB.out) hb)) | (go_at_call 14; (with_reducible refine (spec_LongestPalindrome.calls kj23 t467 t488 t489 t490 _ A30.out).mono ?_); rintro e w' ⟨rfl, ⟨nd, rfl⟩⟩; (try first | exact ⟨rfl, _, World.drewN_drewN _ _ _⟩ | exact ⟨rfl, _, Eq.trans (World.drewN_drewN _ _ _) (congrArg (World.drewN _) (Nat.add_assoc _ _ _))⟩))); go_upto_region 18 with (first | (go_at_call 13; (with_reducible refine (impl_LongestPalindrome.calls kj23 t467 t485 t486 t487 _ A29.out).mono ?_); rintro e w32 ⟨rfl, hb⟩; replace HO_4 := Aside0.mk (Kd.R_below (qR HO_4.out) hb); replace HB := Aside0.mk (below_step (qB HB.out) hb)) | (go_at_call 14; (with_reducible refine (spec_LongestPalindrome.calls kj23 t467 t488 t489 t490 _ A30.out).mono ?_); rintro e w' ⟨rfl, ⟨nd, rfl⟩⟩; (try first | exact ⟨rfl, _, World.drewN_drewN _ _ _⟩ | exact ⟨rfl, _, Eq.trans (World.drewN_drewN _ _ _) (congrArg (World.drewN _) (Nat.add_assoc _ _ _))⟩))))
       (try simp only [Act.put, List.setIfInBounds_toArray, List.set_cons_zero, List.set_cons_succ])
       go_cut [121] (fun v121 wc => ∃ (kq : Nat) (x121_30 : Bool), v121 = .bool x121_30 ∧ Aside0 (laws_FnPalindromes.j3 kq l0 t467 t468 t469 t477 t478 t481 t482 t485 t487 x121_30 = some r) ∧ Aside0 (kq ≤ kj23) ∧ Aside0 (Kd.R Kd.string 9 wc w.heap.size (fun _ => True) v470 t468) ∧ Aside0 (Below w.heap.size w wc))
       case first => as_aux_lemma =>
        have H := HC31.out
        clear HC31
        by_cases c33 : t487 = t490
        rotate_left
        ·
         rw [if_neg c33] at H
         obtain ⟨c33b0, c33b1⟩ := zF c33
         (first | rw [c33b0] | (simp only [i64_w, i32_w]; rw [c33b0]) | skip)
         have H' := Aside0.mk H
         clear H
         as_aux_lemma =>
          go_wp2
          repeat (go_quiet (fail); try go_wp2)
          go_meet
          case rel => exact ⟨_, (true), qF, H', ⟨by have := HJ6.out; have := HJ17.out; have := HJ23.out; first | omega | exact Nat.le_refl _⟩, ⟨qR HO_4.out⟩, ⟨qB HB.out⟩⟩
        rw [if_pos c33] at H
        obtain ⟨c33b0, c33b1⟩ := zT c33
        clear c33
        (first | rw [c33b0] | (simp only [i64_w, i32_w]; rw [c33b0]) | skip)
        by_cases c34 : t485.toList = t488.toList
        ·
         rw [if_pos c34] at H
         obtain ⟨c34b0, c34b1⟩ := zT c34
         clear c34
         have H' := Aside0.mk H
         clear H
         as_aux_lemma =>
          go_wp2
          repeat (go_quiet (fail); try go_wp2)
          go_meet
          case rel => exact ⟨_, ((t486 != t489)), qF, H', ⟨by have := HJ6.out; have := HJ17.out; have := HJ23.out; first | omega | exact Nat.le_refl _⟩, ⟨qR HO_4.out⟩, ⟨qB HB.out⟩⟩
        rw [if_neg c34] at H
        obtain ⟨c34b0, c34b1⟩ := zF c34
        have H' := Aside0.mk H
        clear H
        as_aux_lemma =>
         go_wp2
         repeat (go_quiet (fail); try go_wp2)
         go_meet
         case rel => exact ⟨_, (true), qF, H', ⟨by have := HJ6.out; have := HJ17.out; have := HJ23.out; first | omega | exact Nat.le_refl _⟩, ⟨qR HO_4.out⟩, ⟨qB HB.out⟩⟩
       case rest => as_aux_lemma =>
        clear HC31
        obtain ⟨kq, x121_30, rfl, HA, HJ30, HO_4, HB⟩ := hcut
        cases kq with
        | zero => exact absurd HA.out (by simp [laws_FnPalindromes.j3])
        | succ kj30 =>
         have H := HA.out
         clear HA
         simp only [laws_FnPalindromes.j3] at H
         by_cases c35 : x121_30 = true
         ·
          subst c35
          rw [if_pos rfl] at H
          obtain rfl := Option.some.inj H
          as_aux_lemma =>
           go_wp2
           repeat (go_quiet (fail); try go_wp2)
           go_ret
           exact ⟨qE, qB HB.out⟩
         replace c35 := Bool.eq_false_iff.mpr c35
         subst c35
         rw [if_neg (show ¬ (false = true) by decide)] at H
         replace H := qN H
         obtain ⟨⟨t491, t492⟩, A36, H⟩ := H
         try dsimp only at H
         replace H := qN H
         obtain ⟨⟨t495, t496⟩, A37, H⟩ := H
         try dsimp only at H
         have HC38 := Aside0.mk H
         clear H
         go_upto_region 22 with (first | (go_at_call 15; (with_reducible refine (impl_EndLengths.calls kj30 t467 t491 t492 _ A36.out).mono ?_); rintro e w39 ⟨v493, rfl, ho0, hb⟩; replace HO_4 := Aside0.mk (Kd.R_below (qR HO_4.out) hb); have HO494 := Aside0.mk (Kd.R_lower ho0 (below_size (qB HB.out))); replace HB := Aside0.mk (below_step (qB HB.out) hb)) | (go_at_call 16; (with_reducible refine (spec_EndLengths.calls kj30 t467 t495 t496 _ A37.out).mono ?_); rintro e w40 ⟨v497, rfl, ho0, hb⟩; replace HO_4 := Aside0.mk (Kd.R_below (qR HO_4.out) hb); have HO498 := Aside0.mk (Kd.R_lower (Kd.R_new' ho0 (Kd.R_lt (qR HO494.out))) (below_size (qB HB.out))); replace HO494 := Aside0.mk (Kd.R_elder' (qR HO494.out) (Kd.R_base ho0) hb); replace HB := Aside0.mk (below_step (qB HB.out) hb)))
         repeat (go_quiet (first | (go_at_call 15; (with_reducible refine (impl_EndLengths.calls kj30 t467 t491 t492 _ A36.out).mono ?_); rintro e w39 ⟨v493, rfl, ho0, hb⟩; replace HO_4 := Aside0.mk (Kd.R_below (qR HO_4.out) hb); have HO494 := Aside0.mk (Kd.R_lower ho0 (below_size (qB HB.out))); replace HB := Aside0.mk (below_step (qB HB.out) hb)) | (go_at_call 16; (with_reducible refine (spec_EndLengths.calls kj30 t467 t495 t496 _ A37.out).mono ?_); rintro e w40 ⟨v497, rfl, ho0, hb⟩; replace HO_4 := Aside0.mk (Kd.R_below (qR HO_4.out) hb); have HO498 := Aside0.mk (Kd.R_lower (Kd.R_new' ho0 (Kd.R_lt (qR HO494.out))) (below_size (qB HB.out))); replace HO494 := Aside0.mk (Kd.R_elder' (qR HO494.out) (Kd.R_base ho0) hb); replace HB := Aside0.mk (below_step (qB HB.out) hb))); go_upto_region 22 with (first | (go_at_call 15; (with_reducible refine (impl_EndLengths.calls kj30 t467 t491 t492 _ A36.out).mono ?_); rintro e w39 ⟨v493, rfl, ho0, hb⟩; replace HO_4 := Aside0.mk (Kd.R_below (qR HO_4.out) hb); have HO494 := Aside0.mk (Kd.R_lower ho0 (below_size (qB HB.out))); replace HB := Aside0.mk (below_step (qB HB.out) hb)) | (go_at_call 16; (with_reducible refine (spec_EndLengths.calls kj30 t467 t495 t496 _ A37.out).mono ?_); rintro e w40 ⟨v497, rfl, ho0, hb⟩; replace HO_4 := Aside0.mk (Kd.R_below (qR HO_4.out) hb); have HO498 := Aside0.mk (Kd.R_lower (Kd.R_new' ho0 (Kd.R_lt (qR HO494.out))) (below_size (qB HB.out))); replace HO494 := Aside0.mk (Kd.R_elder' (qR HO494.out) (Kd.R_base ho0) hb); replace HB := Aside0.mk (below_step (qB HB.out) hb))))
         (try simp only [Act.put, List.setIfInBounds_toArray, List.set_cons_zero, List.set_cons_succ])
         go_cut [140] (fun v140 wc => ∃ (kq : Nat) (x140_37 : Bool), v140 = .bool x140_37 ∧ Aside0 (laws_FnPalindromes.j4 kq l0 t467 t468 t469 t477 t478 t481 t482 t485 t487 t491 t492 x140_37 = some r) ∧ Aside0 (kq ≤ kj30) ∧ Aside0 (Kd.R Kd.string 9 wc w.heap.size (fun _ => True) v470 t468) ∧ Aside0 (Kd.R (Kd.int .i64) 2 wc w.heap.size (fun _ => True) v493 t491) ∧ Aside0 (Below w.heap.size w wc))
         case first => as_aux_lemma =>
          have H := HC38.out
          clear HC38
          by_cases c41 : t492 = t496
          rotate_left
          ·
           rw [if_neg c41] at H
           obtain ⟨c41b0, c41b1⟩ := zF c41
           (first | rw [c41b0] | (simp only [i64_w, i32_w]; rw [c41b0]) | skip)
           have H' := Aside0.mk H
           clear H
           as_aux_lemma =>
            go_wp2
            repeat (go_quiet (fail); try go_wp2)
            go_meet
            case rel => exact ⟨_, (true), qF, H', ⟨by have := HJ6.out; have := HJ17.out; have := HJ23.out; have := HJ30.out; first | omega | exact Nat.le_refl _⟩, ⟨qR HO_4.out⟩, ⟨by (with_reducible repeat (first | apply Kd.R_alloc | apply Kd.R_drewN | apply Kd.R_drew)); exact Kd.R_mono HO494.out (fun _ hk => trivial)⟩, ⟨qB HB.out⟩⟩
          rw [if_pos c41] at H
          obtain ⟨c41b0, c41b1⟩ := zT c41
          clear c41
          (first | rw [c41b0] | (simp only [i64_w, i32_w]; rw [c41b0]) | skip)
          replace H := qN H
          obtain ⟨t499, A42, H⟩ := H
          try dsimp only at H
          have H' := Aside0.mk H
          clear H
          obtain ⟨Ao43, co43, eo43⟩ := Kd.R_slice HO494.out
          subst eo43
          obtain ⟨Ao44, co44, eo44⟩ := Kd.R_slice HO498.out
          subst eo44
          as_aux_lemma =>
           go_wp2_with (first | (go_at_call 17; (with_reducible refine (laws_likeInts.calls kj30 _ _ t491 _ _ t495 t499 _ ?side1 ?side2 ?side3 ?side4 A42.out).mono ?_); (case side1 => exact qC (Kd.R_reads' HO494.out).2.2); (case side2 => exact (Kd.R_reads' HO494.out).2.1); (case side3 => exact qC (Kd.R_reads' HO498.out).2.2); (case side4 => exact (Kd.R_reads' HO498.out).2.1); rintro e w' ⟨rfl, ⟨nd, rfl⟩⟩; (try first | exact ⟨rfl, _, World.drewN_drewN _ _ _⟩ | exact ⟨rfl, _, Eq.trans (World.drewN_drewN _ _ _) (congrArg (World.drewN _) (Nat.add_assoc _ _ _))⟩)))
           repeat (go_quiet (first | (go_at_call 17; (with_reducible refine (laws_likeInts.calls kj30 _ _ t491 _ _ t495 t499 _ ?side1 ?side2 ?side3 ?side4 A42.out).mono ?_); (case side1 => exact qC (Kd.R_reads' HO494.out).2.2); (case side2 => exact (Kd.R_reads' HO494.out).2.1); (case side3 => exact qC (Kd.R_reads' HO498.out).2.2); (case side4 => exact (Kd.R_reads' HO498.out).2.1); rintro e w' ⟨rfl, ⟨nd, rfl⟩⟩; (try first | exact ⟨rfl, _, World.drewN_drewN _ _ _⟩ | exact ⟨rfl, _, Eq.trans (World.drewN_drewN _ _ _) (congrArg (World.drewN _) (Nat.add_assoc _ _ _))⟩))); try go_wp2_with (first | (go_at_call 17; (with_reducible refine (laws_likeInts.calls kj30 _ _ t491 _ _ t495 t499 _ ?side1 ?side2 ?side3 ?side4 A42.out).mono ?_); (case side1 => exact qC (Kd.R_reads' HO494.out).2.2); (case side2 => exact (Kd.R_reads' HO494.out).2.1); (case side3 => exact qC (Kd.R_reads' HO498.out).2.2); (case side4 => exact (Kd.R_reads' HO498.out).2.1); rintro e w' ⟨rfl, ⟨nd, rfl⟩⟩; (try first | exact ⟨rfl, _, World.drewN_drewN _ _ _⟩ | exact ⟨rfl, _, Eq.trans (World.drewN_drewN _ _ _) (congrArg (World.drewN _) (Nat.add_assoc _ _ _))⟩))))
           go_meet
           case rel => exact ⟨_, (!t499), qF, H', ⟨by have := HJ6.out; have := HJ17.out; have := HJ23.out; have := HJ30.out; first | omega | exact Nat.le_refl _⟩, ⟨qR HO_4.out⟩, ⟨by (with_reducible repeat (first | apply Kd.R_alloc | apply Kd.R_drewN | apply Kd.R_drew)); exact Kd.R_mono HO494.out (fun _ hk => trivial)⟩, ⟨qB HB.out⟩⟩
         case rest => as_aux_lemma =>
          clear HC38
          obtain ⟨kq, x140_37, rfl, HA, HJ37, HO_4, HO_22, HB⟩ := hcut
          cases kq with
          | zero => exact absurd HA.out (by simp [laws_FnPalindromes.j4])
          | succ kj37 =>
           have H := HA.out
           clear HA
           simp only [laws_FnPalindromes.j4] at H
           by_cases c45 : x140_37 = true
           ·
            subst c45
            rw [if_pos rfl] at H
            obtain rfl := Option.some.inj H
            as_aux_lemma =>
             go_wp2
             repeat (go_quiet (fail); try go_wp2)
             go_ret
             exact ⟨qE, qB HB.out⟩
           replace c45 := Bool.eq_false_iff.mpr c45
           subst c45
           rw [if_neg (show ¬ (false = true) by decide)] at H
           replace H := qN H
           obtain ⟨t500, A46, H⟩ := H
           try dsimp only at H
           replace H := qN H
           obtain ⟨⟨t501, t502⟩, A47, H⟩ := H
           try dsimp only at H
           replace H := qN H
           obtain ⟨⟨t503, t504⟩, A48, H⟩ := H
           try dsimp only at H
           have HC49 := Aside0.mk H
           clear H
           go_upto_region 27 with (first | (go_at_call 18; (with_reducible refine (spec_DrawIsPalindrome.calls kj37 _ _ l0 t500 _ ?side1 ?side2 A46.out).mono ?_); (case side1 => exact qC (Kd.C_below HR0.out HB.out)); (case side2 => exact HC0.out); rintro e w50 ⟨rfl, hb⟩; replace HO_4 := Aside0.mk (Kd.R_below (qR HO_4.out) hb); replace HO_22 := Aside0.mk (Kd.R_below (qR HO_22.out) hb); replace HB := Aside0.mk (below_step (qB HB.out) hb)) | (go_at_call 19; (with_reducible refine (impl_IsPalindrome.calls kj37 t500 t501 t502 _ A47.out).mono ?_); rintro e w51 ⟨rfl, hb⟩; replace HO_4 := Aside0.mk (Kd.R_below (qR HO_4.out) hb); replace HO_22 := Aside0.mk (Kd.R_below (qR HO_22.out) hb); replace HB := Aside0.mk (below_step (qB HB.out) hb)) | (go_at_call 20; (with_reducible refine (spec_IsPalindrome.calls kj37 t500 t503 t504 _ A48.out).mono ?_); rintro e w' ⟨rfl, ⟨nd, rfl⟩⟩; (try first | exact ⟨rfl, _, World.drewN_drewN _ _ _⟩ | exact ⟨rfl, _, Eq.trans (World.drewN_drewN _ _ _) (congrArg (World.drewN _) (Nat.add_assoc _ _ _))⟩)))
           repeat (go_quiet (first | (go_at_call 18; (with_reducible refine (spec_DrawIsPalindrome.calls kj37 _ _ l0 t500 _ ?side1 ?side2 A46.out).mono ?_); (case side1 => exact qC (Kd.C_below HR0.out HB.out)); (case side2 => exact HC0.out); rintro e w50 ⟨rfl, hb⟩; replace HO_4 := Aside0.mk (Kd.R_below (qR HO_4.out) hb); replace HO_22 := Aside0.mk (Kd.R_below (qR HO_22.out) hb); replace HB := Aside0.mk (below_step (qB HB.out) hb)) | (go_at_call 19; (with_reducible refine (impl_IsPalindrome.calls kj37 t500 t501 t502 _ A47.out).mono ?_); rintro e w51 ⟨rfl, hb⟩; replace HO_4 := Aside0.mk (Kd.R_below (qR HO_4.out) hb); replace HO_22 := Aside0.mk (Kd.R_below (qR HO_22.out) hb); replace HB := Aside0.mk (below_step (qB HB.out) hb)) | (go_at_call 20; (with_reducible refine (spec_IsPalindrome.calls kj37 t500 t503 t504 _ A48.out).mono ?_); rintro e w' ⟨rfl, ⟨nd, rfl⟩⟩; (try first | exact ⟨rfl, _, World.drewN_drewN _ _ _⟩ | exact ⟨rfl, _, Eq.trans (World.drewN_drewN _ _ _) (congrArg (World.drewN _) (Nat.add_assoc _ _ _))⟩))); go_upto_region 27 with (first | (go_at_call 18; (with_reducible refine (spec_DrawIsPalindrome.calls kj37 _ _ l0 t500 _ ?side1 ?side2 A46.out).mono ?_); (case side1 => exact qC (Kd.C_below HR0.out HB.out)); (case side2 => exact HC0.out); rintro e w50 ⟨rfl, hb⟩; replace HO_4 := Aside0.mk (Kd.R_below (qR HO_4.out) hb); replace HO_22 := Aside0.mk (Kd.R_below (qR HO_22.out) hb); replace HB := Aside0.mk (below_step (qB HB.out) hb)) | (go_at_call 19; (with_reducible refine (impl_IsPalindrome.calls kj37 t500 t501 t502 _ A47.out).mono ?_); rintro e w51 ⟨rfl, hb⟩; replace HO_4 := Aside0.mk (Kd.R_below (qR HO_4.out) hb); replace HO_22 := Aside0.mk (Kd.R_below (qR HO_22.out) hb); replace HB := Aside0.mk (below_step (qB HB.out) hb)) | (go_at_call 20; (with_reducible refine (spec_IsPalindrome.calls kj37 t500 t503 t504 _ A48.out).mono ?_); rintro e w' ⟨rfl, ⟨nd, rfl⟩⟩; (try first | exact ⟨rfl, _, World.drewN_drewN _ _ _⟩ | exact ⟨rfl, _, Eq.trans (World.drewN_drewN _ _ _) (congrArg (World.drewN _) (Nat.add_assoc _ _ _))⟩))))
           (try simp only [Act.put, List.setIfInBounds_toArray, List.set_cons_zero, List.set_cons_succ])
           go_cut [160] (fun v160 wc => ∃ (kq : Nat) (x160_48 : Bool), v160 = .bool x160_48 ∧ Aside0 (laws_FnPalindromes.j5 kq t467 t468 t469 t477 t478 t481 t482 t485 t487 t491 t492 x160_48 = some r) ∧ Aside0 (kq ≤ kj37) ∧ Aside0 (Kd.R Kd.string 9 wc w.heap.size (fun _ => True) v470 t468) ∧ Aside0 (Kd.R (Kd.int .i64) 2 wc w.heap.size (fun _ => True) v493 t491) ∧ Aside0 (Below w.heap.size w wc))
           case first => as_aux_lemma =>
            have H := HC49.out
            clear HC49
            by_cases c52 : t502 = t504
            ·
             rw [if_pos c52] at H
             obtain ⟨c52b0, c52b1⟩ := zT c52
             clear c52
             (first | rw [c52b0] | (simp only [i64_w, i32_w]; rw [c52b0]) | skip)
             have H' := Aside0.mk H
             clear H
             as_aux_lemma =>
              go_wp2
              repeat (go_quiet (fail); try go_wp2)
              go_meet
              case rel => exact ⟨_, ((t501 != t503)), qF, H', ⟨by have := HJ6.out; have := HJ17.out; have := HJ23.out; have := HJ30.out; have := HJ37.out; first | omega | exact Nat.le_refl _⟩, ⟨qR HO_4.out⟩, ⟨qR HO_22.out⟩, ⟨qB HB.out⟩⟩
            rw [if_neg c52] at H
            obtain ⟨c52b0, c52b1⟩ := zF c52
            (first | rw [c52b0] | (simp only [i64_w, i32_w]; rw [c52b0]) | skip)
            have H' := Aside0.mk H
            clear H
            as_aux_lemma =>
             go_wp2
             repeat (go_quiet (fail); try go_wp2)
             go_meet
             case rel => exact ⟨_, (true), qF, H', ⟨by have := HJ6.out; have := HJ17.out; have := HJ23.out; have := HJ30.out; have := HJ37.out; first | omega | exact Nat.le_refl _⟩, ⟨qR HO_4.out⟩, ⟨qR HO_22.out⟩, ⟨qB HB.out⟩⟩
           case rest => as_aux_lemma =>
            clear HC49
            obtain ⟨kq, x160_48, rfl, HA, HJ48, HO_4, HO_22, HB⟩ := hcut
            cases kq with
            | zero => exact absurd HA.out (by simp [laws_FnPalindromes.j5])
            | succ kj48 =>
             have H := HA.out
             clear HA
             simp only [laws_FnPalindromes.j5] at H
             by_cases c53 : x160_48 = true
             ·
              subst c53
              rw [if_pos rfl] at H
              obtain rfl := Option.some.inj H
              as_aux_lemma =>
               go_wp2
               repeat (go_quiet (fail); try go_wp2)
               go_ret
               exact ⟨qE, qB HB.out⟩
             replace c53 := Bool.eq_false_iff.mpr c53
             subst c53
             rw [if_neg (show ¬ (false = true) by decide)] at H
             by_cases c54 : t469 = 0
             rotate_left
             ·
              rw [if_neg c54] at H
              obtain ⟨c54b0, c54b1⟩ := zF c54
              by_cases c114 : (t468.length : Int) = 0
              rotate_left
              ·
               rw [if_neg c114] at H
               obtain ⟨c114b0, c114b1⟩ := zF c114
               have c114b2 : ¬ (t468 = []) := fun h_ => c114 (by rw [h_]; rfl)
               obtain rfl := Option.some.inj H
               obtain ⟨Ao120, co120, eo120⟩ := Kd.R_slice HO_4.out
               subst eo120
               as_aux_lemma =>
                go_wp2
                repeat (go_quiet (fail); try go_wp2)
                go_ret
                exact ⟨qE, qB HB.out⟩

              rw [if_pos c114] at H
              obtain ⟨c114b0, c114b1⟩ := zT c114
              clear c114
              by_cases c115 : t478 = t469
              rotate_left
              ·
               rw [if_neg c115] at H
               obtain ⟨c115b0, c115b1⟩ := zF c115
               obtain rfl := Option.some.inj H
               obtain ⟨Ao119, co119, eo119⟩ := Kd.R_slice HO_4.out
               subst eo119
               as_aux_lemma =>
                go_wp2
                repeat (go_quiet (fail); try go_wp2)
                go_ret
                exact ⟨qE, qB HB.out⟩
              rw [if_pos c115] at H
              obtain ⟨c115b0, c115b1⟩ := zT c115
              clear c115
              by_cases c116 : t482 = t469
              ·
               rw [if_pos c116] at H
               obtain ⟨c116b0, c116b1⟩ := zT c116
               clear c116
               obtain rfl := Option.some.inj H
               obtain ⟨Ao117, co117, eo117⟩ := Kd.R_slice HO_4.out
               subst eo117
               as_aux_lemma =>
                go_wp2
                repeat (go_quiet (fail); try go_wp2)
                go_ret
                exact ⟨qE, qB HB.out⟩
              rw [if_neg c116] at H
              obtain ⟨c116b0, c116b1⟩ := zF c116
              obtain rfl := Option.some.inj H
              obtain ⟨Ao118, co118, eo118⟩ := Kd.R_slice HO_4.out
              subst eo118
              as_aux_lemma =>
               go_wp2
               repeat (go_quiet (fail); try go_wp2)
               go_ret
               exact ⟨qE, qB HB.out⟩
             rw [if_pos c54] at H
             obtain ⟨c54b0, c54b1⟩ := zT c54
             clear c54
             have HC55 := Aside0.mk H
             clear H
             go_upto_region 31 with (fail)
             repeat (go_quiet (fail); go_upto_region 31 with (fail))
             go_cut [216] (fun v216 wc => ∃ (kq : Nat) (x216_54 : Bool), v216 = .bool x216_54 ∧ Aside0 (laws_FnPalindromes.j6 kq t467 t468 t485 t487 t491 x216_54 = some r) ∧ Aside0 (kq ≤ kj48) ∧ Aside0 (Kd.R Kd.string 9 wc w.heap.size (fun _ => True) v470 t468) ∧ Aside0 (Kd.R (Kd.int .i64) 2 wc w.heap.size (fun _ => True) v493 t491) ∧ Aside0 (Below w.heap.size w wc))
             case first => as_aux_lemma =>
              have H := HC55.out
              clear HC55
              by_cases c56 : t478 = 0
              rotate_left
              ·
               rw [if_neg c56] at H
               obtain ⟨c56b0, c56b1⟩ := zF c56
               (first | rw [c56b0] | (simp only [i64_w, i32_w]; rw [c56b0]) | skip)
               have H' := Aside0.mk H
               clear H
               as_aux_lemma =>
                go_wp2
                repeat (go_quiet (fail); try go_wp2)
                go_meet
                case rel => exact ⟨_, (true), qF, H', ⟨by have := HJ6.out; have := HJ17.out; have := HJ23.out; have := HJ30.out; have := HJ37.out; have := HJ48.out; first | omega | exact Nat.le_refl _⟩, ⟨qR HO_4.out⟩, ⟨qR HO_22.out⟩, ⟨qB HB.out⟩⟩
              rw [if_pos c56] at H
              obtain ⟨c56b0, c56b1⟩ := zT c56
              clear c56
              (first | rw [c56b0] | (simp only [i64_w, i32_w]; rw [c56b0]) | skip)
              by_cases c57 : t482 = 0
              rotate_left
              ·
               rw [if_neg c57] at H
               obtain ⟨c57b0, c57b1⟩ := zF c57
               have H' := Aside0.mk H
               clear H
               as_aux_lemma =>
                go_wp2
                repeat (go_quiet (fail); try go_wp2)
                go_meet
                case rel => exact ⟨_, (true), qF, H', ⟨by have := HJ6.out; have := HJ17.out; have := HJ23.out; have := HJ30.out; have := HJ37.out; have := HJ48.out; first | omega | exact Nat.le_refl _⟩, ⟨qR HO_4.out⟩, ⟨qR HO_22.out⟩, ⟨qB HB.out⟩⟩
              rw [if_pos c57] at H
              obtain ⟨c57b0, c57b1⟩ := zT c57
              clear c57
              by_cases c58 : t492 = 0
              rotate_left
              ·
               rw [if_neg c58] at H
               obtain ⟨c58b0, c58b1⟩ := zF c58
               have H' := Aside0.mk H
               clear H
               as_aux_lemma =>
                go_wp2
                repeat (go_quiet (fail); try go_wp2)
                go_meet
                case rel => exact ⟨_, (true), qF, H', ⟨by have := HJ6.out; have := HJ17.out; have := HJ23.out; have := HJ30.out; have := HJ37.out; have := HJ48.out; first | omega | exact Nat.le_refl _⟩, ⟨qR HO_4.out⟩, ⟨qR HO_22.out⟩, ⟨qB HB.out⟩⟩
              rw [if_pos c58] at H
              obtain ⟨c58b0, c58b1⟩ := zT c58
              clear c58
              by_cases c59 : t481 < 0
              ·
               rw [if_pos c59] at H
               have c59b0 : decide (t481 < 0) = true := decide_eq_true c59
               clear c59
               have H' := Aside0.mk H
               clear H
               as_aux_lemma =>
                go_wp2
                repeat (go_quiet (fail); try go_wp2)
                go_meet
                case rel => exact ⟨_, (true), qF, H', ⟨by have := HJ6.out; have := HJ17.out; have := HJ23.out; have := HJ30.out; have := HJ37.out; have := HJ48.out; first | omega | exact Nat.le_refl _⟩, ⟨qR HO_4.out⟩, ⟨qR HO_22.out⟩, ⟨qB HB.out⟩⟩
              rw [if_neg c59] at H
              have c59b0 : decide (t481 < 0) = false := decide_eq_false c59
              clear c59
              by_cases c60 : t481 = (wrap64 ((t467.size : Int) - (t468.length : Int)))
              rotate_left
              ·
               rw [if_neg c60] at H
               obtain ⟨c60b0, c60b1⟩ := zF c60
               have H' := Aside0.mk H
               clear H
               obtain ⟨Ao65, co65, eo65⟩ := Kd.R_slice HO_4.out
               subst eo65
               as_aux_lemma =>
                go_wp2
                repeat (go_quiet (fail); try go_wp2)
                go_meet
                case rel => exact ⟨_, (true), qF, H', ⟨by have := HJ6.out; have := HJ17.out; have := HJ23.out; have := HJ30.out; have := HJ37.out; have := HJ48.out; first | omega | exact Nat.le_refl _⟩, ⟨qR HO_4.out⟩, ⟨qR HO_22.out⟩, ⟨qB HB.out⟩⟩
              rw [if_pos c60] at H
              obtain ⟨c60b0, c60b1⟩ := zT c60
              clear c60
              by_cases c61 : t477 < (t467.size : Int)
              ·
               rw [if_pos c61] at H
               have c61b0 : decide (t477 < (t467.size : Int)) = true := decide_eq_true c61
               clear c61
               have H' := Aside0.mk H
               clear H
               obtain ⟨Ao62, co62, eo62⟩ := Kd.R_slice HO_4.out
               subst eo62
               as_aux_lemma =>
                go_wp2
                repeat (go_quiet (fail); try go_wp2)
                go_meet
                case rel => exact ⟨_, (true), qF, H', ⟨by have := HJ6.out; have := HJ17.out; have := HJ23.out; have := HJ30.out; have := HJ37.out; have := HJ48.out; first | omega | exact Nat.le_refl _⟩, ⟨qR HO_4.out⟩, ⟨qR HO_22.out⟩, ⟨qB HB.out⟩⟩
              rw [if_neg c61] at H
              have c61b0 : decide (t477 < (t467.size : Int)) = false := decide_eq_false c61
              clear c61
              have H' := Aside0.mk H
              clear H
              obtain ⟨Ao63, co63, eo63⟩ := Kd.R_slice HO_4.out
              subst eo63
              obtain ⟨Ao64, co64, eo64⟩ := Kd.R_slice HO_22.out
              subst eo64
              as_aux_lemma =>
               go_wp2
               repeat (go_quiet (fail); try go_wp2)
               go_meet
               case rel => exact ⟨_, (((t491.length : Int) != (t467.size : Int))), qF, H', ⟨by have := HJ6.out; have := HJ17.out; have := HJ23.out; have := HJ30.out; have := HJ37.out; have := HJ48.out; first | omega | exact Nat.le_refl _⟩, ⟨qR HO_4.out⟩, ⟨qR HO_22.out⟩, ⟨qB HB.out⟩⟩
             case rest => as_aux_lemma =>
              clear HC55
              obtain ⟨kq, x216_54, rfl, HA, HJ54, HO_4, HO_22, HB⟩ := hcut
              cases kq with
              | zero => exact absurd HA.out (by simp [laws_FnPalindromes.j6])
              | succ kj54 =>
               have H := HA.out
               clear HA
               simp only [laws_FnPalindromes.j6] at H
               by_cases c66 : x216_54 = true
               ·
                subst c66
                rw [if_pos rfl] at H
                obtain rfl := Option.some.inj H
                as_aux_lemma =>
                 go_wp2
                 repeat (go_quiet (fail); try go_wp2)
                 go_ret
                 exact ⟨qE, qB HB.out⟩
               replace c66 := Bool.eq_false_iff.mpr c66
               subst c66
               rw [if_neg (show ¬ (false = true) by decide)] at H
               have H' := Aside0.mk H
               clear H
               go_wp2
               repeat (go_quiet (fail); try go_wp2)
               go_loopg [31, 32] kj54 (fun kq v31 v32 w' => ∃ (x31_8 : Int) (x32_8 : Int), v31 = .int .i64 x31_8 ∧ v32 = .int .i64 x32_8 ∧ Aside0 (laws_FnPalindromes.l0 kq t467 t468 t485 t487 t491 x31_8 x32_8 = some r) ∧ Aside0 (kq ≤ kj54) ∧ Aside0 (Kd.R Kd.string 9 w' w.heap.size (fun _ => True) v470 t468) ∧ Aside0 (Kd.R (Kd.int .i64) 2 w' w.heap.size (fun _ => True) v493 t491) ∧ Aside0 (Below w.heap.size w w'))
               case atStart => exact ⟨(0), (0), qF, qF, H', ⟨Nat.le_refl _⟩, ⟨qR HO_4.out⟩, ⟨qR HO_22.out⟩, ⟨qB HB.out⟩⟩
               case round =>
                clear H'
                obtain ⟨x31_8, x32_8, rfl, rfl, HA, HK8, HO_4, HO_22, HB⟩ := hrel
                cases gk with
                | zero => exact absurd HA.out (by simp [laws_FnPalindromes.l0])
                | succ k8 =>
                 have H := HA.out
                 clear HA
                 simp only [laws_FnPalindromes.l0] at H
                 by_cases c67 : x32_8 < (t491.length : Int)
                 ·
                  rw [if_pos c67] at H
                  have c67b0 : decide (x32_8 < (t491.length : Int)) = true := decide_eq_true c67
                  clear c67
                  by_cases c68 : 0 ≤ x32_8
                  rotate_left
                  ·
                   rw [if_neg c68] at H
                   exact absurd H (by simp)
                  rw [if_pos c68] at H
                  have c68b0 : decide (0 ≤ x32_8) = true := decide_eq_true c68
                  clear c68
                  by_cases c69 : (rd t491 x32_8) < 1
                  ·
                   rw [if_pos c69] at H
                   have c69b0 : decide ((rd t491 x32_8) < 1) = true := decide_eq_true c69
                   clear c69
                   obtain rfl := Option.some.inj H
                   obtain ⟨Ao70, co70, eo70⟩ := Kd.R_slice HO_22.out
                   subst eo70
                   have p505 : 0 ≤ (x32_8 : Int) := of_decide_eq_true (by first | (with_reducible assumption) | assumption)
                   have q505 : x32_8 < (t491.length : Int) := of_decide_eq_true (by first | (with_reducible assumption) | assumption)
                   obtain ⟨ad505, e505, hx505_0⟩ := Kd.at_int (Kd.R_reads' HO_22.out).2.2 x32_8 p505 q505
                   cases e505
                   replace p505 := eq_true p505
                   replace q505 := eq_true q505
                   as_aux_lemma =>
                    go_wp2
                    repeat (go_quiet (fail); try go_wp2)
                    go_ret
                    exact ⟨qE, qB HB.out⟩
                  rw [if_neg c69] at H
                  have c69b0 : decide ((rd t491 x32_8) < 1) = false := decide_eq_false c69
                  clear c69
                  by_cases c71 : x32_8 > 0
                  rotate_left
                  ·
                   rw [if_neg c71] at H
                   have c71b0 : decide (0 < x32_8) = false := decide_eq_false c71
                   clear c71
                   obtain ⟨ji79, hji79⟩ : ∃ j_ : Int, (mx x31_8 (rd t491 x32_8)) = j_ := ⟨_, rfl⟩
                   replace H : (laws_FnPalindromes.l0 k8 t467 t468 t485 t487 t491 ji79 (wrap64 (x32_8 + 1))) = some r := by first | (rw [hji79] at H; exact H) | (simp only [hji79] at H ⊢; exact H)
                   have hji79_ : (if x31_8 < (rd t491 x32_8) then (rd t491 x32_8) else x31_8) = ji79 := hji79
                   have H' := Aside0.mk H
                   clear H
                   obtain ⟨Ao80, co80, eo80⟩ := Kd.R_slice HO_22.out
                   subst eo80
                   have p505 : 0 ≤ (x32_8 : Int) := of_decide_eq_true (by first | (with_reducible assumption) | assumption)
                   have q505 : x32_8 < (t491.length : Int) := of_decide_eq_true (by first | (with_reducible assumption) | assumption)
                   obtain ⟨ad505, e505, hx505_0⟩ := Kd.at_int (Kd.R_reads' HO_22.out).2.2 x32_8 p505 q505
                   cases e505
                   replace p505 := eq_true p505
                   replace q505 := eq_true q505
                   have p509 : 0 ≤ (x32_8 : Int) := of_decide_eq_true (by first | (with_reducible assumption) | assumption)
                   have q509 : x32_8 < (t491.length : Int) := of_decide_eq_true (by first | (with_reducible assumption) | assumption)
                   obtain ⟨ad509, e509, hx509_0⟩ := Kd.at_int (Kd.R_reads' HO_22.out).2.2 x32_8 p509 q509
                   obtain rfl : ad505 = ad509 := (by injection e509)
                   replace p509 := eq_true p509
                   replace q509 := eq_true q509
                   as_aux_lemma =>
                    go_wp2
                    repeat (go_quiet (fail); try go_wp2)
                    go_roundg k8
                    case measure => have := HJ6.out; have := HJ17.out; have := HJ23.out; have := HJ30.out; have := HJ37.out; have := HJ48.out; have := HJ54.out; have := HK8.out; omega
                    case rel => exact ⟨(ji79), (wrap64 (x32_8 + 1)), (by first | rfl | (simp; done) | (simp only [← hji79] <;> (first | rfl | simp)) | (simp [*]; done)), qF, H', ⟨by have := HJ6.out; have := HJ17.out; have := HJ23.out; have := HJ30.out; have := HJ37.out; have := HJ48.out; have := HJ54.out; have := HK8.out; omega⟩, ⟨qR HO_4.out⟩, ⟨qR HO_22.out⟩, ⟨qB HB.out⟩⟩
                  rw [if_pos c71] at H
                  have c71b0 : decide (0 < x32_8) = true := decide_eq_true c71
                  clear c71
                  obtain ⟨ji72, hji72⟩ : ∃ j_ : Int, (wrap64 (x32_8 - 1)) = j_ := ⟨_, rfl⟩
                  replace H : (if 0 ≤ (ji72) then (if (ji72) < (t491.length : Int) then (if (rd t491 x32_8) > (wrap64 ((rd t491 (ji72)) + 2)) then (some false) else (laws_FnPalindromes.l0 k8 t467 t468 t485 t487 t491 (mx x31_8 (rd t491 x32_8)) (wrap64 (x32_8 + 1)))) else (none)) else (none)) = some r := by first | (rw [hji72] at H; exact H) | (simp only [hji72] at H ⊢; exact H)
                  have hji72w : (IntKind.i64.wrap (x32_8 - 1)) = ji72 := (i64_w _).trans hji72
                  by_cases c73 : 0 ≤ (ji72)
                  rotate_left
                  ·
                   rw [if_neg c73] at H
                   exact absurd H (by simp)
                  rw [if_pos c73] at H
                  have c73b0 : decide (0 ≤ (ji72)) = true := decide_eq_true c73
                  clear c73
                  by_cases c74 : (ji72) < (t491.length : Int)
                  rotate_left
                  ·
                   rw [if_neg c74] at H
                   exact absurd H (by simp)
                  rw [if_pos c74] at H
                  have c74b0 : decide ((ji72) < (t491.length : Int)) = true := decide_eq_true c74
                  clear c74
                  by_cases c75 : (rd t491 x32_8) > (wrap64 ((rd t491 (ji72)) + 2))
                  ·
                   rw [if_pos c75] at H
                   have c75b0 : decide ((wrap64 ((rd t491 (ji72)) + 2)) < (rd t491 x32_8)) = true := decide_eq_true c75
                   clear c75
                   obtain rfl := Option.some.inj H
                   obtain ⟨Ao76, co76, eo76⟩ := Kd.R_slice HO_22.out
                   subst eo76
                   have p505 : 0 ≤ (x32_8 : Int) := of_decide_eq_true (by first | (with_reducible assumption) | assumption)
                   have q505 : x32_8 < (t491.length : Int) := of_decide_eq_true (by first | (with_reducible assumption) | assumption)
                   obtain ⟨ad505, e505, hx505_0⟩ := Kd.at_int (Kd.R_reads' HO_22.out).2.2 x32_8 p505 q505
                   cases e505
                   replace p505 := eq_true p505
                   replace q505 := eq_true q505
                   have p506 : 0 ≤ (x32_8 : Int) := of_decide_eq_true (by first | (with_reducible assumption) | assumption)
                   have q506 : x32_8 < (t491.length : Int) := of_decide_eq_true (by first | (with_reducible assumption) | assumption)
                   obtain ⟨ad506, e506, hx506_0⟩ := Kd.at_int (Kd.R_reads' HO_22.out).2.2 x32_8 p506 q506
                   obtain rfl : ad505 = ad506 := (by injection e506)
                   replace p506 := eq_true p506
                   replace q506 := eq_true q506
                   have p507 : 0 ≤ ((ji72) : Int) := of_decide_eq_true (by first | (with_reducible assumption) | assumption)
                   have q507 : (ji72) < (t491.length : Int) := of_decide_eq_true (by first | (with_reducible assumption) | assumption)
                   obtain ⟨ad507, e507, hx507_0⟩ := Kd.at_int (Kd.R_reads' HO_22.out).2.2 (ji72) p507 q507
                   obtain rfl : ad505 = ad507 := (by injection e507)
                   replace p507 := eq_true p507
                   replace q507 := eq_true q507
                   as_aux_lemma =>
                    go_wp2
                    repeat (go_quiet (fail); try go_wp2)
                    go_ret
                    exact ⟨by first | rfl | (simp [errW_none, errW_some] <;> rfl) | (simp only [← hji72]; first | rfl | (simp [errW_none, errW_some] <;> rfl)) | (simp [*, errW_none, errW_some] <;> rfl), qB HB.out⟩
                  rw [if_neg c75] at H
                  have c75b0 : decide ((wrap64 ((rd t491 (ji72)) + 2)) < (rd t491 x32_8)) = false := decide_eq_false c75
                  clear c75
                  obtain ⟨ji77, hji77⟩ : ∃ j_ : Int, (mx x31_8 (rd t491 x32_8)) = j_ := ⟨_, rfl⟩
                  replace H : (laws_FnPalindromes.l0 k8 t467 t468 t485 t487 t491 ji77 (wrap64 (x32_8 + 1))) = some r := by first | (rw [hji77] at H; exact H) | (simp only [hji77] at H ⊢; exact H)
                  have hji77_ : (if x31_8 < (rd t491 x32_8) then (rd t491 x32_8) else x31_8) = ji77 := hji77
                  have H' := Aside0.mk H
                  clear H
                  obtain ⟨Ao78, co78, eo78⟩ := Kd.R_slice HO_22.out
                  subst eo78
                  have p505 : 0 ≤ (x32_8 : Int) := of_decide_eq_true (by first | (with_reducible assumption) | assumption)
                  have q505 : x32_8 < (t491.length : Int) := of_decide_eq_true (by first | (with_reducible assumption) | assumption)
                  obtain ⟨ad505, e505, hx505_0⟩ := Kd.at_int (Kd.R_reads' HO_22.out).2.2 x32_8 p505 q505
                  cases e505
                  replace p505 := eq_true p505
                  replace q505 := eq_true q505
                  have p506 : 0 ≤ (x32_8 : Int) := of_decide_eq_true (by first | (with_reducible assumption) | assumption)
                  have q506 : x32_8 < (t491.length : Int) := of_decide_eq_true (by first | (with_reducible assumption) | assumption)
                  obtain ⟨ad506, e506, hx506_0⟩ := Kd.at_int (Kd.R_reads' HO_22.out).2.2 x32_8 p506 q506
                  obtain rfl : ad505 = ad506 := (by injection e506)
                  replace p506 := eq_true p506
                  replace q506 := eq_true q506
                  have p507 : 0 ≤ ((ji72) : Int) := of_decide_eq_true (by first | (with_reducible assumption) | assumption)
                  have q507 : (ji72) < (t491.length : Int) := of_decide_eq_true (by first | (with_reducible assumption) | assumption)
                  obtain ⟨ad507, e507, hx507_0⟩ := Kd.at_int (Kd.R_reads' HO_22.out).2.2 (ji72) p507 q507
                  obtain rfl : ad505 = ad507 := (by injection e507)
                  replace p507 := eq_true p507
                  replace q507 := eq_true q507
                  have p508 : 0 ≤ (x32_8 : Int) := of_decide_eq_true (by first | (with_reducible assumption) | assumption)
                  have q508 : x32_8 < (t491.length : Int) := of_decide_eq_true (by first | (with_reducible assumption) | assumption)
                  obtain ⟨ad508, e508, hx508_0⟩ := Kd.at_int (Kd.R_reads' HO_22.out).2.2 x32_8 p508 q508
                  obtain rfl : ad505 = ad508 := (by injection e508)
                  replace p508 := eq_true p508
                  replace q508 := eq_true q508
                  as_aux_lemma =>
                   go_wp2
                   repeat (go_quiet (fail); try go_wp2)
                   go_roundg k8
                   case measure => have := HJ6.out; have := HJ17.out; have := HJ23.out; have := HJ30.out; have := HJ37.out; have := HJ48.out; have := HJ54.out; have := HK8.out; omega
                   case rel => exact ⟨(ji77), (wrap64 (x32_8 + 1)), (by first | rfl | (simp; done) | (simp only [← hji77] <;> (first | rfl | simp)) | (simp [*]; done)), qF, H', ⟨by have := HJ6.out; have := HJ17.out; have := HJ23.out; have := HJ30.out; have := HJ37.out; have := HJ48.out; have := HJ54.out; have := HK8.out; omega⟩, ⟨qR HO_4.out⟩, ⟨qR HO_22.out⟩, ⟨qB HB.out⟩⟩
                 rw [if_neg c67] at H
                 have c67b0 : decide (x32_8 < (t491.length : Int)) = false := decide_eq_false c67
                 clear c67
                 have H' := Aside0.mk H
                 clear H
                 obtain ⟨Ao81, co81, eo81⟩ := Kd.R_slice HO_22.out
                 subst eo81
                 go_wp2
                 repeat (go_quiet (fail); try go_wp2)
                 go_loopg [33] k8 (fun kq v33 w' => ∃ (x33_9 : Int), v33 = .int .i64 x33_9 ∧ Aside0 (laws_FnPalindromes.l1 kq t467 t468 t485 t487 x31_8 x33_9 = some r) ∧ Aside0 (kq ≤ k8) ∧ Aside0 (Kd.R Kd.string 9 w' w.heap.size (fun _ => True) v470 t468) ∧ Aside0 (Below w.heap.size w w'))
                 case atStart => exact ⟨(0), qF, H', ⟨Nat.le_refl _⟩, ⟨qR HO_4.out⟩, ⟨qB HB.out⟩⟩
                 case round =>
                  clear H'
                  obtain ⟨x33_9, rfl, HA, HK9, HO_4, HB⟩ := hrel
                  cases gk with
                  | zero => exact absurd HA.out (by simp [laws_FnPalindromes.l1])
                  | succ k9 =>
                   have H := HA.out
                   clear HA
                   simp only [laws_FnPalindromes.l1] at H
                   have HC82 := Aside0.mk H
                   clear H
                   go_upto_region 41 with (fail)
                   repeat (go_quiet (fail); go_upto_region 41 with (fail))
                   go_cut [258] (fun v258 wc => ∃ (kq : Nat) (x258_81 : Bool), v258 = .bool x258_81 ∧ Aside0 (laws_FnPalindromes.j9 kq t467 t468 t485 t487 x31_8 x33_9 x258_81 = some r) ∧ Aside0 (kq ≤ k9) ∧ Aside0 (Kd.R Kd.string 9 wc w.heap.size (fun _ => True) v470 t468) ∧ Aside0 (Below w.heap.size w wc))
                   case first => as_aux_lemma =>
                    have H := HC82.out
                    clear HC82
                    by_cases c83 : x33_9 < (t468.length : Int)
                    ·
                     rw [if_pos c83] at H
                     have c83b0 : decide (x33_9 < (t468.length : Int)) = true := decide_eq_true c83
                     clear c83
                     (first | rw [c83b0] | (simp only [i64_w, i32_w]; rw [c83b0]) | skip)
                     have H' := Aside0.mk H
                     clear H
                     obtain ⟨Ao84, co84, eo84⟩ := Kd.R_slice HO_4.out
                     subst eo84
                     as_aux_lemma =>
                      go_wp2
                      repeat (go_quiet (fail); try go_wp2)
                      go_meet
                      case rel => exact ⟨_, (decide (x33_9 < 12)), qF, H', ⟨by have := HJ6.out; have := HJ17.out; have := HJ23.out; have := HJ30.out; have := HJ37.out; have := HJ48.out; have := HJ54.out; have := HK8.out; have := HK9.out; first | omega | exact Nat.le_refl _⟩, ⟨qR HO_4.out⟩, ⟨qB HB.out⟩⟩
                    rw [if_neg c83] at H
                    have c83b0 : decide (x33_9 < (t468.length : Int)) = false := decide_eq_false c83
                    clear c83
                    (first | rw [c83b0] | (simp only [i64_w, i32_w]; rw [c83b0]) | skip)
                    have H' := Aside0.mk H
                    clear H
                    obtain ⟨Ao85, co85, eo85⟩ := Kd.R_slice HO_4.out
                    subst eo85
                    as_aux_lemma =>
                     go_wp2
                     repeat (go_quiet (fail); try go_wp2)
                     go_meet
                     case rel => exact ⟨_, (false), qF, H', ⟨by have := HJ6.out; have := HJ17.out; have := HJ23.out; have := HJ30.out; have := HJ37.out; have := HJ48.out; have := HJ54.out; have := HK8.out; have := HK9.out; first | omega | exact Nat.le_refl _⟩, ⟨qR HO_4.out⟩, ⟨qB HB.out⟩⟩
                   case rest => as_aux_lemma =>
                    clear HC82
                    obtain ⟨kq, x258_81, rfl, HA, HJ81, HO_4, HB⟩ := hcut
                    cases kq with
                    | zero => exact absurd HA.out (by simp [laws_FnPalindromes.j9])
                    | succ kj81 =>
                     have H := HA.out
                     clear HA
                     simp only [laws_FnPalindromes.j9] at H
                     by_cases c86 : x258_81 = true
                     rotate_left
                     ·
                      replace c86 := Bool.eq_false_iff.mpr c86
                      subst c86
                      rw [if_neg (show ¬ (false = true) by decide)] at H
                      by_cases c112 : t467.toList = ([] : List UInt8)
                      ·
                       rw [if_pos c112] at H
                       obtain ⟨c112b0, c112b1⟩ := zT c112
                       clear c112
                       obtain rfl := Option.some.inj H
                       as_aux_lemma =>
                        go_wp2
                        repeat (go_quiet (fail); try go_wp2)
                        go_ret
                        exact ⟨qE, qB HB.out⟩
                      rw [if_neg c112] at H
                      obtain ⟨c112b0, c112b1⟩ := zF c112
                      by_cases c113 : t487 = 0
                      ·
                       rw [if_pos c113] at H
                       obtain ⟨c113b0, c113b1⟩ := zT c113
                       clear c113
                       obtain rfl := Option.some.inj H
                       as_aux_lemma =>
                        go_wp2
                        repeat (go_quiet (fail); try go_wp2)
                        go_ret
                        exact ⟨qE, qB HB.out⟩
                      rw [if_neg c113] at H
                      obtain ⟨c113b0, c113b1⟩ := zF c113
                      obtain rfl := Option.some.inj H
                      as_aux_lemma =>
                       go_wp2
                       repeat (go_quiet (fail); try go_wp2)
                       go_ret
                       exact ⟨qE, qB HB.out⟩
                     subst c86
                     rw [if_pos rfl] at H
                     by_cases c87 : 0 ≤ x33_9
                     rotate_left
                     ·
                      rw [if_neg c87] at H
                      exact absurd H (by simp)
                     rw [if_pos c87] at H
                     have c87b0 : decide (0 ≤ x33_9) = true := decide_eq_true c87
                     clear c87
                     by_cases c88 : x33_9 < (t468.length : Int)
                     rotate_left
                     ·
                      rw [if_neg c88] at H
                      exact absurd H (by simp)
                     rw [if_pos c88] at H
                     have c88b0 : decide (x33_9 < (t468.length : Int)) = true := decide_eq_true c88
                     clear c88
                     replace H := qN H
                     obtain ⟨⟨t511, t512⟩, A89, H⟩ := H
                     try dsimp only at H
                     replace H := qN H
                     obtain ⟨⟨t514, t515⟩, A90, H⟩ := H
                     try dsimp only at H
                     by_cases c91 : t512 = 0
                     rotate_left
                     ·
                      rw [if_neg c91] at H
                      obtain ⟨c91b0, c91b1⟩ := zF c91
                      obtain rfl := Option.some.inj H
                      obtain ⟨Ao109, co109, eo109⟩ := Kd.R_slice HO_4.out
                      subst eo109
                      have p510 : 0 ≤ (x33_9 : Int) := of_decide_eq_true (by first | (with_reducible assumption) | assumption)
                      have q510 : x33_9 < (t468.length : Int) := of_decide_eq_true (by first | (with_reducible assumption) | assumption)
                      obtain ⟨ad510, e510, hx510_0⟩ := Kd.at_string (Kd.R_reads' HO_4.out).2.2 x33_9 p510 q510
                      cases e510
                      replace p510 := eq_true p510
                      replace q510 := eq_true q510
                      as_aux_lemma =>
                       go_wp2_with (first | (go_at_call 19; (with_reducible refine (impl_IsPalindrome.calls kj81 (rdOf ByteArray.empty t468 x33_9) t511 t512 _ A89.out).mono ?_); rintro e w110 ⟨rfl, hb⟩; replace HO_4 := Aside0.mk (Kd.R_below (qR HO_4.out) hb); replace HB := Aside0.mk (below_step (qB HB.out) hb); have p513 : 0 ≤ (x33_9 : Int) := of_decide_eq_true (by first | (with_reducible assumption) | assumption); have q513 : x33_9 < (t468.length : Int) := of_decide_eq_true (by first | (with_reducible assumption) | assumption); obtain ⟨ad513, e513, hx513_0⟩ := Kd.at_string (Kd.R_reads' HO_4.out).2.2 x33_9 p513 q513; obtain rfl : ad510 = ad513 := (by injection e513); replace p513 := eq_true p513; replace q513 := eq_true q513) | (go_at_call 21; (with_reducible refine (impl_PlacesOf.calls kj81 t467 (rdOf ByteArray.empty t468 x33_9) t514 t515 _ A90.out).mono ?_); rintro e w111 ⟨v516, rfl, ho0, hb⟩; replace HO_4 := Aside0.mk (Kd.R_below (qR HO_4.out) hb); have HO517 := Aside0.mk (Kd.R_lower ho0 (below_size (qB HB.out))); replace HB := Aside0.mk (below_step (qB HB.out) hb)))
                       repeat (go_quiet (first | (go_at_call 19; (with_reducible refine (impl_IsPalindrome.calls kj81 (rdOf ByteArray.empty t468 x33_9) t511 t512 _ A89.out).mono ?_); rintro e w110 ⟨rfl, hb⟩; replace HO_4 := Aside0.mk (Kd.R_below (qR HO_4.out) hb); replace HB := Aside0.mk (below_step (qB HB.out) hb); have p513 : 0 ≤ (x33_9 : Int) := of_decide_eq_true (by first | (with_reducible assumption) | assumption); have q513 : x33_9 < (t468.length : Int) := of_decide_eq_true (by first | (with_reducible assumption) | assumption); obtain ⟨ad513, e513, hx513_0⟩ := Kd.at_string (Kd.R_reads' HO_4.out).2.2 x33_9 p513 q513; obtain rfl : ad510 = ad513 := (by injection e513); replace p513 := eq_true p513; replace q513 := eq_true q513) | (go_at_call 21; (with_reducible refine (impl_PlacesOf.calls kj81 t467 (rdOf ByteArray.empty t468 x33_9) t514 t515 _ A90.out).mono ?_); rintro e w111 ⟨v516, rfl, ho0, hb⟩; replace HO_4 := Aside0.mk (Kd.R_below (qR HO_4.out) hb); have HO517 := Aside0.mk (Kd.R_lower ho0 (below_size (qB HB.out))); replace HB := Aside0.mk (below_step (qB HB.out) hb))); try go_wp2_with (first | (go_at_call 19; (with_reducible refine (impl_IsPalindrome.calls kj81 (rdOf ByteArray.empty t468 x33_9) t511 t512 _ A89.out).mono ?_); rintro e w110 ⟨rfl, hb⟩; replace HO_4 := Aside0.mk (Kd.R_below (qR HO_4.out) hb); replace HB := Aside0.mk (below_step (qB HB.out) hb); have p513 : 0 ≤ (x33_9 : Int) := of_decide_eq_true (by first | (with_reducible assumption) | assumption); have q513 : x33_9 < (t468.length : Int) := of_decide_eq_true (by first | (with_reducible assumption) | assumption); obtain ⟨ad513, e513, hx513_0⟩ := Kd.at_string (Kd.R_reads' HO_4.out).2.2 x33_9 p513 q513; obtain rfl : ad510 = ad513 := (by injection e513); replace p513 := eq_true p513; replace q513 := eq_true q513) | (go_at_call 21; (with_reducible refine (impl_PlacesOf.calls kj81 t467 (rdOf ByteArray.empty t468 x33_9) t514 t515 _ A90.out).mono ?_); rintro e w111 ⟨v516, rfl, ho0, hb⟩; replace HO_4 := Aside0.mk (Kd.R_below (qR HO_4.out) hb); have HO517 := Aside0.mk (Kd.R_lower ho0 (below_size (qB HB.out))); replace HB := Aside0.mk (below_step (qB HB.out) hb))))
                       go_ret
                       exact ⟨qE, qB HB.out⟩
                     rw [if_pos c91] at H
                     obtain ⟨c91b0, c91b1⟩ := zT c91
                     clear c91
                     by_cases c92 : t511 = true
                     rotate_left
                     ·
                      replace c92 := Bool.eq_false_iff.mpr c92
                      subst c92
                      rw [if_neg (show ¬ (false = true) by decide)] at H
                      obtain rfl := Option.some.inj H
                      obtain ⟨Ao106, co106, eo106⟩ := Kd.R_slice HO_4.out
                      subst eo106
                      have p510 : 0 ≤ (x33_9 : Int) := of_decide_eq_true (by first | (with_reducible assumption) | assumption)
                      have q510 : x33_9 < (t468.length : Int) := of_decide_eq_true (by first | (with_reducible assumption) | assumption)
                      obtain ⟨ad510, e510, hx510_0⟩ := Kd.at_string (Kd.R_reads' HO_4.out).2.2 x33_9 p510 q510
                      cases e510
                      replace p510 := eq_true p510
                      replace q510 := eq_true q510
                      as_aux_lemma =>
                       go_wp2_with (first | (go_at_call 19; (with_reducible refine (impl_IsPalindrome.calls kj81 (rdOf ByteArray.empty t468 x33_9) false t512 _ A89.out).mono ?_); rintro e w107 ⟨rfl, hb⟩; replace HO_4 := Aside0.mk (Kd.R_below (qR HO_4.out) hb); replace HB := Aside0.mk (below_step (qB HB.out) hb); have p513 : 0 ≤ (x33_9 : Int) := of_decide_eq_true (by first | (with_reducible assumption) | assumption); have q513 : x33_9 < (t468.length : Int) := of_decide_eq_true (by first | (with_reducible assumption) | assumption); obtain ⟨ad513, e513, hx513_0⟩ := Kd.at_string (Kd.R_reads' HO_4.out).2.2 x33_9 p513 q513; obtain rfl : ad510 = ad513 := (by injection e513); replace p513 := eq_true p513; replace q513 := eq_true q513) | (go_at_call 21; (with_reducible refine (impl_PlacesOf.calls kj81 t467 (rdOf ByteArray.empty t468 x33_9) t514 t515 _ A90.out).mono ?_); rintro e w108 ⟨v516, rfl, ho0, hb⟩; replace HO_4 := Aside0.mk (Kd.R_below (qR HO_4.out) hb); have HO517 := Aside0.mk (Kd.R_lower ho0 (below_size (qB HB.out))); replace HB := Aside0.mk (below_step (qB HB.out) hb)))
                       repeat (go_quiet (first | (go_at_call 19; (with_reducible refine (impl_IsPalindrome.calls kj81 (rdOf ByteArray.empty t468 x33_9) false t512 _ A89.out).mono ?_); rintro e w107 ⟨rfl, hb⟩; replace HO_4 := Aside0.mk (Kd.R_below (qR HO_4.out) hb); replace HB := Aside0.mk (below_step (qB HB.out) hb); have p513 : 0 ≤ (x33_9 : Int) := of_decide_eq_true (by first | (with_reducible assumption) | assumption); have q513 : x33_9 < (t468.length : Int) := of_decide_eq_true (by first | (with_reducible assumption) | assumption); obtain ⟨ad513, e513, hx513_0⟩ := Kd.at_string (Kd.R_reads' HO_4.out).2.2 x33_9 p513 q513; obtain rfl : ad510 = ad513 := (by injection e513); replace p513 := eq_true p513; replace q513 := eq_true q513) | (go_at_call 21; (with_reducible refine (impl_PlacesOf.calls kj81 t467 (rdOf ByteArray.empty t468 x33_9) t514 t515 _ A90.out).mono ?_); rintro e w108 ⟨v516, rfl, ho0, hb⟩; replace HO_4 := Aside0.mk (Kd.R_below (qR HO_4.out) hb); have HO517 := Aside0.mk (Kd.R_lower ho0 (below_size (qB HB.out))); replace HB := Aside0.mk (below_step (qB HB.out) hb))); try go_wp2_with (first | (go_at_call 19; (with_reducible refine (impl_IsPalindrome.calls kj81 (rdOf ByteArray.empty t468 x33_9) false t512 _ A89.out).mono ?_); rintro e w107 ⟨rfl, hb⟩; replace HO_4 := Aside0.mk (Kd.R_below (qR HO_4.out) hb); replace HB := Aside0.mk (below_step (qB HB.out) hb); have p513 : 0 ≤ (x33_9 : Int) := of_decide_eq_true (by first | (with_reducible assumption) | assumption); have q513 : x33_9 < (t468.length : Int) := of_decide_eq_true (by first | (with_reducible assumption) | assumption); obtain ⟨ad513, e513, hx513_0⟩ := Kd.at_string (Kd.R_reads' HO_4.out).2.2 x33_9 p513 q513; obtain rfl : ad510 = ad513 := (by injection e513); replace p513 := eq_true p513; replace q513 := eq_true q513) | (go_at_call 21; (with_reducible refine (impl_PlacesOf.calls kj81 t467 (rdOf ByteArray.empty t468 x33_9) t514 t515 _ A90.out).mono ?_); rintro e w108 ⟨v516, rfl, ho0, hb⟩; replace HO_4 := Aside0.mk (Kd.R_below (qR HO_4.out) hb); have HO517 := Aside0.mk (Kd.R_lower ho0 (below_size (qB HB.out))); replace HB := Aside0.mk (below_step (qB HB.out) hb))))
                       go_ret
                       exact ⟨qE, qB HB.out⟩
                     subst c92
                     rw [if_pos rfl] at H
                     by_cases c93 : t515 = 0
                     rotate_left
                     ·
                      rw [if_neg c93] at H
                      obtain ⟨c93b0, c93b1⟩ := zF c93
                      obtain rfl := Option.some.inj H
                      obtain ⟨Ao103, co103, eo103⟩ := Kd.R_slice HO_4.out
                      subst eo103
                      have p510 : 0 ≤ (x33_9 : Int) := of_decide_eq_true (by first | (with_reducible assumption) | assumption)
                      have q510 : x33_9 < (t468.length : Int) := of_decide_eq_true (by first | (with_reducible assumption) | assumption)
                      obtain ⟨ad510, e510, hx510_0⟩ := Kd.at_string (Kd.R_reads' HO_4.out).2.2 x33_9 p510 q510
                      cases e510
                      replace p510 := eq_true p510
                      replace q510 := eq_true q510
                      as_aux_lemma =>
                       go_wp2_with (first | (go_at_call 19; (with_reducible refine (impl_IsPalindrome.calls kj81 (rdOf ByteArray.empty t468 x33_9) true t512 _ A89.out).mono ?_); rintro e w104 ⟨rfl, hb⟩; replace HO_4 := Aside0.mk (Kd.R_below (qR HO_4.out) hb); replace HB := Aside0.mk (below_step (qB HB.out) hb); have p513 : 0 ≤ (x33_9 : Int) := of_decide_eq_true (by first | (with_reducible assumption) | assumption); have q513 : x33_9 < (t468.length : Int) := of_decide_eq_true (by first | (with_reducible assumption) | assumption); obtain ⟨ad513, e513, hx513_0⟩ := Kd.at_string (Kd.R_reads' HO_4.out).2.2 x33_9 p513 q513; obtain rfl : ad510 = ad513 := (by injection e513); replace p513 := eq_true p513; replace q513 := eq_true q513) | (go_at_call 21; (with_reducible refine (impl_PlacesOf.calls kj81 t467 (rdOf ByteArray.empty t468 x33_9) t514 t515 _ A90.out).mono ?_); rintro e w105 ⟨v516, rfl, ho0, hb⟩; replace HO_4 := Aside0.mk (Kd.R_below (qR HO_4.out) hb); have HO517 := Aside0.mk (Kd.R_lower ho0 (below_size (qB HB.out))); replace HB := Aside0.mk (below_step (qB HB.out) hb)))
                       repeat (go_quiet (first | (go_at_call 19; (with_reducible refine (impl_IsPalindrome.calls kj81 (rdOf ByteArray.empty t468 x33_9) true t512 _ A89.out).mono ?_); rintro e w104 ⟨rfl, hb⟩; replace HO_4 := Aside0.mk (Kd.R_below (qR HO_4.out) hb); replace HB := Aside0.mk (below_step (qB HB.out) hb); have p513 : 0 ≤ (x33_9 : Int) := of_decide_eq_true (by first | (with_reducible assumption) | assumption); have q513 : x33_9 < (t468.length : Int) := of_decide_eq_true (by first | (with_reducible assumption) | assumption); obtain ⟨ad513, e513, hx513_0⟩ := Kd.at_string (Kd.R_reads' HO_4.out).2.2 x33_9 p513 q513; obtain rfl : ad510 = ad513 := (by injection e513); replace p513 := eq_true p513; replace q513 := eq_true q513) | (go_at_call 21; (with_reducible refine (impl_PlacesOf.calls kj81 t467 (rdOf ByteArray.empty t468 x33_9) t514 t515 _ A90.out).mono ?_); rintro e w105 ⟨v516, rfl, ho0, hb⟩; replace HO_4 := Aside0.mk (Kd.R_below (qR HO_4.out) hb); have HO517 := Aside0.mk (Kd.R_lower ho0 (below_size (qB HB.out))); replace HB := Aside0.mk (below_step (qB HB.out) hb))); try go_wp2_with (first | (go_at_call 19; (with_reducible refine (impl_IsPalindrome.calls kj81 (rdOf ByteArray.empty t468 x33_9) true t512 _ A89.out).mono ?_); rintro e w104 ⟨rfl, hb⟩; replace HO_4 := Aside0.mk (Kd.R_below (qR HO_4.out) hb); replace HB := Aside0.mk (below_step (qB HB.out) hb); have p513 : 0 ≤ (x33_9 : Int) := of_decide_eq_true (by first | (with_reducible assumption) | assumption); have q513 : x33_9 < (t468.length : Int) := of_decide_eq_true (by first | (with_reducible assumption) | assumption); obtain ⟨ad513, e513, hx513_0⟩ := Kd.at_string (Kd.R_reads' HO_4.out).2.2 x33_9 p513 q513; obtain rfl : ad510 = ad513 := (by injection e513); replace p513 := eq_true p513; replace q513 := eq_true q513) | (go_at_call 21; (with_reducible refine (impl_PlacesOf.calls kj81 t467 (rdOf ByteArray.empty t468 x33_9) t514 t515 _ A90.out).mono ?_); rintro e w105 ⟨v516, rfl, ho0, hb⟩; replace HO_4 := Aside0.mk (Kd.R_below (qR HO_4.out) hb); have HO517 := Aside0.mk (Kd.R_lower ho0 (below_size (qB HB.out))); replace HB := Aside0.mk (below_step (qB HB.out) hb))))
                       go_ret
                       exact ⟨qE, qB HB.out⟩
                     rw [if_pos c93] at H
                     obtain ⟨c93b0, c93b1⟩ := zT c93
                     clear c93
                     by_cases c94 : (t514.length : Int) = 0
                     ·
                      rw [if_pos c94] at H
                      obtain ⟨c94b0, c94b1⟩ := zT c94
                      clear c94
                      obtain rfl := Option.some.inj H
                      obtain ⟨Ao95, co95, eo95⟩ := Kd.R_slice HO_4.out
                      subst eo95
                      have p510 : 0 ≤ (x33_9 : Int) := of_decide_eq_true (by first | (with_reducible assumption) | assumption)
                      have q510 : x33_9 < (t468.length : Int) := of_decide_eq_true (by first | (with_reducible assumption) | assumption)
                      obtain ⟨ad510, e510, hx510_0⟩ := Kd.at_string (Kd.R_reads' HO_4.out).2.2 x33_9 p510 q510
                      cases e510
                      replace p510 := eq_true p510
                      replace q510 := eq_true q510
                      as_aux_lemma =>
                       go_wp2_with (first | (go_at_call 19; (with_reducible refine (impl_IsPalindrome.calls kj81 (rdOf ByteArray.empty t468 x33_9) true t512 _ A89.out).mono ?_); rintro e w96 ⟨rfl, hb⟩; replace HO_4 := Aside0.mk (Kd.R_below (qR HO_4.out) hb); replace HB := Aside0.mk (below_step (qB HB.out) hb); have p513 : 0 ≤ (x33_9 : Int) := of_decide_eq_true (by first | (with_reducible assumption) | assumption); have q513 : x33_9 < (t468.length : Int) := of_decide_eq_true (by first | (with_reducible assumption) | assumption); obtain ⟨ad513, e513, hx513_0⟩ := Kd.at_string (Kd.R_reads' HO_4.out).2.2 x33_9 p513 q513; obtain rfl : ad510 = ad513 := (by injection e513); replace p513 := eq_true p513; replace q513 := eq_true q513) | (go_at_call 21; (with_reducible refine (impl_PlacesOf.calls kj81 t467 (rdOf ByteArray.empty t468 x33_9) t514 t515 _ A90.out).mono ?_); rintro e w97 ⟨v516, rfl, ho0, hb⟩; replace HO_4 := Aside0.mk (Kd.R_below (qR HO_4.out) hb); have HO517 := Aside0.mk (Kd.R_lower ho0 (below_size (qB HB.out))); replace HB := Aside0.mk (below_step (qB HB.out) hb); obtain ⟨Ao98, co98, eo98⟩ := Kd.R_slice HO517.out; subst eo98))
                       repeat (go_quiet (first | (go_at_call 19; (with_reducible refine (impl_IsPalindrome.calls kj81 (rdOf ByteArray.empty t468 x33_9) true t512 _ A89.out).mono ?_); rintro e w96 ⟨rfl, hb⟩; replace HO_4 := Aside0.mk (Kd.R_below (qR HO_4.out) hb); replace HB := Aside0.mk (below_step (qB HB.out) hb); have p513 : 0 ≤ (x33_9 : Int) := of_decide_eq_true (by first | (with_reducible assumption) | assumption); have q513 : x33_9 < (t468.length : Int) := of_decide_eq_true (by first | (with_reducible assumption) | assumption); obtain ⟨ad513, e513, hx513_0⟩ := Kd.at_string (Kd.R_reads' HO_4.out).2.2 x33_9 p513 q513; obtain rfl : ad510 = ad513 := (by injection e513); replace p513 := eq_true p513; replace q513 := eq_true q513) | (go_at_call 21; (with_reducible refine (impl_PlacesOf.calls kj81 t467 (rdOf ByteArray.empty t468 x33_9) t514 t515 _ A90.out).mono ?_); rintro e w97 ⟨v516, rfl, ho0, hb⟩; replace HO_4 := Aside0.mk (Kd.R_below (qR HO_4.out) hb); have HO517 := Aside0.mk (Kd.R_lower ho0 (below_size (qB HB.out))); replace HB := Aside0.mk (below_step (qB HB.out) hb); obtain ⟨Ao98, co98, eo98⟩ := Kd.R_slice HO517.out; subst eo98)); try go_wp2_with (first | (go_at_call 19; (with_reducible refine (impl_IsPalindrome.calls kj81 (rdOf ByteArray.empty t468 x33_9) true t512 _ A89.out).mono ?_); rintro e w96 ⟨rfl, hb⟩; replace HO_4 := Aside0.mk (Kd.R_below (qR HO_4.out) hb); replace HB := Aside0.mk (below_step (qB HB.out) hb); have p513 : 0 ≤ (x33_9 : Int) := of_decide_eq_true (by first | (with_reducible assumption) | assumption); have q513 : x33_9 < (t468.length : Int) := of_decide_eq_true (by first | (with_reducible assumption) | assumption); obtain ⟨ad513, e513, hx513_0⟩ := Kd.at_string (Kd.R_reads' HO_4.out).2.2 x33_9 p513 q513; obtain rfl : ad510 = ad513 := (by injection e513); replace p513 := eq_true p513; replace q513 := eq_true q513) | (go_at_call 21; (with_reducible refine (impl_PlacesOf.calls kj81 t467 (rdOf ByteArray.empty t468 x33_9) t514 t515 _ A90.out).mono ?_); rintro e w97 ⟨v516, rfl, ho0, hb⟩; replace HO_4 := Aside0.mk (Kd.R_below (qR HO_4.out) hb); have HO517 := Aside0.mk (Kd.R_lower ho0 (below_size (qB HB.out))); replace HB := Aside0.mk (below_step (qB HB.out) hb); obtain ⟨Ao98, co98, eo98⟩ := Kd.R_slice HO517.out; subst eo98)))
                       go_ret
                       exact ⟨qE, qB HB.out⟩
                     rw [if_neg c94] at H
                     obtain ⟨c94b0, c94b1⟩ := zF c94
                     have c94b2 : ¬ (t514 = []) := fun h_ => c94 (by rw [h_]; rfl)
                     have H' := Aside0.mk H
                     clear H
                     obtain ⟨Ao99, co99, eo99⟩ := Kd.R_slice HO_4.out
                     subst eo99
                     have p510 : 0 ≤ (x33_9 : Int) := of_decide_eq_true (by first | (with_reducible assumption) | assumption)
                     have q510 : x33_9 < (t468.length : Int) := of_decide_eq_true (by first | (with_reducible assumption) | assumption)
                     obtain ⟨ad510, e510, hx510_0⟩ := Kd.at_string (Kd.R_reads' HO_4.out).2.2 x33_9 p510 q510
                     cases e510
                     replace p510 := eq_true p510
                     replace q510 := eq_true q510
                     as_aux_lemma =>
                      go_wp2_with (first | (go_at_call 19; (with_reducible refine (impl_IsPalindrome.calls kj81 (rdOf ByteArray.empty t468 x33_9) true t512 _ A89.out).mono ?_); rintro e w100 ⟨rfl, hb⟩; replace HO_4 := Aside0.mk (Kd.R_below (qR HO_4.out) hb); replace HB := Aside0.mk (below_step (qB HB.out) hb); have p513 : 0 ≤ (x33_9 : Int) := of_decide_eq_true (by first | (with_reducible assumption) | assumption); have q513 : x33_9 < (t468.length : Int) := of_decide_eq_true (by first | (with_reducible assumption) | assumption); obtain ⟨ad513, e513, hx513_0⟩ := Kd.at_string (Kd.R_reads' HO_4.out).2.2 x33_9 p513 q513; obtain rfl : ad510 = ad513 := (by injection e513); replace p513 := eq_true p513; replace q513 := eq_true q513) | (go_at_call 21; (with_reducible refine (impl_PlacesOf.calls kj81 t467 (rdOf ByteArray.empty t468 x33_9) t514 t515 _ A90.out).mono ?_); rintro e w101 ⟨v516, rfl, ho0, hb⟩; replace HO_4 := Aside0.mk (Kd.R_below (qR HO_4.out) hb); have HO517 := Aside0.mk (Kd.R_lower ho0 (below_size (qB HB.out))); replace HB := Aside0.mk (below_step (qB HB.out) hb); obtain ⟨Ao102, co102, eo102⟩ := Kd.R_slice HO517.out; subst eo102))
                      repeat (go_quiet (first | (go_at_call 19; (with_reducible refine (impl_IsPalindrome.calls kj81 (rdOf ByteArray.empty t468 x33_9) true t512 _ A89.out).mono ?_); rintro e w100 ⟨rfl, hb⟩; replace HO_4 := Aside0.mk (Kd.R_below (qR HO_4.out) hb); replace HB := Aside0.mk (below_step (qB HB.out) hb); have p513 : 0 ≤ (x33_9 : Int) := of_decide_eq_true (by first | (with_reducible assumption) | assumption); have q513 : x33_9 < (t468.length : Int) := of_decide_eq_true (by first | (with_reducible assumption) | assumption); obtain ⟨ad513, e513, hx513_0⟩ := Kd.at_string (Kd.R_reads' HO_4.out).2.2 x33_9 p513 q513; obtain rfl : ad510 = ad513 := (by injection e513); replace p513 := eq_true p513; replace q513 := eq_true q513) | (go_at_call 21; (with_reducible refine (impl_PlacesOf.calls kj81 t467 (rdOf ByteArray.empty t468 x33_9) t514 t515 _ A90.out).mono ?_); rintro e w101 ⟨v516, rfl, ho0, hb⟩; replace HO_4 := Aside0.mk (Kd.R_below (qR HO_4.out) hb); have HO517 := Aside0.mk (Kd.R_lower ho0 (below_size (qB HB.out))); replace HB := Aside0.mk (below_step (qB HB.out) hb); obtain ⟨Ao102, co102, eo102⟩ := Kd.R_slice HO517.out; subst eo102)); try go_wp2_with (first | (go_at_call 19; (with_reducible refine (impl_IsPalindrome.calls kj81 (rdOf ByteArray.empty t468 x33_9) true t512 _ A89.out).mono ?_); rintro e w100 ⟨rfl, hb⟩; replace HO_4 := Aside0.mk (Kd.R_below (qR HO_4.out) hb); replace HB := Aside0.mk (below_step (qB HB.out) hb); have p513 : 0 ≤ (x33_9 : Int) := of_decide_eq_true (by first | (with_reducible assumption) | assumption); have q513 : x33_9 < (t468.length : Int) := of_decide_eq_true (by first | (with_reducible assumption) | assumption); obtain ⟨ad513, e513, hx513_0⟩ := Kd.at_string (Kd.R_reads' HO_4.out).2.2 x33_9 p513 q513; obtain rfl : ad510 = ad513 := (by injection e513); replace p513 := eq_true p513; replace q513 := eq_true q513) | (go_at_call 21; (with_reducible refine (impl_PlacesOf.calls kj81 t467 (rdOf ByteArray.empty t468 x33_9) t514 t515 _ A90.out).mono ?_); rintro e w101 ⟨v516, rfl, ho0, hb⟩; replace HO_4 := Aside0.mk (Kd.R_below (qR HO_4.out) hb); have HO517 := Aside0.mk (Kd.R_lower ho0 (below_size (qB HB.out))); replace HB := Aside0.mk (below_step (qB HB.out) hb); obtain ⟨Ao102, co102, eo102⟩ := Kd.R_slice HO517.out; subst eo102)))
                      go_roundg kj81
                      case measure => have := HJ6.out; have := HJ17.out; have := HJ23.out; have := HJ30.out; have := HJ37.out; have := HJ48.out; have := HJ54.out; have := HK8.out; have := HK9.out; have := HJ81.out; omega
                      case rel => exact ⟨(wrap64 (x33_9 + 1)), qF, H', ⟨by have := HJ6.out; have := HJ17.out; have := HJ23.out; have := HJ30.out; have := HJ37.out; have := HJ48.out; have := HJ54.out; have := HK8.out; have := HK9.out; have := HJ81.out; omega⟩, ⟨qR HO_4.out⟩, ⟨qB HB.out⟩⟩
/-- THE ONE PURE STATEMENT of laws_FnPalindromes: yours. -/
def laws_FnPalindromes.Pure : Prop := ∀ (l0 : List Int), l0.length ≤ maxLen → l0.length * 1 ≤ 140737488351232 → (∀ x ∈ l0, (Lit.int .u8 x).wf = true) → ∃ k, laws_FnPalindromes.f k l0 = some true
theorem laws_FnPalindromes.walk (P : laws_FnPalindromes.Pure) (a0 : Option Addr) (len0 cap0 : Nat) (z0 : List Int) (w : World) (w0 : (a0 = none ∧ len0 = 0 ∧ cap0 = 0 ∧ z0 = []) ∨ ∃ x, a0 = some x ∧ len0 ≤ cap0 ∧ cap0 ≤ maxLen ∧ z0.length = cap0 ∧ (∀ i, i < z0.length → w.cell? (x.add i) = some (.int .u8 (z0.getD i 0))) ∧ ∀ n ∈ z0, (Lit.int .u8 n).wf = true) (y0 : len0 * 1 ≤ 140737488351232) :
  Calls Try.prog 3 #[.slice a0 len0 cap0] w fun e w' => e = .returned (.bool true) ∧ Below w.heap.size w w' := by
 obtain ⟨l0, rfl, hr0, hm0, hw0, hc0⟩ := ReadsInt.ofRowC w0
 obtain ⟨k, h⟩ := P l0 hm0 y0 hw0
 refine (laws_FnPalindromes.calls k _ _ l0 true w (Kd.C_of_reads (d := (0 : Int)) (h1 := fun _ => rfl) hr0) hc0 h).mono ?_
 rintro e w' ⟨rfl, hd⟩
 exact ⟨rfl, hd⟩

end Go.Proofs.Ytfihfeffbhohjaa.PF
