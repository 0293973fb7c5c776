-- an own text, written by a program of this place (wip/tools)
import Derived.Test.YtgfnkdoennbipaaGreatPFx0
import Derived.Test.YtgfnkdoennbipaaGreatPFx1
import Derived.Test.YtgfnkdoennbipaaGreatPFx2
namespace Go.Proofs.YtgfnkdoennbipaaGreat.PF
open Go.RowKit Go.Proofs.YtgfnkdoennbipaaGreatW.PrintWords Go.Proofs.YtgfnkdoennbipaaGreatW.PrintLast Go.Proofs.YtgfnkdoennbipaaGreatW.PrintMore
attribute [local go_sem] max2_int min2_int max_two min_two max_three min_three max_four min_four   -- for this text's walks alone
set_option linter.unusedVariables false
set_option linter.unusedSimpArgs false

/-! ### laws_words5: function 16 -/
def laws_words5.l0 : Nat → List ByteArray → List ByteArray → Int → Option (Bool)
 | 0, _, _, _ => none
 | k + 1, x0, x1, x5 => if x5 < (x0.length : Int) then (if 0 ≤ x5 then (if x5 < (x1.length : Int) then (if (rdOf ByteArray.empty x0 x5).toList = (rdOf ByteArray.empty x1 x5).toList then (laws_words5.l0 k x0 x1 (wrap64 (x5 + 1))) else (some false)) else (none)) else (none)) else (some true)
def laws_words5.f (k : Nat) (l0 : List ByteArray) (l1 : List ByteArray) : Option (Bool) := if (l0.length : Int) = (l1.length : Int) then (laws_words5.l0 k l0 l1 0) else (some false)
theorem laws_words5.mono_l : ∀ k, (∀ y0 y1 y2, LeO (laws_words5.l0 k y0 y1 y2) (laws_words5.l0 (k + 1) y0 y1 y2))
 | 0 => fun _ _ _ r h => by simp [laws_words5.l0] at h
 | k + 1 => by
  have ih0 := laws_words5.mono_l k
  ·
   intro y0 y1 y2
   unfold laws_words5.l0
   with_reducible repeat' first
   | exact ih0 _ _ _
   | exact LeO.refl _
   | exact LeO.none _
   | refine LeO.ite ?_ ?_
   | refine LeO.bind ?_ (fun _ => ?_)
theorem laws_words5.mono : ∀ a0 a1 k, LeO (laws_words5.f k a0 a1) (laws_words5.f (k + 1) a0 a1) := by
 intro a0 a1 k
 have ih0 := laws_words5.mono_l k
 unfold laws_words5.f
 with_reducible repeat' first
   | exact ih0 _ _ _
   | exact LeO.refl _
   | exact LeO.none _
   | refine LeO.ite ?_ ?_
   | refine LeO.bind ?_ (fun _ => ?_)
set_option maxHeartbeats 8000000 in
set_option maxRecDepth 100000 in
theorem laws_words5.calls (k : Nat) (A0 : Option Addr) (c0 : Nat) (l0 : List ByteArray) (A1 : Option Addr) (c1 : Nat) (l1 : List ByteArray) (r : Bool) (w : World) (hr0 : Kd.C Kd.string w A0 l0.length l0) (hc0 : l0.length ≤ c0) (hr1 : Kd.C Kd.string w A1 l1.length l1) (hc1 : l1.length ≤ c1) (h : laws_words5.f k l0 l1 = some r) :
  Calls Tryz.prog 16 #[.slice A0 l0.length c0, .slice A1 l1.length c1] w fun e w' => e = .returned (.bool r) ∧ Drawn0 w w' := by
 have HR0 := Aside0.mk hr0
 have HC0 := Aside0.mk hc0
 clear hr0 hc0
 have HR1 := Aside0.mk hr1
 have HC1 := Aside0.mk hc1
 clear hr1 hc1
 have H : (if (l0.length : Int) = (l1.length : Int) then (laws_words5.l0 k l0 l1 0) else (some false)) = some r := h
 clear h
 by_cases c3 : (l0.length : Int) = (l1.length : Int)
 rotate_left
 ·
  rw [if_neg c3] at H
  obtain ⟨c3b0, c3b1⟩ := zF c3
  have c3b2 : (l0.length == l1.length) = false := by first | simpa using c3 | (simp at c3 ⊢; omega)
  obtain rfl := Option.some.inj H
  go_enter Tryz.func16, Tryz.ntmps16
  go_wp2
  repeat (go_quiet (fail); try go_wp2)
  go_ret
  exact ⟨by first | rfl | (simp; done) | (simp [*]; done) | (simp; rw [Bool.eq_iff_iff]; simp; done), by repeat (first | exact Drawn0.refl _ | apply Drawn0.step)⟩

 rw [if_pos c3] at H
 obtain ⟨c3b0, c3b1⟩ := zT c3
 have c3b2 : (l0.length == l1.length) = true := by first | simpa using c3 | (simp at c3 ⊢; omega)
 clear c3
 have H' := Aside0.mk H
 clear H
 go_enter Tryz.func16, Tryz.ntmps16
 go_wp2
 repeat (go_quiet (fail); try go_wp2)
 go_loopg [5] k (fun kq v5 w' => ∃ (x5_1 : Int), v5 = .int .i64 x5_1 ∧ Aside0 (laws_words5.l0 kq l0 l1 x5_1 = some r) ∧ Aside0 (kq ≤ k) ∧ Drawn0 w w')
 case atStart => exact ⟨(0), qF, H', ⟨Nat.le_refl _⟩, by repeat (first | exact Drawn0.refl _ | apply Drawn0.step)⟩
 case round =>
  clear H'
  obtain ⟨x5_1, rfl, HA, HK1, ⟨m1, rfl⟩⟩ := hrel
  cases gk with
  | zero => exact absurd HA.out (by simp [laws_words5.l0])
  | succ k1 =>
   have H := HA.out
   clear HA
   simp only [laws_words5.l0] at H
   by_cases c4 : x5_1 < (l0.length : Int)
   rotate_left
   ·
    rw [if_neg c4] at H
    have c4b0 : decide (x5_1 < (l0.length : Int)) = false := decide_eq_false c4
    clear c4
    obtain rfl := Option.some.inj H
    go_wp2
    repeat (go_quiet (fail); try go_wp2)
    go_ret
    exact ⟨by first | rfl | (simp; done) | (simp [*]; done) | (simp; rw [Bool.eq_iff_iff]; simp; done), by repeat (first | exact Drawn0.refl _ | apply Drawn0.step)⟩
   rw [if_pos c4] at H
   have c4b0 : decide (x5_1 < (l0.length : Int)) = true := decide_eq_true c4
   clear c4
   by_cases c5 : 0 ≤ x5_1
   rotate_left
   ·
    rw [if_neg c5] at H
    exact absurd H (by simp)
   rw [if_pos c5] at H
   have c5b0 : decide (0 ≤ x5_1) = true := decide_eq_true c5
   clear c5
   by_cases c6 : x5_1 < (l1.length : Int)
   rotate_left
   ·
    rw [if_neg c6] at H
    exact absurd H (by simp)
   rw [if_pos c6] at H
   have c6b0 : decide (x5_1 < (l1.length : Int)) = true := decide_eq_true c6
   clear c6
   by_cases c7 : (rdOf ByteArray.empty l0 x5_1).toList = (rdOf ByteArray.empty l1 x5_1).toList
   rotate_left
   ·
    rw [if_neg c7] at H
    obtain ⟨c7b0, c7b1⟩ := zF c7
    obtain rfl := Option.some.inj H
    have p502 : 0 ≤ (x5_1 : Int) := of_decide_eq_true (by first | (with_reducible assumption) | assumption)
    have q502 : x5_1 < (l0.length : Int) := of_decide_eq_true (by first | (with_reducible assumption) | assumption)
    obtain ⟨ad502, e502, hx502_0⟩ := Kd.at_string HR0.out x5_1 p502 q502
    cases e502
    replace p502 := eq_true p502
    replace q502 := eq_true q502
    have p503 : 0 ≤ (x5_1 : Int) := of_decide_eq_true (by first | (with_reducible assumption) | assumption)
    have q503 : x5_1 < (l1.length : Int) := of_decide_eq_true (by first | (with_reducible assumption) | assumption)
    obtain ⟨ad503, e503, hx503_0⟩ := Kd.at_string HR1.out x5_1 p503 q503
    cases e503
    replace p503 := eq_true p503
    replace q503 := eq_true q503
    go_wp2
    repeat (go_quiet (fail); try go_wp2)
    go_ret
    exact ⟨by first | rfl | (simp; done) | (simp [*]; done) | (simp; rw [Bool.eq_iff_iff]; simp; done), by repeat (first | exact Drawn0.refl _ | apply Drawn0.step)⟩
   rw [if_pos c7] at H
   obtain ⟨c7b0, c7b1⟩ := zT c7
   clear c7
   have H' := Aside0.mk H
   clear H
   have p502 : 0 ≤ (x5_1 : Int) := of_decide_eq_true (by first | (with_reducible assumption) | assumption)
   have q502 : x5_1 < (l0.length : Int) := of_decide_eq_true (by first | (with_reducible assumption) | assumption)
   obtain ⟨ad502, e502, hx502_0⟩ := Kd.at_string HR0.out x5_1 p502 q502
   cases e502
   replace p502 := eq_true p502
   replace q502 := eq_true q502
   have p503 : 0 ≤ (x5_1 : Int) := of_decide_eq_true (by first | (with_reducible assumption) | assumption)
   have q503 : x5_1 < (l1.length : Int) := of_decide_eq_true (by first | (with_reducible assumption) | assumption)
   obtain ⟨ad503, e503, hx503_0⟩ := Kd.at_string HR1.out x5_1 p503 q503
   cases e503
   replace p503 := eq_true p503
   replace q503 := eq_true q503
   go_wp2
   repeat (go_quiet (fail); try go_wp2)
   go_roundg k1
   case measure => have := HK1.out; omega
   case rel => exact ⟨(wrap64 (x5_1 + 1)), qF, H', ⟨by have := HK1.out; omega⟩, by repeat (first | exact Drawn0.refl _ | apply Drawn0.step)⟩
end Go.Proofs.YtgfnkdoennbipaaGreat.PF

namespace Go.Proofs.YtgfnkdoennbipaaGreat.PF
open Go.RowKit Go.Proofs.YtgfnkdoennbipaaGreatW.PrintWords Go.Proofs.YtgfnkdoennbipaaGreatW.PrintLast Go.Proofs.YtgfnkdoennbipaaGreatW.PrintMore
attribute [local go_sem] max2_int min2_int max_two min_two max_three min_three max_four min_four   -- for this text's walks alone
set_option linter.unusedVariables false
set_option linter.unusedSimpArgs false

/-! ### laws_likeInts: function 24 -/
def laws_likeInts.l0 : Nat → List Int → List Int → Int → Option (Bool)
 | 0, _, _, _ => none
 | k + 1, x0, x1, x5 => if x5 < (x0.length : Int) then (if 0 ≤ x5 then (if x5 < (x1.length : Int) then (if (rd x0 x5) = (rd x1 x5) then (laws_likeInts.l0 k x0 x1 (wrap64 (x5 + 1))) else (some false)) else (none)) else (none)) else (some true)
def laws_likeInts.f (k : Nat) (l0 : List Int) (l1 : List Int) : Option (Bool) := if (l0.length : Int) = (l1.length : Int) then (laws_likeInts.l0 k l0 l1 0) else (some false)
theorem laws_likeInts.mono_l : ∀ k, (∀ y0 y1 y2, LeO (laws_likeInts.l0 k y0 y1 y2) (laws_likeInts.l0 (k + 1) y0 y1 y2))
 | 0 => fun _ _ _ r h => by simp [laws_likeInts.l0] at h
 | k + 1 => by
  have ih0 := laws_likeInts.mono_l k
  ·
   intro y0 y1 y2
   unfold laws_likeInts.l0
   with_reducible repeat' first
   | exact ih0 _ _ _
   | exact LeO.refl _
   | exact LeO.none _
   | refine LeO.ite ?_ ?_
   | refine LeO.bind ?_ (fun _ => ?_)
theorem laws_likeInts.mono : ∀ a0 a1 k, LeO (laws_likeInts.f k a0 a1) (laws_likeInts.f (k + 1) a0 a1) := by
 intro a0 a1 k
 have ih0 := laws_likeInts.mono_l k
 unfold laws_likeInts.f
 with_reducible repeat' first
   | exact ih0 _ _ _
   | exact LeO.refl _
   | exact LeO.none _
   | refine LeO.ite ?_ ?_
   | refine LeO.bind ?_ (fun _ => ?_)
set_option maxHeartbeats 8000000 in
set_option maxRecDepth 100000 in
theorem laws_likeInts.calls (k : Nat) (A0 : Option Addr) (c0 : Nat) (l0 : List Int) (A1 : Option Addr) (c1 : Nat) (l1 : List Int) (r : Bool) (w : World) (hr0 : Kd.C (Kd.int .i64) w A0 l0.length l0) (hc0 : l0.length ≤ c0) (hr1 : Kd.C (Kd.int .i64) w A1 l1.length l1) (hc1 : l1.length ≤ c1) (h : laws_likeInts.f k l0 l1 = some r) :
  Calls Tryz.prog 24 #[.slice A0 l0.length c0, .slice A1 l1.length c1] w fun e w' => e = .returned (.bool r) ∧ Drawn0 w w' := by
 have HR0 := Aside0.mk hr0
 have HC0 := Aside0.mk hc0
 clear hr0 hc0
 have HR1 := Aside0.mk hr1
 have HC1 := Aside0.mk hc1
 clear hr1 hc1
 have H : (if (l0.length : Int) = (l1.length : Int) then (laws_likeInts.l0 k l0 l1 0) else (some false)) = some r := h
 clear h
 by_cases c3 : (l0.length : Int) = (l1.length : Int)
 rotate_left
 ·
  rw [if_neg c3] at H
  obtain ⟨c3b0, c3b1⟩ := zF c3
  have c3b2 : (l0.length == l1.length) = false := by first | simpa using c3 | (simp at c3 ⊢; omega)
  obtain rfl := Option.some.inj H
  go_enter Tryz.func24, Tryz.ntmps24
  go_wp2
  repeat (go_quiet (fail); try go_wp2)
  go_ret
  exact ⟨by first | rfl | (simp; done) | (simp [*]; done) | (simp; rw [Bool.eq_iff_iff]; simp; done), by repeat (first | exact Drawn0.refl _ | apply Drawn0.step)⟩

 rw [if_pos c3] at H
 obtain ⟨c3b0, c3b1⟩ := zT c3
 have c3b2 : (l0.length == l1.length) = true := by first | simpa using c3 | (simp at c3 ⊢; omega)
 clear c3
 have H' := Aside0.mk H
 clear H
 go_enter Tryz.func24, Tryz.ntmps24
 go_wp2
 repeat (go_quiet (fail); try go_wp2)
 go_loopg [5] k (fun kq v5 w' => ∃ (x5_1 : Int), v5 = .int .i64 x5_1 ∧ Aside0 (laws_likeInts.l0 kq l0 l1 x5_1 = some r) ∧ Aside0 (kq ≤ k) ∧ Drawn0 w w')
 case atStart => exact ⟨(0), qF, H', ⟨Nat.le_refl _⟩, by repeat (first | exact Drawn0.refl _ | apply Drawn0.step)⟩
 case round =>
  clear H'
  obtain ⟨x5_1, rfl, HA, HK1, ⟨m1, rfl⟩⟩ := hrel
  cases gk with
  | zero => exact absurd HA.out (by simp [laws_likeInts.l0])
  | succ k1 =>
   have H := HA.out
   clear HA
   simp only [laws_likeInts.l0] at H
   by_cases c4 : x5_1 < (l0.length : Int)
   rotate_left
   ·
    rw [if_neg c4] at H
    have c4b0 : decide (x5_1 < (l0.length : Int)) = false := decide_eq_false c4
    clear c4
    obtain rfl := Option.some.inj H
    go_wp2
    repeat (go_quiet (fail); try go_wp2)
    go_ret
    exact ⟨by first | rfl | (simp; done) | (simp [*]; done) | (simp; rw [Bool.eq_iff_iff]; simp; done), by repeat (first | exact Drawn0.refl _ | apply Drawn0.step)⟩
   rw [if_pos c4] at H
   have c4b0 : decide (x5_1 < (l0.length : Int)) = true := decide_eq_true c4
   clear c4
   by_cases c5 : 0 ≤ x5_1
   rotate_left
   ·
    rw [if_neg c5] at H
    exact absurd H (by simp)
   rw [if_pos c5] at H
   have c5b0 : decide (0 ≤ x5_1) = true := decide_eq_true c5
   clear c5
   by_cases c6 : x5_1 < (l1.length : Int)
   rotate_left
   ·
    rw [if_neg c6] at H
    exact absurd H (by simp)
   rw [if_pos c6] at H
   have c6b0 : decide (x5_1 < (l1.length : Int)) = true := decide_eq_true c6
   clear c6
   by_cases c7 : (rd l0 x5_1) = (rd l1 x5_1)
   rotate_left
   ·
    rw [if_neg c7] at H
    obtain ⟨c7b0, c7b1⟩ := zF c7
    obtain rfl := Option.some.inj H
    have p504 : 0 ≤ (x5_1 : Int) := of_decide_eq_true (by first | (with_reducible assumption) | assumption)
    have q504 : x5_1 < (l0.length : Int) := of_decide_eq_true (by first | (with_reducible assumption) | assumption)
    obtain ⟨ad504, e504, hx504_0⟩ := Kd.at_int HR0.out x5_1 p504 q504
    cases e504
    replace p504 := eq_true p504
    replace q504 := eq_true q504
    have p505 : 0 ≤ (x5_1 : Int) := of_decide_eq_true (by first | (with_reducible assumption) | assumption)
    have q505 : x5_1 < (l1.length : Int) := of_decide_eq_true (by first | (with_reducible assumption) | assumption)
    obtain ⟨ad505, e505, hx505_0⟩ := Kd.at_int HR1.out x5_1 p505 q505
    cases e505
    replace p505 := eq_true p505
    replace q505 := eq_true q505
    go_wp2
    repeat (go_quiet (fail); try go_wp2)
    go_ret
    exact ⟨by first | rfl | (simp; done) | (simp [*]; done) | (simp; rw [Bool.eq_iff_iff]; simp; done), by repeat (first | exact Drawn0.refl _ | apply Drawn0.step)⟩
   rw [if_pos c7] at H
   obtain ⟨c7b0, c7b1⟩ := zT c7
   clear c7
   have H' := Aside0.mk H
   clear H
   have p504 : 0 ≤ (x5_1 : Int) := of_decide_eq_true (by first | (with_reducible assumption) | assumption)
   have q504 : x5_1 < (l0.length : Int) := of_decide_eq_true (by first | (with_reducible assumption) | assumption)
   obtain ⟨ad504, e504, hx504_0⟩ := Kd.at_int HR0.out x5_1 p504 q504
   cases e504
   replace p504 := eq_true p504
   replace q504 := eq_true q504
   have p505 : 0 ≤ (x5_1 : Int) := of_decide_eq_true (by first | (with_reducible assumption) | assumption)
   have q505 : x5_1 < (l1.length : Int) := of_decide_eq_true (by first | (with_reducible assumption) | assumption)
   obtain ⟨ad505, e505, hx505_0⟩ := Kd.at_int HR1.out x5_1 p505 q505
   cases e505
   replace p505 := eq_true p505
   replace q505 := eq_true q505
   go_wp2
   repeat (go_quiet (fail); try go_wp2)
   go_roundg k1
   case measure => have := HK1.out; omega
   case rel => exact ⟨(wrap64 (x5_1 + 1)), qF, H', ⟨by have := HK1.out; omega⟩, by repeat (first | exact Drawn0.refl _ | apply Drawn0.step)⟩
end Go.Proofs.YtgfnkdoennbipaaGreat.PF

namespace Go.Proofs.YtgfnkdoennbipaaGreat.PF
open Go.RowKit Go.Proofs.YtgfnkdoennbipaaGreatW.PrintWords Go.Proofs.YtgfnkdoennbipaaGreatW.PrintLast Go.Proofs.YtgfnkdoennbipaaGreatW.PrintMore
attribute [local go_sem] max2_int min2_int max_two min_two max_three min_three max_four min_four   -- for this text's walks alone
set_option linter.unusedVariables false
set_option linter.unusedSimpArgs false

/-! ### laws_rows5: function 17 -/
def laws_rows5.l0 : Nat → List (List Int) → List (List Int) → Int → Option (Bool)
 | 0, _, _, _ => none
 | k + 1, x0, x1, x5 => if x5 < (x0.length : Int) then (if 0 ≤ x5 then (if x5 < (x1.length : Int) then ((laws_likeInts.f k (rd_L5 x0 x5) (rd_L5 x1 x5)).bind fun t508 => (if t508 = true then (laws_rows5.l0 k x0 x1 (wrap64 (x5 + 1))) else (some false))) else (none)) else (none)) else (some true)
def laws_rows5.f (k : Nat) (l0 : List (List Int)) (l1 : List (List Int)) : Option (Bool) := if (l0.length : Int) = (l1.length : Int) then (laws_rows5.l0 k l0 l1 0) else (some false)
theorem laws_rows5.mono_l : ∀ k, (∀ y0 y1 y2, LeO (laws_rows5.l0 k y0 y1 y2) (laws_rows5.l0 (k + 1) y0 y1 y2))
 | 0 => fun _ _ _ r h => by simp [laws_rows5.l0] at h
 | k + 1 => by
  have ih0 := laws_rows5.mono_l k
  ·
   intro y0 y1 y2
   unfold laws_rows5.l0
   with_reducible repeat' first
   | exact ih0 _ _ _
   | exact laws_likeInts.mono _ _ _
   | exact LeO.refl _
   | exact LeO.none _
   | refine LeO.ite ?_ ?_
   | refine LeO.bind ?_ (fun _ => ?_)
theorem laws_rows5.mono : ∀ a0 a1 k, LeO (laws_rows5.f k a0 a1) (laws_rows5.f (k + 1) a0 a1) := by
 intro a0 a1 k
 have ih0 := laws_rows5.mono_l k
 unfold laws_rows5.f
 with_reducible repeat' first
   | exact ih0 _ _ _
   | exact laws_likeInts.mono _ _ _
   | exact LeO.refl _
   | exact LeO.none _
   | refine LeO.ite ?_ ?_
   | refine LeO.bind ?_ (fun _ => ?_)
set_option maxHeartbeats 8000000 in
set_option maxRecDepth 100000 in
theorem laws_rows5.calls (k : Nat) (A0 : Option Addr) (c0 : Nat) (l0 : List (List Int)) (A1 : Option Addr) (c1 : Nat) (l1 : List (List Int)) (r : Bool) (w : World) (hr0 : Kd.C (Kd.slice 2 (Kd.int .i64)) w A0 l0.length l0) (hc0 : l0.length ≤ c0) (hr1 : Kd.C (Kd.slice 2 (Kd.int .i64)) w A1 l1.length l1) (hc1 : l1.length ≤ c1) (h : laws_rows5.f k l0 l1 = some r) :
  Calls Tryz.prog 17 #[.slice A0 l0.length c0, .slice A1 l1.length c1] w fun e w' => e = .returned (.bool r) ∧ Drawn0 w w' := by
 have HR0 := Aside0.mk hr0
 have HC0 := Aside0.mk hc0
 clear hr0 hc0
 have HR1 := Aside0.mk hr1
 have HC1 := Aside0.mk hc1
 clear hr1 hc1
 have H : (if (l0.length : Int) = (l1.length : Int) then (laws_rows5.l0 k l0 l1 0) else (some false)) = some r := h
 clear h
 by_cases c3 : (l0.length : Int) = (l1.length : Int)
 rotate_left
 ·
  rw [if_neg c3] at H
  obtain ⟨c3b0, c3b1⟩ := zF c3
  have c3b2 : (l0.length == l1.length) = false := by first | simpa using c3 | (simp at c3 ⊢; omega)
  obtain rfl := Option.some.inj H
  go_enter Tryz.func17, Tryz.ntmps17
  go_wp2
  repeat (go_quiet (fail); try go_wp2)
  go_ret
  exact ⟨by first | rfl | (simp; done) | (simp [*]; done) | (simp; rw [Bool.eq_iff_iff]; simp; done), by repeat (first | exact Drawn0.refl _ | apply Drawn0.step)⟩

 rw [if_pos c3] at H
 obtain ⟨c3b0, c3b1⟩ := zT c3
 have c3b2 : (l0.length == l1.length) = true := by first | simpa using c3 | (simp at c3 ⊢; omega)
 clear c3
 have H' := Aside0.mk H
 clear H
 go_enter Tryz.func17, Tryz.ntmps17
 go_wp2
 repeat (go_quiet (fail); try go_wp2)
 go_loopg [5] k (fun kq v5 w' => ∃ (x5_1 : Int), v5 = .int .i64 x5_1 ∧ Aside0 (laws_rows5.l0 kq l0 l1 x5_1 = some r) ∧ Aside0 (kq ≤ k) ∧ Drawn0 w w')
 case atStart => exact ⟨(0), qF, H', ⟨Nat.le_refl _⟩, by repeat (first | exact Drawn0.refl _ | apply Drawn0.step)⟩
 case round =>
  clear H'
  obtain ⟨x5_1, rfl, HA, HK1, ⟨m1, rfl⟩⟩ := hrel
  cases gk with
  | zero => exact absurd HA.out (by simp [laws_rows5.l0])
  | succ k1 =>
   have H := HA.out
   clear HA
   simp only [laws_rows5.l0] at H
   by_cases c4 : x5_1 < (l0.length : Int)
   rotate_left
   ·
    rw [if_neg c4] at H
    have c4b0 : decide (x5_1 < (l0.length : Int)) = false := decide_eq_false c4
    clear c4
    obtain rfl := Option.some.inj H
    go_wp2
    repeat (go_quiet (fail); try go_wp2)
    go_ret
    exact ⟨by first | rfl | (simp; done) | (simp [*]; done) | (simp; rw [Bool.eq_iff_iff]; simp; done), by repeat (first | exact Drawn0.refl _ | apply Drawn0.step)⟩
   rw [if_pos c4] at H
   have c4b0 : decide (x5_1 < (l0.length : Int)) = true := decide_eq_true c4
   clear c4
   by_cases c5 : 0 ≤ x5_1
   rotate_left
   ·
    rw [if_neg c5] at H
    exact absurd H (by simp)
   rw [if_pos c5] at H
   have c5b0 : decide (0 ≤ x5_1) = true := decide_eq_true c5
   clear c5
   by_cases c6 : x5_1 < (l1.length : Int)
   rotate_left
   ·
    rw [if_neg c6] at H
    exact absurd H (by simp)
   rw [if_pos c6] at H
   have c6b0 : decide (x5_1 < (l1.length : Int)) = true := decide_eq_true c6
   clear c6
   replace H := qN H
   obtain ⟨t508, A7, H⟩ := H
   try dsimp only at H
   by_cases c8 : t508 = true
   ·
    subst c8
    rw [if_pos rfl] at H
    have H' := Aside0.mk H
    clear H
    have p506 : 0 ≤ (x5_1 : Int) := of_decide_eq_true (by first | (with_reducible assumption) | assumption)
    have q506 : x5_1 < (l0.length : Int) := of_decide_eq_true (by first | (with_reducible assumption) | assumption)
    obtain ⟨ad506, A506_0, c506_0, e506, hx506_0, hl506_0, hi506_0⟩ := at_L5 HR0.out x5_1 p506 q506
    cases e506
    have HR506_0 := Aside0.mk hi506_0
    have HC506_0 := Aside0.mk hl506_0
    clear hi506_0 hl506_0
    replace p506 := eq_true p506
    replace q506 := eq_true q506
    have p507 : 0 ≤ (x5_1 : Int) := of_decide_eq_true (by first | (with_reducible assumption) | assumption)
    have q507 : x5_1 < (l1.length : Int) := of_decide_eq_true (by first | (with_reducible assumption) | assumption)
    obtain ⟨ad507, A507_0, c507_0, e507, hx507_0, hl507_0, hi507_0⟩ := at_L5 HR1.out x5_1 p507 q507
    cases e507
    have HR507_0 := Aside0.mk hi507_0
    have HC507_0 := Aside0.mk hl507_0
    clear hi507_0 hl507_0
    replace p507 := eq_true p507
    replace q507 := eq_true q507
    go_wp2_with (first | (go_at_call 24; (with_reducible refine (laws_likeInts.calls k1 _ _ (rd_L5 l0 x5_1) _ _ (rd_L5 l1 x5_1) true _ ?side1 ?side2 ?side3 ?side4 A7.out).mono ?_); (case side1 => exact qC HR506_0.out); (case side2 => exact HC506_0.out); (case side3 => exact qC HR507_0.out); (case side4 => exact HC507_0.out); rintro e w' ⟨rfl, ⟨nd, rfl⟩⟩; (try first | exact ⟨rfl, _, World.drewN_drewN _ _ _⟩ | exact ⟨rfl, _, Eq.trans (World.drewN_drewN _ _ _) (congrArg (World.drewN _) (Nat.add_assoc _ _ _))⟩)))
    repeat (go_quiet (first | (go_at_call 24; (with_reducible refine (laws_likeInts.calls k1 _ _ (rd_L5 l0 x5_1) _ _ (rd_L5 l1 x5_1) true _ ?side1 ?side2 ?side3 ?side4 A7.out).mono ?_); (case side1 => exact qC HR506_0.out); (case side2 => exact HC506_0.out); (case side3 => exact qC HR507_0.out); (case side4 => exact HC507_0.out); rintro e w' ⟨rfl, ⟨nd, rfl⟩⟩; (try first | exact ⟨rfl, _, World.drewN_drewN _ _ _⟩ | exact ⟨rfl, _, Eq.trans (World.drewN_drewN _ _ _) (congrArg (World.drewN _) (Nat.add_assoc _ _ _))⟩))); try go_wp2_with (first | (go_at_call 24; (with_reducible refine (laws_likeInts.calls k1 _ _ (rd_L5 l0 x5_1) _ _ (rd_L5 l1 x5_1) true _ ?side1 ?side2 ?side3 ?side4 A7.out).mono ?_); (case side1 => exact qC HR506_0.out); (case side2 => exact HC506_0.out); (case side3 => exact qC HR507_0.out); (case side4 => exact HC507_0.out); rintro e w' ⟨rfl, ⟨nd, rfl⟩⟩; (try first | exact ⟨rfl, _, World.drewN_drewN _ _ _⟩ | exact ⟨rfl, _, Eq.trans (World.drewN_drewN _ _ _) (congrArg (World.drewN _) (Nat.add_assoc _ _ _))⟩))))
    go_roundg k1
    case measure => have := HK1.out; omega
    case rel => exact ⟨(wrap64 (x5_1 + 1)), qF, H', ⟨by have := HK1.out; omega⟩, by repeat (first | exact Drawn0.refl _ | apply Drawn0.step)⟩
   replace c8 := Bool.eq_false_iff.mpr c8
   subst c8
   rw [if_neg (show ¬ (false = true) by decide)] at H
   obtain rfl := Option.some.inj H
   have p506 : 0 ≤ (x5_1 : Int) := of_decide_eq_true (by first | (with_reducible assumption) | assumption)
   have q506 : x5_1 < (l0.length : Int) := of_decide_eq_true (by first | (with_reducible assumption) | assumption)
   obtain ⟨ad506, A506_0, c506_0, e506, hx506_0, hl506_0, hi506_0⟩ := at_L5 HR0.out x5_1 p506 q506
   cases e506
   have HR506_0 := Aside0.mk hi506_0
   have HC506_0 := Aside0.mk hl506_0
   clear hi506_0 hl506_0
   replace p506 := eq_true p506
   replace q506 := eq_true q506
   have p507 : 0 ≤ (x5_1 : Int) := of_decide_eq_true (by first | (with_reducible assumption) | assumption)
   have q507 : x5_1 < (l1.length : Int) := of_decide_eq_true (by first | (with_reducible assumption) | assumption)
   obtain ⟨ad507, A507_0, c507_0, e507, hx507_0, hl507_0, hi507_0⟩ := at_L5 HR1.out x5_1 p507 q507
   cases e507
   have HR507_0 := Aside0.mk hi507_0
   have HC507_0 := Aside0.mk hl507_0
   clear hi507_0 hl507_0
   replace p507 := eq_true p507
   replace q507 := eq_true q507
   go_wp2_with (first | (go_at_call 24; (with_reducible refine (laws_likeInts.calls k1 _ _ (rd_L5 l0 x5_1) _ _ (rd_L5 l1 x5_1) false _ ?side1 ?side2 ?side3 ?side4 A7.out).mono ?_); (case side1 => exact qC HR506_0.out); (case side2 => exact HC506_0.out); (case side3 => exact qC HR507_0.out); (case side4 => exact HC507_0.out); rintro e w' ⟨rfl, ⟨nd, rfl⟩⟩; (try first | exact ⟨rfl, _, World.drewN_drewN _ _ _⟩ | exact ⟨rfl, _, Eq.trans (World.drewN_drewN _ _ _) (congrArg (World.drewN _) (Nat.add_assoc _ _ _))⟩)))
   repeat (go_quiet (first | (go_at_call 24; (with_reducible refine (laws_likeInts.calls k1 _ _ (rd_L5 l0 x5_1) _ _ (rd_L5 l1 x5_1) false _ ?side1 ?side2 ?side3 ?side4 A7.out).mono ?_); (case side1 => exact qC HR506_0.out); (case side2 => exact HC506_0.out); (case side3 => exact qC HR507_0.out); (case side4 => exact HC507_0.out); rintro e w' ⟨rfl, ⟨nd, rfl⟩⟩; (try first | exact ⟨rfl, _, World.drewN_drewN _ _ _⟩ | exact ⟨rfl, _, Eq.trans (World.drewN_drewN _ _ _) (congrArg (World.drewN _) (Nat.add_assoc _ _ _))⟩))); try go_wp2_with (first | (go_at_call 24; (with_reducible refine (laws_likeInts.calls k1 _ _ (rd_L5 l0 x5_1) _ _ (rd_L5 l1 x5_1) false _ ?side1 ?side2 ?side3 ?side4 A7.out).mono ?_); (case side1 => exact qC HR506_0.out); (case side2 => exact HC506_0.out); (case side3 => exact qC HR507_0.out); (case side4 => exact HC507_0.out); rintro e w' ⟨rfl, ⟨nd, rfl⟩⟩; (try first | exact ⟨rfl, _, World.drewN_drewN _ _ _⟩ | exact ⟨rfl, _, Eq.trans (World.drewN_drewN _ _ _) (congrArg (World.drewN _) (Nat.add_assoc _ _ _))⟩))))
   go_ret
   exact ⟨by first | rfl | (simp; done) | (simp [*]; done) | (simp; rw [Bool.eq_iff_iff]; simp; done), by repeat (first | exact Drawn0.refl _ | apply Drawn0.step)⟩
end Go.Proofs.YtgfnkdoennbipaaGreat.PF

namespace Go.Proofs.YtgfnkdoennbipaaGreat.PF
open Go.RowKit Go.Proofs.YtgfnkdoennbipaaGreatW.PrintWords Go.Proofs.YtgfnkdoennbipaaGreatW.PrintLast Go.Proofs.YtgfnkdoennbipaaGreatW.PrintMore
attribute [local go_sem] max2_int min2_int max_two min_two max_three min_three max_four min_four   -- for this text's walks alone
set_option linter.unusedVariables false
set_option linter.unusedSimpArgs false

/-! ### impl_FactorsOf_1: function 48 -/
def impl_FactorsOf_1.f (a0 : Int) : Option (Bool) := (impl_isLength.f a0).bind fun t510 => (some t510)
set_option maxHeartbeats 8000000 in
set_option maxRecDepth 100000 in
theorem impl_FactorsOf_1.calls (g0 : Nat) (a0 : Int) (r : Bool) (w : World) (hb0 : w.heap[g0]? = some (.cells #[.int .i64 a0] 2 (0, 0))) (h : impl_FactorsOf_1.f a0 = some r) :
  Calls Tryz.prog 48 #[.pointer (some ⟨g0, 0, none⟩)] w fun e w' => e = .returned (.bool r) ∧ Drawn0 w w' := by
 have BK509 := Aside0.mk hb0
 clear hb0
 have H : ((impl_isLength.f a0).bind fun t510 => (some t510)) = some r := h
 clear h
 replace H := qN H
 obtain ⟨t510, A2, H⟩ := H
 try dsimp only at H
 obtain rfl := Option.some.inj H
 have hcz3_0 : w.cell? ⟨g0, 0, none⟩ = some (.int .i64 a0) := (blk_cell BK509.out 0).trans rfl
 have hfz3_0 := blk_frozen BK509.out 0
 go_enter Tryz.func48, Tryz.ntmps48
 go_wp2_with (first | ((with_reducible refine gate_callee (f := 37) rfl ?_); refine goesL_ (some 3) rfl rfl Tryz.func37 (by kernel_rfl) rfl #[.int .i64 a0] rfl qV ?_; (with_reducible refine (impl_isLength.calls a0 t510 _ A2.out).mono ?_); rintro e w' ⟨rfl, ⟨nd, rfl⟩⟩; refine ⟨_, rfl, ?_⟩))
 go_ret
 exact ⟨by first | rfl | (simp; done) | (simp [*]; done) | (simp; rw [Bool.eq_iff_iff]; simp; done), by repeat (first | exact Drawn0.refl _ | apply Drawn0.step)⟩

end Go.Proofs.YtgfnkdoennbipaaGreat.PF

namespace Go.Proofs.YtgfnkdoennbipaaGreat.PF
open Go.RowKit Go.Proofs.YtgfnkdoennbipaaGreatW.PrintWords Go.Proofs.YtgfnkdoennbipaaGreatW.PrintLast Go.Proofs.YtgfnkdoennbipaaGreatW.PrintMore
attribute [local go_sem] max2_int min2_int max_two min_two max_three min_three max_four min_four   -- for this text's walks alone
set_option linter.unusedVariables false
set_option linter.unusedSimpArgs false

/-! ### spec_DrawComplexityOf: function 19 -/
def spec_DrawComplexityOf.f (k : Nat) (l0 : List Int) : Option (ByteArray) := (spec_l01From.f k l0).bind fun bt519 => ((spec_l01Spoil.f k bt519.1 bt519.2.1 bt519.2.2).bind fun bt523 => (some bt523.1))
theorem spec_DrawComplexityOf.mono : ∀ a0 k, LeO (spec_DrawComplexityOf.f k a0) (spec_DrawComplexityOf.f (k + 1) a0) := by
 intro a0 k
 unfold spec_DrawComplexityOf.f
 with_reducible repeat' first
   | exact spec_l01From.mono _ _
   | exact spec_l01Spoil.mono _ _ _ _
   | exact LeO.refl _
   | exact LeO.none _
   | refine LeO.ite ?_ ?_
   | refine LeO.bind ?_ (fun _ => ?_)
set_option maxHeartbeats 8000000 in
set_option maxRecDepth 100000 in
theorem spec_DrawComplexityOf.calls (k : Nat) (A0 : Option Addr) (c0 : Nat) (l0 : List Int) (r : ByteArray) (w : World) (hr0 : Kd.C (Kd.int .u8) w A0 l0.length l0) (hc0 : l0.length ≤ c0) (h : spec_DrawComplexityOf.f k l0 = some r) :
  Calls Tryz.prog 19 #[.slice A0 l0.length c0] w fun e w' => e = .returned (.string r) ∧ Below w.heap.size w w' := by
 have HR0 := Aside0.mk hr0
 have HC0 := Aside0.mk hc0
 clear hr0 hc0
 have HB := Aside0.mk (Below.refl w.heap.size w)
 have H : ((spec_l01From.f k l0).bind fun bt519 => ((spec_l01Spoil.f k bt519.1 bt519.2.1 bt519.2.2).bind fun bt523 => (some bt523.1))) = some r := h
 clear h
 replace H := qN H
 obtain ⟨⟨t519, t520, t521⟩, A2, H⟩ := H
 try dsimp only at H
 replace H := qN H
 obtain ⟨⟨t523, t524, t525⟩, A3, H⟩ := H
 try dsimp only at H
 obtain rfl := Option.some.inj H
 go_enter Tryz.func19, Tryz.ntmps19
 go_wp2_with (first | ((with_reducible refine gate_callee (f := 50) rfl ?_); refine goesL_ (some 4) rfl rfl Tryz.func50 (by kernel_rfl) rfl #[.slice A0 l0.length c0] rfl qV ?_; (with_reducible refine (spec_l01From.calls k _ _ l0 t519 t520 t521 w _ ?side1 ?side2 ?side3 A2.out).mono ?_); (case side1 => exact qB HB.out); (case side2 => exact HR0.out); (case side3 => exact HC0.out); rintro e w4 ⟨g522, rfl, hi, hb, hb2⟩; refine ⟨_, rfl, ?_⟩; replace HB := Aside0.mk (hb); have HI522 := Aside0.mk (hi)) | ((with_reducible refine gate_callee (f := 49) rfl ?_); refine goesL_ (some 5) rfl rfl Tryz.func49 (by kernel_rfl) rfl #[.pointer (some ⟨g522, 0, none⟩)] rfl qV ?_; (with_reducible refine (spec_l01Spoil.calls k g522 t519 t520 t521 t523 t524 t525 w _ ?side1 ?side2 A3.out).mono ?_); (case side1 => exact qI HI522.out); (case side2 => exact qS HB.out); rintro e w5 ⟨rfl, hi, hb, hk⟩; refine ⟨_, rfl, ?_⟩; replace HB := Aside0.mk (hb); replace HI522 := Aside0.mk (hi)))
 go_ret
 exact ⟨qE, qS HB.out⟩

end Go.Proofs.YtgfnkdoennbipaaGreat.PF

namespace Go.Proofs.YtgfnkdoennbipaaGreat.PF
open Go.RowKit Go.Proofs.YtgfnkdoennbipaaGreatW.PrintWords Go.Proofs.YtgfnkdoennbipaaGreatW.PrintLast Go.Proofs.YtgfnkdoennbipaaGreatW.PrintMore
attribute [local go_sem] max2_int min2_int max_two min_two max_three min_three max_four min_four   -- for this text's walks alone
set_option linter.unusedVariables false
set_option linter.unusedSimpArgs false

/-! ### impl_always: function 51 -/
def impl_always.f  : Option (Bool) := some true
set_option maxHeartbeats 8000000 in
set_option maxRecDepth 100000 in
theorem impl_always.calls  (r : Bool) (w : World) (h : impl_always.f  = some r) :
  Calls Tryz.prog 51 #[] w fun e w' => e = .returned (.bool r) ∧ Drawn0 w w' := by
 have H : (some true) = some r := h
 clear h
 obtain rfl := Option.some.inj H
 go_enter Tryz.func51, Tryz.ntmps51
 go_wp2
 go_ret
 exact ⟨by first | rfl | (simp; done) | (simp [*]; done) | (simp; rw [Bool.eq_iff_iff]; simp; done), by repeat (first | exact Drawn0.refl _ | apply Drawn0.step)⟩

end Go.Proofs.YtgfnkdoennbipaaGreat.PF

namespace Go.Proofs.YtgfnkdoennbipaaGreat.PF
open Go.RowKit Go.Proofs.YtgfnkdoennbipaaGreatW.PrintWords Go.Proofs.YtgfnkdoennbipaaGreatW.PrintLast Go.Proofs.YtgfnkdoennbipaaGreatW.PrintMore
attribute [local go_sem] max2_int min2_int max_two min_two max_three min_three max_four min_four   -- for this text's walks alone
set_option linter.unusedVariables false
set_option linter.unusedSimpArgs false

/-! ### spec_l05Numbers: function 54 -/
def spec_l05Numbers.l0 : Nat → ByteArray → List Int → Int → Option (List Int)
 | 0, _, _, _ => none
 | k + 1, x0, x3, x4 => if x4 ≤ (x0.size : Int) then ((spec_l01Factors.f k x0 x4).bind fun t542 => (if x3.length < 17592186044416 then (spec_l05Numbers.l0 k x0 (x3 ++ [(t542.length : Int)]) (wrap64 (x4 + 1))) else (none))) else (some x3)
def spec_l05Numbers.f (k : Nat) (a0 : ByteArray) : Option (List Int) := spec_l05Numbers.l0 k a0 (([] : List Int)) 0
theorem spec_l05Numbers.mono_l : ∀ k, (∀ y0 y1 y2, LeO (spec_l05Numbers.l0 k y0 y1 y2) (spec_l05Numbers.l0 (k + 1) y0 y1 y2))
 | 0 => fun _ _ _ r h => by simp [spec_l05Numbers.l0] at h
 | k + 1 => by
  have ih0 := spec_l05Numbers.mono_l k
  ·
   intro y0 y1 y2
   unfold spec_l05Numbers.l0
   with_reducible repeat' first
   | exact ih0 _ _ _
   | exact spec_l01Factors.mono _ _ _
   | exact LeO.refl _
   | exact LeO.none _
   | refine LeO.ite ?_ ?_
   | refine LeO.bind ?_ (fun _ => ?_)
theorem spec_l05Numbers.mono : ∀ a0 k, LeO (spec_l05Numbers.f k a0) (spec_l05Numbers.f (k + 1) a0) := by
 intro a0 k
 have ih0 := spec_l05Numbers.mono_l k
 unfold spec_l05Numbers.f
 with_reducible repeat' first
   | exact ih0 _ _ _
   | exact spec_l01Factors.mono _ _ _
   | exact LeO.refl _
   | exact LeO.none _
   | refine LeO.ite ?_ ?_
   | refine LeO.bind ?_ (fun _ => ?_)
set_option maxHeartbeats 8000000 in
set_option maxRecDepth 100000 in
theorem spec_l05Numbers.calls (k : Nat) (a0 : ByteArray) (r : List Int) (w : World) (h : spec_l05Numbers.f k a0 = some r) :
  Calls Tryz.prog 54 #[.string a0] w fun e w' => ∃ v0_ : Value, e = .returned (v0_) ∧ Kd.R (Kd.int .i64) 2 w' w.heap.size (fun _ => True) v0_ r ∧ Below w.heap.size w w' := by
 have HB := Aside0.mk (Below.refl w.heap.size w)
 have H : (spec_l05Numbers.l0 k a0 (([] : List Int)) 0) = some r := h
 clear h
 obtain ⟨y539, hy539⟩ : ∃ y_ : List Int, y_ = (([] : List Int)) := ⟨_, rfl⟩
 replace H : (spec_l05Numbers.l0 k a0 y539 0) = some r := by first | (rw [hy539]; with_reducible exact H) | (have H2_ := (Option.bind_some _ _).symm.trans H; rw [hy539]; with_reducible exact H2_) | (have H2_ := (Option.bind_some _ _).symm.trans H; with_reducible exact H2_) | with_reducible exact H | (rw [hy539]; exact H) | exact H
 have Ny539 := Aside0.mk hy539
 clear hy539
 have H' := Aside0.mk H
 clear H
 go_enter Tryz.func54, Tryz.ntmps54
 go_wp2_with (first | ((with_reducible refine gate_dst (N := 5) rfl ?_); refine Kd.R_lit (Kd.int .i64) _ 2 ?hg (N := 5) ?hd (xs := ([] : List Int)) (inner := []) (ok := fun _ => True) (okp := fun _ => True) ?hr ?hp (fun _ hk => hk) trivial (Below.refl _ _) (Nat.le_refl _) (by simp) ?_; (case hd => rfl); (case hg => rfl); (case hr => first | (go_simp; done) | (go_simp; rfl)); (case hp => exact (Reps.none _ _)); intro v540 w2 ho3 hb hg_ hnew_; clear hg_ hnew_; (first | rw [← Ny539.out] at ho3 | (simp only [Int.reduceToNat] at ho3; rw [← Ny539.out] at ho3)); have HO541 := Aside0.mk (Kd.R_lower ho3 (below_size (qB HB.out))); replace HB := Aside0.mk (below_step (qB HB.out) hb); clear hb ho3))
 go_loopg [3, 4] k (fun kq v3 v4 w' => ∃ (x3_1 : List Int) (x4_1 : Int), v4 = .int .i64 x4_1 ∧ Aside0 (spec_l05Numbers.l0 kq a0 x3_1 x4_1 = some r) ∧ Aside0 (kq ≤ k) ∧ Aside0 (Kd.R (Kd.int .i64) 2 w' w.heap.size (fun _ => True) v3 x3_1) ∧ Aside0 (Below w.heap.size w w'))
 case atStart => exact ⟨(y539), (0), qF, H', ⟨Nat.le_refl _⟩, ⟨qR HO541.out⟩, ⟨qB HB.out⟩⟩
 case round =>
  clear H'
  obtain ⟨x3_1, x4_1, rfl, HA, HK1, HO_3, HB⟩ := hrel
  cases gk with
  | zero => exact absurd HA.out (by simp [spec_l05Numbers.l0])
  | succ k1 =>
   have H := HA.out
   clear HA
   simp only [spec_l05Numbers.l0] at H
   by_cases c4 : x4_1 ≤ (a0.size : Int)
   rotate_left
   ·
    rw [if_neg c4] at H
    have c4b0 : decide (x4_1 ≤ (a0.size : Int)) = false := decide_eq_false c4
    clear c4
    obtain rfl := Option.some.inj H
    go_wp2
    go_ret
    exact ⟨_, qE, qR HO_3.out, qB HB.out⟩

   rw [if_pos c4] at H
   have c4b0 : decide (x4_1 ≤ (a0.size : Int)) = true := decide_eq_true c4
   clear c4
   replace H := qN H
   obtain ⟨t542, A5, H⟩ := H
   try dsimp only at H
   by_cases c6 : x3_1.length < 17592186044416
   rotate_left
   ·
    rw [if_neg c6] at H
    exact absurd H (by simp)
   rw [if_pos c6] at H
   have LMc6 := Aside0.mk c6
   clear c6
   obtain ⟨y545, hy545⟩ : ∃ y_ : List Int, y_ = (x3_1 ++ [(t542.length : Int)]) := ⟨_, rfl⟩
   replace H : (spec_l05Numbers.l0 k1 a0 y545 (wrap64 (x4_1 + 1))) = some r := by first | (rw [hy545]; with_reducible exact H) | (have H2_ := (Option.bind_some _ _).symm.trans H; rw [hy545]; with_reducible exact H2_) | (have H2_ := (Option.bind_some _ _).symm.trans H; with_reducible exact H2_) | with_reducible exact H | (rw [hy545]; exact H) | exact H
   have Ny545 := Aside0.mk hy545
   clear hy545
   have H' := Aside0.mk H
   clear H
   go_wp2_with (first | ((with_reducible refine gate_callee (f := 45) rfl ?_); refine goesL_ (some 15) rfl rfl Tryz.func45 (by kernel_rfl) rfl #[.string a0, .int .i64 x4_1] rfl qV ?_; (with_reducible refine (spec_l01Factors.calls k1 a0 x4_1 t542 _ A5.out).mono ?_); rintro e w7 ⟨v543, rfl, ho0, hb⟩; refine ⟨_, rfl, ?_⟩; replace HO_3 := Aside0.mk (Kd.R_below (qR HO_3.out) hb); have HO544 := Aside0.mk (Kd.R_lower ho0 (below_size (qB HB.out))); replace HB := Aside0.mk (below_step (qB HB.out) hb); obtain ⟨Ao8, co8, eo8⟩ := Kd.R_slice HO544.out; subst eo8) | ((with_reducible refine gate_builtin (b := .append) (xs := #[.tmp 12, .tmp 17]) rfl ?_); at_builtin; refine Kd.R_append (Kd.int .i64) (w0 := w) w.heap.size rfl (.tmp 12) (.tmp 17) 36 2 (.int .i64 0) 8 rfl Tryz.underlying36 info2 rfl (by decide) (by omega) u3 x3_1 (t542.length : Int) [.int .i64 (t542.length : Int)] (fun _ => True) (fun _ => False) rfl rfl ?aP (fun _ hk => hk.elim) ?aF ?aO ?aB ?aS ?aL ?_; (case aP => exact rfl); (case aB => exact (qB HB.out)); (case aF => exact (fun _ _ => trivial)); (case aO => exact (qR HO_3.out)); (case aS => exact (below_size (qB HB.out))); (case aL => have := LMc6.out; omega); intro v546 w9 ho hb hg hat; rw [← Ny545.out] at ho; replace HO544 := Aside0.mk (Kd.R_over' (qR HO544.out) (Kd.R_typed (qR HO_3.out)) (by decide) hg); replace HB := Aside0.mk (hb); have HO547 := Aside0.mk (ho); clear HO_3; clear ho hb hg hat))
   go_roundg k1
   case measure => have := HK1.out; omega
   case rel => exact ⟨(y545), (wrap64 (x4_1 + 1)), qF, H', ⟨by have := HK1.out; omega⟩, ⟨qR HO547.out⟩, ⟨qB HB.out⟩⟩
end Go.Proofs.YtgfnkdoennbipaaGreat.PF

namespace Go.Proofs.YtgfnkdoennbipaaGreat.PF
open Go.RowKit Go.Proofs.YtgfnkdoennbipaaGreatW.PrintWords Go.Proofs.YtgfnkdoennbipaaGreatW.PrintLast Go.Proofs.YtgfnkdoennbipaaGreatW.PrintMore
attribute [local go_sem] max2_int min2_int max_two min_two max_three min_three max_four min_four   -- for this text's walks alone
set_option linter.unusedVariables false
set_option linter.unusedSimpArgs false

/-! ### spec_ComplexityOf: function 21 -/
def spec_ComplexityOf.f (k : Nat) (a0 : ByteArray) : Option (List Int × Int) := (spec_l01Is.f k a0).bind fun t548 => (if t548 = true then ((spec_l05Numbers.f k a0).bind fun t549 => (some (t549, 0))) else (some (([] : List Int), 1)))
theorem spec_ComplexityOf.mono : ∀ a0 k, LeO (spec_ComplexityOf.f k a0) (spec_ComplexityOf.f (k + 1) a0) := by
 intro a0 k
 unfold spec_ComplexityOf.f
 with_reducible repeat' first
   | exact spec_l01Is.mono _ _
   | exact spec_l05Numbers.mono _ _
   | exact LeO.refl _
   | exact LeO.none _
   | refine LeO.ite ?_ ?_
   | refine LeO.bind ?_ (fun _ => ?_)
set_option maxHeartbeats 8000000 in
set_option maxRecDepth 100000 in
theorem spec_ComplexityOf.calls (k : Nat) (a0 : ByteArray) (r1 : List Int) (r2 : Int) (w : World) (h : spec_ComplexityOf.f k a0 = some (r1, r2)) :
  Calls Tryz.prog 21 #[.string a0] w fun e w' => ∃ v0_ : Value, e = .returned (.tuple #[v0_, .int .i64 r2]) ∧ Kd.R (Kd.int .i64) 2 w' w.heap.size (fun _ => True) v0_ r1 ∧ Below w.heap.size w w' := by
 have HB := Aside0.mk (Below.refl w.heap.size w)
 have H : ((spec_l01Is.f k a0).bind fun t548 => (if t548 = true then ((spec_l05Numbers.f k a0).bind fun t549 => (some (t549, 0))) else (some (([] : List Int), 1)))) = some (r1, r2) := h
 clear h
 replace H := qN H
 obtain ⟨t548, A2, H⟩ := H
 try dsimp only at H
 by_cases c3 : t548 = true
 ·
  subst c3
  rw [if_pos rfl] at H
  replace H := qN H
  obtain ⟨t549, A4, H⟩ := H
  try dsimp only at H
  simp only [Option.some.injEq, Prod.mk.injEq] at H
  obtain ⟨rfl, rfl⟩ := H
  go_enter Tryz.func21, Tryz.ntmps21
  go_wp2_with (first | ((with_reducible refine gate_callee (f := 53) rfl ?_); refine goesL_ (some 5) rfl rfl Tryz.func53 (by kernel_rfl) rfl #[.string a0] rfl qV ?_; (with_reducible refine (spec_l01Is.calls k a0 true _ A2.out).mono ?_); rintro e w' ⟨rfl, ⟨nd, rfl⟩⟩; refine ⟨_, rfl, ?_⟩) | ((with_reducible refine gate_callee (f := 54) rfl ?_); refine goesL_ (some 8) rfl rfl Tryz.func54 (by kernel_rfl) rfl #[.string a0] rfl qV ?_; (with_reducible refine (spec_l05Numbers.calls k a0 t549 _ A4.out).mono ?_); rintro e w5 ⟨v550, rfl, ho0, hb⟩; refine ⟨_, rfl, ?_⟩; have HO551 := Aside0.mk (Kd.R_lower ho0 (below_size (qB HB.out))); replace HB := Aside0.mk (below_step (qB HB.out) hb)))
  go_ret2
  exact ⟨_, qE, qR HO551.out, qB HB.out⟩
 replace c3 := Bool.eq_false_iff.mpr c3
 subst c3
 rw [if_neg (show ¬ (false = true) by decide)] at H
 simp only [Option.some.injEq, Prod.mk.injEq] at H
 obtain ⟨rfl, rfl⟩ := H
 go_enter Tryz.func21, Tryz.ntmps21
 go_wp2_with (first | ((with_reducible refine gate_callee (f := 53) rfl ?_); refine goesL_ (some 5) rfl rfl Tryz.func53 (by kernel_rfl) rfl #[.string a0] rfl qV ?_; (with_reducible refine (spec_l01Is.calls k a0 false _ A2.out).mono ?_); rintro e w' ⟨rfl, ⟨nd, rfl⟩⟩; refine ⟨_, rfl, ?_⟩))
 go_ret2
 exact ⟨_, qE, by first | exact Kd.R_nil _ _ _ _ _ | exact Kd.N_nil _ _ _ _ _ | exact Kd.V_nil _ _ _ _ _ | exact Kd.Q_nil _ _ _ _ _ | exact Kd.S_nil _ _ _ _ _, qB HB.out⟩

end Go.Proofs.YtgfnkdoennbipaaGreat.PF

namespace Go.Proofs.YtgfnkdoennbipaaGreat.PF
open Go.RowKit Go.Proofs.YtgfnkdoennbipaaGreatW.PrintWords Go.Proofs.YtgfnkdoennbipaaGreatW.PrintLast Go.Proofs.YtgfnkdoennbipaaGreatW.PrintMore
attribute [local go_sem] max2_int min2_int max_two min_two max_three min_three max_four min_four   -- for this text's walks alone
set_option linter.unusedVariables false
set_option linter.unusedSimpArgs false

/-! ### spec_CountFactors: function 23 -/
def spec_CountFactors.l0 : Nat → List Int → Int → Int → Option (Int × Int)
 | 0, _, _, _ => none
 | k + 1, x4, x5, x6 => if x6 < (x4.length : Int) then (if 0 ≤ x6 then (spec_CountFactors.l0 k x4 (wrap64 (x5 + (rd x4 x6))) (wrap64 (x6 + 1))) else (none)) else (some (x5, 0))
def spec_CountFactors.f (k : Nat) (a0 : ByteArray) : Option (Int × Int) := (spec_l01Is.f k a0).bind fun t560 => (if t560 = true then ((spec_l05Numbers.f k a0).bind fun t561 => (spec_CountFactors.l0 k t561 0 0)) else (some (0, 1)))
theorem spec_CountFactors.mono_l : ∀ k, (∀ y0 y1 y2, LeO (spec_CountFactors.l0 k y0 y1 y2) (spec_CountFactors.l0 (k + 1) y0 y1 y2))
 | 0 => fun _ _ _ r h => by simp [spec_CountFactors.l0] at h
 | k + 1 => by
  have ih0 := spec_CountFactors.mono_l k
  ·
   intro y0 y1 y2
   unfold spec_CountFactors.l0
   with_reducible repeat' first
   | exact ih0 _ _ _
   | exact spec_l01Is.mono _ _
   | exact spec_l05Numbers.mono _ _
   | exact LeO.refl _
   | exact LeO.none _
   | refine LeO.ite ?_ ?_
   | refine LeO.bind ?_ (fun _ => ?_)
theorem spec_CountFactors.mono : ∀ a0 k, LeO (spec_CountFactors.f k a0) (spec_CountFactors.f (k + 1) a0) := by
 intro a0 k
 have ih0 := spec_CountFactors.mono_l k
 unfold spec_CountFactors.f
 with_reducible repeat' first
   | exact ih0 _ _ _
   | exact spec_l01Is.mono _ _
   | exact spec_l05Numbers.mono _ _
   | exact LeO.refl _
   | exact LeO.none _
   | refine LeO.ite ?_ ?_
   | refine LeO.bind ?_ (fun _ => ?_)
set_option maxHeartbeats 8000000 in
set_option maxRecDepth 100000 in
theorem spec_CountFactors.calls (k : Nat) (a0 : ByteArray) (r1 : Int) (r2 : Int) (w : World) (h : spec_CountFactors.f k a0 = some (r1, r2)) :
  Calls Tryz.prog 23 #[.string a0] w fun e w' => e = .returned (.tuple #[.int .i64 r1, .int .i64 r2]) ∧ Below w.heap.size w w' := by
 have HB := Aside0.mk (Below.refl w.heap.size w)
 have H : ((spec_l01Is.f k a0).bind fun t560 => (if t560 = true then ((spec_l05Numbers.f k a0).bind fun t561 => (spec_CountFactors.l0 k t561 0 0)) else (some (0, 1)))) = some (r1, r2) := h
 clear h
 replace H := qN H
 obtain ⟨t560, A2, H⟩ := H
 try dsimp only at H
 by_cases c3 : t560 = true
 rotate_left
 ·
  replace c3 := Bool.eq_false_iff.mpr c3
  subst c3
  rw [if_neg (show ¬ (false = true) by decide)] at H
  simp only [Option.some.injEq, Prod.mk.injEq] at H
  obtain ⟨rfl, rfl⟩ := H
  go_enter Tryz.func23, Tryz.ntmps23
  go_wp2_with (first | ((with_reducible refine gate_callee (f := 53) rfl ?_); refine goesL_ (some 8) rfl rfl Tryz.func53 (by kernel_rfl) rfl #[.string a0] rfl qV ?_; (with_reducible refine (spec_l01Is.calls k a0 false _ A2.out).mono ?_); rintro e w' ⟨rfl, ⟨nd, rfl⟩⟩; refine ⟨_, rfl, ?_⟩))
  go_ret2
  exact ⟨qE, qB HB.out⟩

 subst c3
 rw [if_pos rfl] at H
 replace H := qN H
 obtain ⟨t561, A4, H⟩ := H
 try dsimp only at H
 have H' := Aside0.mk H
 clear H
 go_enter Tryz.func23, Tryz.ntmps23
 go_wp2_with (first | ((with_reducible refine gate_callee (f := 53) rfl ?_); refine goesL_ (some 8) rfl rfl Tryz.func53 (by kernel_rfl) rfl #[.string a0] rfl qV ?_; (with_reducible refine (spec_l01Is.calls k a0 true _ A2.out).mono ?_); rintro e w' ⟨rfl, ⟨nd, rfl⟩⟩; refine ⟨_, rfl, ?_⟩) | ((with_reducible refine gate_callee (f := 54) rfl ?_); refine goesL_ (some 11) rfl rfl Tryz.func54 (by kernel_rfl) rfl #[.string a0] rfl qV ?_; (with_reducible refine (spec_l05Numbers.calls k a0 t561 _ A4.out).mono ?_); rintro e w5 ⟨v562, rfl, ho0, hb⟩; refine ⟨_, rfl, ?_⟩; have HO563 := Aside0.mk (Kd.R_lower ho0 (below_size (qB HB.out))); replace HB := Aside0.mk (below_step (qB HB.out) hb)))
 go_loopg [5, 6] k (fun kq v5 v6 w' => ∃ (x5_1 : Int) (x6_1 : Int), v5 = .int .i64 x5_1 ∧ v6 = .int .i64 x6_1 ∧ Aside0 (spec_CountFactors.l0 kq t561 x5_1 x6_1 = some (r1, r2)) ∧ Aside0 (kq ≤ k) ∧ Aside0 (Kd.R (Kd.int .i64) 2 w' w.heap.size (fun _ => True) v562 t561) ∧ Aside0 (Below w.heap.size w w'))
 case atStart => exact ⟨(0), (0), qF, qF, H', ⟨Nat.le_refl _⟩, ⟨qR HO563.out⟩, ⟨qB HB.out⟩⟩
 case round =>
  clear H'
  obtain ⟨x5_1, x6_1, rfl, rfl, HA, HK1, HO_4, HB⟩ := hrel
  cases gk with
  | zero => exact absurd HA.out (by simp [spec_CountFactors.l0])
  | succ k1 =>
   have H := HA.out
   clear HA
   simp only [spec_CountFactors.l0] at H
   by_cases c6 : x6_1 < (t561.length : Int)
   rotate_left
   ·
    rw [if_neg c6] at H
    have c6b0 : decide (x6_1 < (t561.length : Int)) = false := decide_eq_false c6
    clear c6
    simp only [Option.some.injEq, Prod.mk.injEq] at H
    obtain ⟨rfl, rfl⟩ := H
    obtain ⟨Ao9, co9, eo9⟩ := Kd.R_slice HO_4.out
    subst eo9
    go_wp2
    go_ret2
    exact ⟨qE, qB HB.out⟩
   rw [if_pos c6] at H
   have c6b0 : decide (x6_1 < (t561.length : Int)) = true := decide_eq_true c6
   clear c6
   by_cases c7 : 0 ≤ x6_1
   rotate_left
   ·
    rw [if_neg c7] at H
    exact absurd H (by simp)
   rw [if_pos c7] at H
   have c7b0 : decide (0 ≤ x6_1) = true := decide_eq_true c7
   clear c7
   have H' := Aside0.mk H
   clear H
   obtain ⟨Ao8, co8, eo8⟩ := Kd.R_slice HO_4.out
   subst eo8
   have p564 : 0 ≤ (x6_1 : Int) := of_decide_eq_true (by first | (with_reducible assumption) | assumption)
   have q564 : x6_1 < (t561.length : Int) := of_decide_eq_true (by first | (with_reducible assumption) | assumption)
   obtain ⟨ad564, e564, hx564_0⟩ := Kd.at_int (Kd.R_reads' HO_4.out).2.2 x6_1 p564 q564
   cases e564
   replace p564 := eq_true p564
   replace q564 := eq_true q564
   go_wp2
   go_roundg k1
   case measure => have := HK1.out; omega
   case rel => exact ⟨(wrap64 (x5_1 + (rd t561 x6_1))), (wrap64 (x6_1 + 1)), qF, qF, H', ⟨by have := HK1.out; omega⟩, ⟨qR HO_4.out⟩, ⟨qB HB.out⟩⟩
end Go.Proofs.YtgfnkdoennbipaaGreat.PF

namespace Go.Proofs.YtgfnkdoennbipaaGreat.PF
open Go.RowKit Go.Proofs.YtgfnkdoennbipaaGreatW.PrintWords Go.Proofs.YtgfnkdoennbipaaGreatW.PrintLast Go.Proofs.YtgfnkdoennbipaaGreatW.PrintMore
attribute [local go_sem] max2_int min2_int max_two min_two max_three min_three max_four min_four   -- for this text's walks alone
set_option linter.unusedVariables false
set_option linter.unusedSimpArgs false

/-! ### laws_sum: function 25 -/
def laws_sum.l0 : Nat → List Int → Int → Int → Option (Int)
 | 0, _, _, _ => none
 | k + 1, x0, x3, x4 => if x4 < (x0.length : Int) then (if 0 ≤ x4 then (laws_sum.l0 k x0 (wrap64 (x3 + (rd x0 x4))) (wrap64 (x4 + 1))) else (none)) else (some x3)
def laws_sum.f (k : Nat) (l0 : List Int) : Option (Int) := laws_sum.l0 k l0 0 0
theorem laws_sum.mono_l : ∀ k, (∀ y0 y1 y2, LeO (laws_sum.l0 k y0 y1 y2) (laws_sum.l0 (k + 1) y0 y1 y2))
 | 0 => fun _ _ _ r h => by simp [laws_sum.l0] at h
 | k + 1 => by
  have ih0 := laws_sum.mono_l k
  ·
   intro y0 y1 y2
   unfold laws_sum.l0
   with_reducible repeat' first
   | exact ih0 _ _ _
   | exact LeO.refl _
   | exact LeO.none _
   | refine LeO.ite ?_ ?_
   | refine LeO.bind ?_ (fun _ => ?_)
theorem laws_sum.mono : ∀ a0 k, LeO (laws_sum.f k a0) (laws_sum.f (k + 1) a0) := by
 intro a0 k
 have ih0 := laws_sum.mono_l k
 unfold laws_sum.f
 with_reducible repeat' first
   | exact ih0 _ _ _
   | exact LeO.refl _
   | exact LeO.none _
   | refine LeO.ite ?_ ?_
   | refine LeO.bind ?_ (fun _ => ?_)
set_option maxHeartbeats 8000000 in
set_option maxRecDepth 100000 in
theorem laws_sum.calls (k : Nat) (A0 : Option Addr) (c0 : Nat) (l0 : List Int) (r : Int) (w : World) (hr0 : Kd.C (Kd.int .i64) w A0 l0.length l0) (hc0 : l0.length ≤ c0) (h : laws_sum.f k l0 = some r) :
  Calls Tryz.prog 25 #[.slice A0 l0.length c0] w fun e w' => e = .returned (.int .i64 r) ∧ Drawn0 w w' := by
 have HR0 := Aside0.mk hr0
 have HC0 := Aside0.mk hc0
 clear hr0 hc0
 have H : (laws_sum.l0 k l0 0 0) = some r := h
 clear h
 have H' := Aside0.mk H
 clear H
 go_enter Tryz.func25, Tryz.ntmps25
 go_wp2
 go_loopg [3, 4] k (fun kq v3 v4 w' => ∃ (x3_1 : Int) (x4_1 : Int), v3 = .int .i64 x3_1 ∧ v4 = .int .i64 x4_1 ∧ Aside0 (laws_sum.l0 kq l0 x3_1 x4_1 = some r) ∧ Aside0 (kq ≤ k) ∧ Drawn0 w w')
 case atStart => exact ⟨(0), (0), qF, qF, H', ⟨Nat.le_refl _⟩, by repeat (first | exact Drawn0.refl _ | apply Drawn0.step)⟩
 case round =>
  clear H'
  obtain ⟨x3_1, x4_1, rfl, rfl, HA, HK1, ⟨m1, rfl⟩⟩ := hrel
  cases gk with
  | zero => exact absurd HA.out (by simp [laws_sum.l0])
  | succ k1 =>
   have H := HA.out
   clear HA
   simp only [laws_sum.l0] at H
   by_cases c2 : x4_1 < (l0.length : Int)
   rotate_left
   ·
    rw [if_neg c2] at H
    have c2b0 : decide (x4_1 < (l0.length : Int)) = false := decide_eq_false c2
    clear c2
    obtain rfl := Option.some.inj H
    go_wp2
    go_ret
    exact ⟨by first | rfl | (simp; done) | (simp [*]; done) | (simp; rw [Bool.eq_iff_iff]; simp; done), by repeat (first | exact Drawn0.refl _ | apply Drawn0.step)⟩

   rw [if_pos c2] at H
   have c2b0 : decide (x4_1 < (l0.length : Int)) = true := decide_eq_true c2
   clear c2
   by_cases c3 : 0 ≤ x4_1
   rotate_left
   ·
    rw [if_neg c3] at H
    exact absurd H (by simp)
   rw [if_pos c3] at H
   have c3b0 : decide (0 ≤ x4_1) = true := decide_eq_true c3
   clear c3
   have H' := Aside0.mk H
   clear H
   have p565 : 0 ≤ (x4_1 : Int) := of_decide_eq_true (by first | (with_reducible assumption) | assumption)
   have q565 : x4_1 < (l0.length : Int) := of_decide_eq_true (by first | (with_reducible assumption) | assumption)
   obtain ⟨ad565, e565, hx565_0⟩ := Kd.at_int HR0.out x4_1 p565 q565
   cases e565
   replace p565 := eq_true p565
   replace q565 := eq_true q565
   go_wp2
   go_roundg k1
   case measure => have := HK1.out; omega
   case rel => exact ⟨(wrap64 (x3_1 + (rd l0 x4_1))), (wrap64 (x4_1 + 1)), qF, qF, H', ⟨by have := HK1.out; omega⟩, by repeat (first | exact Drawn0.refl _ | apply Drawn0.step)⟩
end Go.Proofs.YtgfnkdoennbipaaGreat.PF

namespace Go.Proofs.YtgfnkdoennbipaaGreat.PF
open Go.RowKit Go.Proofs.YtgfnkdoennbipaaGreatW.PrintWords Go.Proofs.YtgfnkdoennbipaaGreatW.PrintLast Go.Proofs.YtgfnkdoennbipaaGreatW.PrintMore
attribute [local go_sem] max2_int min2_int max_two min_two max_three min_three max_four min_four   -- for this text's walks alone
set_option linter.unusedVariables false
set_option linter.unusedSimpArgs false

/-! ### spec_l01Turned: function 58 -/
def spec_l01Turned.f (a0 : ByteArray) (a1 : Int) : Option (ByteArray) := if 0 ≤ a1 then (if a1 ≤ (a0.size : Int) then (if (a0.extract (a1 : Int).toNat a0.size).size + (a0.extract 0 (a1 : Int).toNat).size ≤ 9223372036854775807 then (some ((a0.extract (a1 : Int).toNat a0.size) ++ (a0.extract 0 (a1 : Int).toNat))) else (none)) else (none)) else (none)
set_option maxHeartbeats 8000000 in
set_option maxRecDepth 100000 in
theorem spec_l01Turned.calls (a0 : ByteArray) (a1 : Int) (r : ByteArray) (w : World) (h : spec_l01Turned.f a0 a1 = some r) :
  Calls Tryz.prog 58 #[.string a0, .int .i64 a1] w fun e w' => e = .returned (.string r) ∧ Drawn0 w w' := by
 have H : (if 0 ≤ a1 then (if a1 ≤ (a0.size : Int) then (if (a0.extract (a1 : Int).toNat a0.size).size + (a0.extract 0 (a1 : Int).toNat).size ≤ 9223372036854775807 then (some ((a0.extract (a1 : Int).toNat a0.size) ++ (a0.extract 0 (a1 : Int).toNat))) else (none)) else (none)) else (none)) = some r := h
 clear h
 by_cases c3 : 0 ≤ a1
 rotate_left
 ·
  rw [if_neg c3] at H
  exact absurd H (by simp)

 rw [if_pos c3] at H
 have c3b0 := eq_true c3
 have c3b1 : decide (0 ≤ a1) = true := decide_eq_true c3
 clear c3
 by_cases c4 : a1 ≤ (a0.size : Int)
 rotate_left
 ·
  rw [if_neg c4] at H
  exact absurd H (by simp)
 rw [if_pos c4] at H
 have c4b0 := eq_true c4
 have c4b1 : decide (a1 ≤ (a0.size : Int)) = true := decide_eq_true c4
 clear c4
 have c5b0 := eq_true (of_decide_eq_true (by first | (with_reducible assumption) | assumption) : 0 ≤ a1)
 have c6b0 := eq_true (of_decide_eq_true (by first | (with_reducible assumption) | assumption) : a1 ≤ (a0.size : Int))
 by_cases c7 : (a0.extract (a1 : Int).toNat a0.size).size + (a0.extract 0 (a1 : Int).toNat).size ≤ 9223372036854775807
 rotate_left
 ·
  rw [if_neg c7] at H
  exact absurd H (by simp)
 rw [if_pos c7] at H
 have c7b0 := eq_true c7
 have c7b1 : decide ((a0.extract (a1 : Int).toNat a0.size).size + (a0.extract 0 (a1 : Int).toNat).size ≤ 9223372036854775807) = true := decide_eq_true c7
 try have c7b2 : (9223372036854775807 < (a0.extract (a1 : Int).toNat a0.size).size + (a0.extract 0 (a1 : Int).toNat).size) = False := eq_false (Nat.not_lt.2 c7)
 obtain rfl := Option.some.inj H
 go_enter Tryz.func58, Tryz.ntmps58
 go_wp2
 repeat (go_quiet (fail); try go_wp2)
 go_ret
 exact ⟨by first | rfl | (simp; done) | (simp [*]; done) | (simp; rw [Bool.eq_iff_iff]; simp; done), by repeat (first | exact Drawn0.refl _ | apply Drawn0.step)⟩
end Go.Proofs.YtgfnkdoennbipaaGreat.PF

namespace Go.Proofs.YtgfnkdoennbipaaGreat.PF
open Go.RowKit Go.Proofs.YtgfnkdoennbipaaGreatW.PrintWords Go.Proofs.YtgfnkdoennbipaaGreatW.PrintLast Go.Proofs.YtgfnkdoennbipaaGreatW.PrintMore
attribute [local go_sem] max2_int min2_int max_two min_two max_three min_three max_four min_four   -- for this text's walks alone
set_option linter.unusedVariables false
set_option linter.unusedSimpArgs false

/-! ### spec_DrawHaveEqualFactors: function 26 -/
def spec_DrawHaveEqualFactors.f (k : Nat) (l0 : List Int) : Option (ByteArray × ByteArray × Int) := (spec_l01From.f k l0).bind fun bt566 => ((spec_l01Draw.f k bt566.1 bt566.2.1 bt566.2.2).bind fun bt570 => ((spec_l01Reversed.f k bt570.1).bind fun t573 => ((spec_l01Next.f bt566.1 bt570.2.1 bt570.2.2 4).bind fun bt574 => (if bt574.1 = 0 then ((spec_l01Draw.f k bt566.1 bt574.2.1 bt574.2.2).bind fun bt577 => ((spec_l01Bad.f k bt566.1 bt577.2.1 bt577.2.2 bt570.1).bind fun bt580 => ((spec_l01Bad.f k bt566.1 bt580.2.1 bt580.2.2 bt577.1).bind fun bt583 => ((spec_l01Pick.f bt566.1 bt583.2.1 bt583.2.2 (([0, 1, 2, 2, 3, 4, 60, (-1), 61] : List Int))).bind fun bt589 => (some (bt580.1, bt583.1, bt589.1)))))) else (if bt574.1 = 1 then ((spec_l01Next.f bt566.1 bt574.2.1 bt574.2.2 (wrap64 ((bt570.1.size : Int) + 1))).bind fun bt592 => ((spec_l01Turned.f bt570.1 bt592.1).bind fun t595 => ((spec_l01Bad.f k bt566.1 bt592.2.1 bt592.2.2 bt570.1).bind fun bt596 => ((spec_l01Bad.f k bt566.1 bt596.2.1 bt596.2.2 t595).bind fun bt599 => ((spec_l01Pick.f bt566.1 bt599.2.1 bt599.2.2 (([0, 1, 2, 2, 3, 4, 60, (-1), 61] : List Int))).bind fun bt605 => (some (bt596.1, bt599.1, bt605.1))))))) else ((spec_l01Bad.f k bt566.1 bt574.2.1 bt574.2.2 bt570.1).bind fun bt608 => ((spec_l01Bad.f k bt566.1 bt608.2.1 bt608.2.2 t573).bind fun bt611 => ((spec_l01Pick.f bt566.1 bt611.2.1 bt611.2.2 (([0, 1, 2, 2, 3, 4, 60, (-1), 61] : List Int))).bind fun bt617 => (some (bt608.1, bt611.1, bt617.1))))))))))
theorem spec_DrawHaveEqualFactors.mono : ∀ a0 k, LeO (spec_DrawHaveEqualFactors.f k a0) (spec_DrawHaveEqualFactors.f (k + 1) a0) := by
 intro a0 k
 unfold spec_DrawHaveEqualFactors.f
 with_reducible repeat' first
   | exact spec_l01Bad.mono _ _ _ _ _
   | exact spec_l01Draw.mono _ _ _ _
   | exact spec_l01From.mono _ _
   | exact spec_l01Reversed.mono _ _
   | exact LeO.refl _
   | exact LeO.none _
   | refine LeO.ite ?_ ?_
   | refine LeO.bind ?_ (fun _ => ?_)
set_option maxHeartbeats 8000000 in
set_option maxRecDepth 100000 in
theorem spec_DrawHaveEqualFactors.calls (k : Nat) (A0 : Option Addr) (c0 : Nat) (l0 : List Int) (r1 : ByteArray) (r2 : ByteArray) (r3 : Int) (w : World) (hr0 : Kd.C (Kd.int .u8) w A0 l0.length l0) (hc0 : l0.length ≤ c0) (h : spec_DrawHaveEqualFactors.f k l0 = some (r1, r2, r3)) :
  Calls Tryz.prog 26 #[.slice A0 l0.length c0] w fun e w' => e = .returned (.tuple #[.string r1, .string r2, .int .i64 r3]) ∧ Below w.heap.size w w' := by
 have HR0 := Aside0.mk hr0
 have HC0 := Aside0.mk hc0
 clear hr0 hc0
 have HB := Aside0.mk (Below.refl w.heap.size w)
 have H : ((spec_l01From.f k l0).bind fun bt566 => ((spec_l01Draw.f k bt566.1 bt566.2.1 bt566.2.2).bind fun bt570 => ((spec_l01Reversed.f k bt570.1).bind fun t573 => ((spec_l01Next.f bt566.1 bt570.2.1 bt570.2.2 4).bind fun bt574 => (if bt574.1 = 0 then ((spec_l01Draw.f k bt566.1 bt574.2.1 bt574.2.2).bind fun bt577 => ((spec_l01Bad.f k bt566.1 bt577.2.1 bt577.2.2 bt570.1).bind fun bt580 => ((spec_l01Bad.f k bt566.1 bt580.2.1 bt580.2.2 bt577.1).bind fun bt583 => ((spec_l01Pick.f bt566.1 bt583.2.1 bt583.2.2 (([0, 1, 2, 2, 3, 4, 60, (-1), 61] : List Int))).bind fun bt589 => (some (bt580.1, bt583.1, bt589.1)))))) else (if bt574.1 = 1 then ((spec_l01Next.f bt566.1 bt574.2.1 bt574.2.2 (wrap64 ((bt570.1.size : Int) + 1))).bind fun bt592 => ((spec_l01Turned.f bt570.1 bt592.1).bind fun t595 => ((spec_l01Bad.f k bt566.1 bt592.2.1 bt592.2.2 bt570.1).bind fun bt596 => ((spec_l01Bad.f k bt566.1 bt596.2.1 bt596.2.2 t595).bind fun bt599 => ((spec_l01Pick.f bt566.1 bt599.2.1 bt599.2.2 (([0, 1, 2, 2, 3, 4, 60, (-1), 61] : List Int))).bind fun bt605 => (some (bt596.1, bt599.1, bt605.1))))))) else ((spec_l01Bad.f k bt566.1 bt574.2.1 bt574.2.2 bt570.1).bind fun bt608 => ((spec_l01Bad.f k bt566.1 bt608.2.1 bt608.2.2 t573).bind fun bt611 => ((spec_l01Pick.f bt566.1 bt611.2.1 bt611.2.2 (([0, 1, 2, 2, 3, 4, 60, (-1), 61] : List Int))).bind fun bt617 => (some (bt608.1, bt611.1, bt617.1))))))))))) = some (r1, r2, r3) := h
 clear h
 replace H := qN H
 obtain ⟨⟨t566, t567, t568⟩, A2, H⟩ := H
 try dsimp only at H
 replace H := qN H
 obtain ⟨⟨t570, t571, t572⟩, A3, H⟩ := H
 try dsimp only at H
 replace H := qN H
 obtain ⟨t573, A4, H⟩ := H
 try dsimp only at H
 replace H := qN H
 obtain ⟨⟨t574, t575, t576⟩, A5, H⟩ := H
 try dsimp only at H
 by_cases c6 : t574 = 0
 ·
  rw [if_pos c6] at H
  obtain ⟨c6b0, c6b1⟩ := zT c6
  clear c6
  replace H := qN H
  obtain ⟨⟨t577, t578, t579⟩, A7, H⟩ := H
  try dsimp only at H
  replace H := qN H
  obtain ⟨⟨t580, t581, t582⟩, A8, H⟩ := H
  try dsimp only at H
  replace H := qN H
  obtain ⟨⟨t583, t584, t585⟩, A9, H⟩ := H
  try dsimp only at H
  obtain ⟨y586, hy586⟩ : ∃ y_ : List Int, y_ = (([0, 1, 2, 2, 3, 4, 60, (-1), 61] : List Int)) := ⟨_, rfl⟩
  replace H : ((spec_l01Pick.f t566 t584 t585 y586).bind fun bt589 => (some (t580, t583, bt589.1))) = some (r1, r2, r3) := by first | (rw [hy586]; with_reducible exact H) | (have H2_ := (Option.bind_some _ _).symm.trans H; rw [hy586]; with_reducible exact H2_) | (have H2_ := (Option.bind_some _ _).symm.trans H; with_reducible exact H2_) | with_reducible exact H | (rw [hy586]; exact H) | exact H
  have Ny586 := Aside0.mk hy586
  clear hy586
  replace H := qN H
  obtain ⟨⟨t589, t590, t591⟩, A10, H⟩ := H
  try dsimp only at H
  simp only [Option.some.injEq, Prod.mk.injEq] at H
  obtain ⟨rfl, rfl, rfl⟩ := H
  go_enter Tryz.func26, Tryz.ntmps26
  go_wp2_with (first | ((with_reducible refine gate_callee (f := 50) rfl ?_); refine goesL_ (some 9) rfl rfl Tryz.func50 (by kernel_rfl) rfl #[.slice A0 l0.length c0] rfl qV ?_; (with_reducible refine (spec_l01From.calls k _ _ l0 t566 t567 t568 w _ ?side1 ?side2 ?side3 A2.out).mono ?_); (case side1 => exact qB HB.out); (case side2 => exact HR0.out); (case side3 => exact HC0.out); rintro e w11 ⟨g569, rfl, hi, hb, hb2⟩; refine ⟨_, rfl, ?_⟩; replace HB := Aside0.mk (hb); have HI569 := Aside0.mk (hi)) | ((with_reducible refine gate_callee (f := 55) rfl ?_); refine goesL_ (some 11) rfl rfl Tryz.func55 (by kernel_rfl) rfl #[.pointer (some ⟨g569, 0, none⟩)] rfl qV ?_; (with_reducible refine (spec_l01Draw.calls k g569 t566 t567 t568 t570 t571 t572 w _ ?side1 ?side2 A3.out).mono ?_); (case side1 => exact qI HI569.out); (case side2 => exact qS HB.out); rintro e w12 ⟨rfl, hi, hb, hk⟩; refine ⟨_, rfl, ?_⟩; replace HB := Aside0.mk (hb); replace HI569 := Aside0.mk (hi)) | ((with_reducible refine gate_callee (f := 56) rfl ?_); refine goesL_ (some 13) rfl rfl Tryz.func56 (by kernel_rfl) rfl #[.string t570] rfl qV ?_; (with_reducible refine (spec_l01Reversed.calls k t570 t573 _ A4.out).mono ?_); rintro e w13 ⟨rfl, hb⟩; refine ⟨_, rfl, ?_⟩; replace HI569 := Aside0.mk (IsS80.below (qI HI569.out) hb); replace HB := Aside0.mk (below_step (qS HB.out) hb)) | ((with_reducible refine gate_callee (f := 57) rfl ?_); refine goesL_ (some 15) rfl rfl Tryz.func57 (by kernel_rfl) rfl #[.pointer (some ⟨g569, 0, none⟩), .int .i64 4] rfl qV ?_; (with_reducible refine (spec_l01Next.calls g569 t566 t571 t572 4 t574 t575 t576 w _ ?side1 ?side2 A5.out).mono ?_); (case side1 => exact qI HI569.out); (case side2 => exact qS HB.out); rintro e w14 ⟨rfl, hi, hb, hk⟩; refine ⟨_, rfl, ?_⟩; replace HB := Aside0.mk (hb); replace HI569 := Aside0.mk (hi)) | ((with_reducible refine gate_callee (f := 55) rfl ?_); refine goesL_ (some 19) rfl rfl Tryz.func55 (by kernel_rfl) rfl #[.pointer (some ⟨g569, 0, none⟩)] rfl qV ?_; (with_reducible refine (spec_l01Draw.calls k g569 t566 t575 t576 t577 t578 t579 w _ ?side1 ?side2 A7.out).mono ?_); (case side1 => exact qI HI569.out); (case side2 => exact qS HB.out); rintro e w15 ⟨rfl, hi, hb, hk⟩; refine ⟨_, rfl, ?_⟩; replace HB := Aside0.mk (hb); replace HI569 := Aside0.mk (hi)) | ((with_reducible refine gate_callee (f := 59) rfl ?_); refine goesL_ (some 31) rfl rfl Tryz.func59 (by kernel_rfl) rfl #[.pointer (some ⟨g569, 0, none⟩), .string t570] rfl qV ?_; (with_reducible refine (spec_l01Bad.calls k g569 t566 t578 t579 t570 t580 t581 t582 w _ ?side1 ?side2 A8.out).mono ?_); (case side1 => exact qI HI569.out); (case side2 => exact qS HB.out); rintro e w16 ⟨rfl, hi, hb, hk⟩; refine ⟨_, rfl, ?_⟩; replace HB := Aside0.mk (hb); replace HI569 := Aside0.mk (hi)) | ((with_reducible refine gate_callee (f := 59) rfl ?_); refine goesL_ (some 34) rfl rfl Tryz.func59 (by kernel_rfl) rfl #[.pointer (some ⟨g569, 0, none⟩), .string t577] rfl qV ?_; (with_reducible refine (spec_l01Bad.calls k g569 t566 t581 t582 t577 t583 t584 t585 w _ ?side1 ?side2 A9.out).mono ?_); (case side1 => exact qI HI569.out); (case side2 => exact qS HB.out); rintro e w17 ⟨rfl, hi, hb, hk⟩; refine ⟨_, rfl, ?_⟩; replace HB := Aside0.mk (hb); replace HI569 := Aside0.mk (hi)) | ((with_reducible refine gate_dst (N := 36) rfl ?_); refine Kd.R_lit (Kd.int .i64) _ 2 ?hg (N := 36) ?hd (xs := ([0, 1, 2, 2, 3, 4, 60, (-1), 61] : List Int)) (inner := [.int .i64 0, .int .i64 1, .int .i64 2, .int .i64 2, .int .i64 3, .int .i64 4, .int .i64 60, .int .i64 (-1), .int .i64 61]) (ok := fun _ => True) (okp := fun _ => True) ?hr ?hp (fun _ hk => hk) trivial (Below.refl _ _) (Nat.le_refl _) (by simp) ?_; (case hd => rfl); (case hg => rfl); (case hr => first | (go_simp; done) | (go_simp; rfl)); (case hp => exact (Reps.one (show Kd.M (Kd.int .i64) _ _ _ 0 [.int .i64 0] from rfl) (Reps.one (show Kd.M (Kd.int .i64) _ _ _ 1 [.int .i64 1] from rfl) (Reps.one (show Kd.M (Kd.int .i64) _ _ _ 2 [.int .i64 2] from rfl) (Reps.one (show Kd.M (Kd.int .i64) _ _ _ 2 [.int .i64 2] from rfl) (Reps.one (show Kd.M (Kd.int .i64) _ _ _ 3 [.int .i64 3] from rfl) (Reps.one (show Kd.M (Kd.int .i64) _ _ _ 4 [.int .i64 4] from rfl) (Reps.one (show Kd.M (Kd.int .i64) _ _ _ 60 [.int .i64 60] from rfl) (Reps.one (show Kd.M (Kd.int .i64) _ _ _ (-1) [.int .i64 (-1)] from rfl) (Reps.one (show Kd.M (Kd.int .i64) _ _ _ 61 [.int .i64 61] from rfl) (Reps.none _ _))))))))))); intro v587 w18 ho19 hb hg_ hnew_; clear hg_ hnew_; (first | rw [← Ny586.out] at ho19 | (simp only [Int.reduceToNat] at ho19; rw [← Ny586.out] at ho19)); have HO588 := Aside0.mk (Kd.R_lower ho19 (below_size (qS HB.out))); replace HI569 := Aside0.mk (IsS80.below (qI HI569.out) hb); replace HB := Aside0.mk (below_step (qS HB.out) hb); clear hb ho19; obtain ⟨Ao20, co20, eo20⟩ := Kd.R_slice HO588.out; subst eo20) | ((with_reducible refine gate_callee (f := 60) rfl ?_); refine goesL_ (some 37) rfl rfl Tryz.func60 (by kernel_rfl) rfl #[.pointer (some ⟨g569, 0, none⟩), .slice Ao20 y586.length co20] rfl qV ?_; (with_reducible refine (spec_l01Pick.calls g569 t566 t584 t585 _ _ y586 t589 t590 t591 w _ ?side1 ?side2 ?side3 ?side4 ?side5 A10.out).mono ?_); (case side1 => exact qI HI569.out); (case side2 => exact qS HB.out); (case side3 => exact qC (Kd.R_reads' HO588.out).2.2); (case side4 => exact (Kd.R_reads' HO588.out).2.1); (case side5 => exact far_slice (IsS80.own_ne HI569.out HO588.out (by decide))); rintro e w21 ⟨rfl, hi, hb, hk⟩; refine ⟨_, rfl, ?_⟩; replace HO588 := Aside0.mk (Kd.R_mono (Kd.R_keep (IsS80.apart (show IsS80 w _ g569 t566 t584 t585 from qI HI569.out) (qR HO588.out) (by decide)) hk (fun _ h => h.2)) (fun _ h => h.1)); replace HB := Aside0.mk (hb); replace HI569 := Aside0.mk (hi)))
  go_ret3
  exact ⟨qE, qS HB.out⟩
 rw [if_neg c6] at H
 obtain ⟨c6b0, c6b1⟩ := zF c6
 by_cases c22 : t574 = 1
 rotate_left
 ·
  rw [if_neg c22] at H
  obtain ⟨c22b0, c22b1⟩ := zF c22
  replace H := qN H
  obtain ⟨⟨t608, t609, t610⟩, A39, H⟩ := H
  try dsimp only at H
  replace H := qN H
  obtain ⟨⟨t611, t612, t613⟩, A40, H⟩ := H
  try dsimp only at H
  obtain ⟨y614, hy614⟩ : ∃ y_ : List Int, y_ = (([0, 1, 2, 2, 3, 4, 60, (-1), 61] : List Int)) := ⟨_, rfl⟩
  replace H : ((spec_l01Pick.f t566 t612 t613 y614).bind fun bt617 => (some (t608, t611, bt617.1))) = some (r1, r2, r3) := by first | (rw [hy614]; with_reducible exact H) | (have H2_ := (Option.bind_some _ _).symm.trans H; rw [hy614]; with_reducible exact H2_) | (have H2_ := (Option.bind_some _ _).symm.trans H; with_reducible exact H2_) | with_reducible exact H | (rw [hy614]; exact H) | exact H
  have Ny614 := Aside0.mk hy614
  clear hy614
  replace H := qN H
  obtain ⟨⟨t617, t618, t619⟩, A41, H⟩ := H
  try dsimp only at H
  simp only [Option.some.injEq, Prod.mk.injEq] at H
  obtain ⟨rfl, rfl, rfl⟩ := H
  go_enter Tryz.func26, Tryz.ntmps26
  go_wp2_with (first | ((with_reducible refine gate_callee (f := 50) rfl ?_); refine goesL_ (some 9) rfl rfl Tryz.func50 (by kernel_rfl) rfl #[.slice A0 l0.length c0] rfl qV ?_; (with_reducible refine (spec_l01From.calls k _ _ l0 t566 t567 t568 w _ ?side1 ?side2 ?side3 A2.out).mono ?_); (case side1 => exact qB HB.out); (case side2 => exact HR0.out); (case side3 => exact HC0.out); rintro e w42 ⟨g569, rfl, hi, hb, hb2⟩; refine ⟨_, rfl, ?_⟩; replace HB := Aside0.mk (hb); have HI569 := Aside0.mk (hi)) | ((with_reducible refine gate_callee (f := 55) rfl ?_); refine goesL_ (some 11) rfl rfl Tryz.func55 (by kernel_rfl) rfl #[.pointer (some ⟨g569, 0, none⟩)] rfl qV ?_; (with_reducible refine (spec_l01Draw.calls k g569 t566 t567 t568 t570 t571 t572 w _ ?side1 ?side2 A3.out).mono ?_); (case side1 => exact qI HI569.out); (case side2 => exact qS HB.out); rintro e w43 ⟨rfl, hi, hb, hk⟩; refine ⟨_, rfl, ?_⟩; replace HB := Aside0.mk (hb); replace HI569 := Aside0.mk (hi)) | ((with_reducible refine gate_callee (f := 56) rfl ?_); refine goesL_ (some 13) rfl rfl Tryz.func56 (by kernel_rfl) rfl #[.string t570] rfl qV ?_; (with_reducible refine (spec_l01Reversed.calls k t570 t573 _ A4.out).mono ?_); rintro e w44 ⟨rfl, hb⟩; refine ⟨_, rfl, ?_⟩; replace HI569 := Aside0.mk (IsS80.below (qI HI569.out) hb); replace HB := Aside0.mk (below_step (qS HB.out) hb)) | ((with_reducible refine gate_callee (f := 57) rfl ?_); refine goesL_ (some 15) rfl rfl Tryz.func57 (by kernel_rfl) rfl #[.pointer (some ⟨g569, 0, none⟩), .int .i64 4] rfl qV ?_; (with_reducible refine (spec_l01Next.calls g569 t566 t571 t572 4 t574 t575 t576 w _ ?side1 ?side2 A5.out).mono ?_); (case side1 => exact qI HI569.out); (case side2 => exact qS HB.out); rintro e w45 ⟨rfl, hi, hb, hk⟩; refine ⟨_, rfl, ?_⟩; replace HB := Aside0.mk (hb); replace HI569 := Aside0.mk (hi)) | ((with_reducible refine gate_callee (f := 59) rfl ?_); refine goesL_ (some 31) rfl rfl Tryz.func59 (by kernel_rfl) rfl #[.pointer (some ⟨g569, 0, none⟩), .string t570] rfl qV ?_; (with_reducible refine (spec_l01Bad.calls k g569 t566 t575 t576 t570 t608 t609 t610 w _ ?side1 ?side2 A39.out).mono ?_); (case side1 => exact qI HI569.out); (case side2 => exact qS HB.out); rintro e w46 ⟨rfl, hi, hb, hk⟩; refine ⟨_, rfl, ?_⟩; replace HB := Aside0.mk (hb); replace HI569 := Aside0.mk (hi)) | ((with_reducible refine gate_callee (f := 59) rfl ?_); refine goesL_ (some 34) rfl rfl Tryz.func59 (by kernel_rfl) rfl #[.pointer (some ⟨g569, 0, none⟩), .string t573] rfl qV ?_; (with_reducible refine (spec_l01Bad.calls k g569 t566 t609 t610 t573 t611 t612 t613 w _ ?side1 ?side2 A40.out).mono ?_); (case side1 => exact qI HI569.out); (case side2 => exact qS HB.out); rintro e w47 ⟨rfl, hi, hb, hk⟩; refine ⟨_, rfl, ?_⟩; replace HB := Aside0.mk (hb); replace HI569 := Aside0.mk (hi)) | ((with_reducible refine gate_dst (N := 36) rfl ?_); refine Kd.R_lit (Kd.int .i64) _ 2 ?hg (N := 36) ?hd (xs := ([0, 1, 2, 2, 3, 4, 60, (-1), 61] : List Int)) (inner := [.int .i64 0, .int .i64 1, .int .i64 2, .int .i64 2, .int .i64 3, .int .i64 4, .int .i64 60, .int .i64 (-1), .int .i64 61]) (ok := fun _ => True) (okp := fun _ => True) ?hr ?hp (fun _ hk => hk) trivial (Below.refl _ _) (Nat.le_refl _) (by simp) ?_; (case hd => rfl); (case hg => rfl); (case hr => first | (go_simp; done) | (go_simp; rfl)); (case hp => exact (Reps.one (show Kd.M (Kd.int .i64) _ _ _ 0 [.int .i64 0] from rfl) (Reps.one (show Kd.M (Kd.int .i64) _ _ _ 1 [.int .i64 1] from rfl) (Reps.one (show Kd.M (Kd.int .i64) _ _ _ 2 [.int .i64 2] from rfl) (Reps.one (show Kd.M (Kd.int .i64) _ _ _ 2 [.int .i64 2] from rfl) (Reps.one (show Kd.M (Kd.int .i64) _ _ _ 3 [.int .i64 3] from rfl) (Reps.one (show Kd.M (Kd.int .i64) _ _ _ 4 [.int .i64 4] from rfl) (Reps.one (show Kd.M (Kd.int .i64) _ _ _ 60 [.int .i64 60] from rfl) (Reps.one (show Kd.M (Kd.int .i64) _ _ _ (-1) [.int .i64 (-1)] from rfl) (Reps.one (show Kd.M (Kd.int .i64) _ _ _ 61 [.int .i64 61] from rfl) (Reps.none _ _))))))))))); intro v615 w48 ho49 hb hg_ hnew_; clear hg_ hnew_; (first | rw [← Ny614.out] at ho49 | (simp only [Int.reduceToNat] at ho49; rw [← Ny614.out] at ho49)); have HO616 := Aside0.mk (Kd.R_lower ho49 (below_size (qS HB.out))); replace HI569 := Aside0.mk (IsS80.below (qI HI569.out) hb); replace HB := Aside0.mk (below_step (qS HB.out) hb); clear hb ho49; obtain ⟨Ao50, co50, eo50⟩ := Kd.R_slice HO616.out; subst eo50) | ((with_reducible refine gate_callee (f := 60) rfl ?_); refine goesL_ (some 37) rfl rfl Tryz.func60 (by kernel_rfl) rfl #[.pointer (some ⟨g569, 0, none⟩), .slice Ao50 y614.length co50] rfl qV ?_; (with_reducible refine (spec_l01Pick.calls g569 t566 t612 t613 _ _ y614 t617 t618 t619 w _ ?side1 ?side2 ?side3 ?side4 ?side5 A41.out).mono ?_); (case side1 => exact qI HI569.out); (case side2 => exact qS HB.out); (case side3 => exact qC (Kd.R_reads' HO616.out).2.2); (case side4 => exact (Kd.R_reads' HO616.out).2.1); (case side5 => exact far_slice (IsS80.own_ne HI569.out HO616.out (by decide))); rintro e w51 ⟨rfl, hi, hb, hk⟩; refine ⟨_, rfl, ?_⟩; replace HO616 := Aside0.mk (Kd.R_mono (Kd.R_keep (IsS80.apart (show IsS80 w _ g569 t566 t612 t613 from qI HI569.out) (qR HO616.out) (by decide)) hk (fun _ h => h.2)) (fun _ h => h.1)); replace HB := Aside0.mk (hb); replace HI569 := Aside0.mk (hi)))
  go_ret3
  exact ⟨qE, qS HB.out⟩

 rw [if_pos c22] at H
 obtain ⟨c22b0, c22b1⟩ := zT c22
 clear c22
 replace H := qN H
 obtain ⟨⟨t592, t593, t594⟩, A23, H⟩ := H
 try dsimp only at H
 replace H := qN H
 obtain ⟨t595, A24, H⟩ := H
 try dsimp only at H
 replace H := qN H
 obtain ⟨⟨t596, t597, t598⟩, A25, H⟩ := H
 try dsimp only at H
 replace H := qN H
 obtain ⟨⟨t599, t600, t601⟩, A26, H⟩ := H
 try dsimp only at H
 obtain ⟨y602, hy602⟩ : ∃ y_ : List Int, y_ = (([0, 1, 2, 2, 3, 4, 60, (-1), 61] : List Int)) := ⟨_, rfl⟩
 replace H : ((spec_l01Pick.f t566 t600 t601 y602).bind fun bt605 => (some (t596, t599, bt605.1))) = some (r1, r2, r3) := by first | (rw [hy602]; with_reducible exact H) | (have H2_ := (Option.bind_some _ _).symm.trans H; rw [hy602]; with_reducible exact H2_) | (have H2_ := (Option.bind_some _ _).symm.trans H; with_reducible exact H2_) | with_reducible exact H | (rw [hy602]; exact H) | exact H
 have Ny602 := Aside0.mk hy602
 clear hy602
 replace H := qN H
 obtain ⟨⟨t605, t606, t607⟩, A27, H⟩ := H
 try dsimp only at H
 simp only [Option.some.injEq, Prod.mk.injEq] at H
 obtain ⟨rfl, rfl, rfl⟩ := H
 go_enter Tryz.func26, Tryz.ntmps26
 go_wp2_with (first | ((with_reducible refine gate_callee (f := 50) rfl ?_); refine goesL_ (some 9) rfl rfl Tryz.func50 (by kernel_rfl) rfl #[.slice A0 l0.length c0] rfl qV ?_; (with_reducible refine (spec_l01From.calls k _ _ l0 t566 t567 t568 w _ ?side1 ?side2 ?side3 A2.out).mono ?_); (case side1 => exact qB HB.out); (case side2 => exact HR0.out); (case side3 => exact HC0.out); rintro e w28 ⟨g569, rfl, hi, hb, hb2⟩; refine ⟨_, rfl, ?_⟩; replace HB := Aside0.mk (hb); have HI569 := Aside0.mk (hi)) | ((with_reducible refine gate_callee (f := 55) rfl ?_); refine goesL_ (some 11) rfl rfl Tryz.func55 (by kernel_rfl) rfl #[.pointer (some ⟨g569, 0, none⟩)] rfl qV ?_; (with_reducible refine (spec_l01Draw.calls k g569 t566 t567 t568 t570 t571 t572 w _ ?side1 ?side2 A3.out).mono ?_); (case side1 => exact qI HI569.out); (case side2 => exact qS HB.out); rintro e w29 ⟨rfl, hi, hb, hk⟩; refine ⟨_, rfl, ?_⟩; replace HB := Aside0.mk (hb); replace HI569 := Aside0.mk (hi)) | ((with_reducible refine gate_callee (f := 56) rfl ?_); refine goesL_ (some 13) rfl rfl Tryz.func56 (by kernel_rfl) rfl #[.string t570] rfl qV ?_; (with_reducible refine (spec_l01Reversed.calls k t570 t573 _ A4.out).mono ?_); rintro e w30 ⟨rfl, hb⟩; refine ⟨_, rfl, ?_⟩; replace HI569 := Aside0.mk (IsS80.below (qI HI569.out) hb); replace HB := Aside0.mk (below_step (qS HB.out) hb)) | ((with_reducible refine gate_callee (f := 57) rfl ?_); refine goesL_ (some 15) rfl rfl Tryz.func57 (by kernel_rfl) rfl #[.pointer (some ⟨g569, 0, none⟩), .int .i64 4] rfl qV ?_; (with_reducible refine (spec_l01Next.calls g569 t566 t571 t572 4 t574 t575 t576 w _ ?side1 ?side2 A5.out).mono ?_); (case side1 => exact qI HI569.out); (case side2 => exact qS HB.out); rintro e w31 ⟨rfl, hi, hb, hk⟩; refine ⟨_, rfl, ?_⟩; replace HB := Aside0.mk (hb); replace HI569 := Aside0.mk (hi)) | ((with_reducible refine gate_callee (f := 57) rfl ?_); refine goesL_ (some 27) rfl rfl Tryz.func57 (by kernel_rfl) rfl #[.pointer (some ⟨g569, 0, none⟩), .int .i64 (wrap64 ((t570.size : Int) + 1))] rfl qV ?_; (with_reducible refine (spec_l01Next.calls g569 t566 t575 t576 (wrap64 ((t570.size : Int) + 1)) t592 t593 t594 w _ ?side1 ?side2 A23.out).mono ?_); (case side1 => exact qI HI569.out); (case side2 => exact qS HB.out); rintro e w32 ⟨rfl, hi, hb, hk⟩; refine ⟨_, rfl, ?_⟩; replace HB := Aside0.mk (hb); replace HI569 := Aside0.mk (hi)) | ((with_reducible refine gate_callee (f := 58) rfl ?_); refine goesL_ (some 28) rfl rfl Tryz.func58 (by kernel_rfl) rfl #[.string t570, .int .i64 t592] rfl qV ?_; (with_reducible refine (spec_l01Turned.calls t570 t592 t595 _ A24.out).mono ?_); rintro e w' ⟨rfl, ⟨nd, rfl⟩⟩; refine ⟨_, rfl, ?_⟩) | ((with_reducible refine gate_callee (f := 59) rfl ?_); refine goesL_ (some 31) rfl rfl Tryz.func59 (by kernel_rfl) rfl #[.pointer (some ⟨g569, 0, none⟩), .string t570] rfl qV ?_; (with_reducible refine (spec_l01Bad.calls k g569 t566 t593 t594 t570 t596 t597 t598 w _ ?side1 ?side2 A25.out).mono ?_); (case side1 => exact qI HI569.out); (case side2 => exact qS HB.out); rintro e w33 ⟨rfl, hi, hb, hk⟩; refine ⟨_, rfl, ?_⟩; replace HB := Aside0.mk (hb); replace HI569 := Aside0.mk (hi)) | ((with_reducible refine gate_callee (f := 59) rfl ?_); refine goesL_ (some 34) rfl rfl Tryz.func59 (by kernel_rfl) rfl #[.pointer (some ⟨g569, 0, none⟩), .string t595] rfl qV ?_; (with_reducible refine (spec_l01Bad.calls k g569 t566 t597 t598 t595 t599 t600 t601 w _ ?side1 ?side2 A26.out).mono ?_); (case side1 => exact qI HI569.out); (case side2 => exact qS HB.out); rintro e w34 ⟨rfl, hi, hb, hk⟩; refine ⟨_, rfl, ?_⟩; replace HB := Aside0.mk (hb); replace HI569 := Aside0.mk (hi)) | ((with_reducible refine gate_dst (N := 36) rfl ?_); refine Kd.R_lit (Kd.int .i64) _ 2 ?hg (N := 36) ?hd (xs := ([0, 1, 2, 2, 3, 4, 60, (-1), 61] : List Int)) (inner := [.int .i64 0, .int .i64 1, .int .i64 2, .int .i64 2, .int .i64 3, .int .i64 4, .int .i64 60, .int .i64 (-1), .int .i64 61]) (ok := fun _ => True) (okp := fun _ => True) ?hr ?hp (fun _ hk => hk) trivial (Below.refl _ _) (Nat.le_refl _) (by simp) ?_; (case hd => rfl); (case hg => rfl); (case hr => first | (go_simp; done) | (go_simp; rfl)); (case hp => exact (Reps.one (show Kd.M (Kd.int .i64) _ _ _ 0 [.int .i64 0] from rfl) (Reps.one (show Kd.M (Kd.int .i64) _ _ _ 1 [.int .i64 1] from rfl) (Reps.one (show Kd.M (Kd.int .i64) _ _ _ 2 [.int .i64 2] from rfl) (Reps.one (show Kd.M (Kd.int .i64) _ _ _ 2 [.int .i64 2] from rfl) (Reps.one (show Kd.M (Kd.int .i64) _ _ _ 3 [.int .i64 3] from rfl) (Reps.one (show Kd.M (Kd.int .i64) _ _ _ 4 [.int .i64 4] from rfl) (Reps.one (show Kd.M (Kd.int .i64) _ _ _ 60 [.int .i64 60] from rfl) (Reps.one (show Kd.M (Kd.int .i64) _ _ _ (-1) [.int .i64 (-1)] from rfl) (Reps.one (show Kd.M (Kd.int .i64) _ _ _ 61 [.int .i64 61] from rfl) (Reps.none _ _))))))))))); intro v603 w35 ho36 hb hg_ hnew_; clear hg_ hnew_; (first | rw [← Ny602.out] at ho36 | (simp only [Int.reduceToNat] at ho36; rw [← Ny602.out] at ho36)); have HO604 := Aside0.mk (Kd.R_lower ho36 (below_size (qS HB.out))); replace HI569 := Aside0.mk (IsS80.below (qI HI569.out) hb); replace HB := Aside0.mk (below_step (qS HB.out) hb); clear hb ho36; obtain ⟨Ao37, co37, eo37⟩ := Kd.R_slice HO604.out; subst eo37) | ((with_reducible refine gate_callee (f := 60) rfl ?_); refine goesL_ (some 37) rfl rfl Tryz.func60 (by kernel_rfl) rfl #[.pointer (some ⟨g569, 0, none⟩), .slice Ao37 y602.length co37] rfl qV ?_; (with_reducible refine (spec_l01Pick.calls g569 t566 t600 t601 _ _ y602 t605 t606 t607 w _ ?side1 ?side2 ?side3 ?side4 ?side5 A27.out).mono ?_); (case side1 => exact qI HI569.out); (case side2 => exact qS HB.out); (case side3 => exact qC (Kd.R_reads' HO604.out).2.2); (case side4 => exact (Kd.R_reads' HO604.out).2.1); (case side5 => exact far_slice (IsS80.own_ne HI569.out HO604.out (by decide))); rintro e w38 ⟨rfl, hi, hb, hk⟩; refine ⟨_, rfl, ?_⟩; replace HO604 := Aside0.mk (Kd.R_mono (Kd.R_keep (IsS80.apart (show IsS80 w _ g569 t566 t600 t601 from qI HI569.out) (qR HO604.out) (by decide)) hk (fun _ h => h.2)) (fun _ h => h.1)); replace HB := Aside0.mk (hb); replace HI569 := Aside0.mk (hi)))
 go_ret3
 exact ⟨qE, qS HB.out⟩
end Go.Proofs.YtgfnkdoennbipaaGreat.PF

namespace Go.Proofs.YtgfnkdoennbipaaGreat.PF
open Go.RowKit Go.Proofs.YtgfnkdoennbipaaGreatW.PrintWords Go.Proofs.YtgfnkdoennbipaaGreatW.PrintLast Go.Proofs.YtgfnkdoennbipaaGreatW.PrintMore
attribute [local go_sem] max2_int min2_int max_two min_two max_three min_three max_four min_four   -- for this text's walks alone
set_option linter.unusedVariables false
set_option linter.unusedSimpArgs false

/-! ### impl_HaveEqualFactors_1: function 61 -/
def impl_HaveEqualFactors_1.f (a0 : Int) : Option (Bool) := (impl_isLength.f a0).bind fun t621 => (some t621)
set_option maxHeartbeats 8000000 in
set_option maxRecDepth 100000 in
theorem impl_HaveEqualFactors_1.calls (g0 : Nat) (a0 : Int) (r : Bool) (w : World) (hb0 : w.heap[g0]? = some (.cells #[.int .i64 a0] 2 (0, 0))) (h : impl_HaveEqualFactors_1.f a0 = some r) :
  Calls Tryz.prog 61 #[.pointer (some ⟨g0, 0, none⟩)] w fun e w' => e = .returned (.bool r) ∧ Drawn0 w w' := by
 have BK620 := Aside0.mk hb0
 clear hb0
 have H : ((impl_isLength.f a0).bind fun t621 => (some t621)) = some r := h
 clear h
 replace H := qN H
 obtain ⟨t621, A2, H⟩ := H
 try dsimp only at H
 obtain rfl := Option.some.inj H
 have hcz3_0 : w.cell? ⟨g0, 0, none⟩ = some (.int .i64 a0) := (blk_cell BK620.out 0).trans rfl
 have hfz3_0 := blk_frozen BK620.out 0
 go_enter Tryz.func61, Tryz.ntmps61
 go_wp2_with (first | ((with_reducible refine gate_callee (f := 37) rfl ?_); refine goesL_ (some 3) rfl rfl Tryz.func37 (by kernel_rfl) rfl #[.int .i64 a0] rfl qV ?_; (with_reducible refine (impl_isLength.calls a0 t621 _ A2.out).mono ?_); rintro e w' ⟨rfl, ⟨nd, rfl⟩⟩; refine ⟨_, rfl, ?_⟩))
 go_ret
 exact ⟨by first | rfl | (simp; done) | (simp [*]; done) | (simp; rw [Bool.eq_iff_iff]; simp; done), by repeat (first | exact Drawn0.refl _ | apply Drawn0.step)⟩

end Go.Proofs.YtgfnkdoennbipaaGreat.PF

namespace Go.Proofs.YtgfnkdoennbipaaGreat.PF
open Go.RowKit Go.Proofs.YtgfnkdoennbipaaGreatW.PrintWords Go.Proofs.YtgfnkdoennbipaaGreatW.PrintLast Go.Proofs.YtgfnkdoennbipaaGreatW.PrintMore
attribute [local go_sem] max2_int min2_int max_two min_two max_three min_three max_four min_four   -- for this text's walks alone
set_option linter.unusedVariables false
set_option linter.unusedSimpArgs false

/-! ### slices_Equal_string_string: function 62 -/
def slices_Equal_string_string.l0 : Nat → List ByteArray → List ByteArray → Int → Int → Option (Bool)
 | 0, _, _, _, _ => none
 | k + 1, x0, x1, x12, x13 => if x13 < x12 then (if 0 ≤ x13 then (if x13 < (x0.length : Int) then (if x13 < (x1.length : Int) then (if (rdOf ByteArray.empty x0 x13).toList = (rdOf ByteArray.empty x1 x13).toList then (slices_Equal_string_string.l0 k x0 x1 x12 (wrap64 (x13 + 1))) else (some false)) else (none)) else (none)) else (none)) else (some true)
def slices_Equal_string_string.f (k : Nat) (l0 : List ByteArray) (l1 : List ByteArray) : Option (Bool) := if (l0.length : Int) = (l1.length : Int) then (slices_Equal_string_string.l0 k l0 l1 (l0.length : Int) 0) else (some false)
theorem slices_Equal_string_string.mono_l : ∀ k, (∀ y0 y1 y2 y3, LeO (slices_Equal_string_string.l0 k y0 y1 y2 y3) (slices_Equal_string_string.l0 (k + 1) y0 y1 y2 y3))
 | 0 => fun _ _ _ _ r h => by simp [slices_Equal_string_string.l0] at h
 | k + 1 => by
  have ih0 := slices_Equal_string_string.mono_l k
  ·
   intro y0 y1 y2 y3
   unfold slices_Equal_string_string.l0
   with_reducible repeat' first
   | exact ih0 _ _ _ _
   | exact LeO.refl _
   | exact LeO.none _
   | refine LeO.ite ?_ ?_
   | refine LeO.bind ?_ (fun _ => ?_)
theorem slices_Equal_string_string.mono : ∀ a0 a1 k, LeO (slices_Equal_string_string.f k a0 a1) (slices_Equal_string_string.f (k + 1) a0 a1) := by
 intro a0 a1 k
 have ih0 := slices_Equal_string_string.mono_l k
 unfold slices_Equal_string_string.f
 with_reducible repeat' first
   | exact ih0 _ _ _ _
   | exact LeO.refl _
   | exact LeO.none _
   | refine LeO.ite ?_ ?_
   | refine LeO.bind ?_ (fun _ => ?_)
set_option maxHeartbeats 8000000 in
set_option maxRecDepth 100000 in
theorem slices_Equal_string_string.calls (k : Nat) (A0 : Option Addr) (c0 : Nat) (l0 : List ByteArray) (A1 : Option Addr) (c1 : Nat) (l1 : List ByteArray) (r : Bool) (w : World) (hr0 : Kd.C Kd.string w A0 l0.length l0) (hc0 : l0.length ≤ c0) (hr1 : Kd.C Kd.string w A1 l1.length l1) (hc1 : l1.length ≤ c1) (h : slices_Equal_string_string.f k l0 l1 = some r) :
  Calls Tryz.prog 62 #[.slice A0 l0.length c0, .slice A1 l1.length c1] w fun e w' => e = .returned (.bool r) ∧ Drawn0 w w' := by
 have HR0 := Aside0.mk hr0
 have HC0 := Aside0.mk hc0
 clear hr0 hc0
 have HR1 := Aside0.mk hr1
 have HC1 := Aside0.mk hc1
 clear hr1 hc1
 have H : (if (l0.length : Int) = (l1.length : Int) then (slices_Equal_string_string.l0 k l0 l1 (l0.length : Int) 0) else (some false)) = some r := h
 clear h
 by_cases c3 : (l0.length : Int) = (l1.length : Int)
 rotate_left
 ·
  rw [if_neg c3] at H
  obtain ⟨c3b0, c3b1⟩ := zF c3
  have c3b2 : (l0.length == l1.length) = false := by first | simpa using c3 | (simp at c3 ⊢; omega)
  obtain rfl := Option.some.inj H
  go_enter Tryz.func62, Tryz.ntmps62
  go_wp2
  repeat (go_quiet (fail); try go_wp2)
  go_ret
  exact ⟨by first | rfl | (simp; done) | (simp [*]; done) | (simp; rw [Bool.eq_iff_iff]; simp; done), by repeat (first | exact Drawn0.refl _ | apply Drawn0.step)⟩

 rw [if_pos c3] at H
 obtain ⟨c3b0, c3b1⟩ := zT c3
 have c3b2 : (l0.length == l1.length) = true := by first | simpa using c3 | (simp at c3 ⊢; omega)
 clear c3
 have H' := Aside0.mk H
 clear H
 go_enter Tryz.func62, Tryz.ntmps62
 go_wp2
 repeat (go_quiet (fail); try go_wp2)
 go_loopg [13] k (fun kq v13 w' => ∃ (x13_1 : Int), v13 = .int .i64 x13_1 ∧ Aside0 (slices_Equal_string_string.l0 kq l0 l1 (l0.length : Int) x13_1 = some r) ∧ Aside0 (kq ≤ k) ∧ Drawn0 w w')
 case atStart => exact ⟨(0), qF, H', ⟨Nat.le_refl _⟩, by repeat (first | exact Drawn0.refl _ | apply Drawn0.step)⟩
 case round =>
  clear H'
  obtain ⟨x13_1, rfl, HA, HK1, ⟨m1, rfl⟩⟩ := hrel
  cases gk with
  | zero => exact absurd HA.out (by simp [slices_Equal_string_string.l0])
  | succ k1 =>
   have H := HA.out
   clear HA
   simp only [slices_Equal_string_string.l0] at H
   by_cases c4 : x13_1 < (l0.length : Int)
   rotate_left
   ·
    rw [if_neg c4] at H
    have c4b0 : decide (x13_1 < (l0.length : Int)) = false := decide_eq_false c4
    clear c4
    obtain rfl := Option.some.inj H
    go_wp2
    repeat (go_quiet (fail); try go_wp2)
    go_ret
    exact ⟨by first | rfl | (simp; done) | (simp [*]; done) | (simp; rw [Bool.eq_iff_iff]; simp; done), by repeat (first | exact Drawn0.refl _ | apply Drawn0.step)⟩
   rw [if_pos c4] at H
   have c4b0 : decide (x13_1 < (l0.length : Int)) = true := decide_eq_true c4
   clear c4
   by_cases c5 : 0 ≤ x13_1
   rotate_left
   ·
    rw [if_neg c5] at H
    exact absurd H (by simp)
   rw [if_pos c5] at H
   have c5b0 : decide (0 ≤ x13_1) = true := decide_eq_true c5
   clear c5
   by_cases c6 : x13_1 < (l0.length : Int)
   rotate_left
   ·
    rw [if_neg c6] at H
    exact absurd H (by simp)
   rw [if_pos c6] at H
   have c6b0 : decide (x13_1 < (l0.length : Int)) = true := decide_eq_true c6
   clear c6
   by_cases c7 : x13_1 < (l1.length : Int)
   rotate_left
   ·
    rw [if_neg c7] at H
    exact absurd H (by simp)
   rw [if_pos c7] at H
   have c7b0 : decide (x13_1 < (l1.length : Int)) = true := decide_eq_true c7
   clear c7
   by_cases c8 : (rdOf ByteArray.empty l0 x13_1).toList = (rdOf ByteArray.empty l1 x13_1).toList
   rotate_left
   ·
    rw [if_neg c8] at H
    obtain ⟨c8b0, c8b1⟩ := zF c8
    obtain rfl := Option.some.inj H
    have p622 : 0 ≤ (x13_1 : Int) := of_decide_eq_true (by first | (with_reducible assumption) | assumption)
    have q622 : x13_1 < (l0.length : Int) := of_decide_eq_true (by first | (with_reducible assumption) | assumption)
    obtain ⟨ad622, e622, hx622_0⟩ := Kd.at_string HR0.out x13_1 p622 q622
    cases e622
    replace p622 := eq_true p622
    replace q622 := eq_true q622
    have p623 : 0 ≤ (x13_1 : Int) := of_decide_eq_true (by first | (with_reducible assumption) | assumption)
    have q623 : x13_1 < (l1.length : Int) := of_decide_eq_true (by first | (with_reducible assumption) | assumption)
    obtain ⟨ad623, e623, hx623_0⟩ := Kd.at_string HR1.out x13_1 p623 q623
    cases e623
    replace p623 := eq_true p623
    replace q623 := eq_true q623
    go_wp2
    repeat (go_quiet (fail); try go_wp2)
    go_ret
    exact ⟨by first | rfl | (simp; done) | (simp [*]; done) | (simp; rw [Bool.eq_iff_iff]; simp; done), by repeat (first | exact Drawn0.refl _ | apply Drawn0.step)⟩
   rw [if_pos c8] at H
   obtain ⟨c8b0, c8b1⟩ := zT c8
   clear c8
   have H' := Aside0.mk H
   clear H
   have p622 : 0 ≤ (x13_1 : Int) := of_decide_eq_true (by first | (with_reducible assumption) | assumption)
   have q622 : x13_1 < (l0.length : Int) := of_decide_eq_true (by first | (with_reducible assumption) | assumption)
   obtain ⟨ad622, e622, hx622_0⟩ := Kd.at_string HR0.out x13_1 p622 q622
   cases e622
   replace p622 := eq_true p622
   replace q622 := eq_true q622
   have p623 : 0 ≤ (x13_1 : Int) := of_decide_eq_true (by first | (with_reducible assumption) | assumption)
   have q623 : x13_1 < (l1.length : Int) := of_decide_eq_true (by first | (with_reducible assumption) | assumption)
   obtain ⟨ad623, e623, hx623_0⟩ := Kd.at_string HR1.out x13_1 p623 q623
   cases e623
   replace p623 := eq_true p623
   replace q623 := eq_true q623
   go_wp2
   repeat (go_quiet (fail); try go_wp2)
   go_roundg k1
   case measure => have := HK1.out; omega
   case rel => exact ⟨(wrap64 (x13_1 + 1)), qF, H', ⟨by have := HK1.out; omega⟩, by repeat (first | exact Drawn0.refl _ | apply Drawn0.step)⟩
end Go.Proofs.YtgfnkdoennbipaaGreat.PF

namespace Go.Proofs.YtgfnkdoennbipaaGreat.PF
open Go.RowKit Go.Proofs.YtgfnkdoennbipaaGreatW.PrintWords Go.Proofs.YtgfnkdoennbipaaGreatW.PrintLast Go.Proofs.YtgfnkdoennbipaaGreatW.PrintMore
attribute [local go_sem] max2_int min2_int max_two min_two max_three min_three max_four min_four   -- for this text's walks alone
set_option linter.unusedVariables false
set_option linter.unusedSimpArgs false

/-! ### spec_HaveEqualFactors: function 28 -/
mutual
def spec_HaveEqualFactors.j0 : Nat → ByteArray → ByteArray → Int → Bool → Option (Bool × Int)
 | 0, _, _, _, _ => none
 | k + 1, x0, x1, x2, x11 => if x11 = true then (some (false, 1)) else ((spec_l01In.f x2 0 60).bind fun t638 => (if t638 = true then ((spec_l01Factors.f k x0 x2).bind fun t639 => ((spec_l01Factors.f k x1 x2).bind fun t642 => (if (t639.length : Int) = (t642.length : Int) then (spec_HaveEqualFactors.l0 k t639 t642 0) else (some (false, 0))))) else (some (false, 2))))
def spec_HaveEqualFactors.l0 : Nat → List ByteArray → List ByteArray → Int → Option (Bool × Int)
 | 0, _, _, _ => none
 | k + 1, x8, x9, x10 => if x10 < (x8.length : Int) then (if 0 ≤ x10 then (if x10 < (x9.length : Int) then (if (rdOf ByteArray.empty x8 x10).toList = (rdOf ByteArray.empty x9 x10).toList then (spec_HaveEqualFactors.l0 k x8 x9 (wrap64 (x10 + 1))) else (some (false, 0))) else (none)) else (none)) else (some (true, 0))
end
def spec_HaveEqualFactors.f (k : Nat) (a0 : ByteArray) (a1 : ByteArray) (a2 : Int) : Option (Bool × Int) := (spec_l01Is.f k a0).bind fun t636 => (if t636 = true then ((spec_l01Is.f k a1).bind fun t637 => (spec_HaveEqualFactors.j0 k a0 a1 a2 (!t637))) else (spec_HaveEqualFactors.j0 k a0 a1 a2 true))
theorem spec_HaveEqualFactors.mono_l : ∀ k, (∀ y0 y1 y2 y3, LeO (spec_HaveEqualFactors.j0 k y0 y1 y2 y3) (spec_HaveEqualFactors.j0 (k + 1) y0 y1 y2 y3)) ∧ (∀ y0 y1 y2, LeO (spec_HaveEqualFactors.l0 k y0 y1 y2) (spec_HaveEqualFactors.l0 (k + 1) y0 y1 y2))
 | 0 => ⟨fun _ _ _ _ r h => by simp [spec_HaveEqualFactors.j0] at h, fun _ _ _ r h => by simp [spec_HaveEqualFactors.l0] at h⟩
 | k + 1 => by
  obtain ⟨ih0, ih1⟩ := spec_HaveEqualFactors.mono_l k
  refine ⟨?_, ?_⟩
  all_goals intros
  all_goals first | unfold spec_HaveEqualFactors.j0 | unfold spec_HaveEqualFactors.l0
  all_goals with_reducible repeat' first
  | exact ih0 _ _ _ _
  | exact ih1 _ _ _
  | exact spec_l01Factors.mono _ _ _
  | exact spec_l01Is.mono _ _
  | exact LeO.refl _
  | exact LeO.none _
  | refine LeO.ite ?_ ?_
  | refine LeO.bind ?_ (fun _ => ?_)
theorem spec_HaveEqualFactors.mono : ∀ a0 a1 a2 k, LeO (spec_HaveEqualFactors.f k a0 a1 a2) (spec_HaveEqualFactors.f (k + 1) a0 a1 a2) := by
 intro a0 a1 a2 k
 obtain ⟨ih0, ih1⟩ := spec_HaveEqualFactors.mono_l k
 unfold spec_HaveEqualFactors.f
 with_reducible repeat' first
   | exact ih0 _ _ _ _
   | exact ih1 _ _ _
   | exact spec_l01Factors.mono _ _ _
   | exact spec_l01Is.mono _ _
   | exact LeO.refl _
   | exact LeO.none _
   | refine LeO.ite ?_ ?_
   | refine LeO.bind ?_ (fun _ => ?_)
set_option maxHeartbeats 8000000 in
set_option maxRecDepth 100000 in
theorem spec_HaveEqualFactors.calls (k : Nat) (a0 : ByteArray) (a1 : ByteArray) (a2 : Int) (r1 : Bool) (r2 : Int) (w : World) (h : spec_HaveEqualFactors.f k a0 a1 a2 = some (r1, r2)) :
  Calls Tryz.prog 28 #[.string a0, .string a1, .int .i64 a2] w fun e w' => e = .returned (.tuple #[.bool r1, .int .i64 r2]) ∧ Below w.heap.size w w' := by
 have HB := Aside0.mk (Below.refl w.heap.size w)
 have H : ((spec_l01Is.f k a0).bind fun t636 => (if t636 = true then ((spec_l01Is.f k a1).bind fun t637 => (spec_HaveEqualFactors.j0 k a0 a1 a2 (!t637))) else (spec_HaveEqualFactors.j0 k a0 a1 a2 true))) = some (r1, r2) := h
 clear h
 have HC4 := Aside0.mk H
 clear H
 go_enter Tryz.func28, Tryz.ntmps28
 go_upto_region 1 with (fail)
 repeat (go_quiet (fail); go_upto_region 1 with (fail))
 go_cut [11] (fun v11 wc => ∃ (kq : Nat) (x11_3 : Bool), v11 = .bool x11_3 ∧ Aside0 (spec_HaveEqualFactors.j0 kq a0 a1 a2 x11_3 = some (r1, r2)) ∧ Aside0 (kq ≤ k) ∧ Aside0 (Below w.heap.size w wc))
 case first =>
  have H := HC4.out
  clear HC4
  replace H := qN H
  obtain ⟨t636, A5, H⟩ := H
  try dsimp only at H
  by_cases c6 : t636 = true
  rotate_left
  ·
   replace c6 := Bool.eq_false_iff.mpr c6
   subst c6
   rw [if_neg (show ¬ (false = true) by decide)] at H
   have H' := Aside0.mk H
   clear H
   go_wp2_with (first | (go_at_call 53; (with_reducible refine (spec_l01Is.calls k a0 false _ A5.out).mono ?_); rintro e w' ⟨rfl, ⟨nd, rfl⟩⟩; (try first | exact ⟨rfl, _, World.drewN_drewN _ _ _⟩ | exact ⟨rfl, _, Eq.trans (World.drewN_drewN _ _ _) (congrArg (World.drewN _) (Nat.add_assoc _ _ _))⟩)))
   repeat (go_quiet (first | (go_at_call 53; (with_reducible refine (spec_l01Is.calls k a0 false _ A5.out).mono ?_); rintro e w' ⟨rfl, ⟨nd, rfl⟩⟩; (try first | exact ⟨rfl, _, World.drewN_drewN _ _ _⟩ | exact ⟨rfl, _, Eq.trans (World.drewN_drewN _ _ _) (congrArg (World.drewN _) (Nat.add_assoc _ _ _))⟩))); try go_wp2_with (first | (go_at_call 53; (with_reducible refine (spec_l01Is.calls k a0 false _ A5.out).mono ?_); rintro e w' ⟨rfl, ⟨nd, rfl⟩⟩; (try first | exact ⟨rfl, _, World.drewN_drewN _ _ _⟩ | exact ⟨rfl, _, Eq.trans (World.drewN_drewN _ _ _) (congrArg (World.drewN _) (Nat.add_assoc _ _ _))⟩))))
   go_meet
   case rel => exact ⟨_, (true), qF, H', ⟨by first | omega | exact Nat.le_refl _⟩, ⟨qB HB.out⟩⟩
  subst c6
  rw [if_pos rfl] at H
  replace H := qN H
  obtain ⟨t637, A7, H⟩ := H
  try dsimp only at H
  have H' := Aside0.mk H
  clear H
  go_wp2_with (first | (go_at_call 53; (with_reducible refine (spec_l01Is.calls k a0 true _ A5.out).mono ?_); rintro e w' ⟨rfl, ⟨nd, rfl⟩⟩; (try first | exact ⟨rfl, _, World.drewN_drewN _ _ _⟩ | exact ⟨rfl, _, Eq.trans (World.drewN_drewN _ _ _) (congrArg (World.drewN _) (Nat.add_assoc _ _ _))⟩)) | (go_at_call 53; (with_reducible refine (spec_l01Is.calls k a1 t637 _ A7.out).mono ?_); rintro e w' ⟨rfl, ⟨nd, rfl⟩⟩; (try first | exact ⟨rfl, _, World.drewN_drewN _ _ _⟩ | exact ⟨rfl, _, Eq.trans (World.drewN_drewN _ _ _) (congrArg (World.drewN _) (Nat.add_assoc _ _ _))⟩)))
  repeat (go_quiet (first | (go_at_call 53; (with_reducible refine (spec_l01Is.calls k a0 true _ A5.out).mono ?_); rintro e w' ⟨rfl, ⟨nd, rfl⟩⟩; (try first | exact ⟨rfl, _, World.drewN_drewN _ _ _⟩ | exact ⟨rfl, _, Eq.trans (World.drewN_drewN _ _ _) (congrArg (World.drewN _) (Nat.add_assoc _ _ _))⟩)) | (go_at_call 53; (with_reducible refine (spec_l01Is.calls k a1 t637 _ A7.out).mono ?_); rintro e w' ⟨rfl, ⟨nd, rfl⟩⟩; (try first | exact ⟨rfl, _, World.drewN_drewN _ _ _⟩ | exact ⟨rfl, _, Eq.trans (World.drewN_drewN _ _ _) (congrArg (World.drewN _) (Nat.add_assoc _ _ _))⟩))); try go_wp2_with (first | (go_at_call 53; (with_reducible refine (spec_l01Is.calls k a0 true _ A5.out).mono ?_); rintro e w' ⟨rfl, ⟨nd, rfl⟩⟩; (try first | exact ⟨rfl, _, World.drewN_drewN _ _ _⟩ | exact ⟨rfl, _, Eq.trans (World.drewN_drewN _ _ _) (congrArg (World.drewN _) (Nat.add_assoc _ _ _))⟩)) | (go_at_call 53; (with_reducible refine (spec_l01Is.calls k a1 t637 _ A7.out).mono ?_); rintro e w' ⟨rfl, ⟨nd, rfl⟩⟩; (try first | exact ⟨rfl, _, World.drewN_drewN _ _ _⟩ | exact ⟨rfl, _, Eq.trans (World.drewN_drewN _ _ _) (congrArg (World.drewN _) (Nat.add_assoc _ _ _))⟩))))
  go_meet
  case rel => exact ⟨_, (!t637), qF, H', ⟨by first | omega | exact Nat.le_refl _⟩, ⟨qB HB.out⟩⟩
 case rest =>
  clear HC4
  obtain ⟨kq, x11_3, rfl, HA, HJ3, HB⟩ := hcut
  cases kq with
  | zero => exact absurd HA.out (by simp [spec_HaveEqualFactors.j0])
  | succ kj3 =>
   have H := HA.out
   clear HA
   simp only [spec_HaveEqualFactors.j0] at H
   by_cases c8 : x11_3 = true
   ·
    subst c8
    rw [if_pos rfl] at H
    simp only [Option.some.injEq, Prod.mk.injEq] at H
    obtain ⟨rfl, rfl⟩ := H
    go_wp2
    repeat (go_quiet (fail); try go_wp2)
    go_ret2
    exact ⟨qE, qB HB.out⟩
   replace c8 := Bool.eq_false_iff.mpr c8
   subst c8
   rw [if_neg (show ¬ (false = true) by decide)] at H
   replace H := qN H
   obtain ⟨t638, A9, H⟩ := H
   try dsimp only at H
   by_cases c10 : t638 = true
   rotate_left
   ·
    replace c10 := Bool.eq_false_iff.mpr c10
    subst c10
    rw [if_neg (show ¬ (false = true) by decide)] at H
    simp only [Option.some.injEq, Prod.mk.injEq] at H
    obtain ⟨rfl, rfl⟩ := H
    go_wp2_with (first | (go_at_call 63; (with_reducible refine (spec_l01In.calls a2 0 60 false _ A9.out).mono ?_); rintro e w' ⟨rfl, ⟨nd, rfl⟩⟩; (try first | exact ⟨rfl, _, World.drewN_drewN _ _ _⟩ | exact ⟨rfl, _, Eq.trans (World.drewN_drewN _ _ _) (congrArg (World.drewN _) (Nat.add_assoc _ _ _))⟩)))
    repeat (go_quiet (first | (go_at_call 63; (with_reducible refine (spec_l01In.calls a2 0 60 false _ A9.out).mono ?_); rintro e w' ⟨rfl, ⟨nd, rfl⟩⟩; (try first | exact ⟨rfl, _, World.drewN_drewN _ _ _⟩ | exact ⟨rfl, _, Eq.trans (World.drewN_drewN _ _ _) (congrArg (World.drewN _) (Nat.add_assoc _ _ _))⟩))); try go_wp2_with (first | (go_at_call 63; (with_reducible refine (spec_l01In.calls a2 0 60 false _ A9.out).mono ?_); rintro e w' ⟨rfl, ⟨nd, rfl⟩⟩; (try first | exact ⟨rfl, _, World.drewN_drewN _ _ _⟩ | exact ⟨rfl, _, Eq.trans (World.drewN_drewN _ _ _) (congrArg (World.drewN _) (Nat.add_assoc _ _ _))⟩))))
    go_ret2
    exact ⟨qE, qB HB.out⟩

   subst c10
   rw [if_pos rfl] at H
   replace H := qN H
   obtain ⟨t639, A11, H⟩ := H
   try dsimp only at H
   replace H := qN H
   obtain ⟨t642, A12, H⟩ := H
   try dsimp only at H
   by_cases c13 : (t639.length : Int) = (t642.length : Int)
   rotate_left
   ·
    rw [if_neg c13] at H
    obtain ⟨c13b0, c13b1⟩ := zF c13
    have c13b2 : (t639.length == t642.length) = false := by first | simpa using c13 | (simp at c13 ⊢; omega)
    simp only [Option.some.injEq, Prod.mk.injEq] at H
    obtain ⟨rfl, rfl⟩ := H
    go_wp2_with (first | (go_at_call 63; (with_reducible refine (spec_l01In.calls a2 0 60 true _ A9.out).mono ?_); rintro e w' ⟨rfl, ⟨nd, rfl⟩⟩; (try first | exact ⟨rfl, _, World.drewN_drewN _ _ _⟩ | exact ⟨rfl, _, Eq.trans (World.drewN_drewN _ _ _) (congrArg (World.drewN _) (Nat.add_assoc _ _ _))⟩)) | (go_at_call 45; (with_reducible refine (spec_l01Factors.calls kj3 a0 a2 t639 _ A11.out).mono ?_); rintro e w22 ⟨v640, rfl, ho0, hb⟩; have HO641 := Aside0.mk (Kd.R_lower ho0 (below_size (qB HB.out))); replace HB := Aside0.mk (below_step (qB HB.out) hb)) | (go_at_call 45; (with_reducible refine (spec_l01Factors.calls kj3 a1 a2 t642 _ A12.out).mono ?_); rintro e w23 ⟨v643, rfl, ho0, hb⟩; have HO644 := Aside0.mk (Kd.R_lower (Kd.R_new' ho0 (Kd.R_lt (qR HO641.out))) (below_size (qB HB.out))); replace HO641 := Aside0.mk (Kd.R_elder' (qR HO641.out) (Kd.R_base ho0) hb); replace HB := Aside0.mk (below_step (qB HB.out) hb); obtain ⟨Ao24, co24, eo24⟩ := Kd.R_slice HO641.out; subst eo24; obtain ⟨Ao25, co25, eo25⟩ := Kd.R_slice HO644.out; subst eo25))
    repeat (go_quiet (first | (go_at_call 63; (with_reducible refine (spec_l01In.calls a2 0 60 true _ A9.out).mono ?_); rintro e w' ⟨rfl, ⟨nd, rfl⟩⟩; (try first | exact ⟨rfl, _, World.drewN_drewN _ _ _⟩ | exact ⟨rfl, _, Eq.trans (World.drewN_drewN _ _ _) (congrArg (World.drewN _) (Nat.add_assoc _ _ _))⟩)) | (go_at_call 45; (with_reducible refine (spec_l01Factors.calls kj3 a0 a2 t639 _ A11.out).mono ?_); rintro e w22 ⟨v640, rfl, ho0, hb⟩; have HO641 := Aside0.mk (Kd.R_lower ho0 (below_size (qB HB.out))); replace HB := Aside0.mk (below_step (qB HB.out) hb)) | (go_at_call 45; (with_reducible refine (spec_l01Factors.calls kj3 a1 a2 t642 _ A12.out).mono ?_); rintro e w23 ⟨v643, rfl, ho0, hb⟩; have HO644 := Aside0.mk (Kd.R_lower (Kd.R_new' ho0 (Kd.R_lt (qR HO641.out))) (below_size (qB HB.out))); replace HO641 := Aside0.mk (Kd.R_elder' (qR HO641.out) (Kd.R_base ho0) hb); replace HB := Aside0.mk (below_step (qB HB.out) hb); obtain ⟨Ao24, co24, eo24⟩ := Kd.R_slice HO641.out; subst eo24; obtain ⟨Ao25, co25, eo25⟩ := Kd.R_slice HO644.out; subst eo25)); try go_wp2_with (first | (go_at_call 63; (with_reducible refine (spec_l01In.calls a2 0 60 true _ A9.out).mono ?_); rintro e w' ⟨rfl, ⟨nd, rfl⟩⟩; (try first | exact ⟨rfl, _, World.drewN_drewN _ _ _⟩ | exact ⟨rfl, _, Eq.trans (World.drewN_drewN _ _ _) (congrArg (World.drewN _) (Nat.add_assoc _ _ _))⟩)) | (go_at_call 45; (with_reducible refine (spec_l01Factors.calls kj3 a0 a2 t639 _ A11.out).mono ?_); rintro e w22 ⟨v640, rfl, ho0, hb⟩; have HO641 := Aside0.mk (Kd.R_lower ho0 (below_size (qB HB.out))); replace HB := Aside0.mk (below_step (qB HB.out) hb)) | (go_at_call 45; (with_reducible refine (spec_l01Factors.calls kj3 a1 a2 t642 _ A12.out).mono ?_); rintro e w23 ⟨v643, rfl, ho0, hb⟩; have HO644 := Aside0.mk (Kd.R_lower (Kd.R_new' ho0 (Kd.R_lt (qR HO641.out))) (below_size (qB HB.out))); replace HO641 := Aside0.mk (Kd.R_elder' (qR HO641.out) (Kd.R_base ho0) hb); replace HB := Aside0.mk (below_step (qB HB.out) hb); obtain ⟨Ao24, co24, eo24⟩ := Kd.R_slice HO641.out; subst eo24; obtain ⟨Ao25, co25, eo25⟩ := Kd.R_slice HO644.out; subst eo25)))
    go_ret2
    exact ⟨qE, qB HB.out⟩
   rw [if_pos c13] at H
   obtain ⟨c13b0, c13b1⟩ := zT c13
   have c13b2 : (t639.length == t642.length) = true := by first | simpa using c13 | (simp at c13 ⊢; omega)
   clear c13
   have H' := Aside0.mk H
   clear H
   go_wp2_with (first | (go_at_call 63; (with_reducible refine (spec_l01In.calls a2 0 60 true _ A9.out).mono ?_); rintro e w' ⟨rfl, ⟨nd, rfl⟩⟩; (try first | exact ⟨rfl, _, World.drewN_drewN _ _ _⟩ | exact ⟨rfl, _, Eq.trans (World.drewN_drewN _ _ _) (congrArg (World.drewN _) (Nat.add_assoc _ _ _))⟩)) | (go_at_call 45; (with_reducible refine (spec_l01Factors.calls kj3 a0 a2 t639 _ A11.out).mono ?_); rintro e w14 ⟨v640, rfl, ho0, hb⟩; have HO641 := Aside0.mk (Kd.R_lower ho0 (below_size (qB HB.out))); replace HB := Aside0.mk (below_step (qB HB.out) hb)) | (go_at_call 45; (with_reducible refine (spec_l01Factors.calls kj3 a1 a2 t642 _ A12.out).mono ?_); rintro e w15 ⟨v643, rfl, ho0, hb⟩; have HO644 := Aside0.mk (Kd.R_lower (Kd.R_new' ho0 (Kd.R_lt (qR HO641.out))) (below_size (qB HB.out))); replace HO641 := Aside0.mk (Kd.R_elder' (qR HO641.out) (Kd.R_base ho0) hb); replace HB := Aside0.mk (below_step (qB HB.out) hb); obtain ⟨Ao16, co16, eo16⟩ := Kd.R_slice HO641.out; subst eo16; obtain ⟨Ao17, co17, eo17⟩ := Kd.R_slice HO644.out; subst eo17))
   repeat (go_quiet (first | (go_at_call 63; (with_reducible refine (spec_l01In.calls a2 0 60 true _ A9.out).mono ?_); rintro e w' ⟨rfl, ⟨nd, rfl⟩⟩; (try first | exact ⟨rfl, _, World.drewN_drewN _ _ _⟩ | exact ⟨rfl, _, Eq.trans (World.drewN_drewN _ _ _) (congrArg (World.drewN _) (Nat.add_assoc _ _ _))⟩)) | (go_at_call 45; (with_reducible refine (spec_l01Factors.calls kj3 a0 a2 t639 _ A11.out).mono ?_); rintro e w14 ⟨v640, rfl, ho0, hb⟩; have HO641 := Aside0.mk (Kd.R_lower ho0 (below_size (qB HB.out))); replace HB := Aside0.mk (below_step (qB HB.out) hb)) | (go_at_call 45; (with_reducible refine (spec_l01Factors.calls kj3 a1 a2 t642 _ A12.out).mono ?_); rintro e w15 ⟨v643, rfl, ho0, hb⟩; have HO644 := Aside0.mk (Kd.R_lower (Kd.R_new' ho0 (Kd.R_lt (qR HO641.out))) (below_size (qB HB.out))); replace HO641 := Aside0.mk (Kd.R_elder' (qR HO641.out) (Kd.R_base ho0) hb); replace HB := Aside0.mk (below_step (qB HB.out) hb); obtain ⟨Ao16, co16, eo16⟩ := Kd.R_slice HO641.out; subst eo16; obtain ⟨Ao17, co17, eo17⟩ := Kd.R_slice HO644.out; subst eo17)); try go_wp2_with (first | (go_at_call 63; (with_reducible refine (spec_l01In.calls a2 0 60 true _ A9.out).mono ?_); rintro e w' ⟨rfl, ⟨nd, rfl⟩⟩; (try first | exact ⟨rfl, _, World.drewN_drewN _ _ _⟩ | exact ⟨rfl, _, Eq.trans (World.drewN_drewN _ _ _) (congrArg (World.drewN _) (Nat.add_assoc _ _ _))⟩)) | (go_at_call 45; (with_reducible refine (spec_l01Factors.calls kj3 a0 a2 t639 _ A11.out).mono ?_); rintro e w14 ⟨v640, rfl, ho0, hb⟩; have HO641 := Aside0.mk (Kd.R_lower ho0 (below_size (qB HB.out))); replace HB := Aside0.mk (below_step (qB HB.out) hb)) | (go_at_call 45; (with_reducible refine (spec_l01Factors.calls kj3 a1 a2 t642 _ A12.out).mono ?_); rintro e w15 ⟨v643, rfl, ho0, hb⟩; have HO644 := Aside0.mk (Kd.R_lower (Kd.R_new' ho0 (Kd.R_lt (qR HO641.out))) (below_size (qB HB.out))); replace HO641 := Aside0.mk (Kd.R_elder' (qR HO641.out) (Kd.R_base ho0) hb); replace HB := Aside0.mk (below_step (qB HB.out) hb); obtain ⟨Ao16, co16, eo16⟩ := Kd.R_slice HO641.out; subst eo16; obtain ⟨Ao17, co17, eo17⟩ := Kd.R_slice HO644.out; subst eo17)))
   go_loopg [10] kj3 (fun kq v10 w' => ∃ (x10_2 : Int), v10 = .int .i64 x10_2 ∧ Aside0 (spec_HaveEqualFactors.l0 kq t639 t642 x10_2 = some (r1, r2)) ∧ Aside0 (kq ≤ kj3) ∧ Aside0 (Kd.R Kd.string 9 w' w.heap.size (fun k_ => some k_ ≠ ((.slice Ao17 t642.length co17) : Value).ownBlock) (.slice Ao16 t639.length co16) t639) ∧ Aside0 (Kd.R Kd.string 9 w' w.heap.size (fun k_ => some k_ ≠ ((.slice Ao16 t639.length co16) : Value).ownBlock) (.slice Ao17 t642.length co17) t642) ∧ Aside0 (Below w.heap.size w w'))
   case atStart => exact ⟨(0), qF, H', ⟨Nat.le_refl _⟩, ⟨by (with_reducible repeat (first | apply Kd.R_alloc | apply Kd.R_drewN | apply Kd.R_drew)); exact Kd.R_mono HO641.out (fun _ hk => hk.2)⟩, ⟨by (with_reducible repeat (first | apply Kd.R_alloc | apply Kd.R_drewN | apply Kd.R_drew)); exact Kd.R_mono HO644.out (fun _ hk => hk.2)⟩, ⟨qB HB.out⟩⟩
   case round =>
    clear H'
    obtain ⟨x10_2, rfl, HA, HK2, HO_8, HO_9, HB⟩ := hrel
    cases gk with
    | zero => exact absurd HA.out (by simp [spec_HaveEqualFactors.l0])
    | succ k2 =>
     have H := HA.out
     clear HA
     simp only [spec_HaveEqualFactors.l0] at H
     by_cases c18 : x10_2 < (t639.length : Int)
     rotate_left
     ·
      rw [if_neg c18] at H
      have c18b0 : decide (x10_2 < (t639.length : Int)) = false := decide_eq_false c18
      clear c18
      simp only [Option.some.injEq, Prod.mk.injEq] at H
      obtain ⟨rfl, rfl⟩ := H
      go_wp2
      repeat (go_quiet (fail); try go_wp2)
      go_ret2
      exact ⟨qE, qB HB.out⟩
     rw [if_pos c18] at H
     have c18b0 : decide (x10_2 < (t639.length : Int)) = true := decide_eq_true c18
     clear c18
     by_cases c19 : 0 ≤ x10_2
     rotate_left
     ·
      rw [if_neg c19] at H
      exact absurd H (by simp)
     rw [if_pos c19] at H
     have c19b0 : decide (0 ≤ x10_2) = true := decide_eq_true c19
     clear c19
     by_cases c20 : x10_2 < (t642.length : Int)
     rotate_left
     ·
      rw [if_neg c20] at H
      exact absurd H (by simp)
     rw [if_pos c20] at H
     have c20b0 : decide (x10_2 < (t642.length : Int)) = true := decide_eq_true c20
     clear c20
     by_cases c21 : (rdOf ByteArray.empty t639 x10_2).toList = (rdOf ByteArray.empty t642 x10_2).toList
     rotate_left
     ·
      rw [if_neg c21] at H
      obtain ⟨c21b0, c21b1⟩ := zF c21
      simp only [Option.some.injEq, Prod.mk.injEq] at H
      obtain ⟨rfl, rfl⟩ := H
      have p645 : 0 ≤ (x10_2 : Int) := of_decide_eq_true (by first | (with_reducible assumption) | assumption)
      have q645 : x10_2 < (t639.length : Int) := of_decide_eq_true (by first | (with_reducible assumption) | assumption)
      obtain ⟨ad645, e645, hx645_0⟩ := Kd.at_string (Kd.R_reads' HO_8.out).2.2 x10_2 p645 q645
      cases e645
      replace p645 := eq_true p645
      replace q645 := eq_true q645
      have p646 : 0 ≤ (x10_2 : Int) := of_decide_eq_true (by first | (with_reducible assumption) | assumption)
      have q646 : x10_2 < (t642.length : Int) := of_decide_eq_true (by first | (with_reducible assumption) | assumption)
      obtain ⟨ad646, e646, hx646_0⟩ := Kd.at_string (Kd.R_reads' HO_9.out).2.2 x10_2 p646 q646
      cases e646
      replace p646 := eq_true p646
      replace q646 := eq_true q646
      go_wp2
      repeat (go_quiet (fail); try go_wp2)
      go_ret2
      exact ⟨qE, qB HB.out⟩
     rw [if_pos c21] at H
     obtain ⟨c21b0, c21b1⟩ := zT c21
     clear c21
     have H' := Aside0.mk H
     clear H
     have p645 : 0 ≤ (x10_2 : Int) := of_decide_eq_true (by first | (with_reducible assumption) | assumption)
     have q645 : x10_2 < (t639.length : Int) := of_decide_eq_true (by first | (with_reducible assumption) | assumption)
     obtain ⟨ad645, e645, hx645_0⟩ := Kd.at_string (Kd.R_reads' HO_8.out).2.2 x10_2 p645 q645
     cases e645
     replace p645 := eq_true p645
     replace q645 := eq_true q645
     have p646 : 0 ≤ (x10_2 : Int) := of_decide_eq_true (by first | (with_reducible assumption) | assumption)
     have q646 : x10_2 < (t642.length : Int) := of_decide_eq_true (by first | (with_reducible assumption) | assumption)
     obtain ⟨ad646, e646, hx646_0⟩ := Kd.at_string (Kd.R_reads' HO_9.out).2.2 x10_2 p646 q646
     cases e646
     replace p646 := eq_true p646
     replace q646 := eq_true q646
     go_wp2
     repeat (go_quiet (fail); try go_wp2)
     go_roundg k2
     case measure => have := HJ3.out; have := HK2.out; omega
     case rel => exact ⟨(wrap64 (x10_2 + 1)), qF, H', ⟨by have := HJ3.out; have := HK2.out; omega⟩, ⟨qR HO_8.out⟩, ⟨qR HO_9.out⟩, ⟨qB HB.out⟩⟩
end Go.Proofs.YtgfnkdoennbipaaGreat.PF
