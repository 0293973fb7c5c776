-- an own text, written by a program of this place (wip/tools)
import Derived.Test.YtjmcffejpgblfaaPFx0
namespace Go.Proofs.Ytjmcffejpgblfaa.PF
open Go.RowKit Go.Proofs.YtjmcffejpgblfaaW.PrintWords Go.Proofs.YtjmcffejpgblfaaW.PrintLast Go.Proofs.YtjmcffejpgblfaaW.PrintMore
attribute [local go_sem] max2_int min2_int max_two min_two max_three min_three max_four min_four   -- for this text's walks alone
set_option linter.unusedVariables false
set_option linter.unusedSimpArgs false

/-! ### spec_l01Bad: function 34 -/
def spec_l01Bad.l0 : Nat → ByteArray → List Int → Int → Int → Option (ByteArray × Int × Int)
 | 0, _, _, _, _ => none
 | k + 1, x1, x1000, x1001, x1002 => if (x1.size : Int) ≤ 60 then (if x1.size + 2 ≤ 9223372036854775807 then (spec_l01Bad.l0 k (x1 ++ (⟨#[97, 98]⟩ : ByteArray)) x1000 x1001 x1002) else (none)) else (some (x1, x1001, x1002))
def spec_l01Bad.f (k : Nat) (s0_0 : List Int) (s0_1 : Int) (s0_2 : Int) (a1 : ByteArray) : Option (ByteArray × Int × Int) := (spec_l01Next.f s0_0 s0_1 s0_2 50).bind fun bt124 => (if bt124.1 = 0 then (if a1.size + 1 ≤ 9223372036854775807 then (some (a1 ++ (⟨#[102]⟩ : ByteArray), bt124.2.1, bt124.2.2)) else (none)) else (if bt124.1 = 1 then ((spec_l01Damage.f s0_0 bt124.2.1 bt124.2.2 a1).bind fun bt127 => (some (bt127.1, bt127.2.1, bt127.2.2))) else (if bt124.1 = 2 then (spec_l01Bad.l0 k a1 s0_0 bt124.2.1 bt124.2.2) else (some (a1, bt124.2.1, bt124.2.2)))))
theorem spec_l01Bad.mono_l : ∀ k, (∀ y0 y1 y2 y3, LeO (spec_l01Bad.l0 k y0 y1 y2 y3) (spec_l01Bad.l0 (k + 1) y0 y1 y2 y3))
 | 0 => fun _ _ _ _ r h => by simp [spec_l01Bad.l0] at h
 | k + 1 => by
  have ih0 := spec_l01Bad.mono_l k
  ·
   intro y0 y1 y2 y3
   unfold spec_l01Bad.l0
   with_reducible repeat' first
   | exact ih0 _ _ _ _
   | exact LeO.refl _
   | exact LeO.none _
   | refine LeO.ite ?_ ?_
   | refine LeO.bind ?_ (fun _ => ?_)
theorem spec_l01Bad.mono : ∀ a0 a1 a2 a3 k, LeO (spec_l01Bad.f k a0 a1 a2 a3) (spec_l01Bad.f (k + 1) a0 a1 a2 a3) := by
 intro a0 a1 a2 a3 k
 have ih0 := spec_l01Bad.mono_l k
 unfold spec_l01Bad.f
 with_reducible repeat' first
   | exact ih0 _ _ _ _
   | exact LeO.refl _
   | exact LeO.none _
   | refine LeO.ite ?_ ?_
   | refine LeO.bind ?_ (fun _ => ?_)
set_option maxHeartbeats 8000000 in
set_option maxRecDepth 100000 in
theorem spec_l01Bad.calls (k : Nat) (g : Nat) (s0_0 : List Int) (s0_1 : Int) (s0_2 : Int) (a1 : ByteArray) (r1 : ByteArray) (r2 : Int) (r3 : Int) (w0 w : World) (hI : IsS57 w0 w g s0_0 s0_1 s0_2) (hB : Below w0.heap.size w0 w) (h : spec_l01Bad.f k s0_0 s0_1 s0_2 a1 = some (r1, r2, r3)) :
  Calls Try.prog 34 #[.pointer (some ⟨g, 0, none⟩), .string a1] w fun e w' => e = .returned (.string r1) ∧ IsS57 w0 w' g s0_0 r2 r3 ∧ Below w0.heap.size w0 w' ∧ KeepBut w w' g none := by
 have HI0 := Aside0.mk hI
 have HK := Aside0.mk (KeepBut.refl w g none)
 have HL := Aside0.mk hB.size
 clear hI
 have HW0 := Aside0.mk hB.size
 have HB := Aside0.mk hB
 clear hB
 have H : ((spec_l01Next.f s0_0 s0_1 s0_2 50).bind fun bt124 => (if bt124.1 = 0 then (if a1.size + 1 ≤ 9223372036854775807 then (some (a1 ++ (⟨#[102]⟩ : ByteArray), bt124.2.1, bt124.2.2)) else (none)) else (if bt124.1 = 1 then ((spec_l01Damage.f s0_0 bt124.2.1 bt124.2.2 a1).bind fun bt127 => (some (bt127.1, bt127.2.1, bt127.2.2))) else (if bt124.1 = 2 then (spec_l01Bad.l0 k a1 s0_0 bt124.2.1 bt124.2.2) else (some (a1, bt124.2.1, bt124.2.2)))))) = some (r1, r2, r3) := h
 clear h
 replace H := qN H
 obtain ⟨⟨t124, t125, t126⟩, A3, H⟩ := H
 try dsimp only at H
 by_cases c4 : t124 = 0
 ·
  rw [if_pos c4] at H
  obtain ⟨c4b0, c4b1⟩ := zT c4
  clear c4
  by_cases c5 : a1.size + 1 ≤ 9223372036854775807
  rotate_left
  ·
   rw [if_neg c5] at H
   exact absurd H (by simp)
  rw [if_pos c5] at H
  have c5b0 := eq_true c5
  have c5b1 : decide (a1.size + 1 ≤ 9223372036854775807) = true := decide_eq_true c5
  try have c5b2 : (9223372036854775807 < a1.size + 1) = False := eq_false (Nat.not_lt.2 c5)
  simp only [Option.some.injEq, Prod.mk.injEq] at H
  obtain ⟨rfl, rfl, rfl⟩ := H
  go_enter Try.func34, Try.ntmps34
  go_wp2_with (first | ((with_reducible refine gate_callee (f := 36) rfl ?_); refine goesL_ (some 6) rfl rfl Try.func36 (by kernel_rfl) rfl #[.pointer (some ⟨g, 0, none⟩), .int .i64 50] rfl qV ?_; (with_reducible refine (spec_l01Next.calls g s0_0 s0_1 s0_2 50 t124 t125 t126 w0 _ ?side1 ?side2 A3.out).mono ?_); (case side1 => exact qI HI0.out); (case side2 => exact qS HB.out); rintro e w6 ⟨rfl, hi, hb, hk⟩; refine ⟨_, rfl, ?_⟩; replace HK := Aside0.mk (KeepBut.trans (qK HK.out) hk (.inl rfl)); replace HB := Aside0.mk (hb); replace HI0 := Aside0.mk (hi)))
  go_ret
  exact ⟨qE, qI HI0.out, qS HB.out, qK HK.out⟩
 rw [if_neg c4] at H
 obtain ⟨c4b0, c4b1⟩ := zF c4
 by_cases c7 : t124 = 1
 ·
  rw [if_pos c7] at H
  obtain ⟨c7b0, c7b1⟩ := zT c7
  clear c7
  replace H := qN H
  obtain ⟨⟨t127, t128, t129⟩, A8, H⟩ := H
  try dsimp only at H
  simp only [Option.some.injEq, Prod.mk.injEq] at H
  obtain ⟨rfl, rfl, rfl⟩ := H
  go_enter Try.func34, Try.ntmps34
  go_wp2_with (first | ((with_reducible refine gate_callee (f := 36) rfl ?_); refine goesL_ (some 6) rfl rfl Try.func36 (by kernel_rfl) rfl #[.pointer (some ⟨g, 0, none⟩), .int .i64 50] rfl qV ?_; (with_reducible refine (spec_l01Next.calls g s0_0 s0_1 s0_2 50 t124 t125 t126 w0 _ ?side1 ?side2 A3.out).mono ?_); (case side1 => exact qI HI0.out); (case side2 => exact qS HB.out); rintro e w9 ⟨rfl, hi, hb, hk⟩; refine ⟨_, rfl, ?_⟩; replace HK := Aside0.mk (KeepBut.trans (qK HK.out) hk (.inl rfl)); replace HB := Aside0.mk (hb); replace HI0 := Aside0.mk (hi)) | ((with_reducible refine gate_callee (f := 52) rfl ?_); refine goesL_ (some 15) rfl rfl Try.func52 (by kernel_rfl) rfl #[.pointer (some ⟨g, 0, none⟩), .string a1] rfl qV ?_; (with_reducible refine (spec_l01Damage.calls g s0_0 t125 t126 a1 t127 t128 t129 w0 _ ?side1 ?side2 A8.out).mono ?_); (case side1 => exact qI HI0.out); (case side2 => exact qS HB.out); rintro e w10 ⟨rfl, hi, hb, hk⟩; refine ⟨_, rfl, ?_⟩; replace HK := Aside0.mk (KeepBut.trans (qK HK.out) hk (.inl rfl)); replace HB := Aside0.mk (hb); replace HI0 := Aside0.mk (hi)))
  go_ret
  exact ⟨qE, qI HI0.out, qS HB.out, qK HK.out⟩
 rw [if_neg c7] at H
 obtain ⟨c7b0, c7b1⟩ := zF c7
 by_cases c11 : t124 = 2
 rotate_left
 ·
  rw [if_neg c11] at H
  obtain ⟨c11b0, c11b1⟩ := zF c11
  simp only [Option.some.injEq, Prod.mk.injEq] at H
  obtain ⟨rfl, rfl, rfl⟩ := H
  go_enter Try.func34, Try.ntmps34
  go_wp2_with (first | ((with_reducible refine gate_callee (f := 36) rfl ?_); refine goesL_ (some 6) rfl rfl Try.func36 (by kernel_rfl) rfl #[.pointer (some ⟨g, 0, none⟩), .int .i64 50] rfl qV ?_; (with_reducible refine (spec_l01Next.calls g s0_0 s0_1 s0_2 50 t124 t125 t126 w0 _ ?side1 ?side2 A3.out).mono ?_); (case side1 => exact qI HI0.out); (case side2 => exact qS HB.out); rintro e w15 ⟨rfl, hi, hb, hk⟩; refine ⟨_, rfl, ?_⟩; replace HK := Aside0.mk (KeepBut.trans (qK HK.out) hk (.inl rfl)); replace HB := Aside0.mk (hb); replace HI0 := Aside0.mk (hi)))
  go_ret
  exact ⟨qE, qI HI0.out, qS HB.out, qK HK.out⟩

 rw [if_pos c11] at H
 obtain ⟨c11b0, c11b1⟩ := zT c11
 clear c11
 have H' := Aside0.mk H
 clear H
 go_enter Try.func34, Try.ntmps34
 go_wp2_with (first | ((with_reducible refine gate_callee (f := 36) rfl ?_); refine goesL_ (some 6) rfl rfl Try.func36 (by kernel_rfl) rfl #[.pointer (some ⟨g, 0, none⟩), .int .i64 50] rfl qV ?_; (with_reducible refine (spec_l01Next.calls g s0_0 s0_1 s0_2 50 t124 t125 t126 w0 _ ?side1 ?side2 A3.out).mono ?_); (case side1 => exact qI HI0.out); (case side2 => exact qS HB.out); rintro e w12 ⟨rfl, hi, hb, hk⟩; refine ⟨_, rfl, ?_⟩; replace HK := Aside0.mk (KeepBut.trans (qK HK.out) hk (.inl rfl)); replace HB := Aside0.mk (hb); replace HI0 := Aside0.mk (hi)))
 go_loopg [1] k (fun kq v1 w' => ∃ (x1_1 : ByteArray), v1 = .string x1_1 ∧ Aside0 (spec_l01Bad.l0 kq x1_1 s0_0 t125 t126 = some (r1, r2, r3)) ∧ Aside0 (kq ≤ k) ∧ Aside0 (IsS57 w0 w' g s0_0 t125 t126) ∧ Aside0 (KeepBut w w' g none) ∧ Aside0 (Below w0.heap.size w0 w'))
 case atStart => exact ⟨(a1), qF, H', ⟨Nat.le_refl _⟩, ⟨qI HI0.out⟩, ⟨qK HK.out⟩, ⟨qS HB.out⟩⟩
 case round =>
  clear H'
  obtain ⟨x1_1, rfl, HA, HK1, HI0, HK, HB⟩ := hrel
  cases gk with
  | zero => exact absurd HA.out (by simp [spec_l01Bad.l0])
  | succ k1 =>
   have H := HA.out
   clear HA
   simp only [spec_l01Bad.l0] at H
   by_cases c13 : (x1_1.size : Int) ≤ 60
   rotate_left
   ·
    rw [if_neg c13] at H
    have c13b0 : decide ((x1_1.size : Int) ≤ 60) = false := decide_eq_false c13
    have c13b1 : decide (x1_1.size ≤ 60) = false := decide_eq_false (by omega)
    clear c13
    simp only [Option.some.injEq, Prod.mk.injEq] at H
    obtain ⟨rfl, rfl, rfl⟩ := H
    go_wp2
    go_ret
    exact ⟨qE, qI HI0.out, qS HB.out, qK HK.out⟩
   rw [if_pos c13] at H
   have c13b0 : decide ((x1_1.size : Int) ≤ 60) = true := decide_eq_true c13
   have c13b1 : decide (x1_1.size ≤ 60) = true := decide_eq_true (by omega)
   clear c13
   by_cases c14 : x1_1.size + 2 ≤ 9223372036854775807
   rotate_left
   ·
    rw [if_neg c14] at H
    exact absurd H (by simp)
   rw [if_pos c14] at H
   have c14b0 := eq_true c14
   have c14b1 : decide (x1_1.size + 2 ≤ 9223372036854775807) = true := decide_eq_true c14
   try have c14b2 : (9223372036854775807 < x1_1.size + 2) = False := eq_false (Nat.not_lt.2 c14)
   have H' := Aside0.mk H
   clear H
   go_wp2
   go_roundg k1
   case measure => have := HK1.out; omega
   case rel => exact ⟨(x1_1 ++ (⟨#[97, 98]⟩ : ByteArray)), qF, H', ⟨by have := HK1.out; omega⟩, ⟨qI HI0.out⟩, ⟨qK HK.out⟩, ⟨qS HB.out⟩⟩
end Go.Proofs.Ytjmcffejpgblfaa.PF

namespace Go.Proofs.Ytjmcffejpgblfaa.PF
open Go.RowKit Go.Proofs.YtjmcffejpgblfaaW.PrintWords Go.Proofs.YtjmcffejpgblfaaW.PrintLast Go.Proofs.YtjmcffejpgblfaaW.PrintMore
attribute [local go_sem] max2_int min2_int max_two min_two max_three min_three max_four min_four   -- for this text's walks alone
set_option linter.unusedVariables false
set_option linter.unusedSimpArgs false

/-! ### spec_l01Letter: function 53 -/
def spec_l01Letter.f (a0 : Int) : Option (ByteArray) := some (strOfNums (([(wrap64 (97 + a0)) % 256] : List Int)))
set_option maxHeartbeats 8000000 in
set_option maxRecDepth 100000 in
theorem spec_l01Letter.calls (a0 : Int) (r : ByteArray) (w : World) (h : spec_l01Letter.f a0 = some r) :
  Calls Try.prog 53 #[.int .i64 a0] w fun e w' => e = .returned (.string r) ∧ Below w.heap.size w w' := by
 have HB := Aside0.mk (Below.refl w.heap.size w)
 have H : (some (strOfNums (([(wrap64 (97 + a0)) % 256] : List Int)))) = some r := h
 clear h
 obtain ⟨y130, hy130⟩ : ∃ y_ : List Int, y_ = (([(wrap64 (97 + a0)) % 256] : List Int)) := ⟨_, rfl⟩
 replace H : (some (strOfNums y130)) = some r := by first | (rw [hy130]; with_reducible exact H) | (have H2_ := (Option.bind_some _ _).symm.trans H; rw [hy130]; with_reducible exact H2_) | (have H2_ := (Option.bind_some _ _).symm.trans H; with_reducible exact H2_) | with_reducible exact H | (rw [hy130]; exact H) | exact H
 have Ny130 := Aside0.mk hy130
 clear hy130
 obtain rfl := Option.some.inj H
 go_enter Try.func53, Try.ntmps53
 go_wp2_with (first | ((with_reducible refine gate_dst (N := 6) rfl ?_); refine Kd.R_lit (Kd.int .u8) _ 5 ?hg (N := 6) ?hd (xs := ([(wrap64 (97 + a0)) % 256] : List Int)) (inner := [.int .u8 ((wrap64 (97 + a0)) % 256)]) (ok := fun _ => True) (okp := fun _ => True) ?hr ?hp (fun _ hk => hk) trivial (Below.refl _ _) (Nat.le_refl _) (by simp) ?_; (case hd => rfl); (case hg => rfl); (case hr => first | (go_simp; done) | (go_simp; rfl)); (case hp => exact (Reps.one (show Kd.M (Kd.int .u8) _ _ _ ((wrap64 (97 + a0)) % 256) [.int .u8 ((wrap64 (97 + a0)) % 256)] from rfl) (Reps.none _ _))); intro v131 w2 ho3 hb hg_ hnew_; clear hg_ hnew_; (first | rw [← Ny130.out] at ho3 | (simp only [Int.reduceToNat] at ho3; rw [← Ny130.out] at ho3)); have HO132 := Aside0.mk (Kd.R_lower ho3 (below_size (qB HB.out))); replace HB := Aside0.mk (below_step (qB HB.out) hb); clear hb ho3; have hcv4 := own_string (P := Try.prog) Try.underlying22 Try.underlying5 Try.underlying9 (Kd.own_of_R HO132.out)))
 go_ret
 exact ⟨qE, qB HB.out⟩

end Go.Proofs.Ytjmcffejpgblfaa.PF

namespace Go.Proofs.Ytjmcffejpgblfaa.PF
open Go.RowKit Go.Proofs.YtjmcffejpgblfaaW.PrintWords Go.Proofs.YtjmcffejpgblfaaW.PrintLast Go.Proofs.YtjmcffejpgblfaaW.PrintMore
attribute [local go_sem] max2_int min2_int max_two min_two max_three min_three max_four min_four   -- for this text's walks alone
set_option linter.unusedVariables false
set_option linter.unusedSimpArgs false

/-! ### spec_l01DrawOf: function 35 -/
def spec_l01DrawOf.l0 : Nat → Int → Int → ByteArray → Int → List Int → Int → Int → Option (ByteArray × Int × Int)
 | 0, _, _, _, _, _, _, _ => none
 | k + 1, x1, x2, x7, x8, x1000, x1001, x1002 => if x8 < x1 then ((spec_l01Next.f x1000 x1001 x1002 x2).bind fun bt133 => ((spec_l01Letter.f bt133.1).bind fun t136 => (if x7.size + t136.size ≤ 9223372036854775807 then (spec_l01DrawOf.l0 k x1 x2 (x7 ++ t136) (wrap64 (x8 + 1)) x1000 bt133.2.1 bt133.2.2) else (none)))) else (some (x7, x1001, x1002))
def spec_l01DrawOf.f (k : Nat) (s0_0 : List Int) (s0_1 : Int) (s0_2 : Int) (a1 : Int) (a2 : Int) : Option (ByteArray × Int × Int) := spec_l01DrawOf.l0 k a1 a2 (⟨#[]⟩ : ByteArray) 0 s0_0 s0_1 s0_2
theorem spec_l01DrawOf.mono_l : ∀ k, (∀ y0 y1 y2 y3 y4 y5 y6, LeO (spec_l01DrawOf.l0 k y0 y1 y2 y3 y4 y5 y6) (spec_l01DrawOf.l0 (k + 1) y0 y1 y2 y3 y4 y5 y6))
 | 0 => fun _ _ _ _ _ _ _ r h => by simp [spec_l01DrawOf.l0] at h
 | k + 1 => by
  have ih0 := spec_l01DrawOf.mono_l k
  ·
   intro y0 y1 y2 y3 y4 y5 y6
   unfold spec_l01DrawOf.l0
   with_reducible repeat' first
   | exact ih0 _ _ _ _ _ _ _
   | exact LeO.refl _
   | exact LeO.none _
   | refine LeO.ite ?_ ?_
   | refine LeO.bind ?_ (fun _ => ?_)
theorem spec_l01DrawOf.mono : ∀ a0 a1 a2 a3 a4 k, LeO (spec_l01DrawOf.f k a0 a1 a2 a3 a4) (spec_l01DrawOf.f (k + 1) a0 a1 a2 a3 a4) := by
 intro a0 a1 a2 a3 a4 k
 have ih0 := spec_l01DrawOf.mono_l k
 unfold spec_l01DrawOf.f
 with_reducible repeat' first
   | exact ih0 _ _ _ _ _ _ _
   | exact LeO.refl _
   | exact LeO.none _
   | refine LeO.ite ?_ ?_
   | refine LeO.bind ?_ (fun _ => ?_)
set_option maxHeartbeats 8000000 in
set_option maxRecDepth 100000 in
theorem spec_l01DrawOf.calls (k : Nat) (g : Nat) (s0_0 : List Int) (s0_1 : Int) (s0_2 : Int) (a1 : Int) (a2 : Int) (r1 : ByteArray) (r2 : Int) (r3 : Int) (w0 w : World) (hI : IsS57 w0 w g s0_0 s0_1 s0_2) (hB : Below w0.heap.size w0 w) (h : spec_l01DrawOf.f k s0_0 s0_1 s0_2 a1 a2 = some (r1, r2, r3)) :
  Calls Try.prog 35 #[.pointer (some ⟨g, 0, none⟩), .int .i64 a1, .int .i64 a2] w fun e w' => e = .returned (.string r1) ∧ IsS57 w0 w' g s0_0 r2 r3 ∧ Below w0.heap.size w0 w' ∧ KeepBut w w' g none := by
 have HI0 := Aside0.mk hI
 have HK := Aside0.mk (KeepBut.refl w g none)
 have HL := Aside0.mk hB.size
 clear hI
 have HW0 := Aside0.mk hB.size
 have HB := Aside0.mk hB
 clear hB
 have H : (spec_l01DrawOf.l0 k a1 a2 (⟨#[]⟩ : ByteArray) 0 s0_0 s0_1 s0_2) = some (r1, r2, r3) := h
 clear h
 have H' := Aside0.mk H
 clear H
 go_enter Try.func35, Try.ntmps35
 go_wp2
 go_loopg [7, 8] k (fun kq v7 v8 w' => ∃ (x7_1 : ByteArray) (x8_1 : Int) (x1001_1 : Int) (x1002_1 : Int), v7 = .string x7_1 ∧ v8 = .int .i64 x8_1 ∧ Aside0 (spec_l01DrawOf.l0 kq a1 a2 x7_1 x8_1 s0_0 x1001_1 x1002_1 = some (r1, r2, r3)) ∧ Aside0 (kq ≤ k) ∧ Aside0 (IsS57 w0 w' g s0_0 x1001_1 x1002_1) ∧ Aside0 (KeepBut w w' g none) ∧ Aside0 (Below w0.heap.size w0 w'))
 case atStart => exact ⟨((⟨#[]⟩ : ByteArray)), (0), (s0_1), (s0_2), qF, qF, H', ⟨Nat.le_refl _⟩, ⟨qI HI0.out⟩, ⟨qK HK.out⟩, ⟨qS HB.out⟩⟩
 case round =>
  clear H'
  obtain ⟨x7_1, x8_1, x1001_1, x1002_1, rfl, rfl, HA, HK1, HI0, HK, HB⟩ := hrel
  cases gk with
  | zero => exact absurd HA.out (by simp [spec_l01DrawOf.l0])
  | succ k1 =>
   have H := HA.out
   clear HA
   simp only [spec_l01DrawOf.l0] at H
   by_cases c4 : x8_1 < a1
   rotate_left
   ·
    rw [if_neg c4] at H
    have c4b0 : decide (x8_1 < a1) = false := decide_eq_false c4
    clear c4
    simp only [Option.some.injEq, Prod.mk.injEq] at H
    obtain ⟨rfl, rfl, rfl⟩ := H
    go_wp2
    go_ret
    exact ⟨qE, qI HI0.out, qS HB.out, qK HK.out⟩

   rw [if_pos c4] at H
   have c4b0 : decide (x8_1 < a1) = true := decide_eq_true c4
   clear c4
   replace H := qN H
   obtain ⟨⟨t133, t134, t135⟩, A5, H⟩ := H
   try dsimp only at H
   replace H := qN H
   obtain ⟨t136, A6, H⟩ := H
   try dsimp only at H
   by_cases c7 : x7_1.size + t136.size ≤ 9223372036854775807
   rotate_left
   ·
    rw [if_neg c7] at H
    exact absurd H (by simp)
   rw [if_pos c7] at H
   have c7b0 := eq_true c7
   have c7b1 : decide (x7_1.size + t136.size ≤ 9223372036854775807) = true := decide_eq_true c7
   try have c7b2 : (9223372036854775807 < x7_1.size + t136.size) = False := eq_false (Nat.not_lt.2 c7)
   have H' := Aside0.mk H
   clear H
   go_wp2_with (first | ((with_reducible refine gate_callee (f := 36) rfl ?_); refine goesL_ (some 17) rfl rfl Try.func36 (by kernel_rfl) rfl #[.pointer (some ⟨g, 0, none⟩), .int .i64 a2] rfl qV ?_; (with_reducible refine (spec_l01Next.calls g s0_0 x1001_1 x1002_1 a2 t133 t134 t135 w0 _ ?side1 ?side2 A5.out).mono ?_); (case side1 => exact qI HI0.out); (case side2 => exact qS HB.out); rintro e w8 ⟨rfl, hi, hb, hk⟩; refine ⟨_, rfl, ?_⟩; replace HK := Aside0.mk (KeepBut.trans (qK HK.out) hk (.inl rfl)); replace HB := Aside0.mk (hb); replace HI0 := Aside0.mk (hi)) | ((with_reducible refine gate_callee (f := 53) rfl ?_); refine goesL_ (some 18) rfl rfl Try.func53 (by kernel_rfl) rfl #[.int .i64 t133] rfl qV ?_; (with_reducible refine (spec_l01Letter.calls t133 t136 _ A6.out).mono ?_); rintro e w9 ⟨rfl, hb⟩; refine ⟨_, rfl, ?_⟩; replace HI0 := Aside0.mk (IsS57.below (qI HI0.out) hb); replace HK := Aside0.mk (KeepBut.trans (qK HK.out) (KeepBut.of_below hb g none) (.inl rfl)); replace HB := Aside0.mk (below_step (qS HB.out) hb)))
   go_roundg k1
   case measure => have := HK1.out; omega
   case rel => exact ⟨(x7_1 ++ t136), (wrap64 (x8_1 + 1)), (t134), (t135), qF, qF, H', ⟨by have := HK1.out; omega⟩, ⟨qI HI0.out⟩, ⟨qK HK.out⟩, ⟨qS HB.out⟩⟩
end Go.Proofs.Ytjmcffejpgblfaa.PF

namespace Go.Proofs.Ytjmcffejpgblfaa.PF
open Go.RowKit Go.Proofs.YtjmcffejpgblfaaW.PrintWords Go.Proofs.YtjmcffejpgblfaaW.PrintLast Go.Proofs.YtjmcffejpgblfaaW.PrintMore
attribute [local go_sem] max2_int min2_int max_two min_two max_three min_three max_four min_four   -- for this text's walks alone
set_option linter.unusedVariables false
set_option linter.unusedSimpArgs false

/-! ### spec_l01Pick: function 37 -/
def spec_l01Pick.f (s0_0 : List Int) (s0_1 : Int) (s0_2 : Int) (l1 : List Int) : Option (Int × Int × Int) := (spec_l01Next.f s0_0 s0_1 s0_2 (l1.length : Int)).bind fun bt137 => (if 0 ≤ bt137.1 then (if bt137.1 < (l1.length : Int) then (some (rd l1 bt137.1, bt137.2.1, bt137.2.2)) else (none)) else (none))
set_option maxHeartbeats 8000000 in
set_option maxRecDepth 100000 in
theorem spec_l01Pick.calls (g : Nat) (s0_0 : List Int) (s0_1 : Int) (s0_2 : Int) (A1 : Option Addr) (c1 : Nat) (l1 : List Int) (r1 : Int) (r2 : Int) (r3 : Int) (w0 w : World) (hI : IsS57 w0 w g s0_0 s0_1 s0_2) (hB : Below w0.heap.size w0 w) (hr1 : Kd.C (Kd.int .i64) w A1 l1.length l1) (hc1 : l1.length ≤ c1) (hf1 : ∀ ad, A1 = some ad → 0 < l1.length → ad.block ≠ g) (h : spec_l01Pick.f s0_0 s0_1 s0_2 l1 = some (r1, r2, r3)) :
  Calls Try.prog 37 #[.pointer (some ⟨g, 0, none⟩), .slice A1 l1.length c1] w fun e w' => e = .returned (.int .i64 r1) ∧ IsS57 w0 w' g s0_0 r2 r3 ∧ Below w0.heap.size w0 w' ∧ KeepBut w w' g none := by
 have HR1 := Aside0.mk hr1
 have HC1 := Aside0.mk hc1
 clear hr1 hc1
 have HI0 := Aside0.mk hI
 have HK := Aside0.mk (KeepBut.refl w g none)
 have HL := Aside0.mk hB.size
 clear hI
 have HW0 := Aside0.mk hB.size
 have HB := Aside0.mk hB
 clear hB
 have H : ((spec_l01Next.f s0_0 s0_1 s0_2 (l1.length : Int)).bind fun bt137 => (if 0 ≤ bt137.1 then (if bt137.1 < (l1.length : Int) then (some (rd l1 bt137.1, bt137.2.1, bt137.2.2)) else (none)) else (none))) = some (r1, r2, r3) := h
 clear h
 replace H := qN H
 obtain ⟨⟨t137, t138, t139⟩, A3, H⟩ := H
 try dsimp only at H
 by_cases c4 : 0 ≤ t137
 rotate_left
 ·
  rw [if_neg c4] at H
  exact absurd H (by simp)

 rw [if_pos c4] at H
 have c4b0 : decide (0 ≤ t137) = true := decide_eq_true c4
 clear c4
 by_cases c5 : t137 < (l1.length : Int)
 rotate_left
 ·
  rw [if_neg c5] at H
  exact absurd H (by simp)
 rw [if_pos c5] at H
 have c5b0 : decide (t137 < (l1.length : Int)) = true := decide_eq_true c5
 clear c5
 simp only [Option.some.injEq, Prod.mk.injEq] at H
 obtain ⟨rfl, rfl, rfl⟩ := H
 go_enter Try.func37, Try.ntmps37
 go_wp2_with (first | ((with_reducible refine gate_callee (f := 36) rfl ?_); refine goesL_ (some 9) rfl rfl Try.func36 (by kernel_rfl) rfl #[.pointer (some ⟨g, 0, none⟩), .int .i64 (l1.length : Int)] rfl qV ?_; (with_reducible refine (spec_l01Next.calls g s0_0 s0_1 s0_2 (l1.length : Int) t137 t138 t139 w0 _ ?side1 ?side2 A3.out).mono ?_); (case side1 => exact qI HI0.out); (case side2 => exact qS HB.out); rintro e w6 ⟨rfl, hi, hb, hk⟩; refine ⟨_, rfl, ?_⟩; replace HK := Aside0.mk (KeepBut.trans (qK HK.out) hk (.inl rfl)); replace HB := Aside0.mk (hb); replace HI0 := Aside0.mk (hi); have p140 : 0 ≤ (t137 : Int) := of_decide_eq_true (by first | (with_reducible assumption) | assumption); have q140 : t137 < (l1.length : Int) := of_decide_eq_true (by first | (with_reducible assumption) | assumption); obtain ⟨ad140, e140, hx140_0⟩ := Kd.at_int HR1.out t137 p140 q140; cases e140; replace hx140_0 := keep_cell HK.out hx140_0 (by first | (rw [add_block]; exact hf1 _ rfl (by omega)) | exact hf1 _ rfl (by omega) | exact hf1 ad140 rfl (by omega)); replace p140 := eq_true p140; replace q140 := eq_true q140))
 go_ret
 exact ⟨qE, qI HI0.out, qS HB.out, qK HK.out⟩
end Go.Proofs.Ytjmcffejpgblfaa.PF

namespace Go.Proofs.Ytjmcffejpgblfaa.PF
open Go.RowKit Go.Proofs.YtjmcffejpgblfaaW.PrintWords Go.Proofs.YtjmcffejpgblfaaW.PrintLast Go.Proofs.YtjmcffejpgblfaaW.PrintMore
attribute [local go_sem] max2_int min2_int max_two min_two max_three min_three max_four min_four   -- for this text's walks alone
set_option linter.unusedVariables false
set_option linter.unusedSimpArgs false

/-! ### spec_l01Names: function 69 -/
def spec_l01Names.f  : Option (List ByteArray) := some (([(⟨#[102, 105, 98, 111, 110, 97, 99, 99, 105]⟩ : ByteArray), (⟨#[116, 104, 117, 101]⟩ : ByteArray), (⟨#[100, 111, 117, 98, 108, 105, 110, 103]⟩ : ByteArray), (⟨#[116, 114, 105, 112, 108, 101]⟩ : ByteArray)] : List ByteArray))
set_option maxHeartbeats 8000000 in
set_option maxRecDepth 100000 in
theorem spec_l01Names.calls  (r : List ByteArray) (w : World) (h : spec_l01Names.f  = some r) :
  Calls Try.prog 69 #[] w fun e w' => ∃ v0_ : Value, e = .returned (v0_) ∧ Kd.R Kd.string 9 w' w.heap.size (fun _ => True) v0_ r ∧ Below w.heap.size w w' := by
 have HB := Aside0.mk (Below.refl w.heap.size w)
 have H : (some (([(⟨#[102, 105, 98, 111, 110, 97, 99, 99, 105]⟩ : ByteArray), (⟨#[116, 104, 117, 101]⟩ : ByteArray), (⟨#[100, 111, 117, 98, 108, 105, 110, 103]⟩ : ByteArray), (⟨#[116, 114, 105, 112, 108, 101]⟩ : ByteArray)] : List ByteArray))) = some r := h
 clear h
 obtain ⟨y141, hy141⟩ : ∃ y_ : List ByteArray, y_ = (([(⟨#[102, 105, 98, 111, 110, 97, 99, 99, 105]⟩ : ByteArray), (⟨#[116, 104, 117, 101]⟩ : ByteArray), (⟨#[100, 111, 117, 98, 108, 105, 110, 103]⟩ : ByteArray), (⟨#[116, 114, 105, 112, 108, 101]⟩ : ByteArray)] : List ByteArray)) := ⟨_, rfl⟩
 replace H : (some y141) = some r := by first | (rw [hy141]; with_reducible exact H) | (have H2_ := (Option.bind_some _ _).symm.trans H; rw [hy141]; with_reducible exact H2_) | (have H2_ := (Option.bind_some _ _).symm.trans H; with_reducible exact H2_) | with_reducible exact H | (rw [hy141]; exact H) | exact H
 have Ny141 := Aside0.mk hy141
 clear hy141
 obtain rfl := Option.some.inj H
 go_enter Try.func69, Try.ntmps69
 go_wp2_with (first | ((with_reducible refine gate_dst (N := 1) rfl ?_); refine Kd.R_lit Kd.string _ 9 ?hg (N := 1) ?hd (xs := ([(⟨#[102, 105, 98, 111, 110, 97, 99, 99, 105]⟩ : ByteArray), (⟨#[116, 104, 117, 101]⟩ : ByteArray), (⟨#[100, 111, 117, 98, 108, 105, 110, 103]⟩ : ByteArray), (⟨#[116, 114, 105, 112, 108, 101]⟩ : ByteArray)] : List ByteArray)) (inner := [.string (⟨#[102, 105, 98, 111, 110, 97, 99, 99, 105]⟩ : ByteArray), .string (⟨#[116, 104, 117, 101]⟩ : ByteArray), .string (⟨#[100, 111, 117, 98, 108, 105, 110, 103]⟩ : ByteArray), .string (⟨#[116, 114, 105, 112, 108, 101]⟩ : ByteArray)]) (ok := fun _ => True) (okp := fun _ => True) ?hr ?hp (fun _ hk => hk) trivial (Below.refl _ _) (Nat.le_refl _) (by simp) ?_; (case hd => rfl); (case hg => rfl); (case hr => first | (go_simp; done) | (go_simp; rfl)); (case hp => exact (Reps.one (show Kd.M Kd.string _ _ _ (⟨#[102, 105, 98, 111, 110, 97, 99, 99, 105]⟩ : ByteArray) [.string (⟨#[102, 105, 98, 111, 110, 97, 99, 99, 105]⟩ : ByteArray)] from rfl) (Reps.one (show Kd.M Kd.string _ _ _ (⟨#[116, 104, 117, 101]⟩ : ByteArray) [.string (⟨#[116, 104, 117, 101]⟩ : ByteArray)] from rfl) (Reps.one (show Kd.M Kd.string _ _ _ (⟨#[100, 111, 117, 98, 108, 105, 110, 103]⟩ : ByteArray) [.string (⟨#[100, 111, 117, 98, 108, 105, 110, 103]⟩ : ByteArray)] from rfl) (Reps.one (show Kd.M Kd.string _ _ _ (⟨#[116, 114, 105, 112, 108, 101]⟩ : ByteArray) [.string (⟨#[116, 114, 105, 112, 108, 101]⟩ : ByteArray)] from rfl) (Reps.none _ _)))))); intro v142 w1 ho2 hb hg_ hnew_; clear hg_ hnew_; (first | rw [← Ny141.out] at ho2 | (simp only [Int.reduceToNat] at ho2; rw [← Ny141.out] at ho2)); have HO143 := Aside0.mk (Kd.R_lower ho2 (below_size (qB HB.out))); replace HB := Aside0.mk (below_step (qB HB.out) hb); clear hb ho2))
 go_ret
 exact ⟨_, qE, qR HO143.out, qB HB.out⟩

end Go.Proofs.Ytjmcffejpgblfaa.PF

namespace Go.Proofs.Ytjmcffejpgblfaa.PF
open Go.RowKit Go.Proofs.YtjmcffejpgblfaaW.PrintWords Go.Proofs.YtjmcffejpgblfaaW.PrintLast Go.Proofs.YtjmcffejpgblfaaW.PrintMore
attribute [local go_sem] max2_int min2_int max_two min_two max_three min_three max_four min_four   -- for this text's walks alone
set_option linter.unusedVariables false
set_option linter.unusedSimpArgs false

/-! ### spec_l01At: function 77 -/
def spec_l01At.f (a0 : ByteArray) (a1 : Int) : Option (Int) := if 0 ≤ a1 then (if a1 < (a0.size : Int) then (some (wrap64 ((wrap64 (bt a0 a1)) - 97))) else (none)) else (none)
set_option maxHeartbeats 8000000 in
set_option maxRecDepth 100000 in
theorem spec_l01At.calls (a0 : ByteArray) (a1 : Int) (r : Int) (w : World) (h : spec_l01At.f a0 a1 = some r) :
  Calls Try.prog 77 #[.string a0, .int .i64 a1] w fun e w' => e = .returned (.int .i64 r) ∧ Drawn0 w w' := by
 have H : (if 0 ≤ a1 then (if a1 < (a0.size : Int) then (some (wrap64 ((wrap64 (bt a0 a1)) - 97))) else (none)) else (none)) = some r := h
 clear h
 by_cases c3 : 0 ≤ a1
 rotate_left
 ·
  rw [if_neg c3] at H
  exact absurd H (by simp)

 rw [if_pos c3] at H
 have c3b0 : decide (0 ≤ a1) = true := decide_eq_true c3
 clear c3
 by_cases c4 : a1 < (a0.size : Int)
 rotate_left
 ·
  rw [if_neg c4] at H
  exact absurd H (by simp)
 rw [if_pos c4] at H
 have c4b0 : decide (a1 < (a0.size : Int)) = true := decide_eq_true c4
 clear c4
 obtain rfl := Option.some.inj H
 have p5 : 0 ≤ (a1 : Int) := of_decide_eq_true (by first | (with_reducible assumption) | assumption)
 have q5 : a1 < (a0.size : Int) := of_decide_eq_true (by first | (with_reducible assumption) | assumption)
 have hx5 := bt_at a0 a1
 replace p5 := eq_true p5
 replace q5 := eq_true q5
 go_enter Try.func77, Try.ntmps77
 go_wp2
 go_ret
 exact ⟨by first | rfl | (simp; done) | (simp [*]; done) | (simp; rw [Bool.eq_iff_iff]; simp; done), by repeat (first | exact Drawn0.refl _ | apply Drawn0.step)⟩
end Go.Proofs.Ytjmcffejpgblfaa.PF

namespace Go.Proofs.Ytjmcffejpgblfaa.PF
open Go.RowKit Go.Proofs.YtjmcffejpgblfaaW.PrintWords Go.Proofs.YtjmcffejpgblfaaW.PrintLast Go.Proofs.YtjmcffejpgblfaaW.PrintMore
attribute [local go_sem] max2_int min2_int max_two min_two max_three min_three max_four min_four   -- for this text's walks alone
set_option linter.unusedVariables false
set_option linter.unusedSimpArgs false

/-! ### spec_l01Named: function 70 -/
mutual
def spec_l01Named.j0 : Nat → Int → List ByteArray → Option (ByteArray × Bool)
 | 0, _, _ => none
 | k + 1, x1, x6 => spec_l01Named.l0 k x1 x6 (⟨#[97]⟩ : ByteArray)
def spec_l01Named.l0 : Nat → Int → List ByteArray → ByteArray → Option (ByteArray × Bool)
 | 0, _, _, _ => none
 | k + 1, x1, x6, x7 => if (x7.size : Int) < x1 then (spec_l01Named.l1 k x1 x6 x7 (⟨#[]⟩ : ByteArray) 0) else (if 0 ≤ x1 then (if x1 ≤ (x7.size : Int) then (some (x7.extract 0 (x1 : Int).toNat, true)) else (none)) else (none))
def spec_l01Named.l1 : Nat → Int → List ByteArray → ByteArray → ByteArray → Int → Option (ByteArray × Bool)
 | 0, _, _, _, _, _ => none
 | k + 1, x1, x6, x7, x8, x9 => if x9 < (x7.size : Int) then ((spec_l01At.f x7 x9).bind fun t159 => (if 0 ≤ t159 then (if t159 < (x6.length : Int) then (if x8.size + (rdOf ByteArray.empty x6 t159).size ≤ 9223372036854775807 then (spec_l01Named.l1 k x1 x6 x7 (x8 ++ (rdOf ByteArray.empty x6 t159)) (wrap64 (x9 + 1))) else (none)) else (none)) else (none))) else (spec_l01Named.l0 k x1 x6 x8)
end
def spec_l01Named.f (k : Nat) (a0 : ByteArray) (a1 : Int) : Option (ByteArray × Bool) := if a0.toList = ([102, 105, 98, 111, 110, 97, 99, 99, 105] : List UInt8) then (spec_l01Named.j0 k a1 (([(⟨#[97, 98]⟩ : ByteArray), (⟨#[97]⟩ : ByteArray)] : List ByteArray))) else (if a0.toList = ([116, 104, 117, 101] : List UInt8) then (spec_l01Named.j0 k a1 (([(⟨#[97, 98]⟩ : ByteArray), (⟨#[98, 97]⟩ : ByteArray)] : List ByteArray))) else (if a0.toList = ([100, 111, 117, 98, 108, 105, 110, 103] : List UInt8) then (spec_l01Named.j0 k a1 (([(⟨#[97, 98]⟩ : ByteArray), (⟨#[97, 97]⟩ : ByteArray)] : List ByteArray))) else (if a0.toList = ([116, 114, 105, 112, 108, 101] : List UInt8) then (spec_l01Named.j0 k a1 (([(⟨#[97, 98, 99]⟩ : ByteArray), (⟨#[97, 99]⟩ : ByteArray), (⟨#[98]⟩ : ByteArray)] : List ByteArray))) else (some ((⟨#[]⟩ : ByteArray), false)))))
theorem spec_l01Named.mono_l : ∀ k, (∀ y0 y1, LeO (spec_l01Named.j0 k y0 y1) (spec_l01Named.j0 (k + 1) y0 y1)) ∧ (∀ y0 y1 y2, LeO (spec_l01Named.l0 k y0 y1 y2) (spec_l01Named.l0 (k + 1) y0 y1 y2)) ∧ (∀ y0 y1 y2 y3 y4, LeO (spec_l01Named.l1 k y0 y1 y2 y3 y4) (spec_l01Named.l1 (k + 1) y0 y1 y2 y3 y4))
 | 0 => ⟨fun _ _ r h => by simp [spec_l01Named.j0] at h, fun _ _ _ r h => by simp [spec_l01Named.l0] at h, fun _ _ _ _ _ r h => by simp [spec_l01Named.l1] at h⟩
 | k + 1 => by
  obtain ⟨ih0, ih1, ih2⟩ := spec_l01Named.mono_l k
  refine ⟨?_, ?_, ?_⟩
  all_goals intros
  all_goals first | unfold spec_l01Named.j0 | unfold spec_l01Named.l0 | unfold spec_l01Named.l1
  all_goals with_reducible repeat' first
  | exact ih0 _ _
  | exact ih1 _ _ _
  | exact ih2 _ _ _ _ _
  | exact LeO.refl _
  | exact LeO.none _
  | refine LeO.ite ?_ ?_
  | refine LeO.bind ?_ (fun _ => ?_)
theorem spec_l01Named.mono : ∀ a0 a1 k, LeO (spec_l01Named.f k a0 a1) (spec_l01Named.f (k + 1) a0 a1) := by
 intro a0 a1 k
 obtain ⟨ih0, ih1, ih2⟩ := spec_l01Named.mono_l k
 unfold spec_l01Named.f
 with_reducible repeat' first
   | exact ih0 _ _
   | exact ih1 _ _ _
   | exact ih2 _ _ _ _ _
   | exact LeO.refl _
   | exact LeO.none _
   | refine LeO.ite ?_ ?_
   | refine LeO.bind ?_ (fun _ => ?_)
set_option maxHeartbeats 8000000 in
set_option maxRecDepth 100000 in
theorem spec_l01Named.calls (k : Nat) (a0 : ByteArray) (a1 : Int) (r1 : ByteArray) (r2 : Bool) (w : World) (h : spec_l01Named.f k a0 a1 = some (r1, r2)) :
  Calls Try.prog 70 #[.string a0, .int .i64 a1] w fun e w' => e = .returned (.tuple #[.string r1, .bool r2]) ∧ Below w.heap.size w w' := by
 have HB := Aside0.mk (Below.refl w.heap.size w)
 have H : (if a0.toList = ([102, 105, 98, 111, 110, 97, 99, 99, 105] : List UInt8) then (spec_l01Named.j0 k a1 (([(⟨#[97, 98]⟩ : ByteArray), (⟨#[97]⟩ : ByteArray)] : List ByteArray))) else (if a0.toList = ([116, 104, 117, 101] : List UInt8) then (spec_l01Named.j0 k a1 (([(⟨#[97, 98]⟩ : ByteArray), (⟨#[98, 97]⟩ : ByteArray)] : List ByteArray))) else (if a0.toList = ([100, 111, 117, 98, 108, 105, 110, 103] : List UInt8) then (spec_l01Named.j0 k a1 (([(⟨#[97, 98]⟩ : ByteArray), (⟨#[97, 97]⟩ : ByteArray)] : List ByteArray))) else (if a0.toList = ([116, 114, 105, 112, 108, 101] : List UInt8) then (spec_l01Named.j0 k a1 (([(⟨#[97, 98, 99]⟩ : ByteArray), (⟨#[97, 99]⟩ : ByteArray), (⟨#[98]⟩ : ByteArray)] : List ByteArray))) else (some ((⟨#[]⟩ : ByteArray), false)))))) = some (r1, r2) := h
 clear h
 obtain ⟨y144, hy144⟩ : ∃ y_ : List ByteArray, y_ = (([] : List ByteArray)) := ⟨_, rfl⟩
 replace H : (if a0.toList = ([102, 105, 98, 111, 110, 97, 99, 99, 105] : List UInt8) then (spec_l01Named.j0 k a1 (([(⟨#[97, 98]⟩ : ByteArray), (⟨#[97]⟩ : ByteArray)] : List ByteArray))) else (if a0.toList = ([116, 104, 117, 101] : List UInt8) then (spec_l01Named.j0 k a1 (([(⟨#[97, 98]⟩ : ByteArray), (⟨#[98, 97]⟩ : ByteArray)] : List ByteArray))) else (if a0.toList = ([100, 111, 117, 98, 108, 105, 110, 103] : List UInt8) then (spec_l01Named.j0 k a1 (([(⟨#[97, 98]⟩ : ByteArray), (⟨#[97, 97]⟩ : ByteArray)] : List ByteArray))) else (if a0.toList = ([116, 114, 105, 112, 108, 101] : List UInt8) then (spec_l01Named.j0 k a1 (([(⟨#[97, 98, 99]⟩ : ByteArray), (⟨#[97, 99]⟩ : ByteArray), (⟨#[98]⟩ : ByteArray)] : List ByteArray))) else (some ((⟨#[]⟩ : ByteArray), false)))))) = some (r1, r2) := by first | (rw [hy144]; with_reducible exact H) | (have H2_ := (Option.bind_some _ _).symm.trans H; rw [hy144]; with_reducible exact H2_) | (have H2_ := (Option.bind_some _ _).symm.trans H; with_reducible exact H2_) | with_reducible exact H | (rw [hy144]; exact H) | exact H
 have Ny144 := Aside0.mk hy144
 clear hy144
 have HC3 := Aside0.mk H
 clear H
 go_enter Try.func70, Try.ntmps70
 go_upto_block 0 with (first | ((with_reducible refine gate_dst (N := 10) rfl ?_); refine Kd.R_lit Kd.string _ 9 ?hg (N := 10) ?hd (xs := ([] : List ByteArray)) (inner := []) (ok := fun _ => True) (okp := fun _ => True) ?hr ?hp (fun _ hk => hk) trivial (Below.refl _ _) (Nat.le_refl _) (by simp) ?_; (case hd => rfl); (case hg => rfl); (case hr => first | (go_simp; done) | (go_simp; rfl)); (case hp => exact (Reps.none _ _)); intro v145 w4 ho5 hb hg_ hnew_; clear hg_ hnew_; (first | rw [← Ny144.out] at ho5 | (simp only [Int.reduceToNat] at ho5; rw [← Ny144.out] at ho5)); have HO146 := Aside0.mk (Kd.R_lower ho5 (below_size (qB HB.out))); replace HB := Aside0.mk (below_step (qB HB.out) hb); clear hb ho5))
 (try simp only [Act.put, List.setIfInBounds_toArray, List.set_cons_zero, List.set_cons_succ])
 go_cut [6] (fun v6 wc => ∃ (kq : Nat) (x6_2 : List ByteArray), Aside0 (spec_l01Named.j0 kq a1 x6_2 = some (r1, r2)) ∧ Aside0 (kq ≤ k) ∧ Aside0 (Kd.R Kd.string 9 wc w.heap.size (fun _ => True) v6 x6_2) ∧ Aside0 (Below w.heap.size w wc))
 case first =>
  have H := HC3.out
  clear HC3
  by_cases c6 : a0.toList = ([102, 105, 98, 111, 110, 97, 99, 99, 105] : List UInt8)
  ·
   rw [if_pos c6] at H
   obtain ⟨c6b0, c6b1⟩ := zT c6
   clear c6
   (first | rw [c6b0] | (simp only [i64_w, i32_w]; rw [c6b0]) | skip)
   obtain ⟨y147, hy147⟩ : ∃ y_ : List ByteArray, y_ = (([(⟨#[97, 98]⟩ : ByteArray), (⟨#[97]⟩ : ByteArray)] : List ByteArray)) := ⟨_, rfl⟩
   replace H : (spec_l01Named.j0 k a1 y147) = some (r1, r2) := by first | (rw [hy147]; with_reducible exact H) | (have H2_ := (Option.bind_some _ _).symm.trans H; rw [hy147]; with_reducible exact H2_) | (have H2_ := (Option.bind_some _ _).symm.trans H; with_reducible exact H2_) | with_reducible exact H | (rw [hy147]; exact H) | exact H
   have Ny147 := Aside0.mk hy147
   clear hy147
   have H' := Aside0.mk H
   clear H
   go_wp2_with (first | ((with_reducible refine gate_dst (N := 14) rfl ?_); refine Kd.R_lit Kd.string _ 9 ?hg (N := 14) ?hd (xs := ([(⟨#[97, 98]⟩ : ByteArray), (⟨#[97]⟩ : ByteArray)] : List ByteArray)) (inner := [.string (⟨#[97, 98]⟩ : ByteArray), .string (⟨#[97]⟩ : ByteArray)]) (ok := fun _ => True) (okp := fun _ => True) ?hr ?hp (fun _ hk => hk) trivial (Below.refl _ _) (Nat.le_refl _) (by simp) ?_; (case hd => rfl); (case hg => rfl); (case hr => first | (go_simp; done) | (go_simp; rfl)); (case hp => exact (Reps.one (show Kd.M Kd.string _ _ _ (⟨#[97, 98]⟩ : ByteArray) [.string (⟨#[97, 98]⟩ : ByteArray)] from rfl) (Reps.one (show Kd.M Kd.string _ _ _ (⟨#[97]⟩ : ByteArray) [.string (⟨#[97]⟩ : ByteArray)] from rfl) (Reps.none _ _)))); intro v148 w7 ho8 hb hg_ hnew_; clear hg_ hnew_; (first | rw [← Ny147.out] at ho8 | (simp only [Int.reduceToNat] at ho8; rw [← Ny147.out] at ho8)); have HO149 := Aside0.mk (Kd.R_lower (Kd.R_new' ho8 (Kd.R_lt (qR HO146.out))) (below_size (qB HB.out))); replace HO146 := Aside0.mk (Kd.R_elder' (qR HO146.out) (Kd.R_base ho8) hb); replace HB := Aside0.mk (below_step (qB HB.out) hb); clear hb ho8))
   go_meet
   case rel => exact ⟨_, (y147), H', ⟨by first | omega | exact Nat.le_refl _⟩, ⟨by (with_reducible repeat (first | apply Kd.R_alloc | apply Kd.R_drewN | apply Kd.R_drew)); exact Kd.R_mono HO149.out (fun _ hk => trivial)⟩, ⟨qB HB.out⟩⟩
  rw [if_neg c6] at H
  obtain ⟨c6b0, c6b1⟩ := zF c6
  (first | rw [c6b0] | (simp only [i64_w, i32_w]; rw [c6b0]) | skip)
  by_cases c9 : a0.toList = ([116, 104, 117, 101] : List UInt8)
  ·
   rw [if_pos c9] at H
   obtain ⟨c9b0, c9b1⟩ := zT c9
   clear c9
   obtain ⟨y150, hy150⟩ : ∃ y_ : List ByteArray, y_ = (([(⟨#[97, 98]⟩ : ByteArray), (⟨#[98, 97]⟩ : ByteArray)] : List ByteArray)) := ⟨_, rfl⟩
   replace H : (spec_l01Named.j0 k a1 y150) = some (r1, r2) := by first | (rw [hy150]; with_reducible exact H) | (have H2_ := (Option.bind_some _ _).symm.trans H; rw [hy150]; with_reducible exact H2_) | (have H2_ := (Option.bind_some _ _).symm.trans H; with_reducible exact H2_) | with_reducible exact H | (rw [hy150]; exact H) | exact H
   have Ny150 := Aside0.mk hy150
   clear hy150
   have H' := Aside0.mk H
   clear H
   go_wp2_with (first | ((with_reducible refine gate_dst (N := 17) rfl ?_); refine Kd.R_lit Kd.string _ 9 ?hg (N := 17) ?hd (xs := ([(⟨#[97, 98]⟩ : ByteArray), (⟨#[98, 97]⟩ : ByteArray)] : List ByteArray)) (inner := [.string (⟨#[97, 98]⟩ : ByteArray), .string (⟨#[98, 97]⟩ : ByteArray)]) (ok := fun _ => True) (okp := fun _ => True) ?hr ?hp (fun _ hk => hk) trivial (Below.refl _ _) (Nat.le_refl _) (by simp) ?_; (case hd => rfl); (case hg => rfl); (case hr => first | (go_simp; done) | (go_simp; rfl)); (case hp => exact (Reps.one (show Kd.M Kd.string _ _ _ (⟨#[97, 98]⟩ : ByteArray) [.string (⟨#[97, 98]⟩ : ByteArray)] from rfl) (Reps.one (show Kd.M Kd.string _ _ _ (⟨#[98, 97]⟩ : ByteArray) [.string (⟨#[98, 97]⟩ : ByteArray)] from rfl) (Reps.none _ _)))); intro v151 w10 ho11 hb hg_ hnew_; clear hg_ hnew_; (first | rw [← Ny150.out] at ho11 | (simp only [Int.reduceToNat] at ho11; rw [← Ny150.out] at ho11)); have HO152 := Aside0.mk (Kd.R_lower (Kd.R_new' ho11 (Kd.R_lt (qR HO146.out))) (below_size (qB HB.out))); replace HO146 := Aside0.mk (Kd.R_elder' (qR HO146.out) (Kd.R_base ho11) hb); replace HB := Aside0.mk (below_step (qB HB.out) hb); clear hb ho11))
   go_meet
   case rel => exact ⟨_, (y150), H', ⟨by first | omega | exact Nat.le_refl _⟩, ⟨by (with_reducible repeat (first | apply Kd.R_alloc | apply Kd.R_drewN | apply Kd.R_drew)); exact Kd.R_mono HO152.out (fun _ hk => trivial)⟩, ⟨qB HB.out⟩⟩
  rw [if_neg c9] at H
  obtain ⟨c9b0, c9b1⟩ := zF c9
  by_cases c12 : a0.toList = ([100, 111, 117, 98, 108, 105, 110, 103] : List UInt8)
  ·
   rw [if_pos c12] at H
   obtain ⟨c12b0, c12b1⟩ := zT c12
   clear c12
   obtain ⟨y153, hy153⟩ : ∃ y_ : List ByteArray, y_ = (([(⟨#[97, 98]⟩ : ByteArray), (⟨#[97, 97]⟩ : ByteArray)] : List ByteArray)) := ⟨_, rfl⟩
   replace H : (spec_l01Named.j0 k a1 y153) = some (r1, r2) := by first | (rw [hy153]; with_reducible exact H) | (have H2_ := (Option.bind_some _ _).symm.trans H; rw [hy153]; with_reducible exact H2_) | (have H2_ := (Option.bind_some _ _).symm.trans H; with_reducible exact H2_) | with_reducible exact H | (rw [hy153]; exact H) | exact H
   have Ny153 := Aside0.mk hy153
   clear hy153
   have H' := Aside0.mk H
   clear H
   go_wp2_with (first | ((with_reducible refine gate_dst (N := 20) rfl ?_); refine Kd.R_lit Kd.string _ 9 ?hg (N := 20) ?hd (xs := ([(⟨#[97, 98]⟩ : ByteArray), (⟨#[97, 97]⟩ : ByteArray)] : List ByteArray)) (inner := [.string (⟨#[97, 98]⟩ : ByteArray), .string (⟨#[97, 97]⟩ : ByteArray)]) (ok := fun _ => True) (okp := fun _ => True) ?hr ?hp (fun _ hk => hk) trivial (Below.refl _ _) (Nat.le_refl _) (by simp) ?_; (case hd => rfl); (case hg => rfl); (case hr => first | (go_simp; done) | (go_simp; rfl)); (case hp => exact (Reps.one (show Kd.M Kd.string _ _ _ (⟨#[97, 98]⟩ : ByteArray) [.string (⟨#[97, 98]⟩ : ByteArray)] from rfl) (Reps.one (show Kd.M Kd.string _ _ _ (⟨#[97, 97]⟩ : ByteArray) [.string (⟨#[97, 97]⟩ : ByteArray)] from rfl) (Reps.none _ _)))); intro v154 w13 ho14 hb hg_ hnew_; clear hg_ hnew_; (first | rw [← Ny153.out] at ho14 | (simp only [Int.reduceToNat] at ho14; rw [← Ny153.out] at ho14)); have HO155 := Aside0.mk (Kd.R_lower (Kd.R_new' ho14 (Kd.R_lt (qR HO146.out))) (below_size (qB HB.out))); replace HO146 := Aside0.mk (Kd.R_elder' (qR HO146.out) (Kd.R_base ho14) hb); replace HB := Aside0.mk (below_step (qB HB.out) hb); clear hb ho14))
   go_meet
   case rel => exact ⟨_, (y153), H', ⟨by first | omega | exact Nat.le_refl _⟩, ⟨by (with_reducible repeat (first | apply Kd.R_alloc | apply Kd.R_drewN | apply Kd.R_drew)); exact Kd.R_mono HO155.out (fun _ hk => trivial)⟩, ⟨qB HB.out⟩⟩
  rw [if_neg c12] at H
  obtain ⟨c12b0, c12b1⟩ := zF c12
  by_cases c15 : a0.toList = ([116, 114, 105, 112, 108, 101] : List UInt8)
  rotate_left
  ·
   rw [if_neg c15] at H
   obtain ⟨c15b0, c15b1⟩ := zF c15
   simp only [Option.some.injEq, Prod.mk.injEq] at H
   obtain ⟨rfl, rfl⟩ := H
   go_wp2
   go_ret2
   exact ⟨qE, qB HB.out⟩
  rw [if_pos c15] at H
  obtain ⟨c15b0, c15b1⟩ := zT c15
  clear c15
  obtain ⟨y156, hy156⟩ : ∃ y_ : List ByteArray, y_ = (([(⟨#[97, 98, 99]⟩ : ByteArray), (⟨#[97, 99]⟩ : ByteArray), (⟨#[98]⟩ : ByteArray)] : List ByteArray)) := ⟨_, rfl⟩
  replace H : (spec_l01Named.j0 k a1 y156) = some (r1, r2) := by first | (rw [hy156]; with_reducible exact H) | (have H2_ := (Option.bind_some _ _).symm.trans H; rw [hy156]; with_reducible exact H2_) | (have H2_ := (Option.bind_some _ _).symm.trans H; with_reducible exact H2_) | with_reducible exact H | (rw [hy156]; exact H) | exact H
  have Ny156 := Aside0.mk hy156
  clear hy156
  have H' := Aside0.mk H
  clear H
  go_wp2_with (first | ((with_reducible refine gate_dst (N := 23) rfl ?_); refine Kd.R_lit Kd.string _ 9 ?hg (N := 23) ?hd (xs := ([(⟨#[97, 98, 99]⟩ : ByteArray), (⟨#[97, 99]⟩ : ByteArray), (⟨#[98]⟩ : ByteArray)] : List ByteArray)) (inner := [.string (⟨#[97, 98, 99]⟩ : ByteArray), .string (⟨#[97, 99]⟩ : ByteArray), .string (⟨#[98]⟩ : ByteArray)]) (ok := fun _ => True) (okp := fun _ => True) ?hr ?hp (fun _ hk => hk) trivial (Below.refl _ _) (Nat.le_refl _) (by simp) ?_; (case hd => rfl); (case hg => rfl); (case hr => first | (go_simp; done) | (go_simp; rfl)); (case hp => exact (Reps.one (show Kd.M Kd.string _ _ _ (⟨#[97, 98, 99]⟩ : ByteArray) [.string (⟨#[97, 98, 99]⟩ : ByteArray)] from rfl) (Reps.one (show Kd.M Kd.string _ _ _ (⟨#[97, 99]⟩ : ByteArray) [.string (⟨#[97, 99]⟩ : ByteArray)] from rfl) (Reps.one (show Kd.M Kd.string _ _ _ (⟨#[98]⟩ : ByteArray) [.string (⟨#[98]⟩ : ByteArray)] from rfl) (Reps.none _ _))))); intro v157 w16 ho17 hb hg_ hnew_; clear hg_ hnew_; (first | rw [← Ny156.out] at ho17 | (simp only [Int.reduceToNat] at ho17; rw [← Ny156.out] at ho17)); have HO158 := Aside0.mk (Kd.R_lower (Kd.R_new' ho17 (Kd.R_lt (qR HO146.out))) (below_size (qB HB.out))); replace HO146 := Aside0.mk (Kd.R_elder' (qR HO146.out) (Kd.R_base ho17) hb); replace HB := Aside0.mk (below_step (qB HB.out) hb); clear hb ho17))
  go_meet
  case rel => exact ⟨_, (y156), H', ⟨by first | omega | exact Nat.le_refl _⟩, ⟨by (with_reducible repeat (first | apply Kd.R_alloc | apply Kd.R_drewN | apply Kd.R_drew)); exact Kd.R_mono HO158.out (fun _ hk => trivial)⟩, ⟨qB HB.out⟩⟩
 case rest =>
  clear HC3
  obtain ⟨kq, x6_2, HA, HJ2, HO_6, HB⟩ := hcut
  cases kq with
  | zero => exact absurd HA.out (by simp [spec_l01Named.j0])
  | succ kj2 =>
   have H := HA.out
   clear HA
   simp only [spec_l01Named.j0] at H
   have H' := Aside0.mk H
   clear H
   go_wp2
   go_loopg [7] kj2 (fun kq v7 w' => ∃ (x7_2 : ByteArray), v7 = .string x7_2 ∧ Aside0 (spec_l01Named.l0 kq a1 x6_2 x7_2 = some (r1, r2)) ∧ Aside0 (kq ≤ kj2) ∧ Aside0 (Kd.R Kd.string 9 w' w.heap.size (fun _ => True) u6 x6_2) ∧ Aside0 (Below w.heap.size w w'))
   case atStart => exact ⟨((⟨#[97]⟩ : ByteArray)), qF, H', ⟨Nat.le_refl _⟩, ⟨qR HO_6.out⟩, ⟨qB HB.out⟩⟩
   case round =>
    clear H'
    obtain ⟨x7_2, rfl, HA, HK2, HO_6, HB⟩ := hrel
    cases gk with
    | zero => exact absurd HA.out (by simp [spec_l01Named.l0])
    | succ k2 =>
     have H := HA.out
     clear HA
     simp only [spec_l01Named.l0] at H
     by_cases c18 : (x7_2.size : Int) < a1
     rotate_left
     ·
      rw [if_neg c18] at H
      have c18b0 : decide ((x7_2.size : Int) < a1) = false := decide_eq_false c18
      clear c18
      by_cases c25 : 0 ≤ a1
      rotate_left
      ·
       rw [if_neg c25] at H
       exact absurd H (by simp)

      rw [if_pos c25] at H
      have c25b0 := eq_true c25
      have c25b1 : decide (0 ≤ a1) = true := decide_eq_true c25
      clear c25
      by_cases c26 : a1 ≤ (x7_2.size : Int)
      rotate_left
      ·
       rw [if_neg c26] at H
       exact absurd H (by simp)
      rw [if_pos c26] at H
      have c26b0 := eq_true c26
      have c26b1 : decide (a1 ≤ (x7_2.size : Int)) = true := decide_eq_true c26
      clear c26
      simp only [Option.some.injEq, Prod.mk.injEq] at H
      obtain ⟨rfl, rfl⟩ := H
      go_wp2
      go_ret2
      exact ⟨qE, qB HB.out⟩
     rw [if_pos c18] at H
     have c18b0 : decide ((x7_2.size : Int) < a1) = true := decide_eq_true c18
     clear c18
     have H' := Aside0.mk H
     clear H
     go_wp2
     go_loopg [8, 9] k2 (fun kq v8 v9 w' => ∃ (x8_3 : ByteArray) (x9_3 : Int), v8 = .string x8_3 ∧ v9 = .int .i64 x9_3 ∧ Aside0 (spec_l01Named.l1 kq a1 x6_2 x7_2 x8_3 x9_3 = some (r1, r2)) ∧ Aside0 (kq ≤ k2) ∧ Aside0 (Kd.R Kd.string 9 w' w.heap.size (fun _ => True) u6 x6_2) ∧ Aside0 (Below w.heap.size w w'))
     case atStart => exact ⟨((⟨#[]⟩ : ByteArray)), (0), qF, qF, H', ⟨Nat.le_refl _⟩, ⟨qR HO_6.out⟩, ⟨qB HB.out⟩⟩
     case round =>
      clear H'
      obtain ⟨x8_3, x9_3, rfl, rfl, HA, HK3, HO_6, HB⟩ := hrel
      cases gk with
      | zero => exact absurd HA.out (by simp [spec_l01Named.l1])
      | succ k3 =>
       have H := HA.out
       clear HA
       simp only [spec_l01Named.l1] at H
       by_cases c19 : x9_3 < (x7_2.size : Int)
       rotate_left
       ·
        rw [if_neg c19] at H
        have c19b0 : decide (x9_3 < (x7_2.size : Int)) = false := decide_eq_false c19
        clear c19
        have H' := Aside0.mk H
        clear H
        go_wp2
        go_roundg k3
        case measure => have := HJ2.out; have := HK2.out; have := HK3.out; omega
        case rel => exact ⟨(x8_3), qF, H', ⟨by have := HJ2.out; have := HK2.out; have := HK3.out; omega⟩, ⟨qR HO_6.out⟩, ⟨qB HB.out⟩⟩
       rw [if_pos c19] at H
       have c19b0 : decide (x9_3 < (x7_2.size : Int)) = true := decide_eq_true c19
       clear c19
       replace H := qN H
       obtain ⟨t159, A20, H⟩ := H
       try dsimp only at H
       by_cases c21 : 0 ≤ t159
       rotate_left
       ·
        rw [if_neg c21] at H
        exact absurd H (by simp)
       rw [if_pos c21] at H
       have c21b0 : decide (0 ≤ t159) = true := decide_eq_true c21
       clear c21
       by_cases c22 : t159 < (x6_2.length : Int)
       rotate_left
       ·
        rw [if_neg c22] at H
        exact absurd H (by simp)
       rw [if_pos c22] at H
       have c22b0 : decide (t159 < (x6_2.length : Int)) = true := decide_eq_true c22
       clear c22
       by_cases c23 : x8_3.size + (rdOf ByteArray.empty x6_2 t159).size ≤ 9223372036854775807
       rotate_left
       ·
        rw [if_neg c23] at H
        exact absurd H (by simp)
       rw [if_pos c23] at H
       have c23b0 := eq_true c23
       have c23b1 : decide (x8_3.size + (rdOf ByteArray.empty x6_2 t159).size ≤ 9223372036854775807) = true := decide_eq_true c23
       try have c23b2 : (9223372036854775807 < x8_3.size + (rdOf ByteArray.empty x6_2 t159).size) = False := eq_false (Nat.not_lt.2 c23)
       have H' := Aside0.mk H
       clear H
       go_wp2_with (first | ((with_reducible refine gate_callee (f := 77) rfl ?_); refine goesL_ (some 38) rfl rfl Try.func77 (by kernel_rfl) rfl #[.string x7_2, .int .i64 x9_3] rfl qV ?_; (with_reducible refine (spec_l01At.calls x7_2 x9_3 t159 _ A20.out).mono ?_); rintro e w' ⟨rfl, ⟨nd, rfl⟩⟩; refine ⟨_, rfl, ?_⟩; obtain ⟨Ao24, co24, eo24⟩ := Kd.R_slice HO_6.out; subst eo24; have p160 : 0 ≤ (t159 : Int) := of_decide_eq_true (by first | (with_reducible assumption) | assumption); have q160 : t159 < (x6_2.length : Int) := of_decide_eq_true (by first | (with_reducible assumption) | assumption); obtain ⟨ad160, e160, hx160_0⟩ := Kd.at_string (Kd.R_reads' HO_6.out).2.2 t159 p160 q160; cases e160; replace p160 := eq_true p160; replace q160 := eq_true q160))
       go_roundg k3
       case measure => have := HJ2.out; have := HK2.out; have := HK3.out; omega
       case rel => exact ⟨(x8_3 ++ (rdOf ByteArray.empty x6_2 t159)), (wrap64 (x9_3 + 1)), qF, qF, H', ⟨by have := HJ2.out; have := HK2.out; have := HK3.out; omega⟩, ⟨qR HO_6.out⟩, ⟨qB HB.out⟩⟩
end Go.Proofs.Ytjmcffejpgblfaa.PF

namespace Go.Proofs.Ytjmcffejpgblfaa.PF
open Go.RowKit Go.Proofs.YtjmcffejpgblfaaW.PrintWords Go.Proofs.YtjmcffejpgblfaaW.PrintLast Go.Proofs.YtjmcffejpgblfaaW.PrintMore
attribute [local go_sem] max2_int min2_int max_two min_two max_three min_three max_four min_four   -- for this text's walks alone
set_option linter.unusedVariables false
set_option linter.unusedSimpArgs false

/-! ### spec_l01Small: function 71 -/
def spec_l01Small.f (k : Nat) (s0_0 : List Int) (s0_1 : Int) (s0_2 : Int) : Option (ByteArray × Int × Int) := (spec_l01Next.f s0_0 s0_1 s0_2 11).bind fun bt161 => ((spec_l01Pick.f s0_0 bt161.2.1 bt161.2.2 (([1, 2, 2, 2, 3, 5] : List Int))).bind fun bt167 => ((spec_l01DrawOf.f k s0_0 bt167.2.1 bt167.2.2 bt161.1 bt167.1).bind fun bt170 => (some (bt170.1, bt170.2.1, bt170.2.2))))
theorem spec_l01Small.mono : ∀ a0 a1 a2 k, LeO (spec_l01Small.f k a0 a1 a2) (spec_l01Small.f (k + 1) a0 a1 a2) := by
 intro a0 a1 a2 k
 unfold spec_l01Small.f
 with_reducible repeat' first
   | exact spec_l01DrawOf.mono _ _ _ _ _ _
   | exact LeO.refl _
   | exact LeO.none _
   | refine LeO.ite ?_ ?_
   | refine LeO.bind ?_ (fun _ => ?_)
set_option maxHeartbeats 8000000 in
set_option maxRecDepth 100000 in
theorem spec_l01Small.calls (k : Nat) (g : Nat) (s0_0 : List Int) (s0_1 : Int) (s0_2 : Int) (r1 : ByteArray) (r2 : Int) (r3 : Int) (w0 w : World) (hI : IsS57 w0 w g s0_0 s0_1 s0_2) (hB : Below w0.heap.size w0 w) (h : spec_l01Small.f k s0_0 s0_1 s0_2 = some (r1, r2, r3)) :
  Calls Try.prog 71 #[.pointer (some ⟨g, 0, none⟩)] w fun e w' => e = .returned (.string r1) ∧ IsS57 w0 w' g s0_0 r2 r3 ∧ Below w0.heap.size w0 w' ∧ KeepBut w w' g none := by
 have HI0 := Aside0.mk hI
 have HK := Aside0.mk (KeepBut.refl w g none)
 have HL := Aside0.mk hB.size
 clear hI
 have HW0 := Aside0.mk hB.size
 have HB := Aside0.mk hB
 clear hB
 have H : ((spec_l01Next.f s0_0 s0_1 s0_2 11).bind fun bt161 => ((spec_l01Pick.f s0_0 bt161.2.1 bt161.2.2 (([1, 2, 2, 2, 3, 5] : List Int))).bind fun bt167 => ((spec_l01DrawOf.f k s0_0 bt167.2.1 bt167.2.2 bt161.1 bt167.1).bind fun bt170 => (some (bt170.1, bt170.2.1, bt170.2.2))))) = some (r1, r2, r3) := h
 clear h
 replace H := qN H
 obtain ⟨⟨t161, t162, t163⟩, A2, H⟩ := H
 try dsimp only at H
 obtain ⟨y164, hy164⟩ : ∃ y_ : List Int, y_ = (([1, 2, 2, 2, 3, 5] : List Int)) := ⟨_, rfl⟩
 replace H : ((spec_l01Pick.f s0_0 t162 t163 y164).bind fun bt167 => ((spec_l01DrawOf.f k s0_0 bt167.2.1 bt167.2.2 t161 bt167.1).bind fun bt170 => (some (bt170.1, bt170.2.1, bt170.2.2)))) = some (r1, r2, r3) := by first | (rw [hy164]; with_reducible exact H) | (have H2_ := (Option.bind_some _ _).symm.trans H; rw [hy164]; with_reducible exact H2_) | (have H2_ := (Option.bind_some _ _).symm.trans H; with_reducible exact H2_) | with_reducible exact H | (rw [hy164]; exact H) | exact H
 have Ny164 := Aside0.mk hy164
 clear hy164
 replace H := qN H
 obtain ⟨⟨t167, t168, t169⟩, A3, H⟩ := H
 try dsimp only at H
 replace H := qN H
 obtain ⟨⟨t170, t171, t172⟩, A4, H⟩ := H
 try dsimp only at H
 simp only [Option.some.injEq, Prod.mk.injEq] at H
 obtain ⟨rfl, rfl, rfl⟩ := H
 go_enter Try.func71, Try.ntmps71
 go_wp2_with (first | ((with_reducible refine gate_callee (f := 36) rfl ?_); refine goesL_ (some 5) rfl rfl Try.func36 (by kernel_rfl) rfl #[.pointer (some ⟨g, 0, none⟩), .int .i64 11] rfl qV ?_; (with_reducible refine (spec_l01Next.calls g s0_0 s0_1 s0_2 11 t161 t162 t163 w0 _ ?side1 ?side2 A2.out).mono ?_); (case side1 => exact qI HI0.out); (case side2 => exact qS HB.out); rintro e w5 ⟨rfl, hi, hb, hk⟩; refine ⟨_, rfl, ?_⟩; replace HK := Aside0.mk (KeepBut.trans (qK HK.out) hk (.inl rfl)); replace HB := Aside0.mk (hb); replace HI0 := Aside0.mk (hi)) | ((with_reducible refine gate_dst (N := 7) rfl ?_); refine Kd.R_lit (Kd.int .i64) _ 2 ?hg (N := 7) ?hd (xs := ([1, 2, 2, 2, 3, 5] : List Int)) (inner := [.int .i64 1, .int .i64 2, .int .i64 2, .int .i64 2, .int .i64 3, .int .i64 5]) (ok := fun _ => True) (okp := fun _ => True) ?hr ?hp (fun _ hk => hk) trivial (Below.refl _ _) (Nat.le_refl _) (by simp) ?_; (case hd => rfl); (case hg => rfl); (case hr => first | (go_simp; done) | (go_simp; rfl)); (case hp => exact (Reps.one (show Kd.M (Kd.int .i64) _ _ _ 1 [.int .i64 1] from rfl) (Reps.one (show Kd.M (Kd.int .i64) _ _ _ 2 [.int .i64 2] from rfl) (Reps.one (show Kd.M (Kd.int .i64) _ _ _ 2 [.int .i64 2] from rfl) (Reps.one (show Kd.M (Kd.int .i64) _ _ _ 2 [.int .i64 2] from rfl) (Reps.one (show Kd.M (Kd.int .i64) _ _ _ 3 [.int .i64 3] from rfl) (Reps.one (show Kd.M (Kd.int .i64) _ _ _ 5 [.int .i64 5] from rfl) (Reps.none _ _)))))))); intro v165 w6 ho7 hb hg_ hnew_; clear hg_ hnew_; (first | rw [← Ny164.out] at ho7 | (simp only [Int.reduceToNat] at ho7; rw [← Ny164.out] at ho7)); have HO166 := Aside0.mk (Kd.R_lower ho7 (keep_size (w := w) (g := g) (row := none) (qK HK.out))); replace HI0 := Aside0.mk (IsS57.below (qI HI0.out) hb); replace HK := Aside0.mk (KeepBut.trans (qK HK.out) (KeepBut.of_below hb g none) (.inl rfl)); replace HB := Aside0.mk (below_step (qS HB.out) hb); clear hb ho7; obtain ⟨Ao8, co8, eo8⟩ := Kd.R_slice HO166.out; subst eo8) | ((with_reducible refine gate_callee (f := 37) rfl ?_); refine goesL_ (some 8) rfl rfl Try.func37 (by kernel_rfl) rfl #[.pointer (some ⟨g, 0, none⟩), .slice Ao8 y164.length co8] rfl qV ?_; (with_reducible refine (spec_l01Pick.calls g s0_0 t162 t163 _ _ y164 t167 t168 t169 w0 _ ?side1 ?side2 ?side3 ?side4 ?side5 A3.out).mono ?_); (case side1 => exact qI HI0.out); (case side2 => exact qS HB.out); (case side3 => exact qC (Kd.R_reads' HO166.out).2.2); (case side4 => exact (Kd.R_reads' HO166.out).2.1); (case side5 => exact far_slice (IsS57.own_ne HI0.out HO166.out (by decide))); rintro e w9 ⟨rfl, hi, hb, hk⟩; refine ⟨_, rfl, ?_⟩; replace HO166 := Aside0.mk (Kd.R_mono (Kd.R_keep (IsS57.apart (show IsS57 w0 _ g s0_0 t162 t163 from qI HI0.out) (qR HO166.out) (by decide)) hk (fun _ h => h.2)) (fun _ h => h.1)); replace HK := Aside0.mk (KeepBut.trans (qK HK.out) hk (.inl rfl)); replace HB := Aside0.mk (hb); replace HI0 := Aside0.mk (hi)) | ((with_reducible refine gate_callee (f := 35) rfl ?_); refine goesL_ (some 9) rfl rfl Try.func35 (by kernel_rfl) rfl #[.pointer (some ⟨g, 0, none⟩), .int .i64 t161, .int .i64 t167] rfl qV ?_; (with_reducible refine (spec_l01DrawOf.calls k g s0_0 t168 t169 t161 t167 t170 t171 t172 w0 _ ?side1 ?side2 A4.out).mono ?_); (case side1 => exact qI HI0.out); (case side2 => exact qS HB.out); rintro e w10 ⟨rfl, hi, hb, hk⟩; refine ⟨_, rfl, ?_⟩; replace HO166 := Aside0.mk (Kd.R_mono (Kd.R_keep (IsS57.apart (show IsS57 w0 _ g s0_0 t168 t169 from qI HI0.out) (qR HO166.out) (by decide)) hk (fun _ h => h.2)) (fun _ h => h.1)); replace HK := Aside0.mk (KeepBut.trans (qK HK.out) hk (.inl rfl)); replace HB := Aside0.mk (hb); replace HI0 := Aside0.mk (hi)))
 go_ret
 exact ⟨qE, qI HI0.out, qS HB.out, qK HK.out⟩

end Go.Proofs.Ytjmcffejpgblfaa.PF
