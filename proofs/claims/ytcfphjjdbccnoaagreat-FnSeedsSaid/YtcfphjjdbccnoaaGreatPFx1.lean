-- an own text, written by a program of this place (wip/tools)
import Derived.Test.YtcfphjjdbccnoaaGreatPFx0
namespace Go.Proofs.YtcfphjjdbccnoaaGreat.PF
open Go.RowKit Go.Proofs.YtcfphjjdbccnoaaGreatW.PrintWords Go.Proofs.YtcfphjjdbccnoaaGreatW.PrintLast Go.Proofs.YtcfphjjdbccnoaaGreatW.PrintMore
attribute [local go_sem] max2_int min2_int max_two min_two max_three min_three max_four min_four   -- for this text's walks alone
set_option linter.unusedVariables false
set_option linter.unusedSimpArgs false

/-! ### spec_l09Draw: function 58 -/
mutual
def spec_l09Draw.j1 : Nat → ByteArray → ByteArray → List Int → Int → Int → Option (ByteArray × ByteArray × Int × Int)
 | 0, _, _, _, _, _ => none
 | k + 1, x6, x7, x1000, x1001, x1002 => (spec_l01Next.f x1000 x1001 x1002 4).bind fun bt269 => (if bt269.1 = 0 then ((spec_l01Next.f x1000 bt269.2.1 bt269.2.2 (x6.size : Int)).bind fun bt272 => (if 0 ≤ bt272.1 then (if bt272.1 ≤ (x7.size : Int) then ((spec_l01Next.f x1000 bt272.2.1 bt272.2.2 4).bind fun bt275 => (if 0 ≤ (mx (wrap64 (((x7.extract (bt272.1 : Int).toNat x7.size).size : Int) - bt275.1)) 0) then (if (mx (wrap64 (((x7.extract (bt272.1 : Int).toNat x7.size).size : Int) - bt275.1)) 0) ≤ ((x7.extract (bt272.1 : Int).toNat x7.size).size : Int) then (some ((x7.extract (bt272.1 : Int).toNat x7.size).extract 0 ((mx (wrap64 (((x7.extract (bt272.1 : Int).toNat x7.size).size : Int) - bt275.1)) 0) : Int).toNat, x6, bt275.2.1, bt275.2.2)) else (none)) else (none))) else (none)) else (none))) else (if bt269.1 = 1 then (if (x7.size : Int) > 2 then ((spec_l01Next.f x1000 bt269.2.1 bt269.2.2 2).bind fun bt278 => (spec_l09Draw.j2 k x6 x7 (bt278.1 == 0) x1000 bt278.2.1 bt278.2.2)) else (spec_l09Draw.j2 k x6 x7 false x1000 bt269.2.1 bt269.2.2)) else (some (x7, x6, bt269.2.1, bt269.2.2))))
def spec_l09Draw.j2 : Nat → ByteArray → ByteArray → Bool → List Int → Int → Int → Option (ByteArray × ByteArray × Int × Int)
 | 0, _, _, _, _, _, _ => none
 | k + 1, x6, x7, x89, x1000, x1001, x1002 => if x89 = true then (if 0 ≤ (wrap64 ((x7.size : Int) - 1)) then (if (wrap64 ((x7.size : Int) - 1)) ≤ (x7.size : Int) then ((spec_l01Next.f x1000 x1001 x1002 3).bind fun bt281 => ((spec_l01Letter.f bt281.1).bind fun t284 => (if (x7.extract 0 ((wrap64 ((x7.size : Int) - 1)) : Int).toNat).size + t284.size ≤ 9223372036854775807 then (some ((x7.extract 0 ((wrap64 ((x7.size : Int) - 1)) : Int).toNat) ++ t284, x6, bt281.2.1, bt281.2.2)) else (none)))) else (none)) else (none)) else (some (x7, x6, x1001, x1002))
def spec_l09Draw.l0 : Nat → ByteArray → ByteArray → List Int → Int → List Int → Int → Int → Option (ByteArray × ByteArray × Int × Int)
 | 0, _, _, _, _, _, _, _ => none
 | k + 1, x6, x7, x8, x9, x1000, x1001, x1002 => if x9 > 0 then (if (x7.size : Int) < 48 then ((spec_l01Next.f x1000 x1001 x1002 (x8.length : Int)).bind fun bt265 => (if 0 ≤ bt265.1 then (if bt265.1 < (x8.length : Int) then (if 0 ≤ (rd x8 bt265.1) then (if (rd x8 bt265.1) ≤ (x6.size : Int) then (if x7.size + (x6.extract ((rd x8 bt265.1) : Int).toNat x6.size).size ≤ 9223372036854775807 then (spec_l09Draw.l0 k x6 (x7 ++ (x6.extract ((rd x8 bt265.1) : Int).toNat x6.size)) x8 (wrap64 (x9 - 1)) x1000 bt265.2.1 bt265.2.2) else (none)) else (none)) else (none)) else (none)) else (none))) else (spec_l09Draw.j1 k x6 x7 x1000 x1001 x1002)) else (spec_l09Draw.j1 k x6 x7 x1000 x1001 x1002)
end
def spec_l09Draw.f (k : Nat) (s0_0 : List Int) (s0_1 : Int) (s0_2 : Int) : Option (ByteArray × ByteArray × Int × Int) := (spec_l01Next.f s0_0 s0_1 s0_2 3).bind fun bt238 => (if bt238.1 = 0 then ((spec_l01Draw.f k s0_0 bt238.2.1 bt238.2.2).bind fun bt241 => ((spec_l01Next.f s0_0 bt241.2.1 bt241.2.2 (wrap64 ((bt241.1.size : Int) + 1))).bind fun bt244 => (if 0 ≤ bt244.1 then (if bt244.1 ≤ (bt241.1.size : Int) then (some (bt241.1, bt241.1.extract 0 (bt244.1 : Int).toNat, bt244.2.1, bt244.2.2)) else (none)) else (none)))) else ((spec_l01Next.f s0_0 bt238.2.1 bt238.2.2 3).bind fun bt247 => ((spec_l01DrawOf.f k s0_0 bt247.2.1 bt247.2.2 (wrap64 (1 + bt247.1)) 2).bind fun bt250 => ((spec_l01Next.f s0_0 bt250.2.1 bt250.2.2 2).bind fun bt253 => ((spec_l01DrawOf.f k s0_0 bt253.2.1 bt253.2.2 bt253.1 2).bind fun bt256 => (if bt250.1.size + bt256.1.size ≤ 9223372036854775807 then (if (bt250.1 ++ bt256.1).size + bt250.1.size ≤ 9223372036854775807 then ((spec_l09Ends.f k ((bt250.1 ++ bt256.1) ++ bt250.1)).bind fun t259 => ((spec_l01Next.f s0_0 bt256.2.1 bt256.2.2 6).bind fun bt262 => (spec_l09Draw.l0 k ((bt250.1 ++ bt256.1) ++ bt250.1) ((bt250.1 ++ bt256.1) ++ bt250.1) t259 bt262.1 s0_0 bt262.2.1 bt262.2.2))) else (none)) else (none)))))))
theorem spec_l09Draw.mono_l : ∀ k, (∀ y0 y1 y2 y3 y4, LeO (spec_l09Draw.j1 k y0 y1 y2 y3 y4) (spec_l09Draw.j1 (k + 1) y0 y1 y2 y3 y4)) ∧ (∀ y0 y1 y2 y3 y4 y5, LeO (spec_l09Draw.j2 k y0 y1 y2 y3 y4 y5) (spec_l09Draw.j2 (k + 1) y0 y1 y2 y3 y4 y5)) ∧ (∀ y0 y1 y2 y3 y4 y5 y6, LeO (spec_l09Draw.l0 k y0 y1 y2 y3 y4 y5 y6) (spec_l09Draw.l0 (k + 1) y0 y1 y2 y3 y4 y5 y6))
 | 0 => ⟨fun _ _ _ _ _ r h => by simp [spec_l09Draw.j1] at h, fun _ _ _ _ _ _ r h => by simp [spec_l09Draw.j2] at h, fun _ _ _ _ _ _ _ r h => by simp [spec_l09Draw.l0] at h⟩
 | k + 1 => by
  obtain ⟨ih0, ih1, ih2⟩ := spec_l09Draw.mono_l k
  refine ⟨?_, ?_, ?_⟩
  all_goals intros
  all_goals first | unfold spec_l09Draw.j1 | unfold spec_l09Draw.j2 | unfold spec_l09Draw.l0
  all_goals with_reducible repeat' first
  | exact ih0 _ _ _ _ _
  | exact ih1 _ _ _ _ _ _
  | exact ih2 _ _ _ _ _ _ _
  | exact spec_l01Draw.mono _ _ _ _
  | exact spec_l01DrawOf.mono _ _ _ _ _ _
  | exact spec_l09Ends.mono _ _
  | exact LeO.refl _
  | exact LeO.none _
  | refine LeO.ite ?_ ?_
  | refine LeO.bind ?_ (fun _ => ?_)
theorem spec_l09Draw.mono : ∀ a0 a1 a2 k, LeO (spec_l09Draw.f k a0 a1 a2) (spec_l09Draw.f (k + 1) a0 a1 a2) := by
 intro a0 a1 a2 k
 obtain ⟨ih0, ih1, ih2⟩ := spec_l09Draw.mono_l k
 unfold spec_l09Draw.f
 with_reducible repeat' first
   | exact ih0 _ _ _ _ _
   | exact ih1 _ _ _ _ _ _
   | exact ih2 _ _ _ _ _ _ _
   | exact spec_l01Draw.mono _ _ _ _
   | exact spec_l01DrawOf.mono _ _ _ _ _ _
   | exact spec_l09Ends.mono _ _
   | exact LeO.refl _
   | exact LeO.none _
   | refine LeO.ite ?_ ?_
   | refine LeO.bind ?_ (fun _ => ?_)
def spec_l09Draw.T18 : Bool × List (List Nat × List Nat) := (true, [([], []), ([], []), ([1], [1]), ([2], [2]), ([0, 3], [0, 3]), ([], []), ([5], [5]), ([6, 6], [6]), ([4, 7], [4, 7]), ([8, 7, 0, 1, 2, 3, 4, 5, 6, 7, 8], [0, 1, 8])])
def spec_l09Draw.B18 : List Nat := [0, 0, 2, 6, 15, 0, 32, 96, 255, 511]
theorem spec_l09Draw.tab18 : rtab .any (opsOf Tryz.f58 18) = spec_l09Draw.T18 := by kernel_rfl
theorem spec_l09Draw.bits18 : waitsOk spec_l09Draw.T18.2 spec_l09Draw.B18 = true := by kernel_rfl
set_option maxHeartbeats 8000000 in
set_option maxRecDepth 100000 in
theorem spec_l09Draw.calls (k : Nat) (g : Nat) (s0_0 : List Int) (s0_1 : Int) (s0_2 : Int) (r1 : ByteArray) (r2 : ByteArray) (r3 : Int) (r4 : Int) (w0 w : World) (hI : IsS80 w0 w g s0_0 s0_1 s0_2) (hB : Below w0.heap.size w0 w) (h : spec_l09Draw.f k s0_0 s0_1 s0_2 = some (r1, r2, r3, r4)) :
  Calls Tryz.prog 58 #[.pointer (some ⟨g, 0, none⟩)] w fun e w' => e = .returned (.tuple #[.string r1, .string r2]) ∧ IsS80 w0 w' g s0_0 r3 r4 ∧ Below w0.heap.size w0 w' ∧ KeepBut w w' g none := by
 have HI0 := Aside0.mk hI
 have HK := Aside0.mk (KeepBut.refl w g none)
 have HL := Aside0.mk hB.size
 clear hI
 have HW0 := Aside0.mk hB.size
 have HB := Aside0.mk hB
 clear hB
 have H : ((spec_l01Next.f s0_0 s0_1 s0_2 3).bind fun bt238 => (if bt238.1 = 0 then ((spec_l01Draw.f k s0_0 bt238.2.1 bt238.2.2).bind fun bt241 => ((spec_l01Next.f s0_0 bt241.2.1 bt241.2.2 (wrap64 ((bt241.1.size : Int) + 1))).bind fun bt244 => (if 0 ≤ bt244.1 then (if bt244.1 ≤ (bt241.1.size : Int) then (some (bt241.1, bt241.1.extract 0 (bt244.1 : Int).toNat, bt244.2.1, bt244.2.2)) else (none)) else (none)))) else ((spec_l01Next.f s0_0 bt238.2.1 bt238.2.2 3).bind fun bt247 => ((spec_l01DrawOf.f k s0_0 bt247.2.1 bt247.2.2 (wrap64 (1 + bt247.1)) 2).bind fun bt250 => ((spec_l01Next.f s0_0 bt250.2.1 bt250.2.2 2).bind fun bt253 => ((spec_l01DrawOf.f k s0_0 bt253.2.1 bt253.2.2 bt253.1 2).bind fun bt256 => (if bt250.1.size + bt256.1.size ≤ 9223372036854775807 then (if (bt250.1 ++ bt256.1).size + bt250.1.size ≤ 9223372036854775807 then ((spec_l09Ends.f k ((bt250.1 ++ bt256.1) ++ bt250.1)).bind fun t259 => ((spec_l01Next.f s0_0 bt256.2.1 bt256.2.2 6).bind fun bt262 => (spec_l09Draw.l0 k ((bt250.1 ++ bt256.1) ++ bt250.1) ((bt250.1 ++ bt256.1) ++ bt250.1) t259 bt262.1 s0_0 bt262.2.1 bt262.2.2))) else (none)) else (none)))))))) = some (r1, r2, r3, r4) := h
 clear h
 obtain ⟨⟨t238, t239, t240⟩, A2, H⟩ := qN H
 try dsimp only at H
 by_cases c3 : t238 = 0
 ·
  rw [if_pos c3] at H
  obtain ⟨c3b0, c3b1⟩ := zT c3
  clear c3
  obtain ⟨⟨t241, t242, t243⟩, A4, H⟩ := qN H
  try dsimp only at H
  obtain ⟨⟨t244, t245, t246⟩, A5, H⟩ := qN H
  try dsimp only at H
  by_cases c6 : 0 ≤ t244
  rotate_left
  ·
   rw [if_neg c6] at H
   exact absurd H (by simp)
  rw [if_pos c6] at H
  have c6b0 := eq_true c6
  have c6b1 : decide (0 ≤ t244) = true := decide_eq_true c6
  clear c6
  by_cases c7 : t244 ≤ (t241.size : Int)
  rotate_left
  ·
   rw [if_neg c7] at H
   exact absurd H (by simp)
  rw [if_pos c7] at H
  have c7b0 := eq_true c7
  have c7b1 : decide (t244 ≤ (t241.size : Int)) = true := decide_eq_true c7
  clear c7
  simp only [Option.some.injEq, Prod.mk.injEq] at H
  obtain ⟨rfl, rfl, rfl, rfl⟩ := H
  go_enter Tryz.func58, Tryz.ntmps58
  try go_wp2_with (first | ((with_reducible refine gate_callee (f := 60) rfl ?_); refine goesL_ (some 11) rfl rfl Tryz.func60 (by kernel_rfl) rfl #[.pointer (some ⟨g, 0, none⟩), .int .i64 3] rfl qV ?_; (with_reducible refine (spec_l01Next.calls g s0_0 s0_1 s0_2 3 t238 t239 t240 w0 _ ?side1 ?side2 A2.out).mono ?_); (case side1 => exact qI HI0.out); (case side2 => exact qS HB.out); rintro e w8 ⟨rfl, hi, hb, hk⟩; refine ⟨_, rfl, ?_⟩; replace HK := Aside0.mk (KeepBut.trans (qK HK.out) hk (.inl rfl)); replace HB := Aside0.mk (hb); replace HI0 := Aside0.mk (hi)) | ((with_reducible refine gate_callee (f := 78) rfl ?_); refine goesL_ (some 14) rfl rfl Tryz.func78 (by kernel_rfl) rfl #[.pointer (some ⟨g, 0, none⟩)] rfl qV ?_; (with_reducible refine (spec_l01Draw.calls k g s0_0 t239 t240 t241 t242 t243 w0 _ ?side1 ?side2 A4.out).mono ?_); (case side1 => exact qI HI0.out); (case side2 => exact qS HB.out); rintro e w9 ⟨rfl, hi, hb, hk⟩; refine ⟨_, rfl, ?_⟩; replace HK := Aside0.mk (KeepBut.trans (qK HK.out) hk (.inl rfl)); replace HB := Aside0.mk (hb); replace HI0 := Aside0.mk (hi)) | ((with_reducible refine gate_callee (f := 60) rfl ?_); refine goesL_ (some 19) rfl rfl Tryz.func60 (by kernel_rfl) rfl #[.pointer (some ⟨g, 0, none⟩), .int .i64 (wrap64 ((t241.size : Int) + 1))] rfl qV ?_; (with_reducible refine (spec_l01Next.calls g s0_0 t242 t243 (wrap64 ((t241.size : Int) + 1)) t244 t245 t246 w0 _ ?side1 ?side2 A5.out).mono ?_); (case side1 => exact qI HI0.out); (case side2 => exact qS HB.out); rintro e w10 ⟨rfl, hi, hb, hk⟩; refine ⟨_, rfl, ?_⟩; replace HK := Aside0.mk (KeepBut.trans (qK HK.out) hk (.inl rfl)); replace HB := Aside0.mk (hb); replace HI0 := Aside0.mk (hi)))
  have n0_ := Aside0.mk (IsS80.drew HI0.out)
  have n1_ := Aside0.mk (keep_drew HK.out)
  have n2_ := Aside0.mk (below_drew1 HB.out)
  clear HI0
  clear HK
  clear HB
  have HI0 := n0_
  have HK := n1_
  have HB := n2_
  clear n0_ n1_ n2_
  refine start_ (n := 6) (S := fun w' => True) (ds := []) #[false, false, false, false, false, false] (by kernel_rfl) rfl rfl trivial (fun hHeld => ?_)
  generalize w10.drew = w11 at HI0 HK HB hHeld ⊢
  refine pure_ (i := 0) (N := some 20) (v := ?_) (a' := ?_) #[true, false, false, false, false, false] rfl rfl (by kernel_rfl) (fun _ _ _ h => h) (Or.inl ⟨by rfl, ?_⟩) ?_ ?_
  rotate_left
  ·
   intro w'
   go_simp
   with_reducible rfl
  rotate_left
  ·
   simp only [Act.put, List.setIfInBounds_toArray, List.set_cons_zero, List.set_cons_succ, i64_w, i32_w]
   rfl
  refine pure_ (i := 1) (N := some 21) (v := ?_) (a' := ?_) #[true, true, false, false, false, false] rfl rfl (by kernel_rfl) (fun _ _ _ h => h) (Or.inl ⟨by rfl, ?_⟩) ?_ ?_
  rotate_left
  ·
   intro w'
   go_simp
   with_reducible rfl
  rotate_left
  ·
   simp only [Act.put, List.setIfInBounds_toArray, List.set_cons_zero, List.set_cons_succ, i64_w, i32_w]
   rfl
  refine pure_ (i := 2) (N := some 22) (v := ?_) (a' := ?_) #[true, true, true, false, false, false] rfl rfl (by kernel_rfl) (fun _ _ _ h => h) (Or.inl ⟨by rfl, ?_⟩) ?_ ?_
  rotate_left
  ·
   intro w'
   go_simp
   with_reducible rfl
  rotate_left
  ·
   simp only [Act.put, List.setIfInBounds_toArray, List.set_cons_zero, List.set_cons_succ, i64_w, i32_w]
   rfl
  refine pure_ (i := 3) (N := some 23) (v := ?_) (a' := ?_) #[true, true, true, true, false, false] rfl rfl (by kernel_rfl) (fun _ _ _ h => h) (Or.inl ⟨by rfl, ?_⟩) ?_ ?_
  rotate_left
  ·
   intro w'
   go_simp
   with_reducible rfl
  rotate_left
  ·
   simp only [Act.put, List.setIfInBounds_toArray, List.set_cons_zero, List.set_cons_succ, i64_w, i32_w]
   rfl
  refine pure_ (i := 4) (N := some 2) (v := ?_) (a' := ?_) #[true, true, true, true, true, false] rfl rfl (by kernel_rfl) (fun _ _ _ h => h) (Or.inl ⟨by rfl, ?_⟩) ?_ ?_
  rotate_left
  ·
   intro w'
   go_simp
   with_reducible rfl
  rotate_left
  ·
   simp only [Act.put, List.setIfInBounds_toArray, List.set_cons_zero, List.set_cons_succ, i64_w, i32_w]
   rfl
  refine pure_ (i := 5) (N := some 3) (v := ?_) (a' := ?_) #[true, true, true, true, true, true] rfl rfl (by kernel_rfl) (fun _ _ _ h => h) (Or.inl ⟨by rfl, ?_⟩) ?_ ?_
  rotate_left
  ·
   intro w'
   go_simp
   with_reducible rfl
  rotate_left
  ·
   simp only [Act.put, List.setIfInBounds_toArray, List.set_cons_zero, List.set_cons_succ, i64_w, i32_w]
   rfl
  refine done_ (by kernel_rfl) ?_
  try go_wp2
  go_ret2
  exact ⟨qE, qI HI0.out, qS HB.out, qK HK.out⟩
 rw [if_neg c3] at H
 obtain ⟨c3b0, c3b1⟩ := zF c3
 obtain ⟨⟨t247, t248, t249⟩, A12, H⟩ := qN H
 try dsimp only at H
 obtain ⟨⟨t250, t251, t252⟩, A13, H⟩ := qN H
 try dsimp only at H
 obtain ⟨⟨t253, t254, t255⟩, A14, H⟩ := qN H
 try dsimp only at H
 obtain ⟨⟨t256, t257, t258⟩, A15, H⟩ := qN H
 try dsimp only at H
 by_cases c16 : t250.size + t256.size ≤ 9223372036854775807
 rotate_left
 ·
  rw [if_neg c16] at H
  exact absurd H (by simp)

 rw [if_pos c16] at H
 have c16b0 := eq_true c16
 have c16b1 : decide (t250.size + t256.size ≤ 9223372036854775807) = true := decide_eq_true c16
 try have c16b2 : (9223372036854775807 < t250.size + t256.size) = False := eq_false (Nat.not_lt.2 c16)
 by_cases c17 : (t250 ++ t256).size + t250.size ≤ 9223372036854775807
 rotate_left
 ·
  rw [if_neg c17] at H
  exact absurd H (by simp)
 rw [if_pos c17] at H
 have c17b0 := eq_true c17
 have c17b1 : decide ((t250 ++ t256).size + t250.size ≤ 9223372036854775807) = true := decide_eq_true c17
 have c17y := c17
 try simp only [ByteArray.size_append] at c17y
 try have c17y0 := eq_true c17y
 try have c17y2 := eq_false (Nat.not_lt.2 c17y)
 clear c17y
 try have c17b2 : (9223372036854775807 < (t250 ++ t256).size + t250.size) = False := eq_false (Nat.not_lt.2 c17)
 obtain ⟨t259, A18, H⟩ := qN H
 try dsimp only at H
 obtain ⟨⟨t262, t263, t264⟩, A19, H⟩ := qN H
 try dsimp only at H
 have HC20 := Aside0.mk H
 clear H
 go_enter Tryz.func58, Tryz.ntmps58
 go_upto_block 0 with (first | ((with_reducible refine gate_callee (f := 60) rfl ?_); refine goesL_ (some 11) rfl rfl Tryz.func60 (by kernel_rfl) rfl #[.pointer (some ⟨g, 0, none⟩), .int .i64 3] rfl qV ?_; (with_reducible refine (spec_l01Next.calls g s0_0 s0_1 s0_2 3 t238 t239 t240 w0 _ ?side1 ?side2 A2.out).mono ?_); (case side1 => exact qI HI0.out); (case side2 => exact qS HB.out); rintro e w21 ⟨rfl, hi, hb, hk⟩; refine ⟨_, rfl, ?_⟩; replace HK := Aside0.mk (KeepBut.trans (qK HK.out) hk (.inl rfl)); replace HB := Aside0.mk (hb); replace HI0 := Aside0.mk (hi)) | ((with_reducible refine gate_callee (f := 60) rfl ?_); refine goesL_ (some 26) rfl rfl Tryz.func60 (by kernel_rfl) rfl #[.pointer (some ⟨g, 0, none⟩), .int .i64 3] rfl qV ?_; (with_reducible refine (spec_l01Next.calls g s0_0 t239 t240 3 t247 t248 t249 w0 _ ?side1 ?side2 A12.out).mono ?_); (case side1 => exact qI HI0.out); (case side2 => exact qS HB.out); rintro e w22 ⟨rfl, hi, hb, hk⟩; refine ⟨_, rfl, ?_⟩; replace HK := Aside0.mk (KeepBut.trans (qK HK.out) hk (.inl rfl)); replace HB := Aside0.mk (hb); replace HI0 := Aside0.mk (hi)) | ((with_reducible refine gate_callee (f := 59) rfl ?_); refine goesL_ (some 28) rfl rfl Tryz.func59 (by kernel_rfl) rfl #[.pointer (some ⟨g, 0, none⟩), .int .i64 (wrap64 (1 + t247)), .int .i64 2] rfl qV ?_; (with_reducible refine (spec_l01DrawOf.calls k g s0_0 t248 t249 (wrap64 (1 + t247)) 2 t250 t251 t252 w0 _ ?side1 ?side2 A13.out).mono ?_); (case side1 => exact qI HI0.out); (case side2 => exact qS HB.out); rintro e w23 ⟨rfl, hi, hb, hk⟩; refine ⟨_, rfl, ?_⟩; replace HK := Aside0.mk (KeepBut.trans (qK HK.out) hk (.inl rfl)); replace HB := Aside0.mk (hb); replace HI0 := Aside0.mk (hi)) | ((with_reducible refine gate_callee (f := 60) rfl ?_); refine goesL_ (some 32) rfl rfl Tryz.func60 (by kernel_rfl) rfl #[.pointer (some ⟨g, 0, none⟩), .int .i64 2] rfl qV ?_; (with_reducible refine (spec_l01Next.calls g s0_0 t251 t252 2 t253 t254 t255 w0 _ ?side1 ?side2 A14.out).mono ?_); (case side1 => exact qI HI0.out); (case side2 => exact qS HB.out); rintro e w24 ⟨rfl, hi, hb, hk⟩; refine ⟨_, rfl, ?_⟩; replace HK := Aside0.mk (KeepBut.trans (qK HK.out) hk (.inl rfl)); replace HB := Aside0.mk (hb); replace HI0 := Aside0.mk (hi)) | ((with_reducible refine gate_callee (f := 59) rfl ?_); refine goesL_ (some 33) rfl rfl Tryz.func59 (by kernel_rfl) rfl #[.pointer (some ⟨g, 0, none⟩), .int .i64 t253, .int .i64 2] rfl qV ?_; (with_reducible refine (spec_l01DrawOf.calls k g s0_0 t254 t255 t253 2 t256 t257 t258 w0 _ ?side1 ?side2 A15.out).mono ?_); (case side1 => exact qI HI0.out); (case side2 => exact qS HB.out); rintro e w25 ⟨rfl, hi, hb, hk⟩; refine ⟨_, rfl, ?_⟩; replace HK := Aside0.mk (KeepBut.trans (qK HK.out) hk (.inl rfl)); replace HB := Aside0.mk (hb); replace HI0 := Aside0.mk (hi)) | ((with_reducible refine gate_callee (f := 79) rfl ?_); refine goesL_ (some 39) rfl rfl Tryz.func79 (by kernel_rfl) rfl #[.string ((t250 ++ t256) ++ t250)] rfl qV ?_; (with_reducible refine (spec_l09Ends.calls k ((t250 ++ t256) ++ t250) t259 _ A18.out).mono ?_); rintro e w26 ⟨v260, rfl, ho0, hb⟩; refine ⟨_, rfl, ?_⟩; have HO261 := Aside0.mk (Kd.R_lower ho0 (keep_size (w := w) (g := g) (row := none) (qK HK.out))); replace HI0 := Aside0.mk (IsS80.below (qI HI0.out) hb); replace HK := Aside0.mk (KeepBut.trans (qK HK.out) (KeepBut.of_below hb g none) (.inl rfl)); replace HB := Aside0.mk (below_step (qS HB.out) hb)) | ((with_reducible refine gate_callee (f := 60) rfl ?_); refine goesL_ (some 41) rfl rfl Tryz.func60 (by kernel_rfl) rfl #[.pointer (some ⟨g, 0, none⟩), .int .i64 6] rfl qV ?_; (with_reducible refine (spec_l01Next.calls g s0_0 t257 t258 6 t262 t263 t264 w0 _ ?side1 ?side2 A19.out).mono ?_); (case side1 => exact qI HI0.out); (case side2 => exact qS HB.out); rintro e w27 ⟨rfl, hi, hb, hk⟩; refine ⟨_, rfl, ?_⟩; replace HO261 := Aside0.mk (Kd.R_mono (Kd.R_keep (IsS80.apart (show IsS80 w0 _ g s0_0 t257 t258 from qI HI0.out) (qR HO261.out) (by decide)) hk (fun _ h => h.2)) (fun _ h => h.1)); replace HK := Aside0.mk (KeepBut.trans (qK HK.out) hk (.inl rfl)); replace HB := Aside0.mk (hb); replace HI0 := Aside0.mk (hi)))
 (try simp only [Act.put, List.setIfInBounds_toArray, List.set_cons_zero, List.set_cons_succ])
 go_cut [7] (fun v7 wc => ∃ (kq : Nat) (x7_19 : ByteArray) (x1001_19 : Int) (x1002_19 : Int), v7 = .string x7_19 ∧ Aside0 (spec_l09Draw.j1 kq ((t250 ++ t256) ++ t250) x7_19 s0_0 x1001_19 x1002_19 = some (r1, r2, r3, r4)) ∧ Aside0 (kq ≤ k) ∧ Aside0 (IsS80 w0 wc g s0_0 x1001_19 x1002_19) ∧ Aside0 (KeepBut w wc g none) ∧ Aside0 (Below w0.heap.size w0 wc))
 case first =>
  have H := HC20.out
  clear HC20
  have H' := Aside0.mk H
  clear H
  go_wp2
  go_loopg [7, 9] k (fun kq v7 v9 w' => ∃ (x7_1 : ByteArray) (x9_1 : Int) (x1001_1 : Int) (x1002_1 : Int), v7 = .string x7_1 ∧ v9 = .int .i64 x9_1 ∧ Aside0 (spec_l09Draw.l0 kq ((t250 ++ t256) ++ t250) x7_1 t259 x9_1 s0_0 x1001_1 x1002_1 = some (r1, r2, r3, r4)) ∧ Aside0 (kq ≤ k) ∧ Aside0 (Kd.R (Kd.int .i64) 2 w' w.heap.size (fun _ => True) v260 t259) ∧ Aside0 (IsS80 w0 w' g s0_0 x1001_1 x1002_1) ∧ Aside0 (KeepBut w w' g none) ∧ Aside0 (Below w0.heap.size w0 w'))
  case atStart => exact ⟨((t250 ++ t256) ++ t250), (t262), (t263), (t264), qF, qF, H', ⟨Nat.le_refl _⟩, ⟨qR HO261.out⟩, ⟨qI HI0.out⟩, ⟨qK HK.out⟩, ⟨qS HB.out⟩⟩
  case round =>
   clear H'
   obtain ⟨x7_1, x9_1, x1001_1, x1002_1, rfl, rfl, HA, HK1, HO_8, HI0, HK, HB⟩ := hrel
   cases gk with
   | zero => exact absurd HA.out (by simp [spec_l09Draw.l0])
   | succ k1 =>
    have H := HA.out
    clear HA
    simp only [spec_l09Draw.l0] at H
    by_cases c28 : x9_1 > 0
    rotate_left
    ·
     rw [if_neg c28] at H
     have c28b0 : decide (0 < x9_1) = false := decide_eq_false c28
     clear c28
     (first | rw [c28b0] | (simp only [i64_w, i32_w]; rw [c28b0]) | skip)
     have H' := Aside0.mk H
     clear H
     go_wp2
     go_meet
     case rel => exact ⟨_, (x7_1), (x1001_1), (x1002_1), qF, H', ⟨by have := HK1.out; first | omega | exact Nat.le_refl _⟩, ⟨qI HI0.out⟩, ⟨qK HK.out⟩, ⟨qS HB.out⟩⟩
    rw [if_pos c28] at H
    have c28b0 : decide (0 < x9_1) = true := decide_eq_true c28
    clear c28
    (first | rw [c28b0] | (simp only [i64_w, i32_w]; rw [c28b0]) | skip)
    by_cases c29 : (x7_1.size : Int) < 48
    rotate_left
    ·
     rw [if_neg c29] at H
     have c29b0 : decide ((x7_1.size : Int) < 48) = false := decide_eq_false c29
     have c29b1 : decide (x7_1.size < 48) = false := decide_eq_false (by omega)
     clear c29
     have H' := Aside0.mk H
     clear H
     go_wp2
     go_meet
     case rel => exact ⟨_, (x7_1), (x1001_1), (x1002_1), qF, H', ⟨by have := HK1.out; first | omega | exact Nat.le_refl _⟩, ⟨qI HI0.out⟩, ⟨qK HK.out⟩, ⟨qS HB.out⟩⟩
    rw [if_pos c29] at H
    have c29b0 : decide ((x7_1.size : Int) < 48) = true := decide_eq_true c29
    have c29b1 : decide (x7_1.size < 48) = true := decide_eq_true (by omega)
    clear c29
    obtain ⟨⟨t265, t266, t267⟩, A30, H⟩ := qN H
    try dsimp only at H
    by_cases c31 : 0 ≤ t265
    rotate_left
    ·
     rw [if_neg c31] at H
     exact absurd H (by simp)
    rw [if_pos c31] at H
    have c31b0 : decide (0 ≤ t265) = true := decide_eq_true c31
    clear c31
    by_cases c32 : t265 < (t259.length : Int)
    rotate_left
    ·
     rw [if_neg c32] at H
     exact absurd H (by simp)
    rw [if_pos c32] at H
    have c32b0 : decide (t265 < (t259.length : Int)) = true := decide_eq_true c32
    clear c32
    by_cases c33 : 0 ≤ (rd t259 t265)
    rotate_left
    ·
     rw [if_neg c33] at H
     exact absurd H (by simp)
    rw [if_pos c33] at H
    have c33b0 := eq_true c33
    have c33b1 : decide (0 ≤ (rd t259 t265)) = true := decide_eq_true c33
    clear c33
    by_cases c34 : (rd t259 t265) ≤ (((t250 ++ t256) ++ t250).size : Int)
    rotate_left
    ·
     rw [if_neg c34] at H
     exact absurd H (by simp)
    rw [if_pos c34] at H
    have c34b0 := eq_true c34
    have c34b1 : decide ((rd t259 t265) ≤ (((t250 ++ t256) ++ t250).size : Int)) = true := decide_eq_true c34
    by_cases c35 : x7_1.size + (((t250 ++ t256) ++ t250).extract ((rd t259 t265) : Int).toNat ((t250 ++ t256) ++ t250).size).size ≤ 9223372036854775807
    rotate_left
    ·
     rw [if_neg c35] at H
     exact absurd H (by simp)
    rw [if_pos c35] at H
    have c35b0 := eq_true c35
    have c35b1 : decide (x7_1.size + (((t250 ++ t256) ++ t250).extract ((rd t259 t265) : Int).toNat ((t250 ++ t256) ++ t250).size).size ≤ 9223372036854775807) = true := decide_eq_true c35
    try have c35b2 : (9223372036854775807 < x7_1.size + (((t250 ++ t256) ++ t250).extract ((rd t259 t265) : Int).toNat ((t250 ++ t256) ++ t250).size).size) = False := eq_false (Nat.not_lt.2 c35)
    have c34y1 : ((rd t259 t265) ≤ ((t250.size : Int) + (t256.size : Int) + (t250.size : Int))) = True := eq_true (by have h_ := c34; rw [ByteArray.size_append, ByteArray.size_append] at h_; omega)
    have c34y2 : (((t250.size : Int) + (t256.size : Int) + (t250.size : Int)) < (rd t259 t265)) = False := eq_false (by have h_ := c34; rw [ByteArray.size_append, ByteArray.size_append] at h_; omega)
    have c35y1 : (9223372036854775807 < x7_1.size + (t250.size + t256.size + t250.size - (rd t259 t265).toNat)) = False := eq_false (by have h_ := c35; simp only [ByteArray.size_extract, ByteArray.size_append] at h_; omega)
    have H' := Aside0.mk H
    clear H
    obtain ⟨Ao36, co36, eo36⟩ := Kd.R_slice HO_8.out
    subst eo36
    go_wp2_with (first | ((with_reducible refine gate_callee (f := 60) rfl ?_); refine goesL_ (some 57) rfl rfl Tryz.func60 (by kernel_rfl) rfl #[.pointer (some ⟨g, 0, none⟩), .int .i64 (t259.length : Int)] rfl qV ?_; (with_reducible refine (spec_l01Next.calls g s0_0 x1001_1 x1002_1 (t259.length : Int) t265 t266 t267 w0 _ ?side1 ?side2 A30.out).mono ?_); (case side1 => exact qI HI0.out); (case side2 => exact qS HB.out); rintro e w37 ⟨rfl, hi, hb, hk⟩; refine ⟨_, rfl, ?_⟩; replace HO_8 := Aside0.mk (Kd.R_mono (Kd.R_keep (IsS80.apart (show IsS80 w0 _ g s0_0 x1001_1 x1002_1 from qI HI0.out) (qR HO_8.out) (by decide)) hk (fun _ h => h.2)) (fun _ h => h.1)); replace HK := Aside0.mk (KeepBut.trans (qK HK.out) hk (.inl rfl)); replace HB := Aside0.mk (hb); replace HI0 := Aside0.mk (hi); have p268 : 0 ≤ (t265 : Int) := of_decide_eq_true (by first | (with_reducible assumption) | assumption); have q268 : t265 < (t259.length : Int) := of_decide_eq_true (by first | (with_reducible assumption) | assumption); obtain ⟨ad268, e268, hx268_0⟩ := Kd.at_int (Kd.R_reads' HO_8.out).2.2 t265 p268 q268; cases e268; replace p268 := eq_true p268; replace q268 := eq_true q268))
    go_roundg k1
    case measure => have := HK1.out; omega
    case rel => exact ⟨(x7_1 ++ (((t250 ++ t256) ++ t250).extract ((rd t259 t265) : Int).toNat ((t250 ++ t256) ++ t250).size)), (wrap64 (x9_1 - 1)), (t266), (t267), qF, qF, H', ⟨by have := HK1.out; omega⟩, ⟨qR HO_8.out⟩, ⟨qI HI0.out⟩, ⟨qK HK.out⟩, ⟨qS HB.out⟩⟩
 case rest =>
  clear HC20
  obtain ⟨kq, x7_19, x1001_19, x1002_19, rfl, HA, HJ19, HI0, HK, HB⟩ := hcut
  cases kq with
  | zero => exact absurd HA.out (by simp [spec_l09Draw.j1])
  | succ kj19 =>
   have H := HA.out
   clear HA
   simp only [spec_l09Draw.j1] at H
   obtain ⟨⟨t269, t270, t271⟩, A38, H⟩ := qN H
   try dsimp only at H
   by_cases c39 : t269 = 0
   ·
    rw [if_pos c39] at H
    obtain ⟨c39b0, c39b1⟩ := zT c39
    clear c39
    obtain ⟨⟨t272, t273, t274⟩, A40, H⟩ := qN H
    try dsimp only at H
    by_cases c41 : 0 ≤ t272
    rotate_left
    ·
     rw [if_neg c41] at H
     exact absurd H (by simp)
    rw [if_pos c41] at H
    have c41b0 := eq_true c41
    have c41b1 : decide (0 ≤ t272) = true := decide_eq_true c41
    clear c41
    by_cases c42 : t272 ≤ (x7_19.size : Int)
    rotate_left
    ·
     rw [if_neg c42] at H
     exact absurd H (by simp)
    rw [if_pos c42] at H
    have c42b0 := eq_true c42
    have c42b1 : decide (t272 ≤ (x7_19.size : Int)) = true := decide_eq_true c42
    clear c42
    obtain ⟨⟨t275, t276, t277⟩, A43, H⟩ := qN H
    try dsimp only at H
    obtain ⟨ji44, hji44⟩ : ∃ j_ : Int, (mx (wrap64 (((x7_19.extract (t272 : Int).toNat x7_19.size).size : Int) - t275)) 0) = j_ := ⟨_, rfl⟩
    replace H : (if 0 ≤ (ji44) then (if (ji44) ≤ ((x7_19.extract (t272 : Int).toNat x7_19.size).size : Int) then (some ((x7_19.extract (t272 : Int).toNat x7_19.size).extract 0 ((ji44) : Int).toNat, ((t250 ++ t256) ++ t250), t276, t277)) else (none)) else (none)) = some (r1, r2, r3, r4) := by first | (rw [hji44] at H; exact H) | (simp only [hji44] at H ⊢; exact H)
    (try rw [hji44] at A38)
    (try rw [hji44] at A40)
    (try rw [hji44] at A43)
    have hji44_ : (if (wrap64 (((x7_19.extract (t272 : Int).toNat x7_19.size).size : Int) - t275)) < 0 then 0 else (wrap64 (((x7_19.extract (t272 : Int).toNat x7_19.size).size : Int) - t275))) = ji44 := hji44
    by_cases c45 : 0 ≤ (ji44)
    rotate_left
    ·
     rw [if_neg c45] at H
     exact absurd H (by simp)
    rw [if_pos c45] at H
    have c45b0 := eq_true c45
    have c45b1 : decide (0 ≤ (ji44)) = true := decide_eq_true c45
    clear c45
    by_cases c46 : (ji44) ≤ ((x7_19.extract (t272 : Int).toNat x7_19.size).size : Int)
    rotate_left
    ·
     rw [if_neg c46] at H
     exact absurd H (by simp)
    rw [if_pos c46] at H
    have c46b0 := eq_true c46
    have c46b1 : decide ((ji44) ≤ ((x7_19.extract (t272 : Int).toNat x7_19.size).size : Int)) = true := decide_eq_true c46
    clear c46
    have hsz_ : (x7_19.extract (t272 : Int).toNat x7_19.size).size = x7_19.size - t272.toNat := by rw [ByteArray.size_extract]; omega
    have hcw_ : ji44 ≤ ((x7_19.size - t272.toNat : Nat) : Int) := by have h_ := of_decide_eq_true c46b1; rw [hsz_] at h_; exact h_
    have hcv_ : 0 ≤ ji44 := of_decide_eq_true c45b1
    rw [hsz_] at hji44_
    clear c45b0 c45b1 c46b0 c46b1 hji44
    by_cases cW : wrap64 (((x7_19.size - t272.toNat : Nat) : Int) - t275) < 0
    ·
     rw [if_pos cW] at hji44_
     have hE_ : (x7_19.extract (t272 : Int).toNat x7_19.size).extract 0 ((ji44) : Int).toNat = ByteArray.empty := by rw [← hji44_]; exact ByteArray.ext (by simp)
     rw [hE_] at H
     have cW0 := eq_true cW
     have cW1 : (0 ≤ wrap64 (((x7_19.size - t272.toNat : Nat) : Int) - t275)) = False := eq_false (Int.not_le.2 cW)
     clear cW hE_ hcw_ hcv_ hsz_ hji44_
     simp only [Option.some.injEq, Prod.mk.injEq] at H
     obtain ⟨rfl, rfl, rfl, rfl⟩ := H
     go_wp2_with (first | ((with_reducible refine gate_callee (f := 60) rfl ?_); refine goesL_ (some 63) rfl rfl Tryz.func60 (by kernel_rfl) rfl #[.pointer (some ⟨g, 0, none⟩), .int .i64 4] rfl qV ?_; (with_reducible refine (spec_l01Next.calls g s0_0 x1001_19 x1002_19 4 t269 t270 t271 w0 _ ?side1 ?side2 A38.out).mono ?_); (case side1 => exact qI HI0.out); (case side2 => exact qS HB.out); rintro e w47 ⟨rfl, hi, hb, hk⟩; refine ⟨_, rfl, ?_⟩; replace HK := Aside0.mk (KeepBut.trans (qK HK.out) hk (.inl rfl)); replace HB := Aside0.mk (hb); replace HI0 := Aside0.mk (hi)) | ((with_reducible refine gate_callee (f := 60) rfl ?_); refine goesL_ (some 70) rfl rfl Tryz.func60 (by kernel_rfl) rfl #[.pointer (some ⟨g, 0, none⟩), .int .i64 (((t250 ++ t256) ++ t250).size : Int)] rfl qV ?_; (with_reducible refine (spec_l01Next.calls g s0_0 t270 t271 (((t250 ++ t256) ++ t250).size : Int) t272 t273 t274 w0 _ ?side1 ?side2 A40.out).mono ?_); (case side1 => exact qI HI0.out); (case side2 => exact qS HB.out); rintro e w48 ⟨rfl, hi, hb, hk⟩; refine ⟨_, rfl, ?_⟩; replace HK := Aside0.mk (KeepBut.trans (qK HK.out) hk (.inl rfl)); replace HB := Aside0.mk (hb); replace HI0 := Aside0.mk (hi)) | ((with_reducible refine gate_callee (f := 60) rfl ?_); refine goesL_ (some 76) rfl rfl Tryz.func60 (by kernel_rfl) rfl #[.pointer (some ⟨g, 0, none⟩), .int .i64 4] rfl qV ?_; (with_reducible refine (spec_l01Next.calls g s0_0 t273 t274 4 t275 t276 t277 w0 _ ?side1 ?side2 A43.out).mono ?_); (case side1 => exact qI HI0.out); (case side2 => exact qS HB.out); rintro e w49 ⟨rfl, hi, hb, hk⟩; refine ⟨_, rfl, ?_⟩; replace HK := Aside0.mk (KeepBut.trans (qK HK.out) hk (.inl rfl)); replace HB := Aside0.mk (hb); replace HI0 := Aside0.mk (hi)))
     go_ret2
     exact ⟨by first | rfl | (simp [errW_none, errW_some] <;> rfl) | (simp only [← hji44]; first | rfl | (simp [errW_none, errW_some] <;> rfl)) | (simp [*, errW_none, errW_some] <;> rfl), qI HI0.out, qS HB.out, qK HK.out⟩
    rw [if_neg cW] at hji44_
    rw [← hji44_] at H hcw_ hcv_
    have cW0 := eq_false cW
    have cW1 := eq_true hcv_
    have cW2 := eq_true hcw_
    clear cW hcw_ hcv_ hsz_ hji44_
    simp only [Option.some.injEq, Prod.mk.injEq] at H
    obtain ⟨rfl, rfl, rfl, rfl⟩ := H
    go_wp2_with (first | ((with_reducible refine gate_callee (f := 60) rfl ?_); refine goesL_ (some 63) rfl rfl Tryz.func60 (by kernel_rfl) rfl #[.pointer (some ⟨g, 0, none⟩), .int .i64 4] rfl qV ?_; (with_reducible refine (spec_l01Next.calls g s0_0 x1001_19 x1002_19 4 t269 t270 t271 w0 _ ?side1 ?side2 A38.out).mono ?_); (case side1 => exact qI HI0.out); (case side2 => exact qS HB.out); rintro e w47 ⟨rfl, hi, hb, hk⟩; refine ⟨_, rfl, ?_⟩; replace HK := Aside0.mk (KeepBut.trans (qK HK.out) hk (.inl rfl)); replace HB := Aside0.mk (hb); replace HI0 := Aside0.mk (hi)) | ((with_reducible refine gate_callee (f := 60) rfl ?_); refine goesL_ (some 70) rfl rfl Tryz.func60 (by kernel_rfl) rfl #[.pointer (some ⟨g, 0, none⟩), .int .i64 (((t250 ++ t256) ++ t250).size : Int)] rfl qV ?_; (with_reducible refine (spec_l01Next.calls g s0_0 t270 t271 (((t250 ++ t256) ++ t250).size : Int) t272 t273 t274 w0 _ ?side1 ?side2 A40.out).mono ?_); (case side1 => exact qI HI0.out); (case side2 => exact qS HB.out); rintro e w48 ⟨rfl, hi, hb, hk⟩; refine ⟨_, rfl, ?_⟩; replace HK := Aside0.mk (KeepBut.trans (qK HK.out) hk (.inl rfl)); replace HB := Aside0.mk (hb); replace HI0 := Aside0.mk (hi)) | ((with_reducible refine gate_callee (f := 60) rfl ?_); refine goesL_ (some 76) rfl rfl Tryz.func60 (by kernel_rfl) rfl #[.pointer (some ⟨g, 0, none⟩), .int .i64 4] rfl qV ?_; (with_reducible refine (spec_l01Next.calls g s0_0 t273 t274 4 t275 t276 t277 w0 _ ?side1 ?side2 A43.out).mono ?_); (case side1 => exact qI HI0.out); (case side2 => exact qS HB.out); rintro e w49 ⟨rfl, hi, hb, hk⟩; refine ⟨_, rfl, ?_⟩; replace HK := Aside0.mk (KeepBut.trans (qK HK.out) hk (.inl rfl)); replace HB := Aside0.mk (hb); replace HI0 := Aside0.mk (hi)))
    go_ret2
    exact ⟨by first | rfl | (simp [errW_none, errW_some] <;> rfl) | (simp only [← hji44]; first | rfl | (simp [errW_none, errW_some] <;> rfl)) | (simp [*, errW_none, errW_some] <;> rfl), qI HI0.out, qS HB.out, qK HK.out⟩
   rw [if_neg c39] at H
   obtain ⟨c39b0, c39b1⟩ := zF c39
   by_cases c50 : t269 = 1
   rotate_left
   ·
    rw [if_neg c50] at H
    obtain ⟨c50b0, c50b1⟩ := zF c50
    simp only [Option.some.injEq, Prod.mk.injEq] at H
    obtain ⟨rfl, rfl, rfl, rfl⟩ := H
    go_wp2_with (first | ((with_reducible refine gate_callee (f := 60) rfl ?_); refine goesL_ (some 63) rfl rfl Tryz.func60 (by kernel_rfl) rfl #[.pointer (some ⟨g, 0, none⟩), .int .i64 4] rfl qV ?_; (with_reducible refine (spec_l01Next.calls g s0_0 x1001_19 x1002_19 4 t269 t270 t271 w0 _ ?side1 ?side2 A38.out).mono ?_); (case side1 => exact qI HI0.out); (case side2 => exact qS HB.out); rintro e w66 ⟨rfl, hi, hb, hk⟩; refine ⟨_, rfl, ?_⟩; replace HK := Aside0.mk (KeepBut.trans (qK HK.out) hk (.inl rfl)); replace HB := Aside0.mk (hb); replace HI0 := Aside0.mk (hi)))
    go_ret2
    exact ⟨qE, qI HI0.out, qS HB.out, qK HK.out⟩
   rw [if_pos c50] at H
   obtain ⟨c50b0, c50b1⟩ := zT c50
   clear c50
   have HC51 := Aside0.mk H
   clear H
   go_upto_region 17 with (first | ((with_reducible refine gate_callee (f := 60) rfl ?_); refine goesL_ (some 63) rfl rfl Tryz.func60 (by kernel_rfl) rfl #[.pointer (some ⟨g, 0, none⟩), .int .i64 4] rfl qV ?_; (with_reducible refine (spec_l01Next.calls g s0_0 x1001_19 x1002_19 4 t269 t270 t271 w0 _ ?side1 ?side2 A38.out).mono ?_); (case side1 => exact qI HI0.out); (case side2 => exact qS HB.out); rintro e w52 ⟨rfl, hi, hb, hk⟩; refine ⟨_, rfl, ?_⟩; replace HK := Aside0.mk (KeepBut.trans (qK HK.out) hk (.inl rfl)); replace HB := Aside0.mk (hb); replace HI0 := Aside0.mk (hi)))
   (try simp only [Act.put, List.setIfInBounds_toArray, List.set_cons_zero, List.set_cons_succ])
   go_cut [89] (fun v89 wc => ∃ (kq : Nat) (x89_50 : Bool) (x1001_50 : Int) (x1002_50 : Int), v89 = .bool x89_50 ∧ Aside0 (spec_l09Draw.j2 kq ((t250 ++ t256) ++ t250) x7_19 x89_50 s0_0 x1001_50 x1002_50 = some (r1, r2, r3, r4)) ∧ Aside0 (kq ≤ kj19) ∧ Aside0 (IsS80 w0 wc g s0_0 x1001_50 x1002_50) ∧ Aside0 (KeepBut w wc g none) ∧ Aside0 (Below w0.heap.size w0 wc))
   case first =>
    have H := HC51.out
    clear HC51
    by_cases c53 : (x7_19.size : Int) > 2
    rotate_left
    ·
     rw [if_neg c53] at H
     have c53b0 : decide (2 < (x7_19.size : Int)) = false := decide_eq_false c53
     have c53b1 : decide (2 < x7_19.size) = false := decide_eq_false (by omega)
     clear c53
     (first | rw [c53b0] | (simp only [i64_w, i32_w]; rw [c53b0]) | skip)
     have H' := Aside0.mk H
     clear H
     go_wp2
     go_meet
     case rel => exact ⟨_, (false), (t270), (t271), qF, H', ⟨by have := HJ19.out; first | omega | exact Nat.le_refl _⟩, ⟨qI HI0.out⟩, ⟨qK HK.out⟩, ⟨qS HB.out⟩⟩
    rw [if_pos c53] at H
    have c53b0 : decide (2 < (x7_19.size : Int)) = true := decide_eq_true c53
    have c53b1 : decide (2 < x7_19.size) = true := decide_eq_true (by omega)
    clear c53
    (first | rw [c53b0] | (simp only [i64_w, i32_w]; rw [c53b0]) | skip)
    obtain ⟨⟨t278, t279, t280⟩, A54, H⟩ := qN H
    try dsimp only at H
    have H' := Aside0.mk H
    clear H
    go_wp2_with (first | (go_at_call 60; (with_reducible refine (spec_l01Next.calls g s0_0 t270 t271 2 t278 t279 t280 w0 _ ?side1 ?side2 A54.out).mono ?_); (case side1 => exact qI HI0.out); (case side2 => exact qS HB.out); rintro e w55 ⟨rfl, hi, hb, hk⟩; replace HK := Aside0.mk (KeepBut.trans (qK HK.out) hk (.inl rfl)); replace HB := Aside0.mk (hb); replace HI0 := Aside0.mk (hi)))
    go_meet
    case rel => exact ⟨_, ((t278 == 0)), (t279), (t280), qF, H', ⟨by have := HJ19.out; first | omega | exact Nat.le_refl _⟩, ⟨qI HI0.out⟩, ⟨qK HK.out⟩, ⟨qS HB.out⟩⟩
   case rest =>
    clear HC51
    obtain ⟨kq, x89_50, x1001_50, x1002_50, rfl, HA, HJ50, HI0, HK, HB⟩ := hcut
    cases kq with
    | zero => exact absurd HA.out (by simp [spec_l09Draw.j2])
    | succ kj50 =>
     have H := HA.out
     clear HA
     simp only [spec_l09Draw.j2] at H
     by_cases c56 : x89_50 = true
     rotate_left
     ·
      replace c56 := Bool.eq_false_iff.mpr c56
      subst c56
      rw [if_neg (show ¬ (false = true) by decide)] at H
      simp only [Option.some.injEq, Prod.mk.injEq] at H
      obtain ⟨rfl, rfl, rfl, rfl⟩ := H
      go_wp2
      go_ret2
      exact ⟨qE, qI HI0.out, qS HB.out, qK HK.out⟩
     subst c56
     rw [if_pos rfl] at H
     obtain ⟨ji57, hji57⟩ : ∃ j_ : Int, (wrap64 ((x7_19.size : Int) - 1)) = j_ := ⟨_, rfl⟩
     replace H : (if 0 ≤ (ji57) then (if (ji57) ≤ (x7_19.size : Int) then ((spec_l01Next.f s0_0 x1001_50 x1002_50 3).bind fun bt281 => ((spec_l01Letter.f bt281.1).bind fun t284 => (if (x7_19.extract 0 ((ji57) : Int).toNat).size + t284.size ≤ 9223372036854775807 then (some ((x7_19.extract 0 ((ji57) : Int).toNat) ++ t284, ((t250 ++ t256) ++ t250), bt281.2.1, bt281.2.2)) else (none)))) else (none)) else (none)) = some (r1, r2, r3, r4) := by first | (rw [hji57] at H; exact H) | (simp only [hji57] at H ⊢; exact H)
     have hji57w : (IntKind.i64.wrap ((x7_19.size : Int) - 1)) = ji57 := (i64_w _).trans hji57
     by_cases c58 : 0 ≤ (ji57)
     rotate_left
     ·
      rw [if_neg c58] at H
      exact absurd H (by simp)
     rw [if_pos c58] at H
     have c58b0 := eq_true c58
     have c58b1 : decide (0 ≤ (ji57)) = true := decide_eq_true c58
     clear c58
     by_cases c59 : (ji57) ≤ (x7_19.size : Int)
     rotate_left
     ·
      rw [if_neg c59] at H
      exact absurd H (by simp)
     rw [if_pos c59] at H
     have c59b0 := eq_true c59
     have c59b1 : decide ((ji57) ≤ (x7_19.size : Int)) = true := decide_eq_true c59
     clear c59
     obtain ⟨⟨t281, t282, t283⟩, A60, H⟩ := qN H
     try dsimp only at H
     obtain ⟨t284, A61, H⟩ := qN H
     try dsimp only at H
     by_cases c62 : (x7_19.extract 0 ((ji57) : Int).toNat).size + t284.size ≤ 9223372036854775807
     rotate_left
     ·
      rw [if_neg c62] at H
      exact absurd H (by simp)
     rw [if_pos c62] at H
     have c62b0 := eq_true c62
     have c62b1 : decide ((x7_19.extract 0 ((ji57) : Int).toNat).size + t284.size ≤ 9223372036854775807) = true := decide_eq_true c62
     try have c62b2 : (9223372036854775807 < (x7_19.extract 0 ((ji57) : Int).toNat).size + t284.size) = False := eq_false (Nat.not_lt.2 c62)
     have c62y1 : (9223372036854775807 < ji57.toNat + t284.size) = False := eq_false (by have h_ := c62; have h2_ : ji57 ≤ (x7_19.size : Int) := of_decide_eq_true (by first | (with_reducible assumption) | assumption); simp only [ByteArray.size_extract] at h_; omega)
     simp only [Option.some.injEq, Prod.mk.injEq] at H
     obtain ⟨rfl, rfl, rfl, rfl⟩ := H
     try go_wp2
     have n0_ := Aside0.mk (IsS80.drew HI0.out)
     have n1_ := Aside0.mk (keep_drew HK.out)
     have n2_ := Aside0.mk (below_drew1 HB.out)
     clear HI0
     clear HK
     clear HB
     have HI0 := n0_
     have HK := n1_
     have HB := n2_
     clear n0_ n1_ n2_
     refine start_ (n := 10) (S := fun w' => True) (ds := []) #[false, false, false, false, false, false, false, false, false, false] (by kernel_rfl) rfl rfl trivial (fun hHeld => ?_); refine with_tabW spec_l09Draw.tab18 spec_l09Draw.bits18 (fun HT_ HW_ => ?_)
     generalize wc.drew = w63 at HI0 HK HB hHeld ⊢
     refine pure_ (i := 0) (N := some 90) (v := ?_) (a' := ?_) #[true, false, false, false, false, false, false, false, false, false] rfl rfl (any_of HT_.out (by kernel_rfl)) (fun _ _ _ h => h) (Or.inl ⟨by rfl, ?_⟩) ?_ ?_
     rotate_left
     ·
      intro w'
      go_simp
      with_reducible rfl
     rotate_left
     ·
      simp only [Act.put, List.setIfInBounds_toArray, List.set_cons_zero, List.set_cons_succ, i64_w, i32_w]
      rfl
     refine pure_ (i := 1) (N := some 91) (v := ?_) (a' := ?_) #[true, true, false, false, false, false, false, false, false, false] rfl rfl (any_of HT_.out (by kernel_rfl)) (fun _ _ _ h => h) (Or.inl ⟨by rfl, ?_⟩) ?_ ?_
     rotate_left
     ·
      intro w'
      go_simp
      with_reducible rfl
     rotate_left
     ·
      simp only [Act.put, List.setIfInBounds_toArray, List.set_cons_zero, List.set_cons_succ, i64_w, i32_w]
      rfl
     refine pure_ (i := 2) (N := some 92) (v := ?_) (a' := ?_) #[true, true, true, false, false, false, false, false, false, false] rfl rfl (any_of HT_.out (by kernel_rfl)) (fun _ _ _ h => h) (Or.inl ⟨by rfl, ?_⟩) ?_ ?_
     rotate_left
     ·
      intro w'
      go_simp
      with_reducible rfl
     rotate_left
     ·
      simp only [Act.put, List.setIfInBounds_toArray, List.set_cons_zero, List.set_cons_succ, i64_w, i32_w]
      rfl
     refine pure_ (i := 3) (N := some 93) (v := ?_) (a' := ?_) #[true, true, true, true, false, false, false, false, false, false] rfl rfl (any_of HT_.out (by kernel_rfl)) (fun _ _ _ h => h) (Or.inl ⟨by rfl, ?_⟩) ?_ ?_
     rotate_left
     ·
      intro w'
      go_simp
      with_reducible rfl
     rotate_left
     ·
      simp only [Act.put, List.setIfInBounds_toArray, List.set_cons_zero, List.set_cons_succ, i64_w, i32_w]
      rfl
     refine pure_ (i := 4) (N := some 94) (v := ?_) (a' := ?_) #[true, true, true, true, true, false, false, false, false, false] rfl rfl (any_of HT_.out (by kernel_rfl)) (fun _ _ _ h => h) (Or.inl ⟨by rfl, ?_⟩) ?_ ?_
     rotate_left
     ·
      intro w'
      go_simp
      with_reducible rfl
     rotate_left
     ·
      simp only [Act.put, List.setIfInBounds_toArray, List.set_cons_zero, List.set_cons_succ, i64_w, i32_w]
      rfl
     refine pure_ (i := 5) (N := some 95) (v := ?_) (a' := ?_) #[true, true, true, true, true, true, false, false, false, false] rfl rfl (any_of HT_.out (by kernel_rfl)) (fun _ _ _ h => h) (Or.inl ⟨by rfl, ?_⟩) ?_ ?_
     rotate_left
     ·
      intro w'
      go_simp
      with_reducible rfl
     rotate_left
     ·
      simp only [Act.put, List.setIfInBounds_toArray, List.set_cons_zero, List.set_cons_succ, i64_w, i32_w]
      rfl
     refine one_ (i := 6) (N := some 96) #[true, true, true, true, true, true, true, false, false, false] rfl rfl (one_of HT_.out (by kernel_rfl)) (by decide) (fun K hK => ?_)
     refine goes_ Tryz.func60 (by kernel_rfl) rfl #[.pointer (some ⟨g, 0, none⟩), .int .i64 3] (by rfl) rfl rfl qV ?_
     with_reducible refine (spec_l01Next.calls g s0_0 x1001_50 x1002_50 3 t281 t282 t283 w0 _ ?side1 ?side2 A60.out).mono ?_
     (case side1 => exact qI HI0.out)
     (case side2 => exact qS HB.out)
     rintro e w64 ⟨rfl, hi, hb, hk⟩
     refine ⟨_, rfl, ?_⟩
     have n0_ := Aside0.mk (KeepBut.trans (qK HK.out) hk (.inl rfl))
     have n1_ := Aside0.mk (hb)
     have n2_ := Aside0.mk (hi)
     clear HK
     clear HB
     clear HI0
     have HK := n0_
     have HB := n1_
     have HI0 := n2_
     clear n0_ n1_ n2_
     (try clear hb)
     (try clear hb2)
     (try clear hk)
     (try clear hi)
     refine hK.out _ _ trivial (fun hHeld => ?_)
     clear hK K
     refine norm_ (a' := ?_) ?_ ?_
     rotate_left
     ·
      show Act.put _ (some 96) _ = _
      simp only [Act.put, List.setIfInBounds_toArray, List.set_cons_zero, List.set_cons_succ, i64_w, i32_w]
      rfl
     refine one_ (i := 7) (N := some 97) #[true, true, true, true, true, true, true, true, false, false] rfl rfl (one_of HT_.out (by kernel_rfl)) (by decide) (fun K hK => ?_)
     refine goes_ Tryz.func80 (by kernel_rfl) rfl #[.int .i64 t281] (by rfl) rfl rfl qV ?_
     with_reducible refine (spec_l01Letter.calls t281 t284 _ A61.out).mono ?_
     rintro e w65 ⟨rfl, hb⟩
     refine ⟨_, rfl, ?_⟩
     have n0_ := Aside0.mk (IsS80.below (qI HI0.out) hb)
     have n1_ := Aside0.mk (KeepBut.trans (qK HK.out) (KeepBut.of_below hb g none) (.inl rfl))
     have n2_ := Aside0.mk (below_step (qS HB.out) hb)
     clear HI0
     clear HK
     clear HB
     have HI0 := n0_
     have HK := n1_
     have HB := n2_
     clear n0_ n1_ n2_
     (try clear hb)
     (try clear hb2)
     (try clear hk)
     (try clear hi)
     refine hK.out _ _ trivial (fun hHeld => ?_)
     clear hK K
     refine norm_ (a' := ?_) ?_ ?_
     rotate_left
     ·
      show Act.put _ (some 97) _ = _
      simp only [Act.put, List.setIfInBounds_toArray, List.set_cons_zero, List.set_cons_succ, i64_w, i32_w]
      rfl
     refine pure_ (i := 8) (N := some 98) (v := ?_) (a' := ?_) #[true, true, true, true, true, true, true, true, true, false] rfl rfl (any_of HT_.out (by kernel_rfl)) (fun _ _ _ h => h) (Or.inl ⟨by rfl, ?_⟩) ?_ ?_
     rotate_left
     ·
      intro w'
      go_simp
      with_reducible rfl
     rotate_left
     ·
      simp only [Act.put, List.setIfInBounds_toArray, List.set_cons_zero, List.set_cons_succ, i64_w, i32_w]
      rfl
     refine pure_ (i := 9) (N := some 7) (v := ?_) (a' := ?_) #[true, true, true, true, true, true, true, true, true, true] rfl rfl (any_of HT_.out (by kernel_rfl)) (fun _ _ _ h => h) (Or.inl ⟨by rfl, ?_⟩) ?_ ?_
     rotate_left
     ·
      intro w'
      go_simp
      with_reducible rfl
     rotate_left
     ·
      simp only [Act.put, List.setIfInBounds_toArray, List.set_cons_zero, List.set_cons_succ, i64_w, i32_w]
      rfl
     refine done_ (done_of HT_.out (by kernel_rfl)) ?_
     try go_wp2
     go_ret2
     exact ⟨by first | rfl | (simp [errW_none, errW_some] <;> rfl) | (simp only [← hji57]; first | rfl | (simp [errW_none, errW_some] <;> rfl)) | (simp [*, errW_none, errW_some] <;> rfl), qI HI0.out, qS HB.out, qK HK.out⟩
end Go.Proofs.YtcfphjjdbccnoaaGreat.PF

namespace Go.Proofs.YtcfphjjdbccnoaaGreat.PF
open Go.RowKit Go.Proofs.YtcfphjjdbccnoaaGreatW.PrintWords Go.Proofs.YtcfphjjdbccnoaaGreatW.PrintLast Go.Proofs.YtcfphjjdbccnoaaGreatW.PrintMore
attribute [local go_sem] max2_int min2_int max_two min_two max_three min_three max_four min_four   -- for this text's walks alone
set_option linter.unusedVariables false
set_option linter.unusedSimpArgs false

/-! ### spec_l01Damage: function 81 -/
def spec_l01Damage.f (s0_0 : List Int) (s0_1 : Int) (s0_2 : Int) (a1 : ByteArray) : Option (ByteArray × Int × Int) := (some (([(⟨#[97]⟩ : ByteArray), (⟨#[98]⟩ : ByteArray), (⟨#[99]⟩ : ByteArray), (⟨#[101]⟩ : ByteArray), (⟨#[102]⟩ : ByteArray), (⟨#[65]⟩ : ByteArray), (⟨#[32]⟩ : ByteArray), (⟨#[44]⟩ : ByteArray), (⟨#[48]⟩ : ByteArray), (⟨#[10]⟩ : ByteArray)] : List ByteArray) : List ByteArray)).bind fun y285 => ((spec_l01Next.f s0_0 s0_1 s0_2 (y285.length : Int)).bind fun bt288 => (if 0 ≤ bt288.1 then (if bt288.1 < (y285.length : Int) then (if (a1.size : Int) = 0 then (some (rdOf ByteArray.empty y285 bt288.1, bt288.2.1, bt288.2.2)) else ((spec_l01Next.f s0_0 bt288.2.1 bt288.2.2 (a1.size : Int)).bind fun bt292 => ((spec_l01Next.f s0_0 bt292.2.1 bt292.2.2 3).bind fun bt295 => (if bt295.1 = 0 then (if 0 ≤ bt292.1 then (if bt292.1 ≤ (a1.size : Int) then (if (a1.extract 0 (bt292.1 : Int).toNat).size + (rdOf ByteArray.empty y285 bt288.1).size ≤ 9223372036854775807 then (if 0 ≤ (wrap64 (bt292.1 + 1)) then (if (wrap64 (bt292.1 + 1)) ≤ (a1.size : Int) then (if ((a1.extract 0 (bt292.1 : Int).toNat) ++ (rdOf ByteArray.empty y285 bt288.1)).size + (a1.extract ((wrap64 (bt292.1 + 1)) : Int).toNat a1.size).size ≤ 9223372036854775807 then (some (((a1.extract 0 (bt292.1 : Int).toNat) ++ (rdOf ByteArray.empty y285 bt288.1)) ++ (a1.extract ((wrap64 (bt292.1 + 1)) : Int).toNat a1.size), bt295.2.1, bt295.2.2)) else (none)) else (none)) else (none)) else (none)) else (none)) else (none)) else (if bt295.1 = 1 then (if 0 ≤ bt292.1 then (if bt292.1 ≤ (a1.size : Int) then (if 0 ≤ (wrap64 (bt292.1 + 1)) then (if (wrap64 (bt292.1 + 1)) ≤ (a1.size : Int) then (if (a1.extract 0 (bt292.1 : Int).toNat).size + (a1.extract ((wrap64 (bt292.1 + 1)) : Int).toNat a1.size).size ≤ 9223372036854775807 then (some ((a1.extract 0 (bt292.1 : Int).toNat) ++ (a1.extract ((wrap64 (bt292.1 + 1)) : Int).toNat a1.size), bt295.2.1, bt295.2.2)) else (none)) else (none)) else (none)) else (none)) else (none)) else (if 0 ≤ bt292.1 then (if bt292.1 ≤ (a1.size : Int) then (if (a1.extract 0 (bt292.1 : Int).toNat).size + (rdOf ByteArray.empty y285 bt288.1).size ≤ 9223372036854775807 then (if ((a1.extract 0 (bt292.1 : Int).toNat) ++ (rdOf ByteArray.empty y285 bt288.1)).size + (a1.extract (bt292.1 : Int).toNat a1.size).size ≤ 9223372036854775807 then (some (((a1.extract 0 (bt292.1 : Int).toNat) ++ (rdOf ByteArray.empty y285 bt288.1)) ++ (a1.extract (bt292.1 : Int).toNat a1.size), bt295.2.1, bt295.2.2)) else (none)) else (none)) else (none)) else (none))))))) else (none)) else (none)))
set_option maxHeartbeats 8000000 in
set_option maxRecDepth 100000 in
theorem spec_l01Damage.calls (g : Nat) (s0_0 : List Int) (s0_1 : Int) (s0_2 : Int) (a1 : ByteArray) (r1 : ByteArray) (r2 : Int) (r3 : Int) (w0 w : World) (hI : IsS80 w0 w g s0_0 s0_1 s0_2) (hB : Below w0.heap.size w0 w) (h : spec_l01Damage.f s0_0 s0_1 s0_2 a1 = some (r1, r2, r3)) :
  Calls Tryz.prog 81 #[.pointer (some ⟨g, 0, none⟩), .string a1] w fun e w' => e = .returned (.string r1) ∧ IsS80 w0 w' g s0_0 r2 r3 ∧ Below w0.heap.size w0 w' ∧ KeepBut w w' g none := by
 have HI0 := Aside0.mk hI
 have HK := Aside0.mk (KeepBut.refl w g none)
 have HL := Aside0.mk hB.size
 clear hI
 have HW0 := Aside0.mk hB.size
 have HB := Aside0.mk hB
 clear hB
 have H : ((some (([(⟨#[97]⟩ : ByteArray), (⟨#[98]⟩ : ByteArray), (⟨#[99]⟩ : ByteArray), (⟨#[101]⟩ : ByteArray), (⟨#[102]⟩ : ByteArray), (⟨#[65]⟩ : ByteArray), (⟨#[32]⟩ : ByteArray), (⟨#[44]⟩ : ByteArray), (⟨#[48]⟩ : ByteArray), (⟨#[10]⟩ : ByteArray)] : List ByteArray) : List ByteArray)).bind fun y285 => ((spec_l01Next.f s0_0 s0_1 s0_2 (y285.length : Int)).bind fun bt288 => (if 0 ≤ bt288.1 then (if bt288.1 < (y285.length : Int) then (if (a1.size : Int) = 0 then (some (rdOf ByteArray.empty y285 bt288.1, bt288.2.1, bt288.2.2)) else ((spec_l01Next.f s0_0 bt288.2.1 bt288.2.2 (a1.size : Int)).bind fun bt292 => ((spec_l01Next.f s0_0 bt292.2.1 bt292.2.2 3).bind fun bt295 => (if bt295.1 = 0 then (if 0 ≤ bt292.1 then (if bt292.1 ≤ (a1.size : Int) then (if (a1.extract 0 (bt292.1 : Int).toNat).size + (rdOf ByteArray.empty y285 bt288.1).size ≤ 9223372036854775807 then (if 0 ≤ (wrap64 (bt292.1 + 1)) then (if (wrap64 (bt292.1 + 1)) ≤ (a1.size : Int) then (if ((a1.extract 0 (bt292.1 : Int).toNat) ++ (rdOf ByteArray.empty y285 bt288.1)).size + (a1.extract ((wrap64 (bt292.1 + 1)) : Int).toNat a1.size).size ≤ 9223372036854775807 then (some (((a1.extract 0 (bt292.1 : Int).toNat) ++ (rdOf ByteArray.empty y285 bt288.1)) ++ (a1.extract ((wrap64 (bt292.1 + 1)) : Int).toNat a1.size), bt295.2.1, bt295.2.2)) else (none)) else (none)) else (none)) else (none)) else (none)) else (none)) else (if bt295.1 = 1 then (if 0 ≤ bt292.1 then (if bt292.1 ≤ (a1.size : Int) then (if 0 ≤ (wrap64 (bt292.1 + 1)) then (if (wrap64 (bt292.1 + 1)) ≤ (a1.size : Int) then (if (a1.extract 0 (bt292.1 : Int).toNat).size + (a1.extract ((wrap64 (bt292.1 + 1)) : Int).toNat a1.size).size ≤ 9223372036854775807 then (some ((a1.extract 0 (bt292.1 : Int).toNat) ++ (a1.extract ((wrap64 (bt292.1 + 1)) : Int).toNat a1.size), bt295.2.1, bt295.2.2)) else (none)) else (none)) else (none)) else (none)) else (none)) else (if 0 ≤ bt292.1 then (if bt292.1 ≤ (a1.size : Int) then (if (a1.extract 0 (bt292.1 : Int).toNat).size + (rdOf ByteArray.empty y285 bt288.1).size ≤ 9223372036854775807 then (if ((a1.extract 0 (bt292.1 : Int).toNat) ++ (rdOf ByteArray.empty y285 bt288.1)).size + (a1.extract (bt292.1 : Int).toNat a1.size).size ≤ 9223372036854775807 then (some (((a1.extract 0 (bt292.1 : Int).toNat) ++ (rdOf ByteArray.empty y285 bt288.1)) ++ (a1.extract (bt292.1 : Int).toNat a1.size), bt295.2.1, bt295.2.2)) else (none)) else (none)) else (none)) else (none))))))) else (none)) else (none)))) = some (r1, r2, r3) := h
 clear h
 obtain ⟨y285, hy285⟩ : ∃ y_ : List ByteArray, y_ = (([(⟨#[97]⟩ : ByteArray), (⟨#[98]⟩ : ByteArray), (⟨#[99]⟩ : ByteArray), (⟨#[101]⟩ : ByteArray), (⟨#[102]⟩ : ByteArray), (⟨#[65]⟩ : ByteArray), (⟨#[32]⟩ : ByteArray), (⟨#[44]⟩ : ByteArray), (⟨#[48]⟩ : ByteArray), (⟨#[10]⟩ : ByteArray)] : List ByteArray)) := ⟨_, rfl⟩
 replace H : ((spec_l01Next.f s0_0 s0_1 s0_2 (y285.length : Int)).bind fun bt288 => (if 0 ≤ bt288.1 then (if bt288.1 < (y285.length : Int) then (if (a1.size : Int) = 0 then (some (rdOf ByteArray.empty y285 bt288.1, bt288.2.1, bt288.2.2)) else ((spec_l01Next.f s0_0 bt288.2.1 bt288.2.2 (a1.size : Int)).bind fun bt292 => ((spec_l01Next.f s0_0 bt292.2.1 bt292.2.2 3).bind fun bt295 => (if bt295.1 = 0 then (if 0 ≤ bt292.1 then (if bt292.1 ≤ (a1.size : Int) then (if (a1.extract 0 (bt292.1 : Int).toNat).size + (rdOf ByteArray.empty y285 bt288.1).size ≤ 9223372036854775807 then (if 0 ≤ (wrap64 (bt292.1 + 1)) then (if (wrap64 (bt292.1 + 1)) ≤ (a1.size : Int) then (if ((a1.extract 0 (bt292.1 : Int).toNat) ++ (rdOf ByteArray.empty y285 bt288.1)).size + (a1.extract ((wrap64 (bt292.1 + 1)) : Int).toNat a1.size).size ≤ 9223372036854775807 then (some (((a1.extract 0 (bt292.1 : Int).toNat) ++ (rdOf ByteArray.empty y285 bt288.1)) ++ (a1.extract ((wrap64 (bt292.1 + 1)) : Int).toNat a1.size), bt295.2.1, bt295.2.2)) else (none)) else (none)) else (none)) else (none)) else (none)) else (none)) else (if bt295.1 = 1 then (if 0 ≤ bt292.1 then (if bt292.1 ≤ (a1.size : Int) then (if 0 ≤ (wrap64 (bt292.1 + 1)) then (if (wrap64 (bt292.1 + 1)) ≤ (a1.size : Int) then (if (a1.extract 0 (bt292.1 : Int).toNat).size + (a1.extract ((wrap64 (bt292.1 + 1)) : Int).toNat a1.size).size ≤ 9223372036854775807 then (some ((a1.extract 0 (bt292.1 : Int).toNat) ++ (a1.extract ((wrap64 (bt292.1 + 1)) : Int).toNat a1.size), bt295.2.1, bt295.2.2)) else (none)) else (none)) else (none)) else (none)) else (none)) else (if 0 ≤ bt292.1 then (if bt292.1 ≤ (a1.size : Int) then (if (a1.extract 0 (bt292.1 : Int).toNat).size + (rdOf ByteArray.empty y285 bt288.1).size ≤ 9223372036854775807 then (if ((a1.extract 0 (bt292.1 : Int).toNat) ++ (rdOf ByteArray.empty y285 bt288.1)).size + (a1.extract (bt292.1 : Int).toNat a1.size).size ≤ 9223372036854775807 then (some (((a1.extract 0 (bt292.1 : Int).toNat) ++ (rdOf ByteArray.empty y285 bt288.1)) ++ (a1.extract (bt292.1 : Int).toNat a1.size), bt295.2.1, bt295.2.2)) else (none)) else (none)) else (none)) else (none))))))) else (none)) else (none))) = some (r1, r2, r3) := by first | (rw [hy285]; with_reducible exact H) | (have H2_ := (Option.bind_some _ _).symm.trans H; rw [hy285]; with_reducible exact H2_) | (have H2_ := (Option.bind_some _ _).symm.trans H; with_reducible exact H2_) | with_reducible exact H | (rw [hy285]; exact H) | exact H
 have Ny285 := Aside0.mk hy285
 clear hy285
 obtain ⟨⟨t288, t289, t290⟩, A3, H⟩ := qN H
 try dsimp only at H
 by_cases c4 : 0 ≤ t288
 rotate_left
 ·
  rw [if_neg c4] at H
  exact absurd H (by simp)

 rw [if_pos c4] at H
 have c4b0 : decide (0 ≤ t288) = true := decide_eq_true c4
 clear c4
 by_cases c5 : t288 < (y285.length : Int)
 rotate_left
 ·
  rw [if_neg c5] at H
  exact absurd H (by simp)
 rw [if_pos c5] at H
 have c5b0 : decide (t288 < (y285.length : Int)) = true := decide_eq_true c5
 clear c5
 by_cases c6 : (a1.size : Int) = 0
 ·
  rw [if_pos c6] at H
  obtain ⟨c6b0, c6b1⟩ := zT c6
  clear c6
  simp only [Option.some.injEq, Prod.mk.injEq] at H
  obtain ⟨rfl, rfl, rfl⟩ := H
  go_enter Tryz.func81, Tryz.ntmps81
  go_wp2_with (first | ((with_reducible refine gate_dst (N := 8) rfl ?_); refine Kd.R_lit Kd.string _ 9 ?hg (N := 8) ?hd (xs := ([(⟨#[97]⟩ : ByteArray), (⟨#[98]⟩ : ByteArray), (⟨#[99]⟩ : ByteArray), (⟨#[101]⟩ : ByteArray), (⟨#[102]⟩ : ByteArray), (⟨#[65]⟩ : ByteArray), (⟨#[32]⟩ : ByteArray), (⟨#[44]⟩ : ByteArray), (⟨#[48]⟩ : ByteArray), (⟨#[10]⟩ : ByteArray)] : List ByteArray)) (inner := [.string (⟨#[97]⟩ : ByteArray), .string (⟨#[98]⟩ : ByteArray), .string (⟨#[99]⟩ : ByteArray), .string (⟨#[101]⟩ : ByteArray), .string (⟨#[102]⟩ : ByteArray), .string (⟨#[65]⟩ : ByteArray), .string (⟨#[32]⟩ : ByteArray), .string (⟨#[44]⟩ : ByteArray), .string (⟨#[48]⟩ : ByteArray), .string (⟨#[10]⟩ : ByteArray)]) (ok := fun _ => True) (okp := fun _ => True) ?hr ?hp (fun _ hk => hk) trivial (Below.refl _ _) (Nat.le_refl _) (by simp) ?_; (case hd => rfl); (case hg => rfl); (case hr => first | (go_simp; done) | (go_simp; rfl)); (case hp => exact (Reps.one (show Kd.M Kd.string _ _ _ (⟨#[97]⟩ : ByteArray) [.string (⟨#[97]⟩ : ByteArray)] from rfl) (Reps.one (show Kd.M Kd.string _ _ _ (⟨#[98]⟩ : ByteArray) [.string (⟨#[98]⟩ : ByteArray)] from rfl) (Reps.one (show Kd.M Kd.string _ _ _ (⟨#[99]⟩ : ByteArray) [.string (⟨#[99]⟩ : ByteArray)] from rfl) (Reps.one (show Kd.M Kd.string _ _ _ (⟨#[101]⟩ : ByteArray) [.string (⟨#[101]⟩ : ByteArray)] from rfl) (Reps.one (show Kd.M Kd.string _ _ _ (⟨#[102]⟩ : ByteArray) [.string (⟨#[102]⟩ : ByteArray)] from rfl) (Reps.one (show Kd.M Kd.string _ _ _ (⟨#[65]⟩ : ByteArray) [.string (⟨#[65]⟩ : ByteArray)] from rfl) (Reps.one (show Kd.M Kd.string _ _ _ (⟨#[32]⟩ : ByteArray) [.string (⟨#[32]⟩ : ByteArray)] from rfl) (Reps.one (show Kd.M Kd.string _ _ _ (⟨#[44]⟩ : ByteArray) [.string (⟨#[44]⟩ : ByteArray)] from rfl) (Reps.one (show Kd.M Kd.string _ _ _ (⟨#[48]⟩ : ByteArray) [.string (⟨#[48]⟩ : ByteArray)] from rfl) (Reps.one (show Kd.M Kd.string _ _ _ (⟨#[10]⟩ : ByteArray) [.string (⟨#[10]⟩ : ByteArray)] from rfl) (Reps.none _ _)))))))))))); intro v286 w7 ho8 hb hg_ hnew_; clear hg_ hnew_; (first | rw [← Ny285.out] at ho8 | (simp only [Int.reduceToNat] at ho8; rw [← Ny285.out] at ho8)); have HO287 := Aside0.mk (Kd.R_lower ho8 (keep_size (w := w) (g := g) (row := none) (qK HK.out))); replace HI0 := Aside0.mk (IsS80.below (qI HI0.out) hb); replace HK := Aside0.mk (KeepBut.trans (qK HK.out) (KeepBut.of_below hb g none) (.inl rfl)); replace HB := Aside0.mk (below_step (qS HB.out) hb); clear hb ho8; obtain ⟨Ao9, co9, eo9⟩ := Kd.R_slice HO287.out; subst eo9) | (go_at_call 60; (with_reducible refine (spec_l01Next.calls g s0_0 s0_1 s0_2 (y285.length : Int) t288 t289 t290 w0 _ ?side1 ?side2 A3.out).mono ?_); (case side1 => exact qI HI0.out); (case side2 => exact qS HB.out); rintro e w10 ⟨rfl, hi, hb, hk⟩; replace HO287 := Aside0.mk (Kd.R_mono (Kd.R_keep (IsS80.apart (show IsS80 w0 _ g s0_0 s0_1 s0_2 from qI HI0.out) (qR HO287.out) (by decide)) hk (fun _ h => h.2)) (fun _ h => h.1)); replace HK := Aside0.mk (KeepBut.trans (qK HK.out) hk (.inl rfl)); replace HB := Aside0.mk (hb); replace HI0 := Aside0.mk (hi); have p291 : 0 ≤ (t288 : Int) := of_decide_eq_true (by first | (with_reducible assumption) | assumption); have q291 : t288 < (y285.length : Int) := of_decide_eq_true (by first | (with_reducible assumption) | assumption); obtain ⟨ad291, e291, hx291_0⟩ := Kd.at_string (Kd.R_reads' HO287.out).2.2 t288 p291 q291; cases e291; replace p291 := eq_true p291; replace q291 := eq_true q291))
  repeat (go_quiet (first | ((with_reducible refine gate_dst (N := 8) rfl ?_); refine Kd.R_lit Kd.string _ 9 ?hg (N := 8) ?hd (xs := ([(⟨#[97]⟩ : ByteArray), (⟨#[98]⟩ : ByteArray), (⟨#[99]⟩ : ByteArray), (⟨#[101]⟩ : ByteArray), (⟨#[102]⟩ : ByteArray), (⟨#[65]⟩ : ByteArray), (⟨#[32]⟩ : ByteArray), (⟨#[44]⟩ : ByteArray), (⟨#[48]⟩ : ByteArray), (⟨#[10]⟩ : ByteArray)] : List ByteArray)) (inner := [.string (⟨#[97]⟩ : ByteArray), .string (⟨#[98]⟩ : ByteArray), .string (⟨#[99]⟩ : ByteArray), .string (⟨#[101]⟩ : ByteArray), .string (⟨#[102]⟩ : ByteArray), .string (⟨#[65]⟩ : ByteArray), .string (⟨#[32]⟩ : ByteArray), .string (⟨#[44]⟩ : ByteArray), .string (⟨#[48]⟩ : ByteArray), .string (⟨#[10]⟩ : ByteArray)]) (ok := fun _ => True) (okp := fun _ => True) ?hr ?hp (fun _ hk => hk) trivial (Below.refl _ _) (Nat.le_refl _) (by simp) ?_; (case hd => rfl); (case hg => rfl); (case hr => first | (go_simp; done) | (go_simp; rfl)); (case hp => exact (Reps.one (show Kd.M Kd.string _ _ _ (⟨#[97]⟩ : ByteArray) [.string (⟨#[97]⟩ : ByteArray)] from rfl) (Reps.one (show Kd.M Kd.string _ _ _ (⟨#[98]⟩ : ByteArray) [.string (⟨#[98]⟩ : ByteArray)] from rfl) (Reps.one (show Kd.M Kd.string _ _ _ (⟨#[99]⟩ : ByteArray) [.string (⟨#[99]⟩ : ByteArray)] from rfl) (Reps.one (show Kd.M Kd.string _ _ _ (⟨#[101]⟩ : ByteArray) [.string (⟨#[101]⟩ : ByteArray)] from rfl) (Reps.one (show Kd.M Kd.string _ _ _ (⟨#[102]⟩ : ByteArray) [.string (⟨#[102]⟩ : ByteArray)] from rfl) (Reps.one (show Kd.M Kd.string _ _ _ (⟨#[65]⟩ : ByteArray) [.string (⟨#[65]⟩ : ByteArray)] from rfl) (Reps.one (show Kd.M Kd.string _ _ _ (⟨#[32]⟩ : ByteArray) [.string (⟨#[32]⟩ : ByteArray)] from rfl) (Reps.one (show Kd.M Kd.string _ _ _ (⟨#[44]⟩ : ByteArray) [.string (⟨#[44]⟩ : ByteArray)] from rfl) (Reps.one (show Kd.M Kd.string _ _ _ (⟨#[48]⟩ : ByteArray) [.string (⟨#[48]⟩ : ByteArray)] from rfl) (Reps.one (show Kd.M Kd.string _ _ _ (⟨#[10]⟩ : ByteArray) [.string (⟨#[10]⟩ : ByteArray)] from rfl) (Reps.none _ _)))))))))))); intro v286 w7 ho8 hb hg_ hnew_; clear hg_ hnew_; (first | rw [← Ny285.out] at ho8 | (simp only [Int.reduceToNat] at ho8; rw [← Ny285.out] at ho8)); have HO287 := Aside0.mk (Kd.R_lower ho8 (keep_size (w := w) (g := g) (row := none) (qK HK.out))); replace HI0 := Aside0.mk (IsS80.below (qI HI0.out) hb); replace HK := Aside0.mk (KeepBut.trans (qK HK.out) (KeepBut.of_below hb g none) (.inl rfl)); replace HB := Aside0.mk (below_step (qS HB.out) hb); clear hb ho8; obtain ⟨Ao9, co9, eo9⟩ := Kd.R_slice HO287.out; subst eo9) | (go_at_call 60; (with_reducible refine (spec_l01Next.calls g s0_0 s0_1 s0_2 (y285.length : Int) t288 t289 t290 w0 _ ?side1 ?side2 A3.out).mono ?_); (case side1 => exact qI HI0.out); (case side2 => exact qS HB.out); rintro e w10 ⟨rfl, hi, hb, hk⟩; replace HO287 := Aside0.mk (Kd.R_mono (Kd.R_keep (IsS80.apart (show IsS80 w0 _ g s0_0 s0_1 s0_2 from qI HI0.out) (qR HO287.out) (by decide)) hk (fun _ h => h.2)) (fun _ h => h.1)); replace HK := Aside0.mk (KeepBut.trans (qK HK.out) hk (.inl rfl)); replace HB := Aside0.mk (hb); replace HI0 := Aside0.mk (hi); have p291 : 0 ≤ (t288 : Int) := of_decide_eq_true (by first | (with_reducible assumption) | assumption); have q291 : t288 < (y285.length : Int) := of_decide_eq_true (by first | (with_reducible assumption) | assumption); obtain ⟨ad291, e291, hx291_0⟩ := Kd.at_string (Kd.R_reads' HO287.out).2.2 t288 p291 q291; cases e291; replace p291 := eq_true p291; replace q291 := eq_true q291)); try go_wp2_with (first | ((with_reducible refine gate_dst (N := 8) rfl ?_); refine Kd.R_lit Kd.string _ 9 ?hg (N := 8) ?hd (xs := ([(⟨#[97]⟩ : ByteArray), (⟨#[98]⟩ : ByteArray), (⟨#[99]⟩ : ByteArray), (⟨#[101]⟩ : ByteArray), (⟨#[102]⟩ : ByteArray), (⟨#[65]⟩ : ByteArray), (⟨#[32]⟩ : ByteArray), (⟨#[44]⟩ : ByteArray), (⟨#[48]⟩ : ByteArray), (⟨#[10]⟩ : ByteArray)] : List ByteArray)) (inner := [.string (⟨#[97]⟩ : ByteArray), .string (⟨#[98]⟩ : ByteArray), .string (⟨#[99]⟩ : ByteArray), .string (⟨#[101]⟩ : ByteArray), .string (⟨#[102]⟩ : ByteArray), .string (⟨#[65]⟩ : ByteArray), .string (⟨#[32]⟩ : ByteArray), .string (⟨#[44]⟩ : ByteArray), .string (⟨#[48]⟩ : ByteArray), .string (⟨#[10]⟩ : ByteArray)]) (ok := fun _ => True) (okp := fun _ => True) ?hr ?hp (fun _ hk => hk) trivial (Below.refl _ _) (Nat.le_refl _) (by simp) ?_; (case hd => rfl); (case hg => rfl); (case hr => first | (go_simp; done) | (go_simp; rfl)); (case hp => exact (Reps.one (show Kd.M Kd.string _ _ _ (⟨#[97]⟩ : ByteArray) [.string (⟨#[97]⟩ : ByteArray)] from rfl) (Reps.one (show Kd.M Kd.string _ _ _ (⟨#[98]⟩ : ByteArray) [.string (⟨#[98]⟩ : ByteArray)] from rfl) (Reps.one (show Kd.M Kd.string _ _ _ (⟨#[99]⟩ : ByteArray) [.string (⟨#[99]⟩ : ByteArray)] from rfl) (Reps.one (show Kd.M Kd.string _ _ _ (⟨#[101]⟩ : ByteArray) [.string (⟨#[101]⟩ : ByteArray)] from rfl) (Reps.one (show Kd.M Kd.string _ _ _ (⟨#[102]⟩ : ByteArray) [.string (⟨#[102]⟩ : ByteArray)] from rfl) (Reps.one (show Kd.M Kd.string _ _ _ (⟨#[65]⟩ : ByteArray) [.string (⟨#[65]⟩ : ByteArray)] from rfl) (Reps.one (show Kd.M Kd.string _ _ _ (⟨#[32]⟩ : ByteArray) [.string (⟨#[32]⟩ : ByteArray)] from rfl) (Reps.one (show Kd.M Kd.string _ _ _ (⟨#[44]⟩ : ByteArray) [.string (⟨#[44]⟩ : ByteArray)] from rfl) (Reps.one (show Kd.M Kd.string _ _ _ (⟨#[48]⟩ : ByteArray) [.string (⟨#[48]⟩ : ByteArray)] from rfl) (Reps.one (show Kd.M Kd.string _ _ _ (⟨#[10]⟩ : ByteArray) [.string (⟨#[10]⟩ : ByteArray)] from rfl) (Reps.none _ _)))))))))))); intro v286 w7 ho8 hb hg_ hnew_; clear hg_ hnew_; (first | rw [← Ny285.out] at ho8 | (simp only [Int.reduceToNat] at ho8; rw [← Ny285.out] at ho8)); have HO287 := Aside0.mk (Kd.R_lower ho8 (keep_size (w := w) (g := g) (row := none) (qK HK.out))); replace HI0 := Aside0.mk (IsS80.below (qI HI0.out) hb); replace HK := Aside0.mk (KeepBut.trans (qK HK.out) (KeepBut.of_below hb g none) (.inl rfl)); replace HB := Aside0.mk (below_step (qS HB.out) hb); clear hb ho8; obtain ⟨Ao9, co9, eo9⟩ := Kd.R_slice HO287.out; subst eo9) | (go_at_call 60; (with_reducible refine (spec_l01Next.calls g s0_0 s0_1 s0_2 (y285.length : Int) t288 t289 t290 w0 _ ?side1 ?side2 A3.out).mono ?_); (case side1 => exact qI HI0.out); (case side2 => exact qS HB.out); rintro e w10 ⟨rfl, hi, hb, hk⟩; replace HO287 := Aside0.mk (Kd.R_mono (Kd.R_keep (IsS80.apart (show IsS80 w0 _ g s0_0 s0_1 s0_2 from qI HI0.out) (qR HO287.out) (by decide)) hk (fun _ h => h.2)) (fun _ h => h.1)); replace HK := Aside0.mk (KeepBut.trans (qK HK.out) hk (.inl rfl)); replace HB := Aside0.mk (hb); replace HI0 := Aside0.mk (hi); have p291 : 0 ≤ (t288 : Int) := of_decide_eq_true (by first | (with_reducible assumption) | assumption); have q291 : t288 < (y285.length : Int) := of_decide_eq_true (by first | (with_reducible assumption) | assumption); obtain ⟨ad291, e291, hx291_0⟩ := Kd.at_string (Kd.R_reads' HO287.out).2.2 t288 p291 q291; cases e291; replace p291 := eq_true p291; replace q291 := eq_true q291)))
  go_ret
  exact ⟨qE, qI HI0.out, qS HB.out, qK HK.out⟩
 rw [if_neg c6] at H
 obtain ⟨c6b0, c6b1⟩ := zF c6
 obtain ⟨⟨t292, t293, t294⟩, A11, H⟩ := qN H
 try dsimp only at H
 obtain ⟨⟨t295, t296, t297⟩, A12, H⟩ := qN H
 try dsimp only at H
 by_cases c13 : t295 = 0
 ·
  rw [if_pos c13] at H
  obtain ⟨c13b0, c13b1⟩ := zT c13
  clear c13
  by_cases c14 : 0 ≤ t292
  rotate_left
  ·
   rw [if_neg c14] at H
   exact absurd H (by simp)
  rw [if_pos c14] at H
  have c14b0 := eq_true c14
  have c14b1 : decide (0 ≤ t292) = true := decide_eq_true c14
  clear c14
  by_cases c15 : t292 ≤ (a1.size : Int)
  rotate_left
  ·
   rw [if_neg c15] at H
   exact absurd H (by simp)
  rw [if_pos c15] at H
  have c15b0 := eq_true c15
  have c15b1 : decide (t292 ≤ (a1.size : Int)) = true := decide_eq_true c15
  clear c15
  by_cases c16 : (a1.extract 0 (t292 : Int).toNat).size + (rdOf ByteArray.empty y285 t288).size ≤ 9223372036854775807
  rotate_left
  ·
   rw [if_neg c16] at H
   exact absurd H (by simp)
  rw [if_pos c16] at H
  have c16b0 := eq_true c16
  have c16b1 : decide ((a1.extract 0 (t292 : Int).toNat).size + (rdOf ByteArray.empty y285 t288).size ≤ 9223372036854775807) = true := decide_eq_true c16
  try have c16b2 : (9223372036854775807 < (a1.extract 0 (t292 : Int).toNat).size + (rdOf ByteArray.empty y285 t288).size) = False := eq_false (Nat.not_lt.2 c16)
  obtain ⟨ji17, hji17⟩ : ∃ j_ : Int, (wrap64 (t292 + 1)) = j_ := ⟨_, rfl⟩
  replace H : (if 0 ≤ (ji17) then (if (ji17) ≤ (a1.size : Int) then (if ((a1.extract 0 (t292 : Int).toNat) ++ (rdOf ByteArray.empty y285 t288)).size + (a1.extract ((ji17) : Int).toNat a1.size).size ≤ 9223372036854775807 then (some (((a1.extract 0 (t292 : Int).toNat) ++ (rdOf ByteArray.empty y285 t288)) ++ (a1.extract ((ji17) : Int).toNat a1.size), t296, t297)) else (none)) else (none)) else (none)) = some (r1, r2, r3) := by first | (rw [hji17] at H; exact H) | (simp only [hji17] at H ⊢; exact H)
  (try rw [hji17] at A3)
  (try rw [hji17] at A11)
  (try rw [hji17] at A12)
  have hji17w : (IntKind.i64.wrap (t292 + 1)) = ji17 := (i64_w _).trans hji17
  by_cases c18 : 0 ≤ (ji17)
  rotate_left
  ·
   rw [if_neg c18] at H
   exact absurd H (by simp)
  rw [if_pos c18] at H
  have c18b0 := eq_true c18
  have c18b1 : decide (0 ≤ (ji17)) = true := decide_eq_true c18
  clear c18
  by_cases c19 : (ji17) ≤ (a1.size : Int)
  rotate_left
  ·
   rw [if_neg c19] at H
   exact absurd H (by simp)
  rw [if_pos c19] at H
  have c19b0 := eq_true c19
  have c19b1 : decide ((ji17) ≤ (a1.size : Int)) = true := decide_eq_true c19
  clear c19
  by_cases c20 : ((a1.extract 0 (t292 : Int).toNat) ++ (rdOf ByteArray.empty y285 t288)).size + (a1.extract ((ji17) : Int).toNat a1.size).size ≤ 9223372036854775807
  rotate_left
  ·
   rw [if_neg c20] at H
   exact absurd H (by simp)
  rw [if_pos c20] at H
  have c20b0 := eq_true c20
  have c20b1 : decide (((a1.extract 0 (t292 : Int).toNat) ++ (rdOf ByteArray.empty y285 t288)).size + (a1.extract ((ji17) : Int).toNat a1.size).size ≤ 9223372036854775807) = true := decide_eq_true c20
  have c20y := c20
  try simp only [ByteArray.size_append] at c20y
  try have c20y0 := eq_true c20y
  try have c20y2 := eq_false (Nat.not_lt.2 c20y)
  clear c20y
  try have c20b2 : (9223372036854775807 < ((a1.extract 0 (t292 : Int).toNat) ++ (rdOf ByteArray.empty y285 t288)).size + (a1.extract ((ji17) : Int).toNat a1.size).size) = False := eq_false (Nat.not_lt.2 c20)
  simp only [Option.some.injEq, Prod.mk.injEq] at H
  obtain ⟨rfl, rfl, rfl⟩ := H
  go_enter Tryz.func81, Tryz.ntmps81
  go_wp2_with (first | ((with_reducible refine gate_dst (N := 8) rfl ?_); refine Kd.R_lit Kd.string _ 9 ?hg (N := 8) ?hd (xs := ([(⟨#[97]⟩ : ByteArray), (⟨#[98]⟩ : ByteArray), (⟨#[99]⟩ : ByteArray), (⟨#[101]⟩ : ByteArray), (⟨#[102]⟩ : ByteArray), (⟨#[65]⟩ : ByteArray), (⟨#[32]⟩ : ByteArray), (⟨#[44]⟩ : ByteArray), (⟨#[48]⟩ : ByteArray), (⟨#[10]⟩ : ByteArray)] : List ByteArray)) (inner := [.string (⟨#[97]⟩ : ByteArray), .string (⟨#[98]⟩ : ByteArray), .string (⟨#[99]⟩ : ByteArray), .string (⟨#[101]⟩ : ByteArray), .string (⟨#[102]⟩ : ByteArray), .string (⟨#[65]⟩ : ByteArray), .string (⟨#[32]⟩ : ByteArray), .string (⟨#[44]⟩ : ByteArray), .string (⟨#[48]⟩ : ByteArray), .string (⟨#[10]⟩ : ByteArray)]) (ok := fun _ => True) (okp := fun _ => True) ?hr ?hp (fun _ hk => hk) trivial (Below.refl _ _) (Nat.le_refl _) (by simp) ?_; (case hd => rfl); (case hg => rfl); (case hr => first | (go_simp; done) | (go_simp; rfl)); (case hp => exact (Reps.one (show Kd.M Kd.string _ _ _ (⟨#[97]⟩ : ByteArray) [.string (⟨#[97]⟩ : ByteArray)] from rfl) (Reps.one (show Kd.M Kd.string _ _ _ (⟨#[98]⟩ : ByteArray) [.string (⟨#[98]⟩ : ByteArray)] from rfl) (Reps.one (show Kd.M Kd.string _ _ _ (⟨#[99]⟩ : ByteArray) [.string (⟨#[99]⟩ : ByteArray)] from rfl) (Reps.one (show Kd.M Kd.string _ _ _ (⟨#[101]⟩ : ByteArray) [.string (⟨#[101]⟩ : ByteArray)] from rfl) (Reps.one (show Kd.M Kd.string _ _ _ (⟨#[102]⟩ : ByteArray) [.string (⟨#[102]⟩ : ByteArray)] from rfl) (Reps.one (show Kd.M Kd.string _ _ _ (⟨#[65]⟩ : ByteArray) [.string (⟨#[65]⟩ : ByteArray)] from rfl) (Reps.one (show Kd.M Kd.string _ _ _ (⟨#[32]⟩ : ByteArray) [.string (⟨#[32]⟩ : ByteArray)] from rfl) (Reps.one (show Kd.M Kd.string _ _ _ (⟨#[44]⟩ : ByteArray) [.string (⟨#[44]⟩ : ByteArray)] from rfl) (Reps.one (show Kd.M Kd.string _ _ _ (⟨#[48]⟩ : ByteArray) [.string (⟨#[48]⟩ : ByteArray)] from rfl) (Reps.one (show Kd.M Kd.string _ _ _ (⟨#[10]⟩ : ByteArray) [.string (⟨#[10]⟩ : ByteArray)] from rfl) (Reps.none _ _)))))))))))); intro v286 w21 ho22 hb hg_ hnew_; clear hg_ hnew_; (first | rw [← Ny285.out] at ho22 | (simp only [Int.reduceToNat] at ho22; rw [← Ny285.out] at ho22)); have HO287 := Aside0.mk (Kd.R_lower ho22 (keep_size (w := w) (g := g) (row := none) (qK HK.out))); replace HI0 := Aside0.mk (IsS80.below (qI HI0.out) hb); replace HK := Aside0.mk (KeepBut.trans (qK HK.out) (KeepBut.of_below hb g none) (.inl rfl)); replace HB := Aside0.mk (below_step (qS HB.out) hb); clear hb ho22; obtain ⟨Ao23, co23, eo23⟩ := Kd.R_slice HO287.out; subst eo23) | (go_at_call 60; (with_reducible refine (spec_l01Next.calls g s0_0 s0_1 s0_2 (y285.length : Int) t288 t289 t290 w0 _ ?side1 ?side2 A3.out).mono ?_); (case side1 => exact qI HI0.out); (case side2 => exact qS HB.out); rintro e w24 ⟨rfl, hi, hb, hk⟩; replace HO287 := Aside0.mk (Kd.R_mono (Kd.R_keep (IsS80.apart (show IsS80 w0 _ g s0_0 s0_1 s0_2 from qI HI0.out) (qR HO287.out) (by decide)) hk (fun _ h => h.2)) (fun _ h => h.1)); replace HK := Aside0.mk (KeepBut.trans (qK HK.out) hk (.inl rfl)); replace HB := Aside0.mk (hb); replace HI0 := Aside0.mk (hi); have p291 : 0 ≤ (t288 : Int) := of_decide_eq_true (by first | (with_reducible assumption) | assumption); have q291 : t288 < (y285.length : Int) := of_decide_eq_true (by first | (with_reducible assumption) | assumption); obtain ⟨ad291, e291, hx291_0⟩ := Kd.at_string (Kd.R_reads' HO287.out).2.2 t288 p291 q291; cases e291; replace p291 := eq_true p291; replace q291 := eq_true q291) | (go_at_call 60; (with_reducible refine (spec_l01Next.calls g s0_0 t289 t290 (a1.size : Int) t292 t293 t294 w0 _ ?side1 ?side2 A11.out).mono ?_); (case side1 => exact qI HI0.out); (case side2 => exact qS HB.out); rintro e w25 ⟨rfl, hi, hb, hk⟩; replace HO287 := Aside0.mk (Kd.R_mono (Kd.R_keep (IsS80.apart (show IsS80 w0 _ g s0_0 t289 t290 from qI HI0.out) (qR HO287.out) (by decide)) hk (fun _ h => h.2)) (fun _ h => h.1)); replace HK := Aside0.mk (KeepBut.trans (qK HK.out) hk (.inl rfl)); replace HB := Aside0.mk (hb); replace HI0 := Aside0.mk (hi)) | (go_at_call 60; (with_reducible refine (spec_l01Next.calls g s0_0 t293 t294 3 t295 t296 t297 w0 _ ?side1 ?side2 A12.out).mono ?_); (case side1 => exact qI HI0.out); (case side2 => exact qS HB.out); rintro e w26 ⟨rfl, hi, hb, hk⟩; replace HO287 := Aside0.mk (Kd.R_mono (Kd.R_keep (IsS80.apart (show IsS80 w0 _ g s0_0 t293 t294 from qI HI0.out) (qR HO287.out) (by decide)) hk (fun _ h => h.2)) (fun _ h => h.1)); replace HK := Aside0.mk (KeepBut.trans (qK HK.out) hk (.inl rfl)); replace HB := Aside0.mk (hb); replace HI0 := Aside0.mk (hi)))
  repeat (go_quiet (first | ((with_reducible refine gate_dst (N := 8) rfl ?_); refine Kd.R_lit Kd.string _ 9 ?hg (N := 8) ?hd (xs := ([(⟨#[97]⟩ : ByteArray), (⟨#[98]⟩ : ByteArray), (⟨#[99]⟩ : ByteArray), (⟨#[101]⟩ : ByteArray), (⟨#[102]⟩ : ByteArray), (⟨#[65]⟩ : ByteArray), (⟨#[32]⟩ : ByteArray), (⟨#[44]⟩ : ByteArray), (⟨#[48]⟩ : ByteArray), (⟨#[10]⟩ : ByteArray)] : List ByteArray)) (inner := [.string (⟨#[97]⟩ : ByteArray), .string (⟨#[98]⟩ : ByteArray), .string (⟨#[99]⟩ : ByteArray), .string (⟨#[101]⟩ : ByteArray), .string (⟨#[102]⟩ : ByteArray), .string (⟨#[65]⟩ : ByteArray), .string (⟨#[32]⟩ : ByteArray), .string (⟨#[44]⟩ : ByteArray), .string (⟨#[48]⟩ : ByteArray), .string (⟨#[10]⟩ : ByteArray)]) (ok := fun _ => True) (okp := fun _ => True) ?hr ?hp (fun _ hk => hk) trivial (Below.refl _ _) (Nat.le_refl _) (by simp) ?_; (case hd => rfl); (case hg => rfl); (case hr => first | (go_simp; done) | (go_simp; rfl)); (case hp => exact (Reps.one (show Kd.M Kd.string _ _ _ (⟨#[97]⟩ : ByteArray) [.string (⟨#[97]⟩ : ByteArray)] from rfl) (Reps.one (show Kd.M Kd.string _ _ _ (⟨#[98]⟩ : ByteArray) [.string (⟨#[98]⟩ : ByteArray)] from rfl) (Reps.one (show Kd.M Kd.string _ _ _ (⟨#[99]⟩ : ByteArray) [.string (⟨#[99]⟩ : ByteArray)] from rfl) (Reps.one (show Kd.M Kd.string _ _ _ (⟨#[101]⟩ : ByteArray) [.string (⟨#[101]⟩ : ByteArray)] from rfl) (Reps.one (show Kd.M Kd.string _ _ _ (⟨#[102]⟩ : ByteArray) [.string (⟨#[102]⟩ : ByteArray)] from rfl) (Reps.one (show Kd.M Kd.string _ _ _ (⟨#[65]⟩ : ByteArray) [.string (⟨#[65]⟩ : ByteArray)] from rfl) (Reps.one (show Kd.M Kd.string _ _ _ (⟨#[32]⟩ : ByteArray) [.string (⟨#[32]⟩ : ByteArray)] from rfl) (Reps.one (show Kd.M Kd.string _ _ _ (⟨#[44]⟩ : ByteArray) [.string (⟨#[44]⟩ : ByteArray)] from rfl) (Reps.one (show Kd.M Kd.string _ _ _ (⟨#[48]⟩ : ByteArray) [.string (⟨#[48]⟩ : ByteArray)] from rfl) (Reps.one (show Kd.M Kd.string _ _ _ (⟨#[10]⟩ : ByteArray) [.string (⟨#[10]⟩ : ByteArray)] from rfl) (Reps.none _ _)))))))))))); intro v286 w21 ho22 hb hg_ hnew_; clear hg_ hnew_; (first | rw [← Ny285.out] at ho22 | (simp only [Int.reduceToNat] at ho22; rw [← Ny285.out] at ho22)); have HO287 := Aside0.mk (Kd.R_lower ho22 (keep_size (w := w) (g := g) (row := none) (qK HK.out))); replace HI0 := Aside0.mk (IsS80.below (qI HI0.out) hb); replace HK := Aside0.mk (KeepBut.trans (qK HK.out) (KeepBut.of_below hb g none) (.inl rfl)); replace HB := Aside0.mk (below_step (qS HB.out) hb); clear hb ho22; obtain ⟨Ao23, co23, eo23⟩ := Kd.R_slice HO287.out; subst eo23) | (go_at_call 60; (with_reducible refine (spec_l01Next.calls g s0_0 s0_1 s0_2 (y285.length : Int) t288 t289 t290 w0 _ ?side1 ?side2 A3.out).mono ?_); (case side1 => exact qI HI0.out); (case side2 => exact qS HB.out); rintro e w24 ⟨rfl, hi, hb, hk⟩; replace HO287 := Aside0.mk (Kd.R_mono (Kd.R_keep (IsS80.apart (show IsS80 w0 _ g s0_0 s0_1 s0_2 from qI HI0.out) (qR HO287.out) (by decide)) hk (fun _ h => h.2)) (fun _ h => h.1)); replace HK := Aside0.mk (KeepBut.trans (qK HK.out) hk (.inl rfl)); replace HB := Aside0.mk (hb); replace HI0 := Aside0.mk (hi); have p291 : 0 ≤ (t288 : Int) := of_decide_eq_true (by first | (with_reducible assumption) | assumption); have q291 : t288 < (y285.length : Int) := of_decide_eq_true (by first | (with_reducible assumption) | assumption); obtain ⟨ad291, e291, hx291_0⟩ := Kd.at_string (Kd.R_reads' HO287.out).2.2 t288 p291 q291; cases e291; replace p291 := eq_true p291; replace q291 := eq_true q291) | (go_at_call 60; (with_reducible refine (spec_l01Next.calls g s0_0 t289 t290 (a1.size : Int) t292 t293 t294 w0 _ ?side1 ?side2 A11.out).mono ?_); (case side1 => exact qI HI0.out); (case side2 => exact qS HB.out); rintro e w25 ⟨rfl, hi, hb, hk⟩; replace HO287 := Aside0.mk (Kd.R_mono (Kd.R_keep (IsS80.apart (show IsS80 w0 _ g s0_0 t289 t290 from qI HI0.out) (qR HO287.out) (by decide)) hk (fun _ h => h.2)) (fun _ h => h.1)); replace HK := Aside0.mk (KeepBut.trans (qK HK.out) hk (.inl rfl)); replace HB := Aside0.mk (hb); replace HI0 := Aside0.mk (hi)) | (go_at_call 60; (with_reducible refine (spec_l01Next.calls g s0_0 t293 t294 3 t295 t296 t297 w0 _ ?side1 ?side2 A12.out).mono ?_); (case side1 => exact qI HI0.out); (case side2 => exact qS HB.out); rintro e w26 ⟨rfl, hi, hb, hk⟩; replace HO287 := Aside0.mk (Kd.R_mono (Kd.R_keep (IsS80.apart (show IsS80 w0 _ g s0_0 t293 t294 from qI HI0.out) (qR HO287.out) (by decide)) hk (fun _ h => h.2)) (fun _ h => h.1)); replace HK := Aside0.mk (KeepBut.trans (qK HK.out) hk (.inl rfl)); replace HB := Aside0.mk (hb); replace HI0 := Aside0.mk (hi))); try go_wp2_with (first | ((with_reducible refine gate_dst (N := 8) rfl ?_); refine Kd.R_lit Kd.string _ 9 ?hg (N := 8) ?hd (xs := ([(⟨#[97]⟩ : ByteArray), (⟨#[98]⟩ : ByteArray), (⟨#[99]⟩ : ByteArray), (⟨#[101]⟩ : ByteArray), (⟨#[102]⟩ : ByteArray), (⟨#[65]⟩ : ByteArray), (⟨#[32]⟩ : ByteArray), (⟨#[44]⟩ : ByteArray), (⟨#[48]⟩ : ByteArray), (⟨#[10]⟩ : ByteArray)] : List ByteArray)) (inner := [.string (⟨#[97]⟩ : ByteArray), .string (⟨#[98]⟩ : ByteArray), .string (⟨#[99]⟩ : ByteArray), .string (⟨#[101]⟩ : ByteArray), .string (⟨#[102]⟩ : ByteArray), .string (⟨#[65]⟩ : ByteArray), .string (⟨#[32]⟩ : ByteArray), .string (⟨#[44]⟩ : ByteArray), .string (⟨#[48]⟩ : ByteArray), .string (⟨#[10]⟩ : ByteArray)]) (ok := fun _ => True) (okp := fun _ => True) ?hr ?hp (fun _ hk => hk) trivial (Below.refl _ _) (Nat.le_refl _) (by simp) ?_; (case hd => rfl); (case hg => rfl); (case hr => first | (go_simp; done) | (go_simp; rfl)); (case hp => exact (Reps.one (show Kd.M Kd.string _ _ _ (⟨#[97]⟩ : ByteArray) [.string (⟨#[97]⟩ : ByteArray)] from rfl) (Reps.one (show Kd.M Kd.string _ _ _ (⟨#[98]⟩ : ByteArray) [.string (⟨#[98]⟩ : ByteArray)] from rfl) (Reps.one (show Kd.M Kd.string _ _ _ (⟨#[99]⟩ : ByteArray) [.string (⟨#[99]⟩ : ByteArray)] from rfl) (Reps.one (show Kd.M Kd.string _ _ _ (⟨#[101]⟩ : ByteArray) [.string (⟨#[101]⟩ : ByteArray)] from rfl) (Reps.one (show Kd.M Kd.string _ _ _ (⟨#[102]⟩ : ByteArray) [.string (⟨#[102]⟩ : ByteArray)] from rfl) (Reps.one (show Kd.M Kd.string _ _ _ (⟨#[65]⟩ : ByteArray) [.string (⟨#[65]⟩ : ByteArray)] from rfl) (Reps.one (show Kd.M Kd.string _ _ _ (⟨#[32]⟩ : ByteArray) [.string (⟨#[32]⟩ : ByteArray)] from rfl) (Reps.one (show Kd.M Kd.string _ _ _ (⟨#[44]⟩ : ByteArray) [.string (⟨#[44]⟩ : ByteArray)] from rfl) (Reps.one (show Kd.M Kd.string _ _ _ (⟨#[48]⟩ : ByteArray) [.string (⟨#[48]⟩ : ByteArray)] from rfl) (Reps.one (show Kd.M Kd.string _ _ _ (⟨#[10]⟩ : ByteArray) [.string (⟨#[10]⟩ : ByteArray)] from rfl) (Reps.none _ _)))))))))))); intro v286 w21 ho22 hb hg_ hnew_; clear hg_ hnew_; (first | rw [← Ny285.out] at ho22 | (simp only [Int.reduceToNat] at ho22; rw [← Ny285.out] at ho22)); have HO287 := Aside0.mk (Kd.R_lower ho22 (keep_size (w := w) (g := g) (row := none) (qK HK.out))); replace HI0 := Aside0.mk (IsS80.below (qI HI0.out) hb); replace HK := Aside0.mk (KeepBut.trans (qK HK.out) (KeepBut.of_below hb g none) (.inl rfl)); replace HB := Aside0.mk (below_step (qS HB.out) hb); clear hb ho22; obtain ⟨Ao23, co23, eo23⟩ := Kd.R_slice HO287.out; subst eo23) | (go_at_call 60; (with_reducible refine (spec_l01Next.calls g s0_0 s0_1 s0_2 (y285.length : Int) t288 t289 t290 w0 _ ?side1 ?side2 A3.out).mono ?_); (case side1 => exact qI HI0.out); (case side2 => exact qS HB.out); rintro e w24 ⟨rfl, hi, hb, hk⟩; replace HO287 := Aside0.mk (Kd.R_mono (Kd.R_keep (IsS80.apart (show IsS80 w0 _ g s0_0 s0_1 s0_2 from qI HI0.out) (qR HO287.out) (by decide)) hk (fun _ h => h.2)) (fun _ h => h.1)); replace HK := Aside0.mk (KeepBut.trans (qK HK.out) hk (.inl rfl)); replace HB := Aside0.mk (hb); replace HI0 := Aside0.mk (hi); have p291 : 0 ≤ (t288 : Int) := of_decide_eq_true (by first | (with_reducible assumption) | assumption); have q291 : t288 < (y285.length : Int) := of_decide_eq_true (by first | (with_reducible assumption) | assumption); obtain ⟨ad291, e291, hx291_0⟩ := Kd.at_string (Kd.R_reads' HO287.out).2.2 t288 p291 q291; cases e291; replace p291 := eq_true p291; replace q291 := eq_true q291) | (go_at_call 60; (with_reducible refine (spec_l01Next.calls g s0_0 t289 t290 (a1.size : Int) t292 t293 t294 w0 _ ?side1 ?side2 A11.out).mono ?_); (case side1 => exact qI HI0.out); (case side2 => exact qS HB.out); rintro e w25 ⟨rfl, hi, hb, hk⟩; replace HO287 := Aside0.mk (Kd.R_mono (Kd.R_keep (IsS80.apart (show IsS80 w0 _ g s0_0 t289 t290 from qI HI0.out) (qR HO287.out) (by decide)) hk (fun _ h => h.2)) (fun _ h => h.1)); replace HK := Aside0.mk (KeepBut.trans (qK HK.out) hk (.inl rfl)); replace HB := Aside0.mk (hb); replace HI0 := Aside0.mk (hi)) | (go_at_call 60; (with_reducible refine (spec_l01Next.calls g s0_0 t293 t294 3 t295 t296 t297 w0 _ ?side1 ?side2 A12.out).mono ?_); (case side1 => exact qI HI0.out); (case side2 => exact qS HB.out); rintro e w26 ⟨rfl, hi, hb, hk⟩; replace HO287 := Aside0.mk (Kd.R_mono (Kd.R_keep (IsS80.apart (show IsS80 w0 _ g s0_0 t293 t294 from qI HI0.out) (qR HO287.out) (by decide)) hk (fun _ h => h.2)) (fun _ h => h.1)); replace HK := Aside0.mk (KeepBut.trans (qK HK.out) hk (.inl rfl)); replace HB := Aside0.mk (hb); replace HI0 := Aside0.mk (hi))))
  go_ret
  exact ⟨by first | rfl | (simp [errW_none, errW_some] <;> rfl) | (simp only [← hji17]; first | rfl | (simp [errW_none, errW_some] <;> rfl)) | (simp [*, errW_none, errW_some] <;> rfl), qI HI0.out, qS HB.out, qK HK.out⟩
 rw [if_neg c13] at H
 obtain ⟨c13b0, c13b1⟩ := zF c13
 by_cases c27 : t295 = 1
 rotate_left
 ·
  rw [if_neg c27] at H
  obtain ⟨c27b0, c27b1⟩ := zF c27
  by_cases c40 : 0 ≤ t292
  rotate_left
  ·
   rw [if_neg c40] at H
   exact absurd H (by simp)
  rw [if_pos c40] at H
  have c40b0 := eq_true c40
  have c40b1 : decide (0 ≤ t292) = true := decide_eq_true c40
  clear c40
  by_cases c41 : t292 ≤ (a1.size : Int)
  rotate_left
  ·
   rw [if_neg c41] at H
   exact absurd H (by simp)
  rw [if_pos c41] at H
  have c41b0 := eq_true c41
  have c41b1 : decide (t292 ≤ (a1.size : Int)) = true := decide_eq_true c41
  clear c41
  by_cases c42 : (a1.extract 0 (t292 : Int).toNat).size + (rdOf ByteArray.empty y285 t288).size ≤ 9223372036854775807
  rotate_left
  ·
   rw [if_neg c42] at H
   exact absurd H (by simp)
  rw [if_pos c42] at H
  have c42b0 := eq_true c42
  have c42b1 : decide ((a1.extract 0 (t292 : Int).toNat).size + (rdOf ByteArray.empty y285 t288).size ≤ 9223372036854775807) = true := decide_eq_true c42
  try have c42b2 : (9223372036854775807 < (a1.extract 0 (t292 : Int).toNat).size + (rdOf ByteArray.empty y285 t288).size) = False := eq_false (Nat.not_lt.2 c42)
  have c43b0 := eq_true (of_decide_eq_true (by first | (with_reducible assumption) | assumption) : 0 ≤ t292)
  have c44b0 := eq_true (of_decide_eq_true (by first | (with_reducible assumption) | assumption) : t292 ≤ (a1.size : Int))
  by_cases c45 : ((a1.extract 0 (t292 : Int).toNat) ++ (rdOf ByteArray.empty y285 t288)).size + (a1.extract (t292 : Int).toNat a1.size).size ≤ 9223372036854775807
  rotate_left
  ·
   rw [if_neg c45] at H
   exact absurd H (by simp)
  rw [if_pos c45] at H
  have c45b0 := eq_true c45
  have c45b1 : decide (((a1.extract 0 (t292 : Int).toNat) ++ (rdOf ByteArray.empty y285 t288)).size + (a1.extract (t292 : Int).toNat a1.size).size ≤ 9223372036854775807) = true := decide_eq_true c45
  have c45y := c45
  try simp only [ByteArray.size_append] at c45y
  try have c45y0 := eq_true c45y
  try have c45y2 := eq_false (Nat.not_lt.2 c45y)
  clear c45y
  try have c45b2 : (9223372036854775807 < ((a1.extract 0 (t292 : Int).toNat) ++ (rdOf ByteArray.empty y285 t288)).size + (a1.extract (t292 : Int).toNat a1.size).size) = False := eq_false (Nat.not_lt.2 c45)
  simp only [Option.some.injEq, Prod.mk.injEq] at H
  obtain ⟨rfl, rfl, rfl⟩ := H
  go_enter Tryz.func81, Tryz.ntmps81
  go_wp2_with (first | ((with_reducible refine gate_dst (N := 8) rfl ?_); refine Kd.R_lit Kd.string _ 9 ?hg (N := 8) ?hd (xs := ([(⟨#[97]⟩ : ByteArray), (⟨#[98]⟩ : ByteArray), (⟨#[99]⟩ : ByteArray), (⟨#[101]⟩ : ByteArray), (⟨#[102]⟩ : ByteArray), (⟨#[65]⟩ : ByteArray), (⟨#[32]⟩ : ByteArray), (⟨#[44]⟩ : ByteArray), (⟨#[48]⟩ : ByteArray), (⟨#[10]⟩ : ByteArray)] : List ByteArray)) (inner := [.string (⟨#[97]⟩ : ByteArray), .string (⟨#[98]⟩ : ByteArray), .string (⟨#[99]⟩ : ByteArray), .string (⟨#[101]⟩ : ByteArray), .string (⟨#[102]⟩ : ByteArray), .string (⟨#[65]⟩ : ByteArray), .string (⟨#[32]⟩ : ByteArray), .string (⟨#[44]⟩ : ByteArray), .string (⟨#[48]⟩ : ByteArray), .string (⟨#[10]⟩ : ByteArray)]) (ok := fun _ => True) (okp := fun _ => True) ?hr ?hp (fun _ hk => hk) trivial (Below.refl _ _) (Nat.le_refl _) (by simp) ?_; (case hd => rfl); (case hg => rfl); (case hr => first | (go_simp; done) | (go_simp; rfl)); (case hp => exact (Reps.one (show Kd.M Kd.string _ _ _ (⟨#[97]⟩ : ByteArray) [.string (⟨#[97]⟩ : ByteArray)] from rfl) (Reps.one (show Kd.M Kd.string _ _ _ (⟨#[98]⟩ : ByteArray) [.string (⟨#[98]⟩ : ByteArray)] from rfl) (Reps.one (show Kd.M Kd.string _ _ _ (⟨#[99]⟩ : ByteArray) [.string (⟨#[99]⟩ : ByteArray)] from rfl) (Reps.one (show Kd.M Kd.string _ _ _ (⟨#[101]⟩ : ByteArray) [.string (⟨#[101]⟩ : ByteArray)] from rfl) (Reps.one (show Kd.M Kd.string _ _ _ (⟨#[102]⟩ : ByteArray) [.string (⟨#[102]⟩ : ByteArray)] from rfl) (Reps.one (show Kd.M Kd.string _ _ _ (⟨#[65]⟩ : ByteArray) [.string (⟨#[65]⟩ : ByteArray)] from rfl) (Reps.one (show Kd.M Kd.string _ _ _ (⟨#[32]⟩ : ByteArray) [.string (⟨#[32]⟩ : ByteArray)] from rfl) (Reps.one (show Kd.M Kd.string _ _ _ (⟨#[44]⟩ : ByteArray) [.string (⟨#[44]⟩ : ByteArray)] from rfl) (Reps.one (show Kd.M Kd.string _ _ _ (⟨#[48]⟩ : ByteArray) [.string (⟨#[48]⟩ : ByteArray)] from rfl) (Reps.one (show Kd.M Kd.string _ _ _ (⟨#[10]⟩ : ByteArray) [.string (⟨#[10]⟩ : ByteArray)] from rfl) (Reps.none _ _)))))))))))); intro v286 w46 ho47 hb hg_ hnew_; clear hg_ hnew_; (first | rw [← Ny285.out] at ho47 | (simp only [Int.reduceToNat] at ho47; rw [← Ny285.out] at ho47)); have HO287 := Aside0.mk (Kd.R_lower ho47 (keep_size (w := w) (g := g) (row := none) (qK HK.out))); replace HI0 := Aside0.mk (IsS80.below (qI HI0.out) hb); replace HK := Aside0.mk (KeepBut.trans (qK HK.out) (KeepBut.of_below hb g none) (.inl rfl)); replace HB := Aside0.mk (below_step (qS HB.out) hb); clear hb ho47; obtain ⟨Ao48, co48, eo48⟩ := Kd.R_slice HO287.out; subst eo48) | (go_at_call 60; (with_reducible refine (spec_l01Next.calls g s0_0 s0_1 s0_2 (y285.length : Int) t288 t289 t290 w0 _ ?side1 ?side2 A3.out).mono ?_); (case side1 => exact qI HI0.out); (case side2 => exact qS HB.out); rintro e w49 ⟨rfl, hi, hb, hk⟩; replace HO287 := Aside0.mk (Kd.R_mono (Kd.R_keep (IsS80.apart (show IsS80 w0 _ g s0_0 s0_1 s0_2 from qI HI0.out) (qR HO287.out) (by decide)) hk (fun _ h => h.2)) (fun _ h => h.1)); replace HK := Aside0.mk (KeepBut.trans (qK HK.out) hk (.inl rfl)); replace HB := Aside0.mk (hb); replace HI0 := Aside0.mk (hi); have p291 : 0 ≤ (t288 : Int) := of_decide_eq_true (by first | (with_reducible assumption) | assumption); have q291 : t288 < (y285.length : Int) := of_decide_eq_true (by first | (with_reducible assumption) | assumption); obtain ⟨ad291, e291, hx291_0⟩ := Kd.at_string (Kd.R_reads' HO287.out).2.2 t288 p291 q291; cases e291; replace p291 := eq_true p291; replace q291 := eq_true q291) | (go_at_call 60; (with_reducible refine (spec_l01Next.calls g s0_0 t289 t290 (a1.size : Int) t292 t293 t294 w0 _ ?side1 ?side2 A11.out).mono ?_); (case side1 => exact qI HI0.out); (case side2 => exact qS HB.out); rintro e w50 ⟨rfl, hi, hb, hk⟩; replace HO287 := Aside0.mk (Kd.R_mono (Kd.R_keep (IsS80.apart (show IsS80 w0 _ g s0_0 t289 t290 from qI HI0.out) (qR HO287.out) (by decide)) hk (fun _ h => h.2)) (fun _ h => h.1)); replace HK := Aside0.mk (KeepBut.trans (qK HK.out) hk (.inl rfl)); replace HB := Aside0.mk (hb); replace HI0 := Aside0.mk (hi)) | (go_at_call 60; (with_reducible refine (spec_l01Next.calls g s0_0 t293 t294 3 t295 t296 t297 w0 _ ?side1 ?side2 A12.out).mono ?_); (case side1 => exact qI HI0.out); (case side2 => exact qS HB.out); rintro e w51 ⟨rfl, hi, hb, hk⟩; replace HO287 := Aside0.mk (Kd.R_mono (Kd.R_keep (IsS80.apart (show IsS80 w0 _ g s0_0 t293 t294 from qI HI0.out) (qR HO287.out) (by decide)) hk (fun _ h => h.2)) (fun _ h => h.1)); replace HK := Aside0.mk (KeepBut.trans (qK HK.out) hk (.inl rfl)); replace HB := Aside0.mk (hb); replace HI0 := Aside0.mk (hi)))
  repeat (go_quiet (first | ((with_reducible refine gate_dst (N := 8) rfl ?_); refine Kd.R_lit Kd.string _ 9 ?hg (N := 8) ?hd (xs := ([(⟨#[97]⟩ : ByteArray), (⟨#[98]⟩ : ByteArray), (⟨#[99]⟩ : ByteArray), (⟨#[101]⟩ : ByteArray), (⟨#[102]⟩ : ByteArray), (⟨#[65]⟩ : ByteArray), (⟨#[32]⟩ : ByteArray), (⟨#[44]⟩ : ByteArray), (⟨#[48]⟩ : ByteArray), (⟨#[10]⟩ : ByteArray)] : List ByteArray)) (inner := [.string (⟨#[97]⟩ : ByteArray), .string (⟨#[98]⟩ : ByteArray), .string (⟨#[99]⟩ : ByteArray), .string (⟨#[101]⟩ : ByteArray), .string (⟨#[102]⟩ : ByteArray), .string (⟨#[65]⟩ : ByteArray), .string (⟨#[32]⟩ : ByteArray), .string (⟨#[44]⟩ : ByteArray), .string (⟨#[48]⟩ : ByteArray), .string (⟨#[10]⟩ : ByteArray)]) (ok := fun _ => True) (okp := fun _ => True) ?hr ?hp (fun _ hk => hk) trivial (Below.refl _ _) (Nat.le_refl _) (by simp) ?_; (case hd => rfl); (case hg => rfl); (case hr => first | (go_simp; done) | (go_simp; rfl)); (case hp => exact (Reps.one (show Kd.M Kd.string _ _ _ (⟨#[97]⟩ : ByteArray) [.string (⟨#[97]⟩ : ByteArray)] from rfl) (Reps.one (show Kd.M Kd.string _ _ _ (⟨#[98]⟩ : ByteArray) [.string (⟨#[98]⟩ : ByteArray)] from rfl) (Reps.one (show Kd.M Kd.string _ _ _ (⟨#[99]⟩ : ByteArray) [.string (⟨#[99]⟩ : ByteArray)] from rfl) (Reps.one (show Kd.M Kd.string _ _ _ (⟨#[101]⟩ : ByteArray) [.string (⟨#[101]⟩ : ByteArray)] from rfl) (Reps.one (show Kd.M Kd.string _ _ _ (⟨#[102]⟩ : ByteArray) [.string (⟨#[102]⟩ : ByteArray)] from rfl) (Reps.one (show Kd.M Kd.string _ _ _ (⟨#[65]⟩ : ByteArray) [.string (⟨#[65]⟩ : ByteArray)] from rfl) (Reps.one (show Kd.M Kd.string _ _ _ (⟨#[32]⟩ : ByteArray) [.string (⟨#[32]⟩ : ByteArray)] from rfl) (Reps.one (show Kd.M Kd.string _ _ _ (⟨#[44]⟩ : ByteArray) [.string (⟨#[44]⟩ : ByteArray)] from rfl) (Reps.one (show Kd.M Kd.string _ _ _ (⟨#[48]⟩ : ByteArray) [.string (⟨#[48]⟩ : ByteArray)] from rfl) (Reps.one (show Kd.M Kd.string _ _ _ (⟨#[10]⟩ : ByteArray) [.string (⟨#[10]⟩ : ByteArray)] from rfl) (Reps.none _ _)))))))))))); intro v286 w46 ho47 hb hg_ hnew_; clear hg_ hnew_; (first | rw [← Ny285.out] at ho47 | (simp only [Int.reduceToNat] at ho47; rw [← Ny285.out] at ho47)); have HO287 := Aside0.mk (Kd.R_lower ho47 (keep_size (w := w) (g := g) (row := none) (qK HK.out))); replace HI0 := Aside0.mk (IsS80.below (qI HI0.out) hb); replace HK := Aside0.mk (KeepBut.trans (qK HK.out) (KeepBut.of_below hb g none) (.inl rfl)); replace HB := Aside0.mk (below_step (qS HB.out) hb); clear hb ho47; obtain ⟨Ao48, co48, eo48⟩ := Kd.R_slice HO287.out; subst eo48) | (go_at_call 60; (with_reducible refine (spec_l01Next.calls g s0_0 s0_1 s0_2 (y285.length : Int) t288 t289 t290 w0 _ ?side1 ?side2 A3.out).mono ?_); (case side1 => exact qI HI0.out); (case side2 => exact qS HB.out); rintro e w49 ⟨rfl, hi, hb, hk⟩; replace HO287 := Aside0.mk (Kd.R_mono (Kd.R_keep (IsS80.apart (show IsS80 w0 _ g s0_0 s0_1 s0_2 from qI HI0.out) (qR HO287.out) (by decide)) hk (fun _ h => h.2)) (fun _ h => h.1)); replace HK := Aside0.mk (KeepBut.trans (qK HK.out) hk (.inl rfl)); replace HB := Aside0.mk (hb); replace HI0 := Aside0.mk (hi); have p291 : 0 ≤ (t288 : Int) := of_decide_eq_true (by first | (with_reducible assumption) | assumption); have q291 : t288 < (y285.length : Int) := of_decide_eq_true (by first | (with_reducible assumption) | assumption); obtain ⟨ad291, e291, hx291_0⟩ := Kd.at_string (Kd.R_reads' HO287.out).2.2 t288 p291 q291; cases e291; replace p291 := eq_true p291; replace q291 := eq_true q291) | (go_at_call 60; (with_reducible refine (spec_l01Next.calls g s0_0 t289 t290 (a1.size : Int) t292 t293 t294 w0 _ ?side1 ?side2 A11.out).mono ?_); (case side1 => exact qI HI0.out); (case side2 => exact qS HB.out); rintro e w50 ⟨rfl, hi, hb, hk⟩; replace HO287 := Aside0.mk (Kd.R_mono (Kd.R_keep (IsS80.apart (show IsS80 w0 _ g s0_0 t289 t290 from qI HI0.out) (qR HO287.out) (by decide)) hk (fun _ h => h.2)) (fun _ h => h.1)); replace HK := Aside0.mk (KeepBut.trans (qK HK.out) hk (.inl rfl)); replace HB := Aside0.mk (hb); replace HI0 := Aside0.mk (hi)) | (go_at_call 60; (with_reducible refine (spec_l01Next.calls g s0_0 t293 t294 3 t295 t296 t297 w0 _ ?side1 ?side2 A12.out).mono ?_); (case side1 => exact qI HI0.out); (case side2 => exact qS HB.out); rintro e w51 ⟨rfl, hi, hb, hk⟩; replace HO287 := Aside0.mk (Kd.R_mono (Kd.R_keep (IsS80.apart (show IsS80 w0 _ g s0_0 t293 t294 from qI HI0.out) (qR HO287.out) (by decide)) hk (fun _ h => h.2)) (fun _ h => h.1)); replace HK := Aside0.mk (KeepBut.trans (qK HK.out) hk (.inl rfl)); replace HB := Aside0.mk (hb); replace HI0 := Aside0.mk (hi))); try go_wp2_with (first | ((with_reducible refine gate_dst (N := 8) rfl ?_); refine Kd.R_lit Kd.string _ 9 ?hg (N := 8) ?hd (xs := ([(⟨#[97]⟩ : ByteArray), (⟨#[98]⟩ : ByteArray), (⟨#[99]⟩ : ByteArray), (⟨#[101]⟩ : ByteArray), (⟨#[102]⟩ : ByteArray), (⟨#[65]⟩ : ByteArray), (⟨#[32]⟩ : ByteArray), (⟨#[44]⟩ : ByteArray), (⟨#[48]⟩ : ByteArray), (⟨#[10]⟩ : ByteArray)] : List ByteArray)) (inner := [.string (⟨#[97]⟩ : ByteArray), .string (⟨#[98]⟩ : ByteArray), .string (⟨#[99]⟩ : ByteArray), .string (⟨#[101]⟩ : ByteArray), .string (⟨#[102]⟩ : ByteArray), .string (⟨#[65]⟩ : ByteArray), .string (⟨#[32]⟩ : ByteArray), .string (⟨#[44]⟩ : ByteArray), .string (⟨#[48]⟩ : ByteArray), .string (⟨#[10]⟩ : ByteArray)]) (ok := fun _ => True) (okp := fun _ => True) ?hr ?hp (fun _ hk => hk) trivial (Below.refl _ _) (Nat.le_refl _) (by simp) ?_; (case hd => rfl); (case hg => rfl); (case hr => first | (go_simp; done) | (go_simp; rfl)); (case hp => exact (Reps.one (show Kd.M Kd.string _ _ _ (⟨#[97]⟩ : ByteArray) [.string (⟨#[97]⟩ : ByteArray)] from rfl) (Reps.one (show Kd.M Kd.string _ _ _ (⟨#[98]⟩ : ByteArray) [.string (⟨#[98]⟩ : ByteArray)] from rfl) (Reps.one (show Kd.M Kd.string _ _ _ (⟨#[99]⟩ : ByteArray) [.string (⟨#[99]⟩ : ByteArray)] from rfl) (Reps.one (show Kd.M Kd.string _ _ _ (⟨#[101]⟩ : ByteArray) [.string (⟨#[101]⟩ : ByteArray)] from rfl) (Reps.one (show Kd.M Kd.string _ _ _ (⟨#[102]⟩ : ByteArray) [.string (⟨#[102]⟩ : ByteArray)] from rfl) (Reps.one (show Kd.M Kd.string _ _ _ (⟨#[65]⟩ : ByteArray) [.string (⟨#[65]⟩ : ByteArray)] from rfl) (Reps.one (show Kd.M Kd.string _ _ _ (⟨#[32]⟩ : ByteArray) [.string (⟨#[32]⟩ : ByteArray)] from rfl) (Reps.one (show Kd.M Kd.string _ _ _ (⟨#[44]⟩ : ByteArray) [.string (⟨#[44]⟩ : ByteArray)] from rfl) (Reps.one (show Kd.M Kd.string _ _ _ (⟨#[48]⟩ : ByteArray) [.string (⟨#[48]⟩ : ByteArray)] from rfl) (Reps.one (show Kd.M Kd.string _ _ _ (⟨#[10]⟩ : ByteArray) [.string (⟨#[10]⟩ : ByteArray)] from rfl) (Reps.none _ _)))))))))))); intro v286 w46 ho47 hb hg_ hnew_; clear hg_ hnew_; (first | rw [← Ny285.out] at ho47 | (simp only [Int.reduceToNat] at ho47; rw [← Ny285.out] at ho47)); have HO287 := Aside0.mk (Kd.R_lower ho47 (keep_size (w := w) (g := g) (row := none) (qK HK.out))); replace HI0 := Aside0.mk (IsS80.below (qI HI0.out) hb); replace HK := Aside0.mk (KeepBut.trans (qK HK.out) (KeepBut.of_below hb g none) (.inl rfl)); replace HB := Aside0.mk (below_step (qS HB.out) hb); clear hb ho47; obtain ⟨Ao48, co48, eo48⟩ := Kd.R_slice HO287.out; subst eo48) | (go_at_call 60; (with_reducible refine (spec_l01Next.calls g s0_0 s0_1 s0_2 (y285.length : Int) t288 t289 t290 w0 _ ?side1 ?side2 A3.out).mono ?_); (case side1 => exact qI HI0.out); (case side2 => exact qS HB.out); rintro e w49 ⟨rfl, hi, hb, hk⟩; replace HO287 := Aside0.mk (Kd.R_mono (Kd.R_keep (IsS80.apart (show IsS80 w0 _ g s0_0 s0_1 s0_2 from qI HI0.out) (qR HO287.out) (by decide)) hk (fun _ h => h.2)) (fun _ h => h.1)); replace HK := Aside0.mk (KeepBut.trans (qK HK.out) hk (.inl rfl)); replace HB := Aside0.mk (hb); replace HI0 := Aside0.mk (hi); have p291 : 0 ≤ (t288 : Int) := of_decide_eq_true (by first | (with_reducible assumption) | assumption); have q291 : t288 < (y285.length : Int) := of_decide_eq_true (by first | (with_reducible assumption) | assumption); obtain ⟨ad291, e291, hx291_0⟩ := Kd.at_string (Kd.R_reads' HO287.out).2.2 t288 p291 q291; cases e291; replace p291 := eq_true p291; replace q291 := eq_true q291) | (go_at_call 60; (with_reducible refine (spec_l01Next.calls g s0_0 t289 t290 (a1.size : Int) t292 t293 t294 w0 _ ?side1 ?side2 A11.out).mono ?_); (case side1 => exact qI HI0.out); (case side2 => exact qS HB.out); rintro e w50 ⟨rfl, hi, hb, hk⟩; replace HO287 := Aside0.mk (Kd.R_mono (Kd.R_keep (IsS80.apart (show IsS80 w0 _ g s0_0 t289 t290 from qI HI0.out) (qR HO287.out) (by decide)) hk (fun _ h => h.2)) (fun _ h => h.1)); replace HK := Aside0.mk (KeepBut.trans (qK HK.out) hk (.inl rfl)); replace HB := Aside0.mk (hb); replace HI0 := Aside0.mk (hi)) | (go_at_call 60; (with_reducible refine (spec_l01Next.calls g s0_0 t293 t294 3 t295 t296 t297 w0 _ ?side1 ?side2 A12.out).mono ?_); (case side1 => exact qI HI0.out); (case side2 => exact qS HB.out); rintro e w51 ⟨rfl, hi, hb, hk⟩; replace HO287 := Aside0.mk (Kd.R_mono (Kd.R_keep (IsS80.apart (show IsS80 w0 _ g s0_0 t293 t294 from qI HI0.out) (qR HO287.out) (by decide)) hk (fun _ h => h.2)) (fun _ h => h.1)); replace HK := Aside0.mk (KeepBut.trans (qK HK.out) hk (.inl rfl)); replace HB := Aside0.mk (hb); replace HI0 := Aside0.mk (hi))))
  go_ret
  exact ⟨qE, qI HI0.out, qS HB.out, qK HK.out⟩
 rw [if_pos c27] at H
 obtain ⟨c27b0, c27b1⟩ := zT c27
 clear c27
 by_cases c28 : 0 ≤ t292
 rotate_left
 ·
  rw [if_neg c28] at H
  exact absurd H (by simp)
 rw [if_pos c28] at H
 have c28b0 := eq_true c28
 have c28b1 : decide (0 ≤ t292) = true := decide_eq_true c28
 clear c28
 by_cases c29 : t292 ≤ (a1.size : Int)
 rotate_left
 ·
  rw [if_neg c29] at H
  exact absurd H (by simp)
 rw [if_pos c29] at H
 have c29b0 := eq_true c29
 have c29b1 : decide (t292 ≤ (a1.size : Int)) = true := decide_eq_true c29
 clear c29
 obtain ⟨ji30, hji30⟩ : ∃ j_ : Int, (wrap64 (t292 + 1)) = j_ := ⟨_, rfl⟩
 replace H : (if 0 ≤ (ji30) then (if (ji30) ≤ (a1.size : Int) then (if (a1.extract 0 (t292 : Int).toNat).size + (a1.extract ((ji30) : Int).toNat a1.size).size ≤ 9223372036854775807 then (some ((a1.extract 0 (t292 : Int).toNat) ++ (a1.extract ((ji30) : Int).toNat a1.size), t296, t297)) else (none)) else (none)) else (none)) = some (r1, r2, r3) := by first | (rw [hji30] at H; exact H) | (simp only [hji30] at H ⊢; exact H)
 (try rw [hji30] at A3)
 (try rw [hji30] at A11)
 (try rw [hji30] at A12)
 have hji30w : (IntKind.i64.wrap (t292 + 1)) = ji30 := (i64_w _).trans hji30
 by_cases c31 : 0 ≤ (ji30)
 rotate_left
 ·
  rw [if_neg c31] at H
  exact absurd H (by simp)
 rw [if_pos c31] at H
 have c31b0 := eq_true c31
 have c31b1 : decide (0 ≤ (ji30)) = true := decide_eq_true c31
 clear c31
 by_cases c32 : (ji30) ≤ (a1.size : Int)
 rotate_left
 ·
  rw [if_neg c32] at H
  exact absurd H (by simp)
 rw [if_pos c32] at H
 have c32b0 := eq_true c32
 have c32b1 : decide ((ji30) ≤ (a1.size : Int)) = true := decide_eq_true c32
 clear c32
 by_cases c33 : (a1.extract 0 (t292 : Int).toNat).size + (a1.extract ((ji30) : Int).toNat a1.size).size ≤ 9223372036854775807
 rotate_left
 ·
  rw [if_neg c33] at H
  exact absurd H (by simp)
 rw [if_pos c33] at H
 have c33b0 := eq_true c33
 have c33b1 : decide ((a1.extract 0 (t292 : Int).toNat).size + (a1.extract ((ji30) : Int).toNat a1.size).size ≤ 9223372036854775807) = true := decide_eq_true c33
 try have c33b2 : (9223372036854775807 < (a1.extract 0 (t292 : Int).toNat).size + (a1.extract ((ji30) : Int).toNat a1.size).size) = False := eq_false (Nat.not_lt.2 c33)
 simp only [Option.some.injEq, Prod.mk.injEq] at H
 obtain ⟨rfl, rfl, rfl⟩ := H
 go_enter Tryz.func81, Tryz.ntmps81
 go_wp2_with (first | ((with_reducible refine gate_dst (N := 8) rfl ?_); refine Kd.R_lit Kd.string _ 9 ?hg (N := 8) ?hd (xs := ([(⟨#[97]⟩ : ByteArray), (⟨#[98]⟩ : ByteArray), (⟨#[99]⟩ : ByteArray), (⟨#[101]⟩ : ByteArray), (⟨#[102]⟩ : ByteArray), (⟨#[65]⟩ : ByteArray), (⟨#[32]⟩ : ByteArray), (⟨#[44]⟩ : ByteArray), (⟨#[48]⟩ : ByteArray), (⟨#[10]⟩ : ByteArray)] : List ByteArray)) (inner := [.string (⟨#[97]⟩ : ByteArray), .string (⟨#[98]⟩ : ByteArray), .string (⟨#[99]⟩ : ByteArray), .string (⟨#[101]⟩ : ByteArray), .string (⟨#[102]⟩ : ByteArray), .string (⟨#[65]⟩ : ByteArray), .string (⟨#[32]⟩ : ByteArray), .string (⟨#[44]⟩ : ByteArray), .string (⟨#[48]⟩ : ByteArray), .string (⟨#[10]⟩ : ByteArray)]) (ok := fun _ => True) (okp := fun _ => True) ?hr ?hp (fun _ hk => hk) trivial (Below.refl _ _) (Nat.le_refl _) (by simp) ?_; (case hd => rfl); (case hg => rfl); (case hr => first | (go_simp; done) | (go_simp; rfl)); (case hp => exact (Reps.one (show Kd.M Kd.string _ _ _ (⟨#[97]⟩ : ByteArray) [.string (⟨#[97]⟩ : ByteArray)] from rfl) (Reps.one (show Kd.M Kd.string _ _ _ (⟨#[98]⟩ : ByteArray) [.string (⟨#[98]⟩ : ByteArray)] from rfl) (Reps.one (show Kd.M Kd.string _ _ _ (⟨#[99]⟩ : ByteArray) [.string (⟨#[99]⟩ : ByteArray)] from rfl) (Reps.one (show Kd.M Kd.string _ _ _ (⟨#[101]⟩ : ByteArray) [.string (⟨#[101]⟩ : ByteArray)] from rfl) (Reps.one (show Kd.M Kd.string _ _ _ (⟨#[102]⟩ : ByteArray) [.string (⟨#[102]⟩ : ByteArray)] from rfl) (Reps.one (show Kd.M Kd.string _ _ _ (⟨#[65]⟩ : ByteArray) [.string (⟨#[65]⟩ : ByteArray)] from rfl) (Reps.one (show Kd.M Kd.string _ _ _ (⟨#[32]⟩ : ByteArray) [.string (⟨#[32]⟩ : ByteArray)] from rfl) (Reps.one (show Kd.M Kd.string _ _ _ (⟨#[44]⟩ : ByteArray) [.string (⟨#[44]⟩ : ByteArray)] from rfl) (Reps.one (show Kd.M Kd.string _ _ _ (⟨#[48]⟩ : ByteArray) [.string (⟨#[48]⟩ : ByteArray)] from rfl) (Reps.one (show Kd.M Kd.string _ _ _ (⟨#[10]⟩ : ByteArray) [.string (⟨#[10]⟩ : ByteArray)] from rfl) (Reps.none _ _)))))))))))); intro v286 w34 ho35 hb hg_ hnew_; clear hg_ hnew_; (first | rw [← Ny285.out] at ho35 | (simp only [Int.reduceToNat] at ho35; rw [← Ny285.out] at ho35)); have HO287 := Aside0.mk (Kd.R_lower ho35 (keep_size (w := w) (g := g) (row := none) (qK HK.out))); replace HI0 := Aside0.mk (IsS80.below (qI HI0.out) hb); replace HK := Aside0.mk (KeepBut.trans (qK HK.out) (KeepBut.of_below hb g none) (.inl rfl)); replace HB := Aside0.mk (below_step (qS HB.out) hb); clear hb ho35; obtain ⟨Ao36, co36, eo36⟩ := Kd.R_slice HO287.out; subst eo36) | (go_at_call 60; (with_reducible refine (spec_l01Next.calls g s0_0 s0_1 s0_2 (y285.length : Int) t288 t289 t290 w0 _ ?side1 ?side2 A3.out).mono ?_); (case side1 => exact qI HI0.out); (case side2 => exact qS HB.out); rintro e w37 ⟨rfl, hi, hb, hk⟩; replace HO287 := Aside0.mk (Kd.R_mono (Kd.R_keep (IsS80.apart (show IsS80 w0 _ g s0_0 s0_1 s0_2 from qI HI0.out) (qR HO287.out) (by decide)) hk (fun _ h => h.2)) (fun _ h => h.1)); replace HK := Aside0.mk (KeepBut.trans (qK HK.out) hk (.inl rfl)); replace HB := Aside0.mk (hb); replace HI0 := Aside0.mk (hi); have p291 : 0 ≤ (t288 : Int) := of_decide_eq_true (by first | (with_reducible assumption) | assumption); have q291 : t288 < (y285.length : Int) := of_decide_eq_true (by first | (with_reducible assumption) | assumption); obtain ⟨ad291, e291, hx291_0⟩ := Kd.at_string (Kd.R_reads' HO287.out).2.2 t288 p291 q291; cases e291; replace p291 := eq_true p291; replace q291 := eq_true q291) | (go_at_call 60; (with_reducible refine (spec_l01Next.calls g s0_0 t289 t290 (a1.size : Int) t292 t293 t294 w0 _ ?side1 ?side2 A11.out).mono ?_); (case side1 => exact qI HI0.out); (case side2 => exact qS HB.out); rintro e w38 ⟨rfl, hi, hb, hk⟩; replace HO287 := Aside0.mk (Kd.R_mono (Kd.R_keep (IsS80.apart (show IsS80 w0 _ g s0_0 t289 t290 from qI HI0.out) (qR HO287.out) (by decide)) hk (fun _ h => h.2)) (fun _ h => h.1)); replace HK := Aside0.mk (KeepBut.trans (qK HK.out) hk (.inl rfl)); replace HB := Aside0.mk (hb); replace HI0 := Aside0.mk (hi)) | (go_at_call 60; (with_reducible refine (spec_l01Next.calls g s0_0 t293 t294 3 t295 t296 t297 w0 _ ?side1 ?side2 A12.out).mono ?_); (case side1 => exact qI HI0.out); (case side2 => exact qS HB.out); rintro e w39 ⟨rfl, hi, hb, hk⟩; replace HO287 := Aside0.mk (Kd.R_mono (Kd.R_keep (IsS80.apart (show IsS80 w0 _ g s0_0 t293 t294 from qI HI0.out) (qR HO287.out) (by decide)) hk (fun _ h => h.2)) (fun _ h => h.1)); replace HK := Aside0.mk (KeepBut.trans (qK HK.out) hk (.inl rfl)); replace HB := Aside0.mk (hb); replace HI0 := Aside0.mk (hi)))
 repeat (go_quiet (first | ((with_reducible refine gate_dst (N := 8) rfl ?_); refine Kd.R_lit Kd.string _ 9 ?hg (N := 8) ?hd (xs := ([(⟨#[97]⟩ : ByteArray), (⟨#[98]⟩ : ByteArray), (⟨#[99]⟩ : ByteArray), (⟨#[101]⟩ : ByteArray), (⟨#[102]⟩ : ByteArray), (⟨#[65]⟩ : ByteArray), (⟨#[32]⟩ : ByteArray), (⟨#[44]⟩ : ByteArray), (⟨#[48]⟩ : ByteArray), (⟨#[10]⟩ : ByteArray)] : List ByteArray)) (inner := [.string (⟨#[97]⟩ : ByteArray), .string (⟨#[98]⟩ : ByteArray), .string (⟨#[99]⟩ : ByteArray), .string (⟨#[101]⟩ : ByteArray), .string (⟨#[102]⟩ : ByteArray), .string (⟨#[65]⟩ : ByteArray), .string (⟨#[32]⟩ : ByteArray), .string (⟨#[44]⟩ : ByteArray), .string (⟨#[48]⟩ : ByteArray), .string (⟨#[10]⟩ : ByteArray)]) (ok := fun _ => True) (okp := fun _ => True) ?hr ?hp (fun _ hk => hk) trivial (Below.refl _ _) (Nat.le_refl _) (by simp) ?_; (case hd => rfl); (case hg => rfl); (case hr => first | (go_simp; done) | (go_simp; rfl)); (case hp => exact (Reps.one (show Kd.M Kd.string _ _ _ (⟨#[97]⟩ : ByteArray) [.string (⟨#[97]⟩ : ByteArray)] from rfl) (Reps.one (show Kd.M Kd.string _ _ _ (⟨#[98]⟩ : ByteArray) [.string (⟨#[98]⟩ : ByteArray)] from rfl) (Reps.one (show Kd.M Kd.string _ _ _ (⟨#[99]⟩ : ByteArray) [.string (⟨#[99]⟩ : ByteArray)] from rfl) (Reps.one (show Kd.M Kd.string _ _ _ (⟨#[101]⟩ : ByteArray) [.string (⟨#[101]⟩ : ByteArray)] from rfl) (Reps.one (show Kd.M Kd.string _ _ _ (⟨#[102]⟩ : ByteArray) [.string (⟨#[102]⟩ : ByteArray)] from rfl) (Reps.one (show Kd.M Kd.string _ _ _ (⟨#[65]⟩ : ByteArray) [.string (⟨#[65]⟩ : ByteArray)] from rfl) (Reps.one (show Kd.M Kd.string _ _ _ (⟨#[32]⟩ : ByteArray) [.string (⟨#[32]⟩ : ByteArray)] from rfl) (Reps.one (show Kd.M Kd.string _ _ _ (⟨#[44]⟩ : ByteArray) [.string (⟨#[44]⟩ : ByteArray)] from rfl) (Reps.one (show Kd.M Kd.string _ _ _ (⟨#[48]⟩ : ByteArray) [.string (⟨#[48]⟩ : ByteArray)] from rfl) (Reps.one (show Kd.M Kd.string _ _ _ (⟨#[10]⟩ : ByteArray) [.string (⟨#[10]⟩ : ByteArray)] from rfl) (Reps.none _ _)))))))))))); intro v286 w34 ho35 hb hg_ hnew_; clear hg_ hnew_; (first | rw [← Ny285.out] at ho35 | (simp only [Int.reduceToNat] at ho35; rw [← Ny285.out] at ho35)); have HO287 := Aside0.mk (Kd.R_lower ho35 (keep_size (w := w) (g := g) (row := none) (qK HK.out))); replace HI0 := Aside0.mk (IsS80.below (qI HI0.out) hb); replace HK := Aside0.mk (KeepBut.trans (qK HK.out) (KeepBut.of_below hb g none) (.inl rfl)); replace HB := Aside0.mk (below_step (qS HB.out) hb); clear hb ho35; obtain ⟨Ao36, co36, eo36⟩ := Kd.R_slice HO287.out; subst eo36) | (go_at_call 60; (with_reducible refine (spec_l01Next.calls g s0_0 s0_1 s0_2 (y285.length : Int) t288 t289 t290 w0 _ ?side1 ?side2 A3.out).mono ?_); (case side1 => exact qI HI0.out); (case side2 => exact qS HB.out); rintro e w37 ⟨rfl, hi, hb, hk⟩; replace HO287 := Aside0.mk (Kd.R_mono (Kd.R_keep (IsS80.apart (show IsS80 w0 _ g s0_0 s0_1 s0_2 from qI HI0.out) (qR HO287.out) (by decide)) hk (fun _ h => h.2)) (fun _ h => h.1)); replace HK := Aside0.mk (KeepBut.trans (qK HK.out) hk (.inl rfl)); replace HB := Aside0.mk (hb); replace HI0 := Aside0.mk (hi); have p291 : 0 ≤ (t288 : Int) := of_decide_eq_true (by first | (with_reducible assumption) | assumption); have q291 : t288 < (y285.length : Int) := of_decide_eq_true (by first | (with_reducible assumption) | assumption); obtain ⟨ad291, e291, hx291_0⟩ := Kd.at_string (Kd.R_reads' HO287.out).2.2 t288 p291 q291; cases e291; replace p291 := eq_true p291; replace q291 := eq_true q291) | (go_at_call 60; (with_reducible refine (spec_l01Next.calls g s0_0 t289 t290 (a1.size : Int) t292 t293 t294 w0 _ ?side1 ?side2 A11.out).mono ?_); (case side1 => exact qI HI0.out); (case side2 => exact qS HB.out); rintro e w38 ⟨rfl, hi, hb, hk⟩; replace HO287 := Aside0.mk (Kd.R_mono (Kd.R_keep (IsS80.apart (show IsS80 w0 _ g s0_0 t289 t290 from qI HI0.out) (qR HO287.out) (by decide)) hk (fun _ h => h.2)) (fun _ h => h.1)); replace HK := Aside0.mk (KeepBut.trans (qK HK.out) hk (.inl rfl)); replace HB := Aside0.mk (hb); replace HI0 := Aside0.mk (hi)) | (go_at_call 60; (with_reducible refine (spec_l01Next.calls g s0_0 t293 t294 3 t295 t296 t297 w0 _ ?side1 ?side2 A12.out).mono ?_); (case side1 => exact qI HI0.out); (case side2 => exact qS HB.out); rintro e w39 ⟨rfl, hi, hb, hk⟩; replace HO287 := Aside0.mk (Kd.R_mono (Kd.R_keep (IsS80.apart (show IsS80 w0 _ g s0_0 t293 t294 from qI HI0.out) (qR HO287.out) (by decide)) hk (fun _ h => h.2)) (fun _ h => h.1)); replace HK := Aside0.mk (KeepBut.trans (qK HK.out) hk (.inl rfl)); replace HB := Aside0.mk (hb); replace HI0 := Aside0.mk (hi))); try go_wp2_with (first | ((with_reducible refine gate_dst (N := 8) rfl ?_); refine Kd.R_lit Kd.string _ 9 ?hg (N := 8) ?hd (xs := ([(⟨#[97]⟩ : ByteArray), (⟨#[98]⟩ : ByteArray), (⟨#[99]⟩ : ByteArray), (⟨#[101]⟩ : ByteArray), (⟨#[102]⟩ : ByteArray), (⟨#[65]⟩ : ByteArray), (⟨#[32]⟩ : ByteArray), (⟨#[44]⟩ : ByteArray), (⟨#[48]⟩ : ByteArray), (⟨#[10]⟩ : ByteArray)] : List ByteArray)) (inner := [.string (⟨#[97]⟩ : ByteArray), .string (⟨#[98]⟩ : ByteArray), .string (⟨#[99]⟩ : ByteArray), .string (⟨#[101]⟩ : ByteArray), .string (⟨#[102]⟩ : ByteArray), .string (⟨#[65]⟩ : ByteArray), .string (⟨#[32]⟩ : ByteArray), .string (⟨#[44]⟩ : ByteArray), .string (⟨#[48]⟩ : ByteArray), .string (⟨#[10]⟩ : ByteArray)]) (ok := fun _ => True) (okp := fun _ => True) ?hr ?hp (fun _ hk => hk) trivial (Below.refl _ _) (Nat.le_refl _) (by simp) ?_; (case hd => rfl); (case hg => rfl); (case hr => first | (go_simp; done) | (go_simp; rfl)); (case hp => exact (Reps.one (show Kd.M Kd.string _ _ _ (⟨#[97]⟩ : ByteArray) [.string (⟨#[97]⟩ : ByteArray)] from rfl) (Reps.one (show Kd.M Kd.string _ _ _ (⟨#[98]⟩ : ByteArray) [.string (⟨#[98]⟩ : ByteArray)] from rfl) (Reps.one (show Kd.M Kd.string _ _ _ (⟨#[99]⟩ : ByteArray) [.string (⟨#[99]⟩ : ByteArray)] from rfl) (Reps.one (show Kd.M Kd.string _ _ _ (⟨#[101]⟩ : ByteArray) [.string (⟨#[101]⟩ : ByteArray)] from rfl) (Reps.one (show Kd.M Kd.string _ _ _ (⟨#[102]⟩ : ByteArray) [.string (⟨#[102]⟩ : ByteArray)] from rfl) (Reps.one (show Kd.M Kd.string _ _ _ (⟨#[65]⟩ : ByteArray) [.string (⟨#[65]⟩ : ByteArray)] from rfl) (Reps.one (show Kd.M Kd.string _ _ _ (⟨#[32]⟩ : ByteArray) [.string (⟨#[32]⟩ : ByteArray)] from rfl) (Reps.one (show Kd.M Kd.string _ _ _ (⟨#[44]⟩ : ByteArray) [.string (⟨#[44]⟩ : ByteArray)] from rfl) (Reps.one (show Kd.M Kd.string _ _ _ (⟨#[48]⟩ : ByteArray) [.string (⟨#[48]⟩ : ByteArray)] from rfl) (Reps.one (show Kd.M Kd.string _ _ _ (⟨#[10]⟩ : ByteArray) [.string (⟨#[10]⟩ : ByteArray)] from rfl) (Reps.none _ _)))))))))))); intro v286 w34 ho35 hb hg_ hnew_; clear hg_ hnew_; (first | rw [← Ny285.out] at ho35 | (simp only [Int.reduceToNat] at ho35; rw [← Ny285.out] at ho35)); have HO287 := Aside0.mk (Kd.R_lower ho35 (keep_size (w := w) (g := g) (row := none) (qK HK.out))); replace HI0 := Aside0.mk (IsS80.below (qI HI0.out) hb); replace HK := Aside0.mk (KeepBut.trans (qK HK.out) (KeepBut.of_below hb g none) (.inl rfl)); replace HB := Aside0.mk (below_step (qS HB.out) hb); clear hb ho35; obtain ⟨Ao36, co36, eo36⟩ := Kd.R_slice HO287.out; subst eo36) | (go_at_call 60; (with_reducible refine (spec_l01Next.calls g s0_0 s0_1 s0_2 (y285.length : Int) t288 t289 t290 w0 _ ?side1 ?side2 A3.out).mono ?_); (case side1 => exact qI HI0.out); (case side2 => exact qS HB.out); rintro e w37 ⟨rfl, hi, hb, hk⟩; replace HO287 := Aside0.mk (Kd.R_mono (Kd.R_keep (IsS80.apart (show IsS80 w0 _ g s0_0 s0_1 s0_2 from qI HI0.out) (qR HO287.out) (by decide)) hk (fun _ h => h.2)) (fun _ h => h.1)); replace HK := Aside0.mk (KeepBut.trans (qK HK.out) hk (.inl rfl)); replace HB := Aside0.mk (hb); replace HI0 := Aside0.mk (hi); have p291 : 0 ≤ (t288 : Int) := of_decide_eq_true (by first | (with_reducible assumption) | assumption); have q291 : t288 < (y285.length : Int) := of_decide_eq_true (by first | (with_reducible assumption) | assumption); obtain ⟨ad291, e291, hx291_0⟩ := Kd.at_string (Kd.R_reads' HO287.out).2.2 t288 p291 q291; cases e291; replace p291 := eq_true p291; replace q291 := eq_true q291) | (go_at_call 60; (with_reducible refine (spec_l01Next.calls g s0_0 t289 t290 (a1.size : Int) t292 t293 t294 w0 _ ?side1 ?side2 A11.out).mono ?_); (case side1 => exact qI HI0.out); (case side2 => exact qS HB.out); rintro e w38 ⟨rfl, hi, hb, hk⟩; replace HO287 := Aside0.mk (Kd.R_mono (Kd.R_keep (IsS80.apart (show IsS80 w0 _ g s0_0 t289 t290 from qI HI0.out) (qR HO287.out) (by decide)) hk (fun _ h => h.2)) (fun _ h => h.1)); replace HK := Aside0.mk (KeepBut.trans (qK HK.out) hk (.inl rfl)); replace HB := Aside0.mk (hb); replace HI0 := Aside0.mk (hi)) | (go_at_call 60; (with_reducible refine (spec_l01Next.calls g s0_0 t293 t294 3 t295 t296 t297 w0 _ ?side1 ?side2 A12.out).mono ?_); (case side1 => exact qI HI0.out); (case side2 => exact qS HB.out); rintro e w39 ⟨rfl, hi, hb, hk⟩; replace HO287 := Aside0.mk (Kd.R_mono (Kd.R_keep (IsS80.apart (show IsS80 w0 _ g s0_0 t293 t294 from qI HI0.out) (qR HO287.out) (by decide)) hk (fun _ h => h.2)) (fun _ h => h.1)); replace HK := Aside0.mk (KeepBut.trans (qK HK.out) hk (.inl rfl)); replace HB := Aside0.mk (hb); replace HI0 := Aside0.mk (hi))))
 go_ret
 exact ⟨by first | rfl | (simp [errW_none, errW_some] <;> rfl) | (simp only [← hji30]; first | rfl | (simp [errW_none, errW_some] <;> rfl)) | (simp [*, errW_none, errW_some] <;> rfl), qI HI0.out, qS HB.out, qK HK.out⟩
end Go.Proofs.YtcfphjjdbccnoaaGreat.PF

namespace Go.Proofs.YtcfphjjdbccnoaaGreat.PF
open Go.RowKit Go.Proofs.YtcfphjjdbccnoaaGreatW.PrintWords Go.Proofs.YtcfphjjdbccnoaaGreatW.PrintLast Go.Proofs.YtcfphjjdbccnoaaGreatW.PrintMore
attribute [local go_sem] max2_int min2_int max_two min_two max_three min_three max_four min_four   -- for this text's walks alone
set_option linter.unusedVariables false
set_option linter.unusedSimpArgs false

/-! ### spec_l01Bad: function 61 -/
def spec_l01Bad.l0 : Nat → ByteArray → List Int → Int → Int → Option (ByteArray × Int × Int)
 | 0, _, _, _, _ => none
 | k + 1, x1, x1000, x1001, x1002 => if (x1.size : Int) ≤ 60 then (if x1.size + 2 ≤ 9223372036854775807 then (spec_l01Bad.l0 k (x1 ++ (⟨#[97, 98]⟩ : ByteArray)) x1000 x1001 x1002) else (none)) else (some (x1, x1001, x1002))
def spec_l01Bad.f (k : Nat) (s0_0 : List Int) (s0_1 : Int) (s0_2 : Int) (a1 : ByteArray) : Option (ByteArray × Int × Int) := (spec_l01Next.f s0_0 s0_1 s0_2 50).bind fun bt298 => (if bt298.1 = 0 then (if a1.size + 1 ≤ 9223372036854775807 then (some (a1 ++ (⟨#[102]⟩ : ByteArray), bt298.2.1, bt298.2.2)) else (none)) else (if bt298.1 = 1 then ((spec_l01Damage.f s0_0 bt298.2.1 bt298.2.2 a1).bind fun bt301 => (some (bt301.1, bt301.2.1, bt301.2.2))) else (if bt298.1 = 2 then (spec_l01Bad.l0 k a1 s0_0 bt298.2.1 bt298.2.2) else (some (a1, bt298.2.1, bt298.2.2)))))
theorem spec_l01Bad.mono_l : ∀ k, (∀ y0 y1 y2 y3, LeO (spec_l01Bad.l0 k y0 y1 y2 y3) (spec_l01Bad.l0 (k + 1) y0 y1 y2 y3))
 | 0 => fun _ _ _ _ r h => by simp [spec_l01Bad.l0] at h
 | k + 1 => by
  have ih0 := spec_l01Bad.mono_l k
  ·
   intro y0 y1 y2 y3
   unfold spec_l01Bad.l0
   with_reducible repeat' first
   | exact ih0 _ _ _ _
   | exact LeO.refl _
   | exact LeO.none _
   | refine LeO.ite ?_ ?_
   | refine LeO.bind ?_ (fun _ => ?_)
theorem spec_l01Bad.mono : ∀ a0 a1 a2 a3 k, LeO (spec_l01Bad.f k a0 a1 a2 a3) (spec_l01Bad.f (k + 1) a0 a1 a2 a3) := by
 intro a0 a1 a2 a3 k
 have ih0 := spec_l01Bad.mono_l k
 unfold spec_l01Bad.f
 with_reducible repeat' first
   | exact ih0 _ _ _ _
   | exact LeO.refl _
   | exact LeO.none _
   | refine LeO.ite ?_ ?_
   | refine LeO.bind ?_ (fun _ => ?_)
set_option maxHeartbeats 8000000 in
set_option maxRecDepth 100000 in
theorem spec_l01Bad.calls (k : Nat) (g : Nat) (s0_0 : List Int) (s0_1 : Int) (s0_2 : Int) (a1 : ByteArray) (r1 : ByteArray) (r2 : Int) (r3 : Int) (w0 w : World) (hI : IsS80 w0 w g s0_0 s0_1 s0_2) (hB : Below w0.heap.size w0 w) (h : spec_l01Bad.f k s0_0 s0_1 s0_2 a1 = some (r1, r2, r3)) :
  Calls Tryz.prog 61 #[.pointer (some ⟨g, 0, none⟩), .string a1] w fun e w' => e = .returned (.string r1) ∧ IsS80 w0 w' g s0_0 r2 r3 ∧ Below w0.heap.size w0 w' ∧ KeepBut w w' g none := by
 have HI0 := Aside0.mk hI
 have HK := Aside0.mk (KeepBut.refl w g none)
 have HL := Aside0.mk hB.size
 clear hI
 have HW0 := Aside0.mk hB.size
 have HB := Aside0.mk hB
 clear hB
 have H : ((spec_l01Next.f s0_0 s0_1 s0_2 50).bind fun bt298 => (if bt298.1 = 0 then (if a1.size + 1 ≤ 9223372036854775807 then (some (a1 ++ (⟨#[102]⟩ : ByteArray), bt298.2.1, bt298.2.2)) else (none)) else (if bt298.1 = 1 then ((spec_l01Damage.f s0_0 bt298.2.1 bt298.2.2 a1).bind fun bt301 => (some (bt301.1, bt301.2.1, bt301.2.2))) else (if bt298.1 = 2 then (spec_l01Bad.l0 k a1 s0_0 bt298.2.1 bt298.2.2) else (some (a1, bt298.2.1, bt298.2.2)))))) = some (r1, r2, r3) := h
 clear h
 obtain ⟨⟨t298, t299, t300⟩, A3, H⟩ := qN H
 try dsimp only at H
 by_cases c4 : t298 = 0
 ·
  rw [if_pos c4] at H
  obtain ⟨c4b0, c4b1⟩ := zT c4
  clear c4
  by_cases c5 : a1.size + 1 ≤ 9223372036854775807
  rotate_left
  ·
   rw [if_neg c5] at H
   exact absurd H (by simp)
  rw [if_pos c5] at H
  have c5b0 := eq_true c5
  have c5b1 : decide (a1.size + 1 ≤ 9223372036854775807) = true := decide_eq_true c5
  try have c5b2 : (9223372036854775807 < a1.size + 1) = False := eq_false (Nat.not_lt.2 c5)
  simp only [Option.some.injEq, Prod.mk.injEq] at H
  obtain ⟨rfl, rfl, rfl⟩ := H
  go_enter Tryz.func61, Tryz.ntmps61
  go_wp2_with (first | ((with_reducible refine gate_callee (f := 60) rfl ?_); refine goesL_ (some 6) rfl rfl Tryz.func60 (by kernel_rfl) rfl #[.pointer (some ⟨g, 0, none⟩), .int .i64 50] rfl qV ?_; (with_reducible refine (spec_l01Next.calls g s0_0 s0_1 s0_2 50 t298 t299 t300 w0 _ ?side1 ?side2 A3.out).mono ?_); (case side1 => exact qI HI0.out); (case side2 => exact qS HB.out); rintro e w6 ⟨rfl, hi, hb, hk⟩; refine ⟨_, rfl, ?_⟩; replace HK := Aside0.mk (KeepBut.trans (qK HK.out) hk (.inl rfl)); replace HB := Aside0.mk (hb); replace HI0 := Aside0.mk (hi)))
  go_ret
  exact ⟨qE, qI HI0.out, qS HB.out, qK HK.out⟩
 rw [if_neg c4] at H
 obtain ⟨c4b0, c4b1⟩ := zF c4
 by_cases c7 : t298 = 1
 ·
  rw [if_pos c7] at H
  obtain ⟨c7b0, c7b1⟩ := zT c7
  clear c7
  obtain ⟨⟨t301, t302, t303⟩, A8, H⟩ := qN H
  try dsimp only at H
  simp only [Option.some.injEq, Prod.mk.injEq] at H
  obtain ⟨rfl, rfl, rfl⟩ := H
  go_enter Tryz.func61, Tryz.ntmps61
  go_wp2_with (first | ((with_reducible refine gate_callee (f := 60) rfl ?_); refine goesL_ (some 6) rfl rfl Tryz.func60 (by kernel_rfl) rfl #[.pointer (some ⟨g, 0, none⟩), .int .i64 50] rfl qV ?_; (with_reducible refine (spec_l01Next.calls g s0_0 s0_1 s0_2 50 t298 t299 t300 w0 _ ?side1 ?side2 A3.out).mono ?_); (case side1 => exact qI HI0.out); (case side2 => exact qS HB.out); rintro e w9 ⟨rfl, hi, hb, hk⟩; refine ⟨_, rfl, ?_⟩; replace HK := Aside0.mk (KeepBut.trans (qK HK.out) hk (.inl rfl)); replace HB := Aside0.mk (hb); replace HI0 := Aside0.mk (hi)) | ((with_reducible refine gate_callee (f := 81) rfl ?_); refine goesL_ (some 15) rfl rfl Tryz.func81 (by kernel_rfl) rfl #[.pointer (some ⟨g, 0, none⟩), .string a1] rfl qV ?_; (with_reducible refine (spec_l01Damage.calls g s0_0 t299 t300 a1 t301 t302 t303 w0 _ ?side1 ?side2 A8.out).mono ?_); (case side1 => exact qI HI0.out); (case side2 => exact qS HB.out); rintro e w10 ⟨rfl, hi, hb, hk⟩; refine ⟨_, rfl, ?_⟩; replace HK := Aside0.mk (KeepBut.trans (qK HK.out) hk (.inl rfl)); replace HB := Aside0.mk (hb); replace HI0 := Aside0.mk (hi)))
  go_ret
  exact ⟨qE, qI HI0.out, qS HB.out, qK HK.out⟩
 rw [if_neg c7] at H
 obtain ⟨c7b0, c7b1⟩ := zF c7
 by_cases c11 : t298 = 2
 rotate_left
 ·
  rw [if_neg c11] at H
  obtain ⟨c11b0, c11b1⟩ := zF c11
  simp only [Option.some.injEq, Prod.mk.injEq] at H
  obtain ⟨rfl, rfl, rfl⟩ := H
  go_enter Tryz.func61, Tryz.ntmps61
  go_wp2_with (first | ((with_reducible refine gate_callee (f := 60) rfl ?_); refine goesL_ (some 6) rfl rfl Tryz.func60 (by kernel_rfl) rfl #[.pointer (some ⟨g, 0, none⟩), .int .i64 50] rfl qV ?_; (with_reducible refine (spec_l01Next.calls g s0_0 s0_1 s0_2 50 t298 t299 t300 w0 _ ?side1 ?side2 A3.out).mono ?_); (case side1 => exact qI HI0.out); (case side2 => exact qS HB.out); rintro e w15 ⟨rfl, hi, hb, hk⟩; refine ⟨_, rfl, ?_⟩; replace HK := Aside0.mk (KeepBut.trans (qK HK.out) hk (.inl rfl)); replace HB := Aside0.mk (hb); replace HI0 := Aside0.mk (hi)))
  go_ret
  exact ⟨qE, qI HI0.out, qS HB.out, qK HK.out⟩

 rw [if_pos c11] at H
 obtain ⟨c11b0, c11b1⟩ := zT c11
 clear c11
 have H' := Aside0.mk H
 clear H
 go_enter Tryz.func61, Tryz.ntmps61
 go_wp2_with (first | ((with_reducible refine gate_callee (f := 60) rfl ?_); refine goesL_ (some 6) rfl rfl Tryz.func60 (by kernel_rfl) rfl #[.pointer (some ⟨g, 0, none⟩), .int .i64 50] rfl qV ?_; (with_reducible refine (spec_l01Next.calls g s0_0 s0_1 s0_2 50 t298 t299 t300 w0 _ ?side1 ?side2 A3.out).mono ?_); (case side1 => exact qI HI0.out); (case side2 => exact qS HB.out); rintro e w12 ⟨rfl, hi, hb, hk⟩; refine ⟨_, rfl, ?_⟩; replace HK := Aside0.mk (KeepBut.trans (qK HK.out) hk (.inl rfl)); replace HB := Aside0.mk (hb); replace HI0 := Aside0.mk (hi)))
 go_loopg [1] k (fun kq v1 w' => ∃ (x1_1 : ByteArray), v1 = .string x1_1 ∧ Aside0 (spec_l01Bad.l0 kq x1_1 s0_0 t299 t300 = some (r1, r2, r3)) ∧ Aside0 (kq ≤ k) ∧ Aside0 (IsS80 w0 w' g s0_0 t299 t300) ∧ Aside0 (KeepBut w w' g none) ∧ Aside0 (Below w0.heap.size w0 w'))
 case atStart => exact ⟨(a1), qF, H', ⟨Nat.le_refl _⟩, ⟨qI HI0.out⟩, ⟨qK HK.out⟩, ⟨qS HB.out⟩⟩
 case round =>
  clear H'
  obtain ⟨x1_1, rfl, HA, HK1, HI0, HK, HB⟩ := hrel
  cases gk with
  | zero => exact absurd HA.out (by simp [spec_l01Bad.l0])
  | succ k1 =>
   have H := HA.out
   clear HA
   simp only [spec_l01Bad.l0] at H
   by_cases c13 : (x1_1.size : Int) ≤ 60
   rotate_left
   ·
    rw [if_neg c13] at H
    have c13b0 : decide ((x1_1.size : Int) ≤ 60) = false := decide_eq_false c13
    have c13b1 : decide (x1_1.size ≤ 60) = false := decide_eq_false (by omega)
    clear c13
    simp only [Option.some.injEq, Prod.mk.injEq] at H
    obtain ⟨rfl, rfl, rfl⟩ := H
    go_wp2
    go_ret
    exact ⟨qE, qI HI0.out, qS HB.out, qK HK.out⟩
   rw [if_pos c13] at H
   have c13b0 : decide ((x1_1.size : Int) ≤ 60) = true := decide_eq_true c13
   have c13b1 : decide (x1_1.size ≤ 60) = true := decide_eq_true (by omega)
   clear c13
   by_cases c14 : x1_1.size + 2 ≤ 9223372036854775807
   rotate_left
   ·
    rw [if_neg c14] at H
    exact absurd H (by simp)
   rw [if_pos c14] at H
   have c14b0 := eq_true c14
   have c14b1 : decide (x1_1.size + 2 ≤ 9223372036854775807) = true := decide_eq_true c14
   try have c14b2 : (9223372036854775807 < x1_1.size + 2) = False := eq_false (Nat.not_lt.2 c14)
   have H' := Aside0.mk H
   clear H
   go_wp2
   go_roundg k1
   case measure => have := HK1.out; omega
   case rel => exact ⟨(x1_1 ++ (⟨#[97, 98]⟩ : ByteArray)), qF, H', ⟨by have := HK1.out; omega⟩, ⟨qI HI0.out⟩, ⟨qK HK.out⟩, ⟨qS HB.out⟩⟩
end Go.Proofs.YtcfphjjdbccnoaaGreat.PF

namespace Go.Proofs.YtcfphjjdbccnoaaGreat.PF
open Go.RowKit Go.Proofs.YtcfphjjdbccnoaaGreatW.PrintWords Go.Proofs.YtcfphjjdbccnoaaGreatW.PrintLast Go.Proofs.YtcfphjjdbccnoaaGreatW.PrintMore
attribute [local go_sem] max2_int min2_int max_two min_two max_three min_three max_four min_four   -- for this text's walks alone
set_option linter.unusedVariables false
set_option linter.unusedSimpArgs false

/-! ### spec_l09With: function 55 -/
def spec_l09With.f (k : Nat) (l0 : List Int) : Option (ByteArray × ByteArray) := (spec_l01From.f k l0).bind fun bt304 => ((spec_l09Draw.f k bt304.1 bt304.2.1 bt304.2.2).bind fun bt308 => ((spec_l01Next.f bt304.1 bt308.2.2.1 bt308.2.2.2 20).bind fun bt312 => (if bt312.1 = 0 then ((spec_l01Bad.f k bt304.1 bt312.2.1 bt312.2.2 bt308.1).bind fun bt315 => ((spec_l01Bad.f k bt304.1 bt315.2.1 bt315.2.2 (⟨#[]⟩ : ByteArray)).bind fun bt318 => (some (bt315.1, bt318.1)))) else ((spec_l01Bad.f k bt304.1 bt312.2.1 bt312.2.2 bt308.1).bind fun bt321 => ((spec_l01Bad.f k bt304.1 bt321.2.1 bt321.2.2 bt308.2.1).bind fun bt324 => (some (bt321.1, bt324.1)))))))
theorem spec_l09With.mono : ∀ a0 k, LeO (spec_l09With.f k a0) (spec_l09With.f (k + 1) a0) := by
 intro a0 k
 unfold spec_l09With.f
 with_reducible repeat' first
   | exact spec_l01Bad.mono _ _ _ _ _
   | exact spec_l01From.mono _ _
   | exact spec_l09Draw.mono _ _ _ _
   | exact LeO.refl _
   | exact LeO.none _
   | refine LeO.ite ?_ ?_
   | refine LeO.bind ?_ (fun _ => ?_)
set_option maxHeartbeats 8000000 in
set_option maxRecDepth 100000 in
theorem spec_l09With.calls (k : Nat) (A0 : Option Addr) (c0 : Nat) (l0 : List Int) (r1 : ByteArray) (r2 : ByteArray) (w : World) (hr0 : Kd.C (Kd.int .u8) w A0 l0.length l0) (hc0 : l0.length ≤ c0) (h : spec_l09With.f k l0 = some (r1, r2)) :
  Calls Tryz.prog 55 #[.slice A0 l0.length c0] w fun e w' => e = .returned (.tuple #[.string r1, .string r2]) ∧ Below w.heap.size w w' := by
 have HR0 := Aside0.mk hr0
 have HC0 := Aside0.mk hc0
 clear hr0 hc0
 have HB := Aside0.mk (Below.refl w.heap.size w)
 have H : ((spec_l01From.f k l0).bind fun bt304 => ((spec_l09Draw.f k bt304.1 bt304.2.1 bt304.2.2).bind fun bt308 => ((spec_l01Next.f bt304.1 bt308.2.2.1 bt308.2.2.2 20).bind fun bt312 => (if bt312.1 = 0 then ((spec_l01Bad.f k bt304.1 bt312.2.1 bt312.2.2 bt308.1).bind fun bt315 => ((spec_l01Bad.f k bt304.1 bt315.2.1 bt315.2.2 (⟨#[]⟩ : ByteArray)).bind fun bt318 => (some (bt315.1, bt318.1)))) else ((spec_l01Bad.f k bt304.1 bt312.2.1 bt312.2.2 bt308.1).bind fun bt321 => ((spec_l01Bad.f k bt304.1 bt321.2.1 bt321.2.2 bt308.2.1).bind fun bt324 => (some (bt321.1, bt324.1)))))))) = some (r1, r2) := h
 clear h
 obtain ⟨⟨t304, t305, t306⟩, A2, H⟩ := qN H
 try dsimp only at H
 obtain ⟨⟨t308, t309, t310, t311⟩, A3, H⟩ := qN H
 try dsimp only at H
 obtain ⟨⟨t312, t313, t314⟩, A4, H⟩ := qN H
 try dsimp only at H
 by_cases c5 : t312 = 0
 ·
  rw [if_pos c5] at H
  obtain ⟨c5b0, c5b1⟩ := zT c5
  clear c5
  obtain ⟨⟨t315, t316, t317⟩, A6, H⟩ := qN H
  try dsimp only at H
  obtain ⟨⟨t318, t319, t320⟩, A7, H⟩ := qN H
  try dsimp only at H
  simp only [Option.some.injEq, Prod.mk.injEq] at H
  obtain ⟨rfl, rfl⟩ := H
  go_enter Tryz.func55, Tryz.ntmps55
  go_wp2_with (first | ((with_reducible refine gate_callee (f := 48) rfl ?_); refine goesL_ (some 8) rfl rfl Tryz.func48 (by kernel_rfl) rfl #[.slice A0 l0.length c0] rfl qV ?_; (with_reducible refine (spec_l01From.calls k _ _ l0 t304 t305 t306 w _ ?side1 ?side2 ?side3 A2.out).mono ?_); (case side1 => exact qB HB.out); (case side2 => exact HR0.out); (case side3 => exact HC0.out); rintro e w8 ⟨g307, rfl, hi, hb, hb2⟩; refine ⟨_, rfl, ?_⟩; replace HB := Aside0.mk (hb); have HI307 := Aside0.mk (hi)) | ((with_reducible refine gate_callee (f := 58) rfl ?_); refine goesL_ (some 11) rfl rfl Tryz.func58 (by kernel_rfl) rfl #[.pointer (some ⟨g307, 0, none⟩)] rfl qV ?_; (with_reducible refine (spec_l09Draw.calls k g307 t304 t305 t306 t308 t309 t310 t311 w _ ?side1 ?side2 A3.out).mono ?_); (case side1 => exact qI HI307.out); (case side2 => exact qS HB.out); rintro e w9 ⟨rfl, hi, hb, hk⟩; refine ⟨_, rfl, ?_⟩; replace HB := Aside0.mk (hb); replace HI307 := Aside0.mk (hi)) | ((with_reducible refine gate_callee (f := 60) rfl ?_); refine goesL_ (some 15) rfl rfl Tryz.func60 (by kernel_rfl) rfl #[.pointer (some ⟨g307, 0, none⟩), .int .i64 20] rfl qV ?_; (with_reducible refine (spec_l01Next.calls g307 t304 t310 t311 20 t312 t313 t314 w _ ?side1 ?side2 A4.out).mono ?_); (case side1 => exact qI HI307.out); (case side2 => exact qS HB.out); rintro e w10 ⟨rfl, hi, hb, hk⟩; refine ⟨_, rfl, ?_⟩; replace HB := Aside0.mk (hb); replace HI307 := Aside0.mk (hi)) | ((with_reducible refine gate_callee (f := 61) rfl ?_); refine goesL_ (some 19) rfl rfl Tryz.func61 (by kernel_rfl) rfl #[.pointer (some ⟨g307, 0, none⟩), .string t308] rfl qV ?_; (with_reducible refine (spec_l01Bad.calls k g307 t304 t313 t314 t308 t315 t316 t317 w _ ?side1 ?side2 A6.out).mono ?_); (case side1 => exact qI HI307.out); (case side2 => exact qS HB.out); rintro e w11 ⟨rfl, hi, hb, hk⟩; refine ⟨_, rfl, ?_⟩; replace HB := Aside0.mk (hb); replace HI307 := Aside0.mk (hi)) | ((with_reducible refine gate_callee (f := 61) rfl ?_); refine goesL_ (some 22) rfl rfl Tryz.func61 (by kernel_rfl) rfl #[.pointer (some ⟨g307, 0, none⟩), .string (⟨#[]⟩ : ByteArray)] rfl qV ?_; (with_reducible refine (spec_l01Bad.calls k g307 t304 t316 t317 (⟨#[]⟩ : ByteArray) t318 t319 t320 w _ ?side1 ?side2 A7.out).mono ?_); (case side1 => exact qI HI307.out); (case side2 => exact qS HB.out); rintro e w12 ⟨rfl, hi, hb, hk⟩; refine ⟨_, rfl, ?_⟩; replace HB := Aside0.mk (hb); replace HI307 := Aside0.mk (hi)))
  go_ret2
  exact ⟨qE, qS HB.out⟩
 rw [if_neg c5] at H
 obtain ⟨c5b0, c5b1⟩ := zF c5
 obtain ⟨⟨t321, t322, t323⟩, A13, H⟩ := qN H
 try dsimp only at H
 obtain ⟨⟨t324, t325, t326⟩, A14, H⟩ := qN H
 try dsimp only at H
 simp only [Option.some.injEq, Prod.mk.injEq] at H
 obtain ⟨rfl, rfl⟩ := H
 go_enter Tryz.func55, Tryz.ntmps55
 go_wp2_with (first | ((with_reducible refine gate_callee (f := 48) rfl ?_); refine goesL_ (some 8) rfl rfl Tryz.func48 (by kernel_rfl) rfl #[.slice A0 l0.length c0] rfl qV ?_; (with_reducible refine (spec_l01From.calls k _ _ l0 t304 t305 t306 w _ ?side1 ?side2 ?side3 A2.out).mono ?_); (case side1 => exact qB HB.out); (case side2 => exact HR0.out); (case side3 => exact HC0.out); rintro e w15 ⟨g307, rfl, hi, hb, hb2⟩; refine ⟨_, rfl, ?_⟩; replace HB := Aside0.mk (hb); have HI307 := Aside0.mk (hi)) | ((with_reducible refine gate_callee (f := 58) rfl ?_); refine goesL_ (some 11) rfl rfl Tryz.func58 (by kernel_rfl) rfl #[.pointer (some ⟨g307, 0, none⟩)] rfl qV ?_; (with_reducible refine (spec_l09Draw.calls k g307 t304 t305 t306 t308 t309 t310 t311 w _ ?side1 ?side2 A3.out).mono ?_); (case side1 => exact qI HI307.out); (case side2 => exact qS HB.out); rintro e w16 ⟨rfl, hi, hb, hk⟩; refine ⟨_, rfl, ?_⟩; replace HB := Aside0.mk (hb); replace HI307 := Aside0.mk (hi)) | ((with_reducible refine gate_callee (f := 60) rfl ?_); refine goesL_ (some 15) rfl rfl Tryz.func60 (by kernel_rfl) rfl #[.pointer (some ⟨g307, 0, none⟩), .int .i64 20] rfl qV ?_; (with_reducible refine (spec_l01Next.calls g307 t304 t310 t311 20 t312 t313 t314 w _ ?side1 ?side2 A4.out).mono ?_); (case side1 => exact qI HI307.out); (case side2 => exact qS HB.out); rintro e w17 ⟨rfl, hi, hb, hk⟩; refine ⟨_, rfl, ?_⟩; replace HB := Aside0.mk (hb); replace HI307 := Aside0.mk (hi)) | ((with_reducible refine gate_callee (f := 61) rfl ?_); refine goesL_ (some 19) rfl rfl Tryz.func61 (by kernel_rfl) rfl #[.pointer (some ⟨g307, 0, none⟩), .string t308] rfl qV ?_; (with_reducible refine (spec_l01Bad.calls k g307 t304 t313 t314 t308 t321 t322 t323 w _ ?side1 ?side2 A13.out).mono ?_); (case side1 => exact qI HI307.out); (case side2 => exact qS HB.out); rintro e w18 ⟨rfl, hi, hb, hk⟩; refine ⟨_, rfl, ?_⟩; replace HB := Aside0.mk (hb); replace HI307 := Aside0.mk (hi)) | ((with_reducible refine gate_callee (f := 61) rfl ?_); refine goesL_ (some 22) rfl rfl Tryz.func61 (by kernel_rfl) rfl #[.pointer (some ⟨g307, 0, none⟩), .string t309] rfl qV ?_; (with_reducible refine (spec_l01Bad.calls k g307 t304 t322 t323 t309 t324 t325 t326 w _ ?side1 ?side2 A14.out).mono ?_); (case side1 => exact qI HI307.out); (case side2 => exact qS HB.out); rintro e w19 ⟨rfl, hi, hb, hk⟩; refine ⟨_, rfl, ?_⟩; replace HB := Aside0.mk (hb); replace HI307 := Aside0.mk (hi)))
 go_ret2
 exact ⟨qE, qS HB.out⟩

end Go.Proofs.YtcfphjjdbccnoaaGreat.PF

namespace Go.Proofs.YtcfphjjdbccnoaaGreat.PF
open Go.RowKit Go.Proofs.YtcfphjjdbccnoaaGreatW.PrintWords Go.Proofs.YtcfphjjdbccnoaaGreatW.PrintLast Go.Proofs.YtcfphjjdbccnoaaGreatW.PrintMore
attribute [local go_sem] max2_int min2_int max_two min_two max_three min_three max_four min_four   -- for this text's walks alone
set_option linter.unusedVariables false
set_option linter.unusedSimpArgs false

/-! ### spec_l09One: function 29 -/
def spec_l09One.f (k : Nat) (l0 : List Int) : Option (ByteArray) := (spec_l09With.f k l0).bind fun bt327 => (some bt327.1)
theorem spec_l09One.mono : ∀ a0 k, LeO (spec_l09One.f k a0) (spec_l09One.f (k + 1) a0) := by
 intro a0 k
 unfold spec_l09One.f
 with_reducible repeat' first
   | exact spec_l09With.mono _ _
   | exact LeO.refl _
   | exact LeO.none _
   | refine LeO.ite ?_ ?_
   | refine LeO.bind ?_ (fun _ => ?_)
set_option maxHeartbeats 8000000 in
set_option maxRecDepth 100000 in
theorem spec_l09One.calls (k : Nat) (A0 : Option Addr) (c0 : Nat) (l0 : List Int) (r : ByteArray) (w : World) (hr0 : Kd.C (Kd.int .u8) w A0 l0.length l0) (hc0 : l0.length ≤ c0) (h : spec_l09One.f k l0 = some r) :
  Calls Tryz.prog 29 #[.slice A0 l0.length c0] w fun e w' => e = .returned (.string r) ∧ Below w.heap.size w w' := by
 have HR0 := Aside0.mk hr0
 have HC0 := Aside0.mk hc0
 clear hr0 hc0
 have HB := Aside0.mk (Below.refl w.heap.size w)
 have H : ((spec_l09With.f k l0).bind fun bt327 => (some bt327.1)) = some r := h
 clear h
 obtain ⟨⟨t327, t328⟩, A2, H⟩ := qN H
 try dsimp only at H
 obtain rfl := Option.some.inj H
 go_enter Tryz.func29, Tryz.ntmps29
 go_wp2_with (first | ((with_reducible refine gate_callee (f := 55) rfl ?_); refine goesL_ (some 7) rfl rfl Tryz.func55 (by kernel_rfl) rfl #[.slice A0 l0.length c0] rfl qV ?_; (with_reducible refine (spec_l09With.calls k _ _ l0 t327 t328 _ ?side1 ?side2 A2.out).mono ?_); (case side1 => exact qC HR0.out); (case side2 => exact HC0.out); rintro e w3 ⟨rfl, hb⟩; refine ⟨_, rfl, ?_⟩; replace HB := Aside0.mk (below_step (qB HB.out) hb)))
 go_ret
 exact ⟨qE, qB HB.out⟩

end Go.Proofs.YtcfphjjdbccnoaaGreat.PF

namespace Go.Proofs.YtcfphjjdbccnoaaGreat.PF
open Go.RowKit Go.Proofs.YtcfphjjdbccnoaaGreatW.PrintWords Go.Proofs.YtcfphjjdbccnoaaGreatW.PrintLast Go.Proofs.YtcfphjjdbccnoaaGreatW.PrintMore
attribute [local go_sem] max2_int min2_int max_two min_two max_three min_three max_four min_four   -- for this text's walks alone
set_option linter.unusedVariables false
set_option linter.unusedSimpArgs false

/-! ### spec_DrawLeastSeed: function 5 -/
def spec_DrawLeastSeed.f (k : Nat) (l0 : List Int) : Option (ByteArray) := (spec_l09One.f k l0).bind fun t329 => (some t329)
theorem spec_DrawLeastSeed.mono : ∀ a0 k, LeO (spec_DrawLeastSeed.f k a0) (spec_DrawLeastSeed.f (k + 1) a0) := by
 intro a0 k
 unfold spec_DrawLeastSeed.f
 with_reducible repeat' first
   | exact spec_l09One.mono _ _
   | exact LeO.refl _
   | exact LeO.none _
   | refine LeO.ite ?_ ?_
   | refine LeO.bind ?_ (fun _ => ?_)
set_option maxHeartbeats 8000000 in
set_option maxRecDepth 100000 in
theorem spec_DrawLeastSeed.calls (k : Nat) (A0 : Option Addr) (c0 : Nat) (l0 : List Int) (r : ByteArray) (w : World) (hr0 : Kd.C (Kd.int .u8) w A0 l0.length l0) (hc0 : l0.length ≤ c0) (h : spec_DrawLeastSeed.f k l0 = some r) :
  Calls Tryz.prog 5 #[.slice A0 l0.length c0] w fun e w' => e = .returned (.string r) ∧ Below w.heap.size w w' := by
 have HR0 := Aside0.mk hr0
 have HC0 := Aside0.mk hc0
 clear hr0 hc0
 have HB := Aside0.mk (Below.refl w.heap.size w)
 have H : ((spec_l09One.f k l0).bind fun t329 => (some t329)) = some r := h
 clear h
 obtain ⟨t329, A2, H⟩ := qN H
 try dsimp only at H
 obtain rfl := Option.some.inj H
 go_enter Tryz.func5, Tryz.ntmps5
 go_wp2_with (first | ((with_reducible refine gate_callee (f := 29) rfl ?_); refine goesL_ (some 4) rfl rfl Tryz.func29 (by kernel_rfl) rfl #[.slice A0 l0.length c0] rfl qV ?_; (with_reducible refine (spec_l09One.calls k _ _ l0 t329 _ ?side1 ?side2 A2.out).mono ?_); (case side1 => exact qC HR0.out); (case side2 => exact HC0.out); rintro e w3 ⟨rfl, hb⟩; refine ⟨_, rfl, ?_⟩; replace HB := Aside0.mk (below_step (qB HB.out) hb)))
 go_ret
 exact ⟨qE, qB HB.out⟩

end Go.Proofs.YtcfphjjdbccnoaaGreat.PF

namespace Go.Proofs.YtcfphjjdbccnoaaGreat.PF
open Go.RowKit Go.Proofs.YtcfphjjdbccnoaaGreatW.PrintWords Go.Proofs.YtcfphjjdbccnoaaGreatW.PrintLast Go.Proofs.YtcfphjjdbccnoaaGreatW.PrintMore
attribute [local go_sem] max2_int min2_int max_two min_two max_three min_three max_four min_four   -- for this text's walks alone
set_option linter.unusedVariables false
set_option linter.unusedSimpArgs false

/-! ### impl_always: function 31 -/
def impl_always.f  : Option (Bool) := some true
set_option maxHeartbeats 8000000 in
set_option maxRecDepth 100000 in
theorem impl_always.calls  (r : Bool) (w : World) (h : impl_always.f  = some r) :
  Calls Tryz.prog 31 #[] w fun e w' => e = .returned (.bool r) ∧ Drawn0 w w' := by
 have H : (some true) = some r := h
 clear h
 obtain rfl := Option.some.inj H
 go_enter Tryz.func31, Tryz.ntmps31
 go_wp2
 go_ret
 exact ⟨by first | rfl | (simp; done) | (simp [*]; done) | (simp; rw [Bool.eq_iff_iff]; simp; done), by repeat (first | exact Drawn0.refl _ | apply Drawn0.step)⟩

end Go.Proofs.YtcfphjjdbccnoaaGreat.PF

namespace Go.Proofs.YtcfphjjdbccnoaaGreat.PF
open Go.RowKit Go.Proofs.YtcfphjjdbccnoaaGreatW.PrintWords Go.Proofs.YtcfphjjdbccnoaaGreatW.PrintLast Go.Proofs.YtcfphjjdbccnoaaGreatW.PrintMore
attribute [local go_sem] max2_int min2_int max_two min_two max_three min_three max_four min_four   -- for this text's walks alone
set_option linter.unusedVariables false
set_option linter.unusedSimpArgs false

/-! ### stringslite_HasSuffix: function 71 -/
def stringslite_HasSuffix.f (a0 : ByteArray) (a1 : ByteArray) : Option (Bool) := if (a0.size : Int) ≥ (a1.size : Int) then (if 0 ≤ (wrap64 ((a0.size : Int) - (a1.size : Int))) then (if (wrap64 ((a0.size : Int) - (a1.size : Int))) ≤ (a0.size : Int) then (some ((a0.extract ((wrap64 ((a0.size : Int) - (a1.size : Int))) : Int).toNat a0.size).toList == a1.toList)) else (none)) else (none)) else (some false)
set_option maxHeartbeats 8000000 in
set_option maxRecDepth 100000 in
theorem stringslite_HasSuffix.calls (a0 : ByteArray) (a1 : ByteArray) (r : Bool) (w : World) (h : stringslite_HasSuffix.f a0 a1 = some r) :
  Calls Tryz.prog 71 #[.string a0, .string a1] w fun e w' => e = .returned (.bool r) ∧ Drawn0 w w' := by
 have H : (if (a0.size : Int) ≥ (a1.size : Int) then (if 0 ≤ (wrap64 ((a0.size : Int) - (a1.size : Int))) then (if (wrap64 ((a0.size : Int) - (a1.size : Int))) ≤ (a0.size : Int) then (some ((a0.extract ((wrap64 ((a0.size : Int) - (a1.size : Int))) : Int).toNat a0.size).toList == a1.toList)) else (none)) else (none)) else (some false)) = some r := h
 clear h
 by_cases c3 : (a0.size : Int) ≥ (a1.size : Int)
 rotate_left
 ·
  rw [if_neg c3] at H
  have c3b0 : decide ((a1.size : Int) ≤ (a0.size : Int)) = false := decide_eq_false c3
  have c3b1 : decide (a1.size ≤ a0.size) = false := decide_eq_false (fun h => c3 (Int.ofNat_le.mpr h))
  clear c3
  obtain rfl := Option.some.inj H
  go_enter Tryz.func71, Tryz.ntmps71
  go_wp2
  go_ret
  exact ⟨by first | rfl | (simp; done) | (simp [*]; done) | (simp; rw [Bool.eq_iff_iff]; simp; done), by repeat (first | exact Drawn0.refl _ | apply Drawn0.step)⟩

 rw [if_pos c3] at H
 have c3b0 : decide ((a1.size : Int) ≤ (a0.size : Int)) = true := decide_eq_true c3
 have c3b1 : decide (a1.size ≤ a0.size) = true := decide_eq_true (Int.ofNat_le.mp c3)
 clear c3
 obtain ⟨ji4, hji4⟩ : ∃ j_ : Int, (wrap64 ((a0.size : Int) - (a1.size : Int))) = j_ := ⟨_, rfl⟩
 replace H : (if 0 ≤ (ji4) then (if (ji4) ≤ (a0.size : Int) then (some ((a0.extract ((ji4) : Int).toNat a0.size).toList == a1.toList)) else (none)) else (none)) = some r := by first | (rw [hji4] at H; exact H) | (simp only [hji4] at H ⊢; exact H)
 have hji4w : (IntKind.i64.wrap ((a0.size : Int) - (a1.size : Int))) = ji4 := (i64_w _).trans hji4
 by_cases c5 : 0 ≤ (ji4)
 rotate_left
 ·
  rw [if_neg c5] at H
  exact absurd H (by simp)
 rw [if_pos c5] at H
 have c5b0 := eq_true c5
 have c5b1 : decide (0 ≤ (ji4)) = true := decide_eq_true c5
 clear c5
 by_cases c6 : (ji4) ≤ (a0.size : Int)
 rotate_left
 ·
  rw [if_neg c6] at H
  exact absurd H (by simp)
 rw [if_pos c6] at H
 have c6b0 := eq_true c6
 have c6b1 : decide ((ji4) ≤ (a0.size : Int)) = true := decide_eq_true c6
 clear c6
 obtain rfl := Option.some.inj H
 go_enter Tryz.func71, Tryz.ntmps71
 go_wp2
 go_ret
 exact ⟨by first | rfl | (simp; done) | (simp only [← hji4] <;> (first | rfl | simp)) | (simp [*]; done) | (simp; rw [Bool.eq_iff_iff]; simp; done), by repeat (first | exact Drawn0.refl _ | apply Drawn0.step)⟩
end Go.Proofs.YtcfphjjdbccnoaaGreat.PF

namespace Go.Proofs.YtcfphjjdbccnoaaGreat.PF
open Go.RowKit Go.Proofs.YtcfphjjdbccnoaaGreatW.PrintWords Go.Proofs.YtcfphjjdbccnoaaGreatW.PrintLast Go.Proofs.YtcfphjjdbccnoaaGreatW.PrintMore
attribute [local go_sem] max2_int min2_int max_two min_two max_three min_three max_four min_four   -- for this text's walks alone
set_option linter.unusedVariables false
set_option linter.unusedSimpArgs false

/-! ### strings_HasSuffix: function 40 -/
def strings_HasSuffix.f (a0 : ByteArray) (a1 : ByteArray) : Option (Bool) := (stringslite_HasSuffix.f a0 a1).bind fun t336 => (some t336)
set_option maxHeartbeats 8000000 in
set_option maxRecDepth 100000 in
theorem strings_HasSuffix.calls (a0 : ByteArray) (a1 : ByteArray) (r : Bool) (w : World) (h : strings_HasSuffix.f a0 a1 = some r) :
  Calls Tryz.prog 40 #[.string a0, .string a1] w fun e w' => e = .returned (.bool r) ∧ Drawn0 w w' := by
 have H : ((stringslite_HasSuffix.f a0 a1).bind fun t336 => (some t336)) = some r := h
 clear h
 obtain ⟨t336, A3, H⟩ := qN H
 try dsimp only at H
 obtain rfl := Option.some.inj H
 go_enter Tryz.func40, Tryz.ntmps40
 go_wp2_with (first | ((with_reducible refine gate_callee (f := 71) rfl ?_); refine goesL_ (some 7) rfl rfl Tryz.func71 (by kernel_rfl) rfl #[.string a0, .string a1] rfl qV ?_; (with_reducible refine (stringslite_HasSuffix.calls a0 a1 t336 _ A3.out).mono ?_); rintro e w' ⟨rfl, ⟨nd, rfl⟩⟩; refine ⟨_, rfl, ?_⟩))
 go_ret
 exact ⟨by first | rfl | (simp; done) | (simp [*]; done) | (simp; rw [Bool.eq_iff_iff]; simp; done), by repeat (first | exact Drawn0.refl _ | apply Drawn0.step)⟩

end Go.Proofs.YtcfphjjdbccnoaaGreat.PF

namespace Go.Proofs.YtcfphjjdbccnoaaGreat.PF
open Go.RowKit Go.Proofs.YtcfphjjdbccnoaaGreatW.PrintWords Go.Proofs.YtcfphjjdbccnoaaGreatW.PrintLast Go.Proofs.YtcfphjjdbccnoaaGreatW.PrintMore
attribute [local go_sem] max2_int min2_int max_two min_two max_three min_three max_four min_four   -- for this text's walks alone
set_option linter.unusedVariables false
set_option linter.unusedSimpArgs false

/-! ### stringslite_HasPrefix: function 87 -/
def stringslite_HasPrefix.f (a0 : ByteArray) (a1 : ByteArray) : Option (Bool) := if (a0.size : Int) ≥ (a1.size : Int) then (if 0 ≤ (a1.size : Int) then (if (a1.size : Int) ≤ (a0.size : Int) then (some ((a0.extract 0 ((a1.size : Int) : Int).toNat).toList == a1.toList)) else (none)) else (none)) else (some false)
set_option maxHeartbeats 8000000 in
set_option maxRecDepth 100000 in
theorem stringslite_HasPrefix.calls (a0 : ByteArray) (a1 : ByteArray) (r : Bool) (w : World) (h : stringslite_HasPrefix.f a0 a1 = some r) :
  Calls Tryz.prog 87 #[.string a0, .string a1] w fun e w' => e = .returned (.bool r) ∧ Drawn0 w w' := by
 have H : (if (a0.size : Int) ≥ (a1.size : Int) then (if 0 ≤ (a1.size : Int) then (if (a1.size : Int) ≤ (a0.size : Int) then (some ((a0.extract 0 ((a1.size : Int) : Int).toNat).toList == a1.toList)) else (none)) else (none)) else (some false)) = some r := h
 clear h
 by_cases c3 : (a0.size : Int) ≥ (a1.size : Int)
 rotate_left
 ·
  rw [if_neg c3] at H
  have c3b0 : decide ((a1.size : Int) ≤ (a0.size : Int)) = false := decide_eq_false c3
  have c3b1 : decide (a1.size ≤ a0.size) = false := decide_eq_false (fun h => c3 (Int.ofNat_le.mpr h))
  clear c3
  obtain rfl := Option.some.inj H
  go_enter Tryz.func87, Tryz.ntmps87
  go_wp2
  go_ret
  exact ⟨by first | rfl | (simp; done) | (simp [*]; done) | (simp; rw [Bool.eq_iff_iff]; simp; done), by repeat (first | exact Drawn0.refl _ | apply Drawn0.step)⟩

 rw [if_pos c3] at H
 have c3b0 : decide ((a1.size : Int) ≤ (a0.size : Int)) = true := decide_eq_true c3
 have c3b1 : decide (a1.size ≤ a0.size) = true := decide_eq_true (Int.ofNat_le.mp c3)
 clear c3
 by_cases c4 : 0 ≤ (a1.size : Int)
 rotate_left
 ·
  rw [if_neg c4] at H
  exact absurd H (by simp)
 rw [if_pos c4] at H
 have c4b0 := eq_true c4
 have c4b1 : decide (0 ≤ (a1.size : Int)) = true := decide_eq_true c4
 clear c4
 by_cases c5 : (a1.size : Int) ≤ (a0.size : Int)
 rotate_left
 ·
  rw [if_neg c5] at H
  exact absurd H (by simp)
 rw [if_pos c5] at H
 have c5b0 := eq_true c5
 have c5b1 : decide ((a1.size : Int) ≤ (a0.size : Int)) = true := decide_eq_true c5
 clear c5
 obtain rfl := Option.some.inj H
 go_enter Tryz.func87, Tryz.ntmps87
 go_wp2
 go_ret
 exact ⟨by first | rfl | (simp; done) | (simp [*]; done) | (simp; rw [Bool.eq_iff_iff]; simp; done), by repeat (first | exact Drawn0.refl _ | apply Drawn0.step)⟩
end Go.Proofs.YtcfphjjdbccnoaaGreat.PF

namespace Go.Proofs.YtcfphjjdbccnoaaGreat.PF
open Go.RowKit Go.Proofs.YtcfphjjdbccnoaaGreatW.PrintWords Go.Proofs.YtcfphjjdbccnoaaGreatW.PrintLast Go.Proofs.YtcfphjjdbccnoaaGreatW.PrintMore
attribute [local go_sem] max2_int min2_int max_two min_two max_three min_three max_four min_four   -- for this text's walks alone
set_option linter.unusedVariables false
set_option linter.unusedSimpArgs false

/-! ### strings_HasPrefix: function 68 -/
def strings_HasPrefix.f (a0 : ByteArray) (a1 : ByteArray) : Option (Bool) := (stringslite_HasPrefix.f a0 a1).bind fun t337 => (some t337)
set_option maxHeartbeats 8000000 in
set_option maxRecDepth 100000 in
theorem strings_HasPrefix.calls (a0 : ByteArray) (a1 : ByteArray) (r : Bool) (w : World) (h : strings_HasPrefix.f a0 a1 = some r) :
  Calls Tryz.prog 68 #[.string a0, .string a1] w fun e w' => e = .returned (.bool r) ∧ Drawn0 w w' := by
 have H : ((stringslite_HasPrefix.f a0 a1).bind fun t337 => (some t337)) = some r := h
 clear h
 obtain ⟨t337, A3, H⟩ := qN H
 try dsimp only at H
 obtain rfl := Option.some.inj H
 go_enter Tryz.func68, Tryz.ntmps68
 go_wp2_with (first | ((with_reducible refine gate_callee (f := 87) rfl ?_); refine goesL_ (some 7) rfl rfl Tryz.func87 (by kernel_rfl) rfl #[.string a0, .string a1] rfl qV ?_; (with_reducible refine (stringslite_HasPrefix.calls a0 a1 t337 _ A3.out).mono ?_); rintro e w' ⟨rfl, ⟨nd, rfl⟩⟩; refine ⟨_, rfl, ?_⟩))
 go_ret
 exact ⟨by first | rfl | (simp; done) | (simp [*]; done) | (simp; rw [Bool.eq_iff_iff]; simp; done), by repeat (first | exact Drawn0.refl _ | apply Drawn0.step)⟩

end Go.Proofs.YtcfphjjdbccnoaaGreat.PF

namespace Go.Proofs.YtcfphjjdbccnoaaGreat.PF
open Go.RowKit Go.Proofs.YtcfphjjdbccnoaaGreatW.PrintWords Go.Proofs.YtcfphjjdbccnoaaGreatW.PrintLast Go.Proofs.YtcfphjjdbccnoaaGreatW.PrintMore
attribute [local go_sem] max2_int min2_int max_two min_two max_three min_three max_four min_four   -- for this text's walks alone
set_option linter.unusedVariables false
set_option linter.unusedSimpArgs false

/-! ### impl_places: function 72 -/
def impl_places.l0 : Nat → ByteArray → ByteArray → List Int → Int → Int → Option (List Int)
 | 0, _, _, _, _, _ => none
 | k + 1, x0, x1, x5, x9, x10 => if x10 < x9 then (if 0 ≤ x10 then (if x10 ≤ (x0.size : Int) then ((strings_HasPrefix.f (x0.extract (x10 : Int).toNat x0.size) x1).bind fun t338 => (if t338 = true then (if x5.length < 17592186044416 then (impl_places.l0 k x0 x1 (x5 ++ [x10]) x9 (wrap64 (x10 + 1))) else (none)) else (impl_places.l0 k x0 x1 x5 x9 (wrap64 (x10 + 1))))) else (none)) else (none)) else (some x5)
def impl_places.f (k : Nat) (a0 : ByteArray) (a1 : ByteArray) : Option (List Int) := impl_places.l0 k a0 a1 ([] : List Int) (wrap64 ((a0.size : Int) + 1)) 0
theorem impl_places.mono_l : ∀ k, (∀ y0 y1 y2 y3 y4, LeO (impl_places.l0 k y0 y1 y2 y3 y4) (impl_places.l0 (k + 1) y0 y1 y2 y3 y4))
 | 0 => fun _ _ _ _ _ r h => by simp [impl_places.l0] at h
 | k + 1 => by
  have ih0 := impl_places.mono_l k
  ·
   intro y0 y1 y2 y3 y4
   unfold impl_places.l0
   with_reducible repeat' first
   | exact ih0 _ _ _ _ _
   | exact LeO.refl _
   | exact LeO.none _
   | refine LeO.ite ?_ ?_
   | refine LeO.bind ?_ (fun _ => ?_)
theorem impl_places.mono : ∀ a0 a1 k, LeO (impl_places.f k a0 a1) (impl_places.f (k + 1) a0 a1) := by
 intro a0 a1 k
 have ih0 := impl_places.mono_l k
 unfold impl_places.f
 with_reducible repeat' first
   | exact ih0 _ _ _ _ _
   | exact LeO.refl _
   | exact LeO.none _
   | refine LeO.ite ?_ ?_
   | refine LeO.bind ?_ (fun _ => ?_)
set_option maxHeartbeats 8000000 in
set_option maxRecDepth 100000 in
theorem impl_places.calls (k : Nat) (a0 : ByteArray) (a1 : ByteArray) (r : List Int) (w : World) (h : impl_places.f k a0 a1 = some r) :
  Calls Tryz.prog 72 #[.string a0, .string a1] w fun e w' => ∃ v0_ : Value, e = .returned (v0_) ∧ Kd.R (Kd.int .i64) 2 w' w.heap.size (fun _ => True) v0_ r ∧ Below w.heap.size w w' := by
 have HB := Aside0.mk (Below.refl w.heap.size w)
 have H : (impl_places.l0 k a0 a1 ([] : List Int) (wrap64 ((a0.size : Int) + 1)) 0) = some r := h
 clear h
 have H' := Aside0.mk H
 clear H
 go_enter Tryz.func72, Tryz.ntmps72
 go_wp2
 go_loopg [5, 10] k (fun kq v5 v10 w' => ∃ (x5_1 : List Int) (x10_1 : Int), v10 = .int .i64 x10_1 ∧ Aside0 (impl_places.l0 kq a0 a1 x5_1 (wrap64 ((a0.size : Int) + 1)) x10_1 = some r) ∧ Aside0 (kq ≤ k) ∧ Aside0 (Kd.R (Kd.int .i64) 2 w' w.heap.size (fun _ => True) v5 x5_1) ∧ Aside0 (Below w.heap.size w w'))
 case atStart => exact ⟨(([] : List Int)), (0), qF, H', ⟨Nat.le_refl _⟩, ⟨by first | exact Kd.R_nil _ _ _ _ _ | exact Kd.N_nil _ _ _ _ _ | exact Kd.V_nil _ _ _ _ _ | exact Kd.Q_nil _ _ _ _ _ | exact Kd.S_nil _ _ _ _ _⟩, ⟨qB HB.out⟩⟩
 case round =>
  clear H'
  obtain ⟨x5_1, x10_1, rfl, HA, HK1, HO_5, HB⟩ := hrel
  cases gk with
  | zero => exact absurd HA.out (by simp [impl_places.l0])
  | succ k1 =>
   have H := HA.out
   clear HA
   simp only [impl_places.l0] at H
   by_cases c3 : x10_1 < (wrap64 ((a0.size : Int) + 1))
   rotate_left
   ·
    rw [if_neg c3] at H
    have c3b0 : decide (x10_1 < (wrap64 ((a0.size : Int) + 1))) = false := decide_eq_false c3
    clear c3
    obtain rfl := Option.some.inj H
    go_wp2
    go_ret
    exact ⟨_, qE, qR HO_5.out, qB HB.out⟩

   rw [if_pos c3] at H
   have c3b0 : decide (x10_1 < (wrap64 ((a0.size : Int) + 1))) = true := decide_eq_true c3
   clear c3
   by_cases c4 : 0 ≤ x10_1
   rotate_left
   ·
    rw [if_neg c4] at H
    exact absurd H (by simp)
   rw [if_pos c4] at H
   have c4b0 := eq_true c4
   have c4b1 : decide (0 ≤ x10_1) = true := decide_eq_true c4
   clear c4
   by_cases c5 : x10_1 ≤ (a0.size : Int)
   rotate_left
   ·
    rw [if_neg c5] at H
    exact absurd H (by simp)
   rw [if_pos c5] at H
   have c5b0 := eq_true c5
   have c5b1 : decide (x10_1 ≤ (a0.size : Int)) = true := decide_eq_true c5
   clear c5
   obtain ⟨t338, A6, H⟩ := qN H
   try dsimp only at H
   by_cases c7 : t338 = true
   rotate_left
   ·
    replace c7 := Bool.eq_false_iff.mpr c7
    subst c7
    rw [if_neg (show ¬ (false = true) by decide)] at H
    have H' := Aside0.mk H
    clear H
    go_wp2_with (first | ((with_reducible refine gate_callee (f := 68) rfl ?_); refine goesL_ (some 17) rfl rfl Tryz.func68 (by kernel_rfl) rfl #[.string (a0.extract (x10_1 : Int).toNat a0.size), .string a1] rfl qV ?_; (with_reducible refine (strings_HasPrefix.calls (a0.extract (x10_1 : Int).toNat a0.size) a1 false _ A6.out).mono ?_); rintro e w' ⟨rfl, ⟨nd, rfl⟩⟩; refine ⟨_, rfl, ?_⟩))
    go_roundg k1
    case measure => have := HK1.out; omega
    case rel => exact ⟨(x5_1), (wrap64 (x10_1 + 1)), qF, H', ⟨by have := HK1.out; omega⟩, ⟨qR HO_5.out⟩, ⟨qB HB.out⟩⟩
   subst c7
   rw [if_pos rfl] at H
   by_cases c8 : x5_1.length < 17592186044416
   rotate_left
   ·
    rw [if_neg c8] at H
    exact absurd H (by simp)
   rw [if_pos c8] at H
   have LMc8 := Aside0.mk c8
   clear c8
   obtain ⟨y339, hy339⟩ : ∃ y_ : List Int, y_ = (x5_1 ++ [x10_1]) := ⟨_, rfl⟩
   replace H : (impl_places.l0 k1 a0 a1 y339 (wrap64 ((a0.size : Int) + 1)) (wrap64 (x10_1 + 1))) = some r := by first | (rw [hy339]; with_reducible exact H) | (have H2_ := (Option.bind_some _ _).symm.trans H; rw [hy339]; with_reducible exact H2_) | (have H2_ := (Option.bind_some _ _).symm.trans H; with_reducible exact H2_) | with_reducible exact H | (rw [hy339]; exact H) | exact H
   have Ny339 := Aside0.mk hy339
   clear hy339
   have H' := Aside0.mk H
   clear H
   go_wp2_with (first | ((with_reducible refine gate_callee (f := 68) rfl ?_); refine goesL_ (some 17) rfl rfl Tryz.func68 (by kernel_rfl) rfl #[.string (a0.extract (x10_1 : Int).toNat a0.size), .string a1] rfl qV ?_; (with_reducible refine (strings_HasPrefix.calls (a0.extract (x10_1 : Int).toNat a0.size) a1 true _ A6.out).mono ?_); rintro e w' ⟨rfl, ⟨nd, rfl⟩⟩; refine ⟨_, rfl, ?_⟩) | ((with_reducible refine gate_builtin (b := .append) (xs := #[.tmp 18, .tmp 20]) rfl ?_); at_builtin; refine Kd.R_append (Kd.int .i64) (w0 := w) w.heap.size rfl (.tmp 18) (.tmp 20) 34 2 (.int .i64 0) 8 rfl Tryz.underlying34 info2 rfl (by decide) (by omega) u5 x5_1 x10_1 [.int .i64 x10_1] (fun _ => True) (fun _ => False) rfl rfl ?aP (fun _ hk => hk.elim) ?aF ?aO ?aB ?aS ?aL ?_; (case aP => exact rfl); (case aB => exact (qB HB.out)); (case aF => exact (fun _ _ => trivial)); (case aO => exact (qR HO_5.out)); (case aS => exact (below_size (qB HB.out))); (case aL => have := LMc8.out; omega); intro v340 w9 ho hb hg hat; rw [← Ny339.out] at ho; replace HB := Aside0.mk (hb); have HO341 := Aside0.mk (ho); clear HO_5; clear ho hb hg hat))
   go_roundg k1
   case measure => have := HK1.out; omega
   case rel => exact ⟨(y339), (wrap64 (x10_1 + 1)), qF, H', ⟨by have := HK1.out; omega⟩, ⟨qR HO341.out⟩, ⟨qB HB.out⟩⟩
end Go.Proofs.YtcfphjjdbccnoaaGreat.PF

namespace Go.Proofs.YtcfphjjdbccnoaaGreat.PF
open Go.RowKit Go.Proofs.YtcfphjjdbccnoaaGreatW.PrintWords Go.Proofs.YtcfphjjdbccnoaaGreatW.PrintLast Go.Proofs.YtcfphjjdbccnoaaGreatW.PrintMore
attribute [local go_sem] max2_int min2_int max_two min_two max_three min_three max_four min_four   -- for this text's walks alone
set_option linter.unusedVariables false
set_option linter.unusedSimpArgs false

/-! ### slices_Index_bool_bool: function 88 -/
def slices_Index_bool_bool.l0 : Nat → List Bool → Bool → Int → Int → Option (Int)
 | 0, _, _, _, _ => none
 | k + 1, x0, x1, x7, x8 => if x8 < x7 then (if 0 ≤ x8 then (if x8 < (x0.length : Int) then (if (x1 == (rdOf false x0 x8)) = true then (some x8) else (slices_Index_bool_bool.l0 k x0 x1 x7 (wrap64 (x8 + 1)))) else (none)) else (none)) else (some (-1))
def slices_Index_bool_bool.f (k : Nat) (l0 : List Bool) (a1 : Bool) : Option (Int) := slices_Index_bool_bool.l0 k l0 a1 (l0.length : Int) 0
theorem slices_Index_bool_bool.mono_l : ∀ k, (∀ y0 y1 y2 y3, LeO (slices_Index_bool_bool.l0 k y0 y1 y2 y3) (slices_Index_bool_bool.l0 (k + 1) y0 y1 y2 y3))
 | 0 => fun _ _ _ _ r h => by simp [slices_Index_bool_bool.l0] at h
 | k + 1 => by
  have ih0 := slices_Index_bool_bool.mono_l k
  ·
   intro y0 y1 y2 y3
   unfold slices_Index_bool_bool.l0
   with_reducible repeat' first
   | exact ih0 _ _ _ _
   | exact LeO.refl _
   | exact LeO.none _
   | refine LeO.ite ?_ ?_
   | refine LeO.bind ?_ (fun _ => ?_)
theorem slices_Index_bool_bool.mono : ∀ a0 a1 k, LeO (slices_Index_bool_bool.f k a0 a1) (slices_Index_bool_bool.f (k + 1) a0 a1) := by
 intro a0 a1 k
 have ih0 := slices_Index_bool_bool.mono_l k
 unfold slices_Index_bool_bool.f
 with_reducible repeat' first
   | exact ih0 _ _ _ _
   | exact LeO.refl _
   | exact LeO.none _
   | refine LeO.ite ?_ ?_
   | refine LeO.bind ?_ (fun _ => ?_)
set_option maxHeartbeats 8000000 in
set_option maxRecDepth 100000 in
theorem slices_Index_bool_bool.calls (k : Nat) (A0 : Option Addr) (c0 : Nat) (l0 : List Bool) (a1 : Bool) (r : Int) (w : World) (hr0 : Kd.C Kd.bool w A0 l0.length l0) (hc0 : l0.length ≤ c0) (h : slices_Index_bool_bool.f k l0 a1 = some r) :
  Calls Tryz.prog 88 #[.slice A0 l0.length c0, .bool a1] w fun e w' => e = .returned (.int .i64 r) ∧ Drawn0 w w' := by
 have HR0 := Aside0.mk hr0
 have HC0 := Aside0.mk hc0
 clear hr0 hc0
 have H : (slices_Index_bool_bool.l0 k l0 a1 (l0.length : Int) 0) = some r := h
 clear h
 have H' := Aside0.mk H
 clear H
 go_enter Tryz.func88, Tryz.ntmps88
 go_wp2
 go_loopg [8] k (fun kq v8 w' => ∃ (x8_1 : Int), v8 = .int .i64 x8_1 ∧ Aside0 (slices_Index_bool_bool.l0 kq l0 a1 (l0.length : Int) x8_1 = some r) ∧ Aside0 (kq ≤ k) ∧ Drawn0 w w')
 case atStart => exact ⟨(0), qF, H', ⟨Nat.le_refl _⟩, by repeat (first | exact Drawn0.refl _ | apply Drawn0.step)⟩
 case round =>
  clear H'
  obtain ⟨x8_1, rfl, HA, HK1, ⟨m1, rfl⟩⟩ := hrel
  cases gk with
  | zero => exact absurd HA.out (by simp [slices_Index_bool_bool.l0])
  | succ k1 =>
   have H := HA.out
   clear HA
   simp only [slices_Index_bool_bool.l0] at H
   by_cases c3 : x8_1 < (l0.length : Int)
   rotate_left
   ·
    rw [if_neg c3] at H
    have c3b0 : decide (x8_1 < (l0.length : Int)) = false := decide_eq_false c3
    clear c3
    obtain rfl := Option.some.inj H
    go_wp2
    go_ret
    exact ⟨by first | rfl | (simp; done) | (simp [*]; done) | (simp; rw [Bool.eq_iff_iff]; simp; done), by repeat (first | exact Drawn0.refl _ | apply Drawn0.step)⟩

   rw [if_pos c3] at H
   have c3b0 : decide (x8_1 < (l0.length : Int)) = true := decide_eq_true c3
   clear c3
   by_cases c4 : 0 ≤ x8_1
   rotate_left
   ·
    rw [if_neg c4] at H
    exact absurd H (by simp)
   rw [if_pos c4] at H
   have c4b0 : decide (0 ≤ x8_1) = true := decide_eq_true c4
   clear c4
   by_cases c5 : x8_1 < (l0.length : Int)
   rotate_left
   ·
    rw [if_neg c5] at H
    exact absurd H (by simp)
   rw [if_pos c5] at H
   have c5b0 : decide (x8_1 < (l0.length : Int)) = true := decide_eq_true c5
   clear c5
   by_cases c6 : (a1 == (rdOf false l0 x8_1)) = true
   ·
    rw [if_pos c6] at H
    have c6b0 : (a1 == (rdOf false l0 x8_1)) = true := c6
    (try (have c6b1 : decide (a1 = (rdOf false l0 x8_1)) = true := by simpa using c6))
    (try (have c6b2 : (a1 == (rdOf false l0 x8_1)) = true := by simpa using c6))
    clear c6
    obtain rfl := Option.some.inj H
    have p342 : 0 ≤ (x8_1 : Int) := of_decide_eq_true (by first | (with_reducible assumption) | assumption)
    have q342 : x8_1 < (l0.length : Int) := of_decide_eq_true (by first | (with_reducible assumption) | assumption)
    obtain ⟨ad342, e342, hx342_0⟩ := Kd.at_bool HR0.out x8_1 p342 q342
    cases e342
    replace p342 := eq_true p342
    replace q342 := eq_true q342
    go_wp2
    go_ret
    exact ⟨by first | rfl | (simp; done) | (simp [*]; done) | (simp; rw [Bool.eq_iff_iff]; simp; done), by repeat (first | exact Drawn0.refl _ | apply Drawn0.step)⟩
   rw [if_neg c6] at H
   have c6b0 : (a1 == (rdOf false l0 x8_1)) = false := by simpa using c6
   (try (have c6b1 : decide (a1 = (rdOf false l0 x8_1)) = false := by simpa using c6))
   (try (have c6b2 : (a1 == (rdOf false l0 x8_1)) = false := by simpa using c6))
   (try (have c6b3 : ¬ (a1 = (rdOf false l0 x8_1)) := by simpa using c6))
   clear c6
   have H' := Aside0.mk H
   clear H
   have p342 : 0 ≤ (x8_1 : Int) := of_decide_eq_true (by first | (with_reducible assumption) | assumption)
   have q342 : x8_1 < (l0.length : Int) := of_decide_eq_true (by first | (with_reducible assumption) | assumption)
   obtain ⟨ad342, e342, hx342_0⟩ := Kd.at_bool HR0.out x8_1 p342 q342
   cases e342
   replace p342 := eq_true p342
   replace q342 := eq_true q342
   go_wp2
   go_roundg k1
   case measure => have := HK1.out; omega
   case rel => exact ⟨(wrap64 (x8_1 + 1)), qF, H', ⟨by have := HK1.out; omega⟩, by repeat (first | exact Drawn0.refl _ | apply Drawn0.step)⟩
end Go.Proofs.YtcfphjjdbccnoaaGreat.PF

namespace Go.Proofs.YtcfphjjdbccnoaaGreat.PF
open Go.RowKit Go.Proofs.YtcfphjjdbccnoaaGreatW.PrintWords Go.Proofs.YtcfphjjdbccnoaaGreatW.PrintLast Go.Proofs.YtcfphjjdbccnoaaGreatW.PrintMore
attribute [local go_sem] max2_int min2_int max_two min_two max_three min_three max_four min_four   -- for this text's walks alone
set_option linter.unusedVariables false
set_option linter.unusedSimpArgs false

/-! ### slices_Contains_bool_bool: function 69 -/
def slices_Contains_bool_bool.f (k : Nat) (l0 : List Bool) (a1 : Bool) : Option (Bool) := (slices_Index_bool_bool.f k l0 a1).bind fun t343 => (some (decide (t343 ≥ 0)))
theorem slices_Contains_bool_bool.mono : ∀ a0 a1 k, LeO (slices_Contains_bool_bool.f k a0 a1) (slices_Contains_bool_bool.f (k + 1) a0 a1) := by
 intro a0 a1 k
 unfold slices_Contains_bool_bool.f
 with_reducible repeat' first
   | exact slices_Index_bool_bool.mono _ _ _
   | exact LeO.refl _
   | exact LeO.none _
   | refine LeO.ite ?_ ?_
   | refine LeO.bind ?_ (fun _ => ?_)
set_option maxHeartbeats 8000000 in
set_option maxRecDepth 100000 in
theorem slices_Contains_bool_bool.calls (k : Nat) (A0 : Option Addr) (c0 : Nat) (l0 : List Bool) (a1 : Bool) (r : Bool) (w : World) (hr0 : Kd.C Kd.bool w A0 l0.length l0) (hc0 : l0.length ≤ c0) (h : slices_Contains_bool_bool.f k l0 a1 = some r) :
  Calls Tryz.prog 69 #[.slice A0 l0.length c0, .bool a1] w fun e w' => e = .returned (.bool r) ∧ Drawn0 w w' := by
 have HR0 := Aside0.mk hr0
 have HC0 := Aside0.mk hc0
 clear hr0 hc0
 have H : ((slices_Index_bool_bool.f k l0 a1).bind fun t343 => (some (decide (t343 ≥ 0)))) = some r := h
 clear h
 obtain ⟨t343, A3, H⟩ := qN H
 try dsimp only at H
 obtain rfl := Option.some.inj H
 go_enter Tryz.func69, Tryz.ntmps69
 go_wp2_with (first | ((with_reducible refine gate_callee (f := 88) rfl ?_); refine goesL_ (some 7) rfl rfl Tryz.func88 (by kernel_rfl) rfl #[.slice A0 l0.length c0, .bool a1] rfl qV ?_; (with_reducible refine (slices_Index_bool_bool.calls k _ _ l0 a1 t343 _ ?side1 ?side2 A3.out).mono ?_); (case side1 => exact qC HR0.out); (case side2 => exact HC0.out); rintro e w' ⟨rfl, ⟨nd, rfl⟩⟩; refine ⟨_, rfl, ?_⟩))
 go_ret
 exact ⟨by first | rfl | (simp; done) | (simp [*]; done) | (simp; rw [Bool.eq_iff_iff]; simp; done), by repeat (first | exact Drawn0.refl _ | apply Drawn0.step)⟩

end Go.Proofs.YtcfphjjdbccnoaaGreat.PF

namespace Go.Proofs.YtcfphjjdbccnoaaGreat.PF
open Go.RowKit Go.Proofs.YtcfphjjdbccnoaaGreatW.PrintWords Go.Proofs.YtcfphjjdbccnoaaGreatW.PrintLast Go.Proofs.YtcfphjjdbccnoaaGreatW.PrintMore
attribute [local go_sem] max2_int min2_int max_two min_two max_three min_three max_four min_four   -- for this text's walks alone
set_option linter.unusedVariables false
set_option linter.unusedSimpArgs false

/-! ### spec_l01Is: function 33 -/
def spec_l01Is.l0 : Nat → ByteArray → Int → Option (Bool)
 | 0, _, _ => none
 | k + 1, x0, x3 => if x3 < (x0.size : Int) then (if 0 ≤ x3 then (if (bt x0 x3) < 97 then (some false) else (if (bt x0 x3) > 101 then (some false) else (spec_l01Is.l0 k x0 (wrap64 (x3 + 1))))) else (none)) else (some (decide ((x0.size : Int) ≤ 60)))
def spec_l01Is.f (k : Nat) (a0 : ByteArray) : Option (Bool) := spec_l01Is.l0 k a0 0
theorem spec_l01Is.mono_l : ∀ k, (∀ y0 y1, LeO (spec_l01Is.l0 k y0 y1) (spec_l01Is.l0 (k + 1) y0 y1))
 | 0 => fun _ _ r h => by simp [spec_l01Is.l0] at h
 | k + 1 => by
  have ih0 := spec_l01Is.mono_l k
  ·
   intro y0 y1
   unfold spec_l01Is.l0
   with_reducible repeat' first
   | exact ih0 _ _
   | exact LeO.refl _
   | exact LeO.none _
   | refine LeO.ite ?_ ?_
   | refine LeO.bind ?_ (fun _ => ?_)
theorem spec_l01Is.mono : ∀ a0 k, LeO (spec_l01Is.f k a0) (spec_l01Is.f (k + 1) a0) := by
 intro a0 k
 have ih0 := spec_l01Is.mono_l k
 unfold spec_l01Is.f
 with_reducible repeat' first
   | exact ih0 _ _
   | exact LeO.refl _
   | exact LeO.none _
   | refine LeO.ite ?_ ?_
   | refine LeO.bind ?_ (fun _ => ?_)
set_option maxHeartbeats 8000000 in
set_option maxRecDepth 100000 in
theorem spec_l01Is.calls (k : Nat) (a0 : ByteArray) (r : Bool) (w : World) (h : spec_l01Is.f k a0 = some r) :
  Calls Tryz.prog 33 #[.string a0] w fun e w' => e = .returned (.bool r) ∧ Drawn0 w w' := by
 have H : (spec_l01Is.l0 k a0 0) = some r := h
 clear h
 have H' := Aside0.mk H
 clear H
 go_enter Tryz.func33, Tryz.ntmps33
 go_wp2
 go_loopg [3] k (fun kq v3 w' => ∃ (x3_1 : Int), v3 = .int .i64 x3_1 ∧ Aside0 (spec_l01Is.l0 kq a0 x3_1 = some r) ∧ Aside0 (kq ≤ k) ∧ Drawn0 w w')
 case atStart => exact ⟨(0), qF, H', ⟨Nat.le_refl _⟩, by repeat (first | exact Drawn0.refl _ | apply Drawn0.step)⟩
 case round =>
  clear H'
  obtain ⟨x3_1, rfl, HA, HK1, ⟨m1, rfl⟩⟩ := hrel
  cases gk with
  | zero => exact absurd HA.out (by simp [spec_l01Is.l0])
  | succ k1 =>
   have H := HA.out
   clear HA
   simp only [spec_l01Is.l0] at H
   by_cases c2 : x3_1 < (a0.size : Int)
   rotate_left
   ·
    rw [if_neg c2] at H
    have c2b0 : decide (x3_1 < (a0.size : Int)) = false := decide_eq_false c2
    clear c2
    obtain rfl := Option.some.inj H
    go_wp2
    go_ret
    exact ⟨by first | rfl | (simp; done) | (simp [*]; done) | (simp; rw [Bool.eq_iff_iff]; simp; done), by repeat (first | exact Drawn0.refl _ | apply Drawn0.step)⟩

   rw [if_pos c2] at H
   have c2b0 : decide (x3_1 < (a0.size : Int)) = true := decide_eq_true c2
   clear c2
   by_cases c3 : 0 ≤ x3_1
   rotate_left
   ·
    rw [if_neg c3] at H
    exact absurd H (by simp)
   rw [if_pos c3] at H
   have c3b0 : decide (0 ≤ x3_1) = true := decide_eq_true c3
   clear c3
   by_cases c5 : (bt a0 x3_1) < 97
   ·
    rw [if_pos c5] at H
    have c5b0 : decide ((bt a0 x3_1) < 97) = true := decide_eq_true c5
    clear c5
    obtain rfl := Option.some.inj H
    have p4 : 0 ≤ (x3_1 : Int) := of_decide_eq_true (by first | (with_reducible assumption) | assumption)
    have q4 : x3_1 < (a0.size : Int) := of_decide_eq_true (by first | (with_reducible assumption) | assumption)
    have hx4 := bt_at a0 x3_1
    replace p4 := eq_true p4
    replace q4 := eq_true q4
    go_wp2
    go_ret
    exact ⟨by first | rfl | (simp; done) | (simp [*]; done) | (simp; rw [Bool.eq_iff_iff]; simp; done), by repeat (first | exact Drawn0.refl _ | apply Drawn0.step)⟩
   rw [if_neg c5] at H
   have c5b0 : decide ((bt a0 x3_1) < 97) = false := decide_eq_false c5
   clear c5
   by_cases c7 : (bt a0 x3_1) > 101
   ·
    rw [if_pos c7] at H
    have c7b0 : decide (101 < (bt a0 x3_1)) = true := decide_eq_true c7
    clear c7
    obtain rfl := Option.some.inj H
    have p4 : 0 ≤ (x3_1 : Int) := of_decide_eq_true (by first | (with_reducible assumption) | assumption)
    have q4 : x3_1 < (a0.size : Int) := of_decide_eq_true (by first | (with_reducible assumption) | assumption)
    have hx4 := bt_at a0 x3_1
    replace p4 := eq_true p4
    replace q4 := eq_true q4
    have p6 : 0 ≤ (x3_1 : Int) := of_decide_eq_true (by first | (with_reducible assumption) | assumption)
    have q6 : x3_1 < (a0.size : Int) := of_decide_eq_true (by first | (with_reducible assumption) | assumption)
    have hx6 := bt_at a0 x3_1
    replace p6 := eq_true p6
    replace q6 := eq_true q6
    go_wp2
    go_ret
    exact ⟨by first | rfl | (simp; done) | (simp [*]; done) | (simp; rw [Bool.eq_iff_iff]; simp; done), by repeat (first | exact Drawn0.refl _ | apply Drawn0.step)⟩
   rw [if_neg c7] at H
   have c7b0 : decide (101 < (bt a0 x3_1)) = false := decide_eq_false c7
   clear c7
   have H' := Aside0.mk H
   clear H
   have p4 : 0 ≤ (x3_1 : Int) := of_decide_eq_true (by first | (with_reducible assumption) | assumption)
   have q4 : x3_1 < (a0.size : Int) := of_decide_eq_true (by first | (with_reducible assumption) | assumption)
   have hx4 := bt_at a0 x3_1
   replace p4 := eq_true p4
   replace q4 := eq_true q4
   have p6 : 0 ≤ (x3_1 : Int) := of_decide_eq_true (by first | (with_reducible assumption) | assumption)
   have q6 : x3_1 < (a0.size : Int) := of_decide_eq_true (by first | (with_reducible assumption) | assumption)
   have hx6 := bt_at a0 x3_1
   replace p6 := eq_true p6
   replace q6 := eq_true q6
   go_wp2
   go_roundg k1
   case measure => have := HK1.out; omega
   case rel => exact ⟨(wrap64 (x3_1 + 1)), qF, H', ⟨by have := HK1.out; omega⟩, by repeat (first | exact Drawn0.refl _ | apply Drawn0.step)⟩
end Go.Proofs.YtcfphjjdbccnoaaGreat.PF
