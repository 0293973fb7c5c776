-- an own text, written by a program of this place (wip/tools)
import Derived.Test.YtjmcffejpgblfaaPFx0
import Derived.Test.YtjmcffejpgblfaaPFx1
namespace Go.Proofs.Ytjmcffejpgblfaa.PF
open Go.RowKit Go.Proofs.YtjmcffejpgblfaaW.PrintWords Go.Proofs.YtjmcffejpgblfaaW.PrintLast Go.Proofs.YtjmcffejpgblfaaW.PrintMore
attribute [local go_sem] max2_int min2_int max_two min_two max_three min_three max_four min_four   -- for this text's walks alone
set_option linter.unusedVariables false
set_option linter.unusedSimpArgs false

/-! ### spec_l01Draw: function 60 -/
def spec_l01Draw.l0 : Nat → ByteArray → ByteArray → Int → List Int → Int → Int → Option (ByteArray × Int × Int)
 | 0, _, _, _, _, _, _ => none
 | k + 1, x6, x7, x8, x1000, x1001, x1002 => if x8 > 0 then (if x7.size + x6.size ≤ 9223372036854775807 then (spec_l01Draw.l0 k x6 (x7 ++ x6) (wrap64 (x8 - 1)) x1000 x1001 x1002) else (none)) else ((spec_l01Next.f x1000 x1001 x1002 (x6.size : Int)).bind fun bt209 => (if 0 ≤ bt209.1 then (if bt209.1 ≤ (x6.size : Int) then (if x7.size + (x6.extract 0 (bt209.1 : Int).toNat).size ≤ 9223372036854775807 then (some (x7 ++ (x6.extract 0 (bt209.1 : Int).toNat), bt209.2.1, bt209.2.2)) else (none)) else (none)) else (none)))
def spec_l01Draw.f (k : Nat) (s0_0 : List Int) (s0_1 : Int) (s0_2 : Int) : Option (ByteArray × Int × Int) := (spec_l01Next.f s0_0 s0_1 s0_2 6).bind fun bt173 => (if bt173.1 = 0 then ((spec_l01Names.f).bind fun t176 => ((spec_l01Next.f s0_0 bt173.2.1 bt173.2.2 4).bind fun bt179 => (if 0 ≤ bt179.1 then (if bt179.1 < (t176.length : Int) then ((spec_l01Pick.f s0_0 bt179.2.1 bt179.2.2 (([12, 30, 61] : List Int))).bind fun bt186 => ((spec_l01Next.f s0_0 bt186.2.1 bt186.2.2 bt186.1).bind fun bt189 => ((spec_l01Named.f k (rdOf ByteArray.empty t176 bt179.1) bt189.1).bind fun bt192 => (some (bt192.1, bt189.2.1, bt189.2.2))))) else (none)) else (none)))) else (if bt173.1 = 1 then ((spec_l01Next.f s0_0 bt173.2.1 bt173.2.2 6).bind fun bt194 => ((spec_l01Pick.f s0_0 bt194.2.1 bt194.2.2 (([2, 2, 3] : List Int))).bind fun bt200 => ((spec_l01DrawOf.f k s0_0 bt200.2.1 bt200.2.2 (wrap64 (1 + bt194.1)) bt200.1).bind fun bt203 => ((spec_l01Next.f s0_0 bt203.2.1 bt203.2.2 4).bind fun bt206 => (spec_l01Draw.l0 k bt203.1 (⟨#[]⟩ : ByteArray) (wrap64 (1 + bt206.1)) s0_0 bt206.2.1 bt206.2.2))))) else (if bt173.1 = 2 then ((spec_l01Next.f s0_0 bt173.2.1 bt173.2.2 12).bind fun bt212 => ((spec_l01Pick.f s0_0 bt212.2.1 bt212.2.2 (([2, 2, 3] : List Int))).bind fun bt218 => ((spec_l01DrawOf.f k s0_0 bt218.2.1 bt218.2.2 bt212.1 bt218.1).bind fun bt221 => ((spec_l01Next.f s0_0 bt221.2.1 bt221.2.2 2).bind fun bt224 => ((spec_l01DrawOf.f k s0_0 bt224.2.1 bt224.2.2 bt224.1 2).bind fun bt227 => (if bt221.1.size + bt227.1.size ≤ 9223372036854775807 then ((spec_l01Reversed.f k bt221.1).bind fun t230 => (if (bt221.1 ++ bt227.1).size + t230.size ≤ 9223372036854775807 then (some ((bt221.1 ++ bt227.1) ++ t230, bt227.2.1, bt227.2.2)) else (none))) else (none))))))) else (if bt173.1 = 3 then ((spec_l01Pick.f s0_0 bt173.2.1 bt173.2.2 (([20, 40, 61] : List Int))).bind fun bt234 => ((spec_l01Next.f s0_0 bt234.2.1 bt234.2.2 bt234.1).bind fun bt237 => ((spec_l01Pick.f s0_0 bt237.2.1 bt237.2.2 (([1, 2, 2, 3, 3, 4, 5] : List Int))).bind fun bt243 => ((spec_l01DrawOf.f k s0_0 bt243.2.1 bt243.2.2 bt237.1 bt243.1).bind fun bt246 => (some (bt246.1, bt246.2.1, bt246.2.2)))))) else ((spec_l01Small.f k s0_0 bt173.2.1 bt173.2.2).bind fun bt249 => (some (bt249.1, bt249.2.1, bt249.2.2)))))))
theorem spec_l01Draw.mono_l : ∀ k, (∀ y0 y1 y2 y3 y4 y5, LeO (spec_l01Draw.l0 k y0 y1 y2 y3 y4 y5) (spec_l01Draw.l0 (k + 1) y0 y1 y2 y3 y4 y5))
 | 0 => fun _ _ _ _ _ _ r h => by simp [spec_l01Draw.l0] at h
 | k + 1 => by
  have ih0 := spec_l01Draw.mono_l k
  ·
   intro y0 y1 y2 y3 y4 y5
   unfold spec_l01Draw.l0
   with_reducible repeat' first
   | exact ih0 _ _ _ _ _ _
   | exact spec_l01DrawOf.mono _ _ _ _ _ _
   | exact spec_l01Named.mono _ _ _
   | exact spec_l01Reversed.mono _ _
   | exact spec_l01Small.mono _ _ _ _
   | exact LeO.refl _
   | exact LeO.none _
   | refine LeO.ite ?_ ?_
   | refine LeO.bind ?_ (fun _ => ?_)
theorem spec_l01Draw.mono : ∀ a0 a1 a2 k, LeO (spec_l01Draw.f k a0 a1 a2) (spec_l01Draw.f (k + 1) a0 a1 a2) := by
 intro a0 a1 a2 k
 have ih0 := spec_l01Draw.mono_l k
 unfold spec_l01Draw.f
 with_reducible repeat' first
   | exact ih0 _ _ _ _ _ _
   | exact spec_l01DrawOf.mono _ _ _ _ _ _
   | exact spec_l01Named.mono _ _ _
   | exact spec_l01Reversed.mono _ _
   | exact spec_l01Small.mono _ _ _ _
   | exact LeO.refl _
   | exact LeO.none _
   | refine LeO.ite ?_ ?_
   | refine LeO.bind ?_ (fun _ => ?_)
def spec_l01Draw.T4 : Bool × List (List Nat × List Nat) := (true, [([], []), ([], []), ([1], [1]), ([0, 2], [0, 2]), ([3], [3]), ([], []), ([], []), ([], []), ([6, 7, 2], [6, 7]), ([5, 8, 8], [5, 8]), ([4, 9, 9], [4, 9]), ([10], [10]), ([11], [11]), ([11], [11]), ([12, 10, 0, 1, 2, 3, 4, 5, 6, 7, 8, 9, 10, 11, 12], [12]), ([13, 14, 0, 1, 2, 3, 4, 5, 6, 7, 8, 9, 10, 11, 12, 13, 14], [13])])
def spec_l01Draw.B4 : List Nat := [0, 0, 2, 7, 15, 0, 0, 0, 198, 486, 1023, 2047, 4095, 4095, 8191, 32767]
theorem spec_l01Draw.tab4 : rtab .any (opsOf Try.f60 4) = spec_l01Draw.T4 := by kernel_rfl
theorem spec_l01Draw.bits4 : waitsOk spec_l01Draw.T4.2 spec_l01Draw.B4 = true := by kernel_rfl
set_option maxHeartbeats 8000000 in
set_option maxRecDepth 100000 in
theorem spec_l01Draw.calls (k : Nat) (g : Nat) (s0_0 : List Int) (s0_1 : Int) (s0_2 : Int) (r1 : ByteArray) (r2 : Int) (r3 : Int) (w0 w : World) (hI : IsS57 w0 w g s0_0 s0_1 s0_2) (hB : Below w0.heap.size w0 w) (h : spec_l01Draw.f k s0_0 s0_1 s0_2 = some (r1, r2, r3)) :
  Calls Try.prog 60 #[.pointer (some ⟨g, 0, none⟩)] w fun e w' => e = .returned (.string r1) ∧ IsS57 w0 w' g s0_0 r2 r3 ∧ Below w0.heap.size w0 w' ∧ KeepBut w w' g none := by
 have HI0 := Aside0.mk hI
 have HK := Aside0.mk (KeepBut.refl w g none)
 have HL := Aside0.mk hB.size
 clear hI
 have HW0 := Aside0.mk hB.size
 have HB := Aside0.mk hB
 clear hB
 have H : ((spec_l01Next.f s0_0 s0_1 s0_2 6).bind fun bt173 => (if bt173.1 = 0 then ((spec_l01Names.f).bind fun t176 => ((spec_l01Next.f s0_0 bt173.2.1 bt173.2.2 4).bind fun bt179 => (if 0 ≤ bt179.1 then (if bt179.1 < (t176.length : Int) then ((spec_l01Pick.f s0_0 bt179.2.1 bt179.2.2 (([12, 30, 61] : List Int))).bind fun bt186 => ((spec_l01Next.f s0_0 bt186.2.1 bt186.2.2 bt186.1).bind fun bt189 => ((spec_l01Named.f k (rdOf ByteArray.empty t176 bt179.1) bt189.1).bind fun bt192 => (some (bt192.1, bt189.2.1, bt189.2.2))))) else (none)) else (none)))) else (if bt173.1 = 1 then ((spec_l01Next.f s0_0 bt173.2.1 bt173.2.2 6).bind fun bt194 => ((spec_l01Pick.f s0_0 bt194.2.1 bt194.2.2 (([2, 2, 3] : List Int))).bind fun bt200 => ((spec_l01DrawOf.f k s0_0 bt200.2.1 bt200.2.2 (wrap64 (1 + bt194.1)) bt200.1).bind fun bt203 => ((spec_l01Next.f s0_0 bt203.2.1 bt203.2.2 4).bind fun bt206 => (spec_l01Draw.l0 k bt203.1 (⟨#[]⟩ : ByteArray) (wrap64 (1 + bt206.1)) s0_0 bt206.2.1 bt206.2.2))))) else (if bt173.1 = 2 then ((spec_l01Next.f s0_0 bt173.2.1 bt173.2.2 12).bind fun bt212 => ((spec_l01Pick.f s0_0 bt212.2.1 bt212.2.2 (([2, 2, 3] : List Int))).bind fun bt218 => ((spec_l01DrawOf.f k s0_0 bt218.2.1 bt218.2.2 bt212.1 bt218.1).bind fun bt221 => ((spec_l01Next.f s0_0 bt221.2.1 bt221.2.2 2).bind fun bt224 => ((spec_l01DrawOf.f k s0_0 bt224.2.1 bt224.2.2 bt224.1 2).bind fun bt227 => (if bt221.1.size + bt227.1.size ≤ 9223372036854775807 then ((spec_l01Reversed.f k bt221.1).bind fun t230 => (if (bt221.1 ++ bt227.1).size + t230.size ≤ 9223372036854775807 then (some ((bt221.1 ++ bt227.1) ++ t230, bt227.2.1, bt227.2.2)) else (none))) else (none))))))) else (if bt173.1 = 3 then ((spec_l01Pick.f s0_0 bt173.2.1 bt173.2.2 (([20, 40, 61] : List Int))).bind fun bt234 => ((spec_l01Next.f s0_0 bt234.2.1 bt234.2.2 bt234.1).bind fun bt237 => ((spec_l01Pick.f s0_0 bt237.2.1 bt237.2.2 (([1, 2, 2, 3, 3, 4, 5] : List Int))).bind fun bt243 => ((spec_l01DrawOf.f k s0_0 bt243.2.1 bt243.2.2 bt237.1 bt243.1).bind fun bt246 => (some (bt246.1, bt246.2.1, bt246.2.2)))))) else ((spec_l01Small.f k s0_0 bt173.2.1 bt173.2.2).bind fun bt249 => (some (bt249.1, bt249.2.1, bt249.2.2)))))))) = some (r1, r2, r3) := h
 clear h
 replace H := qN H
 obtain ⟨⟨t173, t174, t175⟩, A2, H⟩ := H
 try dsimp only at H
 by_cases c3 : t173 = 0
 rotate_left
 ·
  rw [if_neg c3] at H
  obtain ⟨c3b0, c3b1⟩ := zF c3
  by_cases c23 : t173 = 1
  ·
   rw [if_pos c23] at H
   obtain ⟨c23b0, c23b1⟩ := zT c23
   clear c23
   replace H := qN H
   obtain ⟨⟨t194, t195, t196⟩, A24, H⟩ := H
   try dsimp only at H
   obtain ⟨y197, hy197⟩ : ∃ y_ : List Int, y_ = (([2, 2, 3] : List Int)) := ⟨_, rfl⟩
   replace H : ((spec_l01Pick.f s0_0 t195 t196 y197).bind fun bt200 => ((spec_l01DrawOf.f k s0_0 bt200.2.1 bt200.2.2 (wrap64 (1 + t194)) bt200.1).bind fun bt203 => ((spec_l01Next.f s0_0 bt203.2.1 bt203.2.2 4).bind fun bt206 => (spec_l01Draw.l0 k bt203.1 (⟨#[]⟩ : ByteArray) (wrap64 (1 + bt206.1)) s0_0 bt206.2.1 bt206.2.2)))) = some (r1, r2, r3) := by first | (rw [hy197]; with_reducible exact H) | (have H2_ := (Option.bind_some _ _).symm.trans H; rw [hy197]; with_reducible exact H2_) | (have H2_ := (Option.bind_some _ _).symm.trans H; with_reducible exact H2_) | with_reducible exact H | (rw [hy197]; exact H) | exact H
   have Ny197 := Aside0.mk hy197
   clear hy197
   replace H := qN H
   obtain ⟨⟨t200, t201, t202⟩, A25, H⟩ := H
   try dsimp only at H
   replace H := qN H
   obtain ⟨⟨t203, t204, t205⟩, A26, H⟩ := H
   try dsimp only at H
   replace H := qN H
   obtain ⟨⟨t206, t207, t208⟩, A27, H⟩ := H
   try dsimp only at H
   have H' := Aside0.mk H
   clear H
   go_enter Try.func60, Try.ntmps60
   go_wp2_with (first | ((with_reducible refine gate_callee (f := 36) rfl ?_); refine goesL_ (some 11) rfl rfl Try.func36 (by kernel_rfl) rfl #[.pointer (some ⟨g, 0, none⟩), .int .i64 6] rfl qV ?_; (with_reducible refine (spec_l01Next.calls g s0_0 s0_1 s0_2 6 t173 t174 t175 w0 _ ?side1 ?side2 A2.out).mono ?_); (case side1 => exact qI HI0.out); (case side2 => exact qS HB.out); rintro e w28 ⟨rfl, hi, hb, hk⟩; refine ⟨_, rfl, ?_⟩; replace HK := Aside0.mk (KeepBut.trans (qK HK.out) hk (.inl rfl)); replace HB := Aside0.mk (hb); replace HI0 := Aside0.mk (hi)) | ((with_reducible refine gate_callee (f := 36) rfl ?_); refine goesL_ (some 34) rfl rfl Try.func36 (by kernel_rfl) rfl #[.pointer (some ⟨g, 0, none⟩), .int .i64 6] rfl qV ?_; (with_reducible refine (spec_l01Next.calls g s0_0 t174 t175 6 t194 t195 t196 w0 _ ?side1 ?side2 A24.out).mono ?_); (case side1 => exact qI HI0.out); (case side2 => exact qS HB.out); rintro e w29 ⟨rfl, hi, hb, hk⟩; refine ⟨_, rfl, ?_⟩; replace HK := Aside0.mk (KeepBut.trans (qK HK.out) hk (.inl rfl)); replace HB := Aside0.mk (hb); replace HI0 := Aside0.mk (hi)) | ((with_reducible refine gate_dst (N := 37) rfl ?_); refine Kd.R_lit (Kd.int .i64) _ 2 ?hg (N := 37) ?hd (xs := ([2, 2, 3] : List Int)) (inner := [.int .i64 2, .int .i64 2, .int .i64 3]) (ok := fun _ => True) (okp := fun _ => True) ?hr ?hp (fun _ hk => hk) trivial (Below.refl _ _) (Nat.le_refl _) (by simp) ?_; (case hd => rfl); (case hg => rfl); (case hr => first | (go_simp; done) | (go_simp; rfl)); (case hp => exact (Reps.one (show Kd.M (Kd.int .i64) _ _ _ 2 [.int .i64 2] from rfl) (Reps.one (show Kd.M (Kd.int .i64) _ _ _ 2 [.int .i64 2] from rfl) (Reps.one (show Kd.M (Kd.int .i64) _ _ _ 3 [.int .i64 3] from rfl) (Reps.none _ _))))); intro v198 w30 ho31 hb hg_ hnew_; clear hg_ hnew_; (first | rw [← Ny197.out] at ho31 | (simp only [Int.reduceToNat] at ho31; rw [← Ny197.out] at ho31)); have HO199 := Aside0.mk (Kd.R_lower ho31 (keep_size (w := w) (g := g) (row := none) (qK HK.out))); replace HI0 := Aside0.mk (IsS57.below (qI HI0.out) hb); replace HK := Aside0.mk (KeepBut.trans (qK HK.out) (KeepBut.of_below hb g none) (.inl rfl)); replace HB := Aside0.mk (below_step (qS HB.out) hb); clear hb ho31; obtain ⟨Ao32, co32, eo32⟩ := Kd.R_slice HO199.out; subst eo32) | ((with_reducible refine gate_callee (f := 37) rfl ?_); refine goesL_ (some 38) rfl rfl Try.func37 (by kernel_rfl) rfl #[.pointer (some ⟨g, 0, none⟩), .slice Ao32 y197.length co32] rfl qV ?_; (with_reducible refine (spec_l01Pick.calls g s0_0 t195 t196 _ _ y197 t200 t201 t202 w0 _ ?side1 ?side2 ?side3 ?side4 ?side5 A25.out).mono ?_); (case side1 => exact qI HI0.out); (case side2 => exact qS HB.out); (case side3 => exact qC (Kd.R_reads' HO199.out).2.2); (case side4 => exact (Kd.R_reads' HO199.out).2.1); (case side5 => exact far_slice (IsS57.own_ne HI0.out HO199.out (by decide))); rintro e w33 ⟨rfl, hi, hb, hk⟩; refine ⟨_, rfl, ?_⟩; replace HO199 := Aside0.mk (Kd.R_mono (Kd.R_keep (IsS57.apart (show IsS57 w0 _ g s0_0 t195 t196 from qI HI0.out) (qR HO199.out) (by decide)) hk (fun _ h => h.2)) (fun _ h => h.1)); replace HK := Aside0.mk (KeepBut.trans (qK HK.out) hk (.inl rfl)); replace HB := Aside0.mk (hb); replace HI0 := Aside0.mk (hi)) | ((with_reducible refine gate_callee (f := 35) rfl ?_); refine goesL_ (some 39) rfl rfl Try.func35 (by kernel_rfl) rfl #[.pointer (some ⟨g, 0, none⟩), .int .i64 (wrap64 (1 + t194)), .int .i64 t200] rfl qV ?_; (with_reducible refine (spec_l01DrawOf.calls k g s0_0 t201 t202 (wrap64 (1 + t194)) t200 t203 t204 t205 w0 _ ?side1 ?side2 A26.out).mono ?_); (case side1 => exact qI HI0.out); (case side2 => exact qS HB.out); rintro e w34 ⟨rfl, hi, hb, hk⟩; refine ⟨_, rfl, ?_⟩; replace HO199 := Aside0.mk (Kd.R_mono (Kd.R_keep (IsS57.apart (show IsS57 w0 _ g s0_0 t201 t202 from qI HI0.out) (qR HO199.out) (by decide)) hk (fun _ h => h.2)) (fun _ h => h.1)); replace HK := Aside0.mk (KeepBut.trans (qK HK.out) hk (.inl rfl)); replace HB := Aside0.mk (hb); replace HI0 := Aside0.mk (hi)) | ((with_reducible refine gate_callee (f := 36) rfl ?_); refine goesL_ (some 41) rfl rfl Try.func36 (by kernel_rfl) rfl #[.pointer (some ⟨g, 0, none⟩), .int .i64 4] rfl qV ?_; (with_reducible refine (spec_l01Next.calls g s0_0 t204 t205 4 t206 t207 t208 w0 _ ?side1 ?side2 A27.out).mono ?_); (case side1 => exact qI HI0.out); (case side2 => exact qS HB.out); rintro e w35 ⟨rfl, hi, hb, hk⟩; refine ⟨_, rfl, ?_⟩; replace HO199 := Aside0.mk (Kd.R_mono (Kd.R_keep (IsS57.apart (show IsS57 w0 _ g s0_0 t204 t205 from qI HI0.out) (qR HO199.out) (by decide)) hk (fun _ h => h.2)) (fun _ h => h.1)); replace HK := Aside0.mk (KeepBut.trans (qK HK.out) hk (.inl rfl)); replace HB := Aside0.mk (hb); replace HI0 := Aside0.mk (hi)))
   go_loopg [7, 8] k (fun kq v7 v8 w' => ∃ (x7_1 : ByteArray) (x8_1 : Int), v7 = .string x7_1 ∧ v8 = .int .i64 x8_1 ∧ Aside0 (spec_l01Draw.l0 kq t203 x7_1 x8_1 s0_0 t207 t208 = some (r1, r2, r3)) ∧ Aside0 (kq ≤ k) ∧ Aside0 (IsS57 w0 w' g s0_0 t207 t208) ∧ Aside0 (KeepBut w w' g none) ∧ Aside0 (Below w0.heap.size w0 w'))
   case atStart => exact ⟨((⟨#[]⟩ : ByteArray)), (wrap64 (1 + t206)), qF, qF, H', ⟨Nat.le_refl _⟩, ⟨qI HI0.out⟩, ⟨qK HK.out⟩, ⟨qS HB.out⟩⟩
   case round =>
    clear H'
    obtain ⟨x7_1, x8_1, rfl, rfl, HA, HK1, HI0, HK, HB⟩ := hrel
    cases gk with
    | zero => exact absurd HA.out (by simp [spec_l01Draw.l0])
    | succ k1 =>
     have H := HA.out
     clear HA
     simp only [spec_l01Draw.l0] at H
     by_cases c36 : x8_1 > 0
     ·
      rw [if_pos c36] at H
      have c36b0 : decide (0 < x8_1) = true := decide_eq_true c36
      clear c36
      by_cases c37 : x7_1.size + t203.size ≤ 9223372036854775807
      rotate_left
      ·
       rw [if_neg c37] at H
       exact absurd H (by simp)
      rw [if_pos c37] at H
      have c37b0 := eq_true c37
      have c37b1 : decide (x7_1.size + t203.size ≤ 9223372036854775807) = true := decide_eq_true c37
      try have c37b2 : (9223372036854775807 < x7_1.size + t203.size) = False := eq_false (Nat.not_lt.2 c37)
      have H' := Aside0.mk H
      clear H
      go_wp2
      go_roundg k1
      case measure => have := HK1.out; omega
      case rel => exact ⟨(x7_1 ++ t203), (wrap64 (x8_1 - 1)), qF, qF, H', ⟨by have := HK1.out; omega⟩, ⟨qI HI0.out⟩, ⟨qK HK.out⟩, ⟨qS HB.out⟩⟩
     rw [if_neg c36] at H
     have c36b0 : decide (0 < x8_1) = false := decide_eq_false c36
     clear c36
     replace H := qN H
     obtain ⟨⟨t209, t210, t211⟩, A38, H⟩ := H
     try dsimp only at H
     by_cases c39 : 0 ≤ t209
     rotate_left
     ·
      rw [if_neg c39] at H
      exact absurd H (by simp)
     rw [if_pos c39] at H
     have c39b0 := eq_true c39
     have c39b1 : decide (0 ≤ t209) = true := decide_eq_true c39
     clear c39
     by_cases c40 : t209 ≤ (t203.size : Int)
     rotate_left
     ·
      rw [if_neg c40] at H
      exact absurd H (by simp)
     rw [if_pos c40] at H
     have c40b0 := eq_true c40
     have c40b1 : decide (t209 ≤ (t203.size : Int)) = true := decide_eq_true c40
     clear c40
     by_cases c41 : x7_1.size + (t203.extract 0 (t209 : Int).toNat).size ≤ 9223372036854775807
     rotate_left
     ·
      rw [if_neg c41] at H
      exact absurd H (by simp)
     rw [if_pos c41] at H
     have c41b0 := eq_true c41
     have c41b1 : decide (x7_1.size + (t203.extract 0 (t209 : Int).toNat).size ≤ 9223372036854775807) = true := decide_eq_true c41
     try have c41b2 : (9223372036854775807 < x7_1.size + (t203.extract 0 (t209 : Int).toNat).size) = False := eq_false (Nat.not_lt.2 c41)
     simp only [Option.some.injEq, Prod.mk.injEq] at H
     obtain ⟨rfl, rfl, rfl⟩ := H
     go_wp2_with (first | ((with_reducible refine gate_callee (f := 36) rfl ?_); refine goesL_ (some 55) rfl rfl Try.func36 (by kernel_rfl) rfl #[.pointer (some ⟨g, 0, none⟩), .int .i64 (t203.size : Int)] rfl qV ?_; (with_reducible refine (spec_l01Next.calls g s0_0 t207 t208 (t203.size : Int) t209 t210 t211 w0 _ ?side1 ?side2 A38.out).mono ?_); (case side1 => exact qI HI0.out); (case side2 => exact qS HB.out); rintro e w42 ⟨rfl, hi, hb, hk⟩; refine ⟨_, rfl, ?_⟩; replace HK := Aside0.mk (KeepBut.trans (qK HK.out) hk (.inl rfl)); replace HB := Aside0.mk (hb); replace HI0 := Aside0.mk (hi)))
     go_ret
     exact ⟨qE, qI HI0.out, qS HB.out, qK HK.out⟩
  rw [if_neg c23] at H
  obtain ⟨c23b0, c23b1⟩ := zF c23
  by_cases c43 : t173 = 2
  rotate_left
  ·
   rw [if_neg c43] at H
   obtain ⟨c43b0, c43b1⟩ := zF c43
   by_cases c62 : t173 = 3
   rotate_left
   ·
    rw [if_neg c62] at H
    obtain ⟨c62b0, c62b1⟩ := zF c62
    replace H := qN H
    obtain ⟨⟨t249, t250, t251⟩, A78, H⟩ := H
    try dsimp only at H
    simp only [Option.some.injEq, Prod.mk.injEq] at H
    obtain ⟨rfl, rfl, rfl⟩ := H
    go_enter Try.func60, Try.ntmps60
    go_wp2_with (first | ((with_reducible refine gate_callee (f := 36) rfl ?_); refine goesL_ (some 11) rfl rfl Try.func36 (by kernel_rfl) rfl #[.pointer (some ⟨g, 0, none⟩), .int .i64 6] rfl qV ?_; (with_reducible refine (spec_l01Next.calls g s0_0 s0_1 s0_2 6 t173 t174 t175 w0 _ ?side1 ?side2 A2.out).mono ?_); (case side1 => exact qI HI0.out); (case side2 => exact qS HB.out); rintro e w79 ⟨rfl, hi, hb, hk⟩; refine ⟨_, rfl, ?_⟩; replace HK := Aside0.mk (KeepBut.trans (qK HK.out) hk (.inl rfl)); replace HB := Aside0.mk (hb); replace HI0 := Aside0.mk (hi)) | ((with_reducible refine gate_callee (f := 71) rfl ?_); refine goesL_ (some 89) rfl rfl Try.func71 (by kernel_rfl) rfl #[.pointer (some ⟨g, 0, none⟩)] rfl qV ?_; (with_reducible refine (spec_l01Small.calls k g s0_0 t174 t175 t249 t250 t251 w0 _ ?side1 ?side2 A78.out).mono ?_); (case side1 => exact qI HI0.out); (case side2 => exact qS HB.out); rintro e w80 ⟨rfl, hi, hb, hk⟩; refine ⟨_, rfl, ?_⟩; replace HK := Aside0.mk (KeepBut.trans (qK HK.out) hk (.inl rfl)); replace HB := Aside0.mk (hb); replace HI0 := Aside0.mk (hi)))
    go_ret
    exact ⟨qE, qI HI0.out, qS HB.out, qK HK.out⟩

   rw [if_pos c62] at H
   obtain ⟨c62b0, c62b1⟩ := zT c62
   clear c62
   obtain ⟨y231, hy231⟩ : ∃ y_ : List Int, y_ = (([20, 40, 61] : List Int)) := ⟨_, rfl⟩
   replace H : ((spec_l01Pick.f s0_0 t174 t175 y231).bind fun bt234 => ((spec_l01Next.f s0_0 bt234.2.1 bt234.2.2 bt234.1).bind fun bt237 => ((spec_l01Pick.f s0_0 bt237.2.1 bt237.2.2 (([1, 2, 2, 3, 3, 4, 5] : List Int))).bind fun bt243 => ((spec_l01DrawOf.f k s0_0 bt243.2.1 bt243.2.2 bt237.1 bt243.1).bind fun bt246 => (some (bt246.1, bt246.2.1, bt246.2.2)))))) = some (r1, r2, r3) := by first | (rw [hy231]; with_reducible exact H) | (have H2_ := (Option.bind_some _ _).symm.trans H; rw [hy231]; with_reducible exact H2_) | (have H2_ := (Option.bind_some _ _).symm.trans H; with_reducible exact H2_) | with_reducible exact H | (rw [hy231]; exact H) | exact H
   have Ny231 := Aside0.mk hy231
   clear hy231
   replace H := qN H
   obtain ⟨⟨t234, t235, t236⟩, A63, H⟩ := H
   try dsimp only at H
   replace H := qN H
   obtain ⟨⟨t237, t238, t239⟩, A64, H⟩ := H
   try dsimp only at H
   obtain ⟨y240, hy240⟩ : ∃ y_ : List Int, y_ = (([1, 2, 2, 3, 3, 4, 5] : List Int)) := ⟨_, rfl⟩
   replace H : ((spec_l01Pick.f s0_0 t238 t239 y240).bind fun bt243 => ((spec_l01DrawOf.f k s0_0 bt243.2.1 bt243.2.2 t237 bt243.1).bind fun bt246 => (some (bt246.1, bt246.2.1, bt246.2.2)))) = some (r1, r2, r3) := by first | (rw [hy240]; with_reducible exact H) | (have H2_ := (Option.bind_some _ _).symm.trans H; rw [hy240]; with_reducible exact H2_) | (have H2_ := (Option.bind_some _ _).symm.trans H; with_reducible exact H2_) | with_reducible exact H | (rw [hy240]; exact H) | exact H
   have Ny240 := Aside0.mk hy240
   clear hy240
   replace H := qN H
   obtain ⟨⟨t243, t244, t245⟩, A65, H⟩ := H
   try dsimp only at H
   replace H := qN H
   obtain ⟨⟨t246, t247, t248⟩, A66, H⟩ := H
   try dsimp only at H
   simp only [Option.some.injEq, Prod.mk.injEq] at H
   obtain ⟨rfl, rfl, rfl⟩ := H
   go_enter Try.func60, Try.ntmps60
   go_wp2_with (first | ((with_reducible refine gate_callee (f := 36) rfl ?_); refine goesL_ (some 11) rfl rfl Try.func36 (by kernel_rfl) rfl #[.pointer (some ⟨g, 0, none⟩), .int .i64 6] rfl qV ?_; (with_reducible refine (spec_l01Next.calls g s0_0 s0_1 s0_2 6 t173 t174 t175 w0 _ ?side1 ?side2 A2.out).mono ?_); (case side1 => exact qI HI0.out); (case side2 => exact qS HB.out); rintro e w67 ⟨rfl, hi, hb, hk⟩; refine ⟨_, rfl, ?_⟩; replace HK := Aside0.mk (KeepBut.trans (qK HK.out) hk (.inl rfl)); replace HB := Aside0.mk (hb); replace HI0 := Aside0.mk (hi)) | ((with_reducible refine gate_dst (N := 81) rfl ?_); refine Kd.R_lit (Kd.int .i64) _ 2 ?hg (N := 81) ?hd (xs := ([20, 40, 61] : List Int)) (inner := [.int .i64 20, .int .i64 40, .int .i64 61]) (ok := fun _ => True) (okp := fun _ => True) ?hr ?hp (fun _ hk => hk) trivial (Below.refl _ _) (Nat.le_refl _) (by simp) ?_; (case hd => rfl); (case hg => rfl); (case hr => first | (go_simp; done) | (go_simp; rfl)); (case hp => exact (Reps.one (show Kd.M (Kd.int .i64) _ _ _ 20 [.int .i64 20] from rfl) (Reps.one (show Kd.M (Kd.int .i64) _ _ _ 40 [.int .i64 40] from rfl) (Reps.one (show Kd.M (Kd.int .i64) _ _ _ 61 [.int .i64 61] from rfl) (Reps.none _ _))))); intro v232 w68 ho69 hb hg_ hnew_; clear hg_ hnew_; (first | rw [← Ny231.out] at ho69 | (simp only [Int.reduceToNat] at ho69; rw [← Ny231.out] at ho69)); have HO233 := Aside0.mk (Kd.R_lower ho69 (keep_size (w := w) (g := g) (row := none) (qK HK.out))); replace HI0 := Aside0.mk (IsS57.below (qI HI0.out) hb); replace HK := Aside0.mk (KeepBut.trans (qK HK.out) (KeepBut.of_below hb g none) (.inl rfl)); replace HB := Aside0.mk (below_step (qS HB.out) hb); clear hb ho69; obtain ⟨Ao70, co70, eo70⟩ := Kd.R_slice HO233.out; subst eo70) | ((with_reducible refine gate_callee (f := 37) rfl ?_); refine goesL_ (some 82) rfl rfl Try.func37 (by kernel_rfl) rfl #[.pointer (some ⟨g, 0, none⟩), .slice Ao70 y231.length co70] rfl qV ?_; (with_reducible refine (spec_l01Pick.calls g s0_0 t174 t175 _ _ y231 t234 t235 t236 w0 _ ?side1 ?side2 ?side3 ?side4 ?side5 A63.out).mono ?_); (case side1 => exact qI HI0.out); (case side2 => exact qS HB.out); (case side3 => exact qC (Kd.R_reads' HO233.out).2.2); (case side4 => exact (Kd.R_reads' HO233.out).2.1); (case side5 => exact far_slice (IsS57.own_ne HI0.out HO233.out (by decide))); rintro e w71 ⟨rfl, hi, hb, hk⟩; refine ⟨_, rfl, ?_⟩; replace HO233 := Aside0.mk (Kd.R_mono (Kd.R_keep (IsS57.apart (show IsS57 w0 _ g s0_0 t174 t175 from qI HI0.out) (qR HO233.out) (by decide)) hk (fun _ h => h.2)) (fun _ h => h.1)); replace HK := Aside0.mk (KeepBut.trans (qK HK.out) hk (.inl rfl)); replace HB := Aside0.mk (hb); replace HI0 := Aside0.mk (hi)) | ((with_reducible refine gate_callee (f := 36) rfl ?_); refine goesL_ (some 83) rfl rfl Try.func36 (by kernel_rfl) rfl #[.pointer (some ⟨g, 0, none⟩), .int .i64 t234] rfl qV ?_; (with_reducible refine (spec_l01Next.calls g s0_0 t235 t236 t234 t237 t238 t239 w0 _ ?side1 ?side2 A64.out).mono ?_); (case side1 => exact qI HI0.out); (case side2 => exact qS HB.out); rintro e w72 ⟨rfl, hi, hb, hk⟩; refine ⟨_, rfl, ?_⟩; replace HO233 := Aside0.mk (Kd.R_mono (Kd.R_keep (IsS57.apart (show IsS57 w0 _ g s0_0 t235 t236 from qI HI0.out) (qR HO233.out) (by decide)) hk (fun _ h => h.2)) (fun _ h => h.1)); replace HK := Aside0.mk (KeepBut.trans (qK HK.out) hk (.inl rfl)); replace HB := Aside0.mk (hb); replace HI0 := Aside0.mk (hi)) | ((with_reducible refine gate_dst (N := 85) rfl ?_); refine Kd.R_lit (Kd.int .i64) _ 2 ?hg (N := 85) ?hd (xs := ([1, 2, 2, 3, 3, 4, 5] : List Int)) (inner := [.int .i64 1, .int .i64 2, .int .i64 2, .int .i64 3, .int .i64 3, .int .i64 4, .int .i64 5]) (ok := fun _ => True) (okp := fun _ => True) ?hr ?hp (fun _ hk => hk) trivial (Below.refl _ _) (Nat.le_refl _) (by simp) ?_; (case hd => rfl); (case hg => rfl); (case hr => first | (go_simp; done) | (go_simp; rfl)); (case hp => exact (Reps.one (show Kd.M (Kd.int .i64) _ _ _ 1 [.int .i64 1] from rfl) (Reps.one (show Kd.M (Kd.int .i64) _ _ _ 2 [.int .i64 2] from rfl) (Reps.one (show Kd.M (Kd.int .i64) _ _ _ 2 [.int .i64 2] from rfl) (Reps.one (show Kd.M (Kd.int .i64) _ _ _ 3 [.int .i64 3] from rfl) (Reps.one (show Kd.M (Kd.int .i64) _ _ _ 3 [.int .i64 3] from rfl) (Reps.one (show Kd.M (Kd.int .i64) _ _ _ 4 [.int .i64 4] from rfl) (Reps.one (show Kd.M (Kd.int .i64) _ _ _ 5 [.int .i64 5] from rfl) (Reps.none _ _))))))))); intro v241 w73 ho74 hb hg_ hnew_; clear hg_ hnew_; (first | rw [← Ny240.out] at ho74 | (simp only [Int.reduceToNat] at ho74; rw [← Ny240.out] at ho74)); have HO242 := Aside0.mk (Kd.R_lower (Kd.R_new' ho74 (Kd.R_lt (qR HO233.out))) (keep_size (w := w) (g := g) (row := none) (qK HK.out))); replace HO233 := Aside0.mk (Kd.R_elder' (qR HO233.out) (Kd.R_base ho74) hb); replace HI0 := Aside0.mk (IsS57.below (qI HI0.out) hb); replace HK := Aside0.mk (KeepBut.trans (qK HK.out) (KeepBut.of_below hb g none) (.inl rfl)); replace HB := Aside0.mk (below_step (qS HB.out) hb); clear hb ho74; obtain ⟨Ao75, co75, eo75⟩ := Kd.R_slice HO242.out; subst eo75) | ((with_reducible refine gate_callee (f := 37) rfl ?_); refine goesL_ (some 86) rfl rfl Try.func37 (by kernel_rfl) rfl #[.pointer (some ⟨g, 0, none⟩), .slice Ao75 y240.length co75] rfl qV ?_; (with_reducible refine (spec_l01Pick.calls g s0_0 t238 t239 _ _ y240 t243 t244 t245 w0 _ ?side1 ?side2 ?side3 ?side4 ?side5 A65.out).mono ?_); (case side1 => exact qI HI0.out); (case side2 => exact qS HB.out); (case side3 => exact qC (Kd.R_reads' HO242.out).2.2); (case side4 => exact (Kd.R_reads' HO242.out).2.1); (case side5 => exact far_slice (IsS57.own_ne HI0.out HO242.out (by decide))); rintro e w76 ⟨rfl, hi, hb, hk⟩; refine ⟨_, rfl, ?_⟩; replace HO233 := Aside0.mk (Kd.R_mono (Kd.R_keep (IsS57.apart (show IsS57 w0 _ g s0_0 t238 t239 from qI HI0.out) (qR HO233.out) (by decide)) hk (fun _ h => h.2)) (fun _ h => h.1)); replace HO242 := Aside0.mk (Kd.R_mono (Kd.R_keep (IsS57.apart (show IsS57 w0 _ g s0_0 t238 t239 from qI HI0.out) (qR HO242.out) (by decide)) hk (fun _ h => h.2)) (fun _ h => h.1)); replace HK := Aside0.mk (KeepBut.trans (qK HK.out) hk (.inl rfl)); replace HB := Aside0.mk (hb); replace HI0 := Aside0.mk (hi)) | ((with_reducible refine gate_callee (f := 35) rfl ?_); refine goesL_ (some 87) rfl rfl Try.func35 (by kernel_rfl) rfl #[.pointer (some ⟨g, 0, none⟩), .int .i64 t237, .int .i64 t243] rfl qV ?_; (with_reducible refine (spec_l01DrawOf.calls k g s0_0 t244 t245 t237 t243 t246 t247 t248 w0 _ ?side1 ?side2 A66.out).mono ?_); (case side1 => exact qI HI0.out); (case side2 => exact qS HB.out); rintro e w77 ⟨rfl, hi, hb, hk⟩; refine ⟨_, rfl, ?_⟩; replace HO233 := Aside0.mk (Kd.R_mono (Kd.R_keep (IsS57.apart (show IsS57 w0 _ g s0_0 t244 t245 from qI HI0.out) (qR HO233.out) (by decide)) hk (fun _ h => h.2)) (fun _ h => h.1)); replace HO242 := Aside0.mk (Kd.R_mono (Kd.R_keep (IsS57.apart (show IsS57 w0 _ g s0_0 t244 t245 from qI HI0.out) (qR HO242.out) (by decide)) hk (fun _ h => h.2)) (fun _ h => h.1)); replace HK := Aside0.mk (KeepBut.trans (qK HK.out) hk (.inl rfl)); replace HB := Aside0.mk (hb); replace HI0 := Aside0.mk (hi)))
   go_ret
   exact ⟨qE, qI HI0.out, qS HB.out, qK HK.out⟩
  rw [if_pos c43] at H
  obtain ⟨c43b0, c43b1⟩ := zT c43
  clear c43
  replace H := qN H
  obtain ⟨⟨t212, t213, t214⟩, A44, H⟩ := H
  try dsimp only at H
  obtain ⟨y215, hy215⟩ : ∃ y_ : List Int, y_ = (([2, 2, 3] : List Int)) := ⟨_, rfl⟩
  replace H : ((spec_l01Pick.f s0_0 t213 t214 y215).bind fun bt218 => ((spec_l01DrawOf.f k s0_0 bt218.2.1 bt218.2.2 t212 bt218.1).bind fun bt221 => ((spec_l01Next.f s0_0 bt221.2.1 bt221.2.2 2).bind fun bt224 => ((spec_l01DrawOf.f k s0_0 bt224.2.1 bt224.2.2 bt224.1 2).bind fun bt227 => (if bt221.1.size + bt227.1.size ≤ 9223372036854775807 then ((spec_l01Reversed.f k bt221.1).bind fun t230 => (if (bt221.1 ++ bt227.1).size + t230.size ≤ 9223372036854775807 then (some ((bt221.1 ++ bt227.1) ++ t230, bt227.2.1, bt227.2.2)) else (none))) else (none)))))) = some (r1, r2, r3) := by first | (rw [hy215]; with_reducible exact H) | (have H2_ := (Option.bind_some _ _).symm.trans H; rw [hy215]; with_reducible exact H2_) | (have H2_ := (Option.bind_some _ _).symm.trans H; with_reducible exact H2_) | with_reducible exact H | (rw [hy215]; exact H) | exact H
  have Ny215 := Aside0.mk hy215
  clear hy215
  replace H := qN H
  obtain ⟨⟨t218, t219, t220⟩, A45, H⟩ := H
  try dsimp only at H
  replace H := qN H
  obtain ⟨⟨t221, t222, t223⟩, A46, H⟩ := H
  try dsimp only at H
  replace H := qN H
  obtain ⟨⟨t224, t225, t226⟩, A47, H⟩ := H
  try dsimp only at H
  replace H := qN H
  obtain ⟨⟨t227, t228, t229⟩, A48, H⟩ := H
  try dsimp only at H
  by_cases c49 : t221.size + t227.size ≤ 9223372036854775807
  rotate_left
  ·
   rw [if_neg c49] at H
   exact absurd H (by simp)
  rw [if_pos c49] at H
  have c49b0 := eq_true c49
  have c49b1 : decide (t221.size + t227.size ≤ 9223372036854775807) = true := decide_eq_true c49
  try have c49b2 : (9223372036854775807 < t221.size + t227.size) = False := eq_false (Nat.not_lt.2 c49)
  replace H := qN H
  obtain ⟨t230, A50, H⟩ := H
  try dsimp only at H
  by_cases c51 : (t221 ++ t227).size + t230.size ≤ 9223372036854775807
  rotate_left
  ·
   rw [if_neg c51] at H
   exact absurd H (by simp)
  rw [if_pos c51] at H
  have c51b0 := eq_true c51
  have c51b1 : decide ((t221 ++ t227).size + t230.size ≤ 9223372036854775807) = true := decide_eq_true c51
  have c51y := c51
  try simp only [ByteArray.size_append] at c51y
  try have c51y0 := eq_true c51y
  try have c51y2 := eq_false (Nat.not_lt.2 c51y)
  clear c51y
  try have c51b2 : (9223372036854775807 < (t221 ++ t227).size + t230.size) = False := eq_false (Nat.not_lt.2 c51)
  simp only [Option.some.injEq, Prod.mk.injEq] at H
  obtain ⟨rfl, rfl, rfl⟩ := H
  go_enter Try.func60, Try.ntmps60
  go_wp2_with (first | ((with_reducible refine gate_callee (f := 36) rfl ?_); refine goesL_ (some 11) rfl rfl Try.func36 (by kernel_rfl) rfl #[.pointer (some ⟨g, 0, none⟩), .int .i64 6] rfl qV ?_; (with_reducible refine (spec_l01Next.calls g s0_0 s0_1 s0_2 6 t173 t174 t175 w0 _ ?side1 ?side2 A2.out).mono ?_); (case side1 => exact qI HI0.out); (case side2 => exact qS HB.out); rintro e w52 ⟨rfl, hi, hb, hk⟩; refine ⟨_, rfl, ?_⟩; replace HK := Aside0.mk (KeepBut.trans (qK HK.out) hk (.inl rfl)); replace HB := Aside0.mk (hb); replace HI0 := Aside0.mk (hi)) | ((with_reducible refine gate_callee (f := 36) rfl ?_); refine goesL_ (some 62) rfl rfl Try.func36 (by kernel_rfl) rfl #[.pointer (some ⟨g, 0, none⟩), .int .i64 12] rfl qV ?_; (with_reducible refine (spec_l01Next.calls g s0_0 t174 t175 12 t212 t213 t214 w0 _ ?side1 ?side2 A44.out).mono ?_); (case side1 => exact qI HI0.out); (case side2 => exact qS HB.out); rintro e w53 ⟨rfl, hi, hb, hk⟩; refine ⟨_, rfl, ?_⟩; replace HK := Aside0.mk (KeepBut.trans (qK HK.out) hk (.inl rfl)); replace HB := Aside0.mk (hb); replace HI0 := Aside0.mk (hi)) | ((with_reducible refine gate_dst (N := 64) rfl ?_); refine Kd.R_lit (Kd.int .i64) _ 2 ?hg (N := 64) ?hd (xs := ([2, 2, 3] : List Int)) (inner := [.int .i64 2, .int .i64 2, .int .i64 3]) (ok := fun _ => True) (okp := fun _ => True) ?hr ?hp (fun _ hk => hk) trivial (Below.refl _ _) (Nat.le_refl _) (by simp) ?_; (case hd => rfl); (case hg => rfl); (case hr => first | (go_simp; done) | (go_simp; rfl)); (case hp => exact (Reps.one (show Kd.M (Kd.int .i64) _ _ _ 2 [.int .i64 2] from rfl) (Reps.one (show Kd.M (Kd.int .i64) _ _ _ 2 [.int .i64 2] from rfl) (Reps.one (show Kd.M (Kd.int .i64) _ _ _ 3 [.int .i64 3] from rfl) (Reps.none _ _))))); intro v216 w54 ho55 hb hg_ hnew_; clear hg_ hnew_; (first | rw [← Ny215.out] at ho55 | (simp only [Int.reduceToNat] at ho55; rw [← Ny215.out] at ho55)); have HO217 := Aside0.mk (Kd.R_lower ho55 (keep_size (w := w) (g := g) (row := none) (qK HK.out))); replace HI0 := Aside0.mk (IsS57.below (qI HI0.out) hb); replace HK := Aside0.mk (KeepBut.trans (qK HK.out) (KeepBut.of_below hb g none) (.inl rfl)); replace HB := Aside0.mk (below_step (qS HB.out) hb); clear hb ho55; obtain ⟨Ao56, co56, eo56⟩ := Kd.R_slice HO217.out; subst eo56) | ((with_reducible refine gate_callee (f := 37) rfl ?_); refine goesL_ (some 65) rfl rfl Try.func37 (by kernel_rfl) rfl #[.pointer (some ⟨g, 0, none⟩), .slice Ao56 y215.length co56] rfl qV ?_; (with_reducible refine (spec_l01Pick.calls g s0_0 t213 t214 _ _ y215 t218 t219 t220 w0 _ ?side1 ?side2 ?side3 ?side4 ?side5 A45.out).mono ?_); (case side1 => exact qI HI0.out); (case side2 => exact qS HB.out); (case side3 => exact qC (Kd.R_reads' HO217.out).2.2); (case side4 => exact (Kd.R_reads' HO217.out).2.1); (case side5 => exact far_slice (IsS57.own_ne HI0.out HO217.out (by decide))); rintro e w57 ⟨rfl, hi, hb, hk⟩; refine ⟨_, rfl, ?_⟩; replace HO217 := Aside0.mk (Kd.R_mono (Kd.R_keep (IsS57.apart (show IsS57 w0 _ g s0_0 t213 t214 from qI HI0.out) (qR HO217.out) (by decide)) hk (fun _ h => h.2)) (fun _ h => h.1)); replace HK := Aside0.mk (KeepBut.trans (qK HK.out) hk (.inl rfl)); replace HB := Aside0.mk (hb); replace HI0 := Aside0.mk (hi)) | ((with_reducible refine gate_callee (f := 35) rfl ?_); refine goesL_ (some 66) rfl rfl Try.func35 (by kernel_rfl) rfl #[.pointer (some ⟨g, 0, none⟩), .int .i64 t212, .int .i64 t218] rfl qV ?_; (with_reducible refine (spec_l01DrawOf.calls k g s0_0 t219 t220 t212 t218 t221 t222 t223 w0 _ ?side1 ?side2 A46.out).mono ?_); (case side1 => exact qI HI0.out); (case side2 => exact qS HB.out); rintro e w58 ⟨rfl, hi, hb, hk⟩; refine ⟨_, rfl, ?_⟩; replace HO217 := Aside0.mk (Kd.R_mono (Kd.R_keep (IsS57.apart (show IsS57 w0 _ g s0_0 t219 t220 from qI HI0.out) (qR HO217.out) (by decide)) hk (fun _ h => h.2)) (fun _ h => h.1)); replace HK := Aside0.mk (KeepBut.trans (qK HK.out) hk (.inl rfl)); replace HB := Aside0.mk (hb); replace HI0 := Aside0.mk (hi)) | ((with_reducible refine gate_callee (f := 36) rfl ?_); refine goesL_ (some 70) rfl rfl Try.func36 (by kernel_rfl) rfl #[.pointer (some ⟨g, 0, none⟩), .int .i64 2] rfl qV ?_; (with_reducible refine (spec_l01Next.calls g s0_0 t222 t223 2 t224 t225 t226 w0 _ ?side1 ?side2 A47.out).mono ?_); (case side1 => exact qI HI0.out); (case side2 => exact qS HB.out); rintro e w59 ⟨rfl, hi, hb, hk⟩; refine ⟨_, rfl, ?_⟩; replace HO217 := Aside0.mk (Kd.R_mono (Kd.R_keep (IsS57.apart (show IsS57 w0 _ g s0_0 t222 t223 from qI HI0.out) (qR HO217.out) (by decide)) hk (fun _ h => h.2)) (fun _ h => h.1)); replace HK := Aside0.mk (KeepBut.trans (qK HK.out) hk (.inl rfl)); replace HB := Aside0.mk (hb); replace HI0 := Aside0.mk (hi)) | ((with_reducible refine gate_callee (f := 35) rfl ?_); refine goesL_ (some 71) rfl rfl Try.func35 (by kernel_rfl) rfl #[.pointer (some ⟨g, 0, none⟩), .int .i64 t224, .int .i64 2] rfl qV ?_; (with_reducible refine (spec_l01DrawOf.calls k g s0_0 t225 t226 t224 2 t227 t228 t229 w0 _ ?side1 ?side2 A48.out).mono ?_); (case side1 => exact qI HI0.out); (case side2 => exact qS HB.out); rintro e w60 ⟨rfl, hi, hb, hk⟩; refine ⟨_, rfl, ?_⟩; replace HO217 := Aside0.mk (Kd.R_mono (Kd.R_keep (IsS57.apart (show IsS57 w0 _ g s0_0 t225 t226 from qI HI0.out) (qR HO217.out) (by decide)) hk (fun _ h => h.2)) (fun _ h => h.1)); replace HK := Aside0.mk (KeepBut.trans (qK HK.out) hk (.inl rfl)); replace HB := Aside0.mk (hb); replace HI0 := Aside0.mk (hi)) | ((with_reducible refine gate_callee (f := 45) rfl ?_); refine goesL_ (some 74) rfl rfl Try.func45 (by kernel_rfl) rfl #[.string t221] rfl qV ?_; (with_reducible refine (spec_l01Reversed.calls k t221 t230 _ A50.out).mono ?_); rintro e w61 ⟨rfl, hb⟩; refine ⟨_, rfl, ?_⟩; replace HO217 := Aside0.mk (Kd.R_below (qR HO217.out) hb); replace HI0 := Aside0.mk (IsS57.below (qI HI0.out) hb); replace HK := Aside0.mk (KeepBut.trans (qK HK.out) (KeepBut.of_below hb g none) (.inl rfl)); replace HB := Aside0.mk (below_step (qS HB.out) hb)))
  go_ret
  exact ⟨qE, qI HI0.out, qS HB.out, qK HK.out⟩
 rw [if_pos c3] at H
 obtain ⟨c3b0, c3b1⟩ := zT c3
 clear c3
 replace H := qN H
 obtain ⟨t176, A4, H⟩ := H
 try dsimp only at H
 replace H := qN H
 obtain ⟨⟨t179, t180, t181⟩, A5, H⟩ := H
 try dsimp only at H
 by_cases c6 : 0 ≤ t179
 rotate_left
 ·
  rw [if_neg c6] at H
  exact absurd H (by simp)
 rw [if_pos c6] at H
 have c6b0 : decide (0 ≤ t179) = true := decide_eq_true c6
 clear c6
 by_cases c7 : t179 < (t176.length : Int)
 rotate_left
 ·
  rw [if_neg c7] at H
  exact absurd H (by simp)
 rw [if_pos c7] at H
 have c7b0 : decide (t179 < (t176.length : Int)) = true := decide_eq_true c7
 clear c7
 obtain ⟨y183, hy183⟩ : ∃ y_ : List Int, y_ = (([12, 30, 61] : List Int)) := ⟨_, rfl⟩
 replace H : ((spec_l01Pick.f s0_0 t180 t181 y183).bind fun bt186 => ((spec_l01Next.f s0_0 bt186.2.1 bt186.2.2 bt186.1).bind fun bt189 => ((spec_l01Named.f k (rdOf ByteArray.empty t176 t179) bt189.1).bind fun bt192 => (some (bt192.1, bt189.2.1, bt189.2.2))))) = some (r1, r2, r3) := by first | (rw [hy183]; with_reducible exact H) | (have H2_ := (Option.bind_some _ _).symm.trans H; rw [hy183]; with_reducible exact H2_) | (have H2_ := (Option.bind_some _ _).symm.trans H; with_reducible exact H2_) | with_reducible exact H | (rw [hy183]; exact H) | exact H
 have Ny183 := Aside0.mk hy183
 clear hy183
 replace H := qN H
 obtain ⟨⟨t186, t187, t188⟩, A8, H⟩ := H
 try dsimp only at H
 replace H := qN H
 obtain ⟨⟨t189, t190, t191⟩, A9, H⟩ := H
 try dsimp only at H
 replace H := qN H
 obtain ⟨⟨t192, t193⟩, A10, H⟩ := H
 try dsimp only at H
 simp only [Option.some.injEq, Prod.mk.injEq] at H
 obtain ⟨rfl, rfl, rfl⟩ := H
 go_enter Try.func60, Try.ntmps60
 try go_wp2_with (first | ((with_reducible refine gate_callee (f := 36) rfl ?_); refine goesL_ (some 11) rfl rfl Try.func36 (by kernel_rfl) rfl #[.pointer (some ⟨g, 0, none⟩), .int .i64 6] rfl qV ?_; (with_reducible refine (spec_l01Next.calls g s0_0 s0_1 s0_2 6 t173 t174 t175 w0 _ ?side1 ?side2 A2.out).mono ?_); (case side1 => exact qI HI0.out); (case side2 => exact qS HB.out); rintro e w11 ⟨rfl, hi, hb, hk⟩; refine ⟨_, rfl, ?_⟩; replace HK := Aside0.mk (KeepBut.trans (qK HK.out) hk (.inl rfl)); replace HB := Aside0.mk (hb); replace HI0 := Aside0.mk (hi)) | ((with_reducible refine gate_callee (f := 69) rfl ?_); refine goesL_ (some 14) rfl rfl Try.func69 (by kernel_rfl) rfl #[] rfl qV ?_; (with_reducible refine (spec_l01Names.calls  t176 _ A4.out).mono ?_); rintro e w12 ⟨v177, rfl, ho0, hb⟩; refine ⟨_, rfl, ?_⟩; have HO178 := Aside0.mk (Kd.R_lower ho0 (keep_size (w := w) (g := g) (row := none) (qK HK.out))); replace HI0 := Aside0.mk (IsS57.below (qI HI0.out) hb); replace HK := Aside0.mk (KeepBut.trans (qK HK.out) (KeepBut.of_below hb g none) (.inl rfl)); replace HB := Aside0.mk (below_step (qS HB.out) hb)))
 have n0_ := Aside0.mk (Kd.R_drew HO178.out)
 have n1_ := Aside0.mk (IsS57.drew HI0.out)
 have n2_ := Aside0.mk (keep_drew HK.out)
 have n3_ := Aside0.mk (below_drew1 HB.out)
 clear HO178
 clear HI0
 clear HK
 clear HB
 have HO178 := n0_
 have HI0 := n1_
 have HK := n2_
 have HB := n3_
 clear n0_ n1_ n2_ n3_
 obtain ⟨Ao_z, co22, eo22⟩ := Kd.R_slice HO178.out
 subst eo22
 have p182 : 0 ≤ (t179 : Int) := of_decide_eq_true (by first | (with_reducible assumption) | assumption)
 have q182 : t179 < (t176.length : Int) := of_decide_eq_true (by first | (with_reducible assumption) | assumption)
 obtain ⟨ad182, e182, hx182_0⟩ := Kd.at_string (Kd.R_reads' HO178.out).2.2 t179 p182 q182
 cases e182
 replace p182 := eq_true p182
 replace q182 := eq_true q182
 refine start_ (n := 16) (S := fun w' => True) (ds := []) #[false, false, false, false, false, false, false, false, false, false, false, false, false, false, false, false] (by kernel_rfl) rfl rfl trivial (fun hHeld => ?_); refine with_tabW spec_l01Draw.tab4 spec_l01Draw.bits4 (fun HT_ HW_ => ?_)
 generalize w12.drew = w13 at HO178 HI0 HK HB hx182_0 hHeld ⊢
 refine pure_ (i := 0) (N := some 16) (v := ?_) (a' := ?_) #[true, false, false, false, false, false, false, false, false, false, false, false, false, false, false, false] rfl rfl (any_of HT_.out (by kernel_rfl)) (fun _ _ _ h => h) (Or.inl ⟨by rfl, ?_⟩) ?_ ?_
 rotate_left
 ·
  intro w'
  go_simp
  with_reducible rfl
 rotate_left
 ·
  simp only [Act.put, List.setIfInBounds_toArray, List.set_cons_zero, List.set_cons_succ, i64_w, i32_w]
  rfl
 refine pure_ (i := 1) (N := some 17) (v := ?_) (a' := ?_) #[true, true, false, false, false, false, false, false, false, false, false, false, false, false, false, false] rfl rfl (any_of HT_.out (by kernel_rfl)) (fun _ _ _ h => h) (Or.inl ⟨by rfl, ?_⟩) ?_ ?_
 rotate_left
 ·
  intro w'
  go_simp
  with_reducible rfl
 rotate_left
 ·
  simp only [Act.put, List.setIfInBounds_toArray, List.set_cons_zero, List.set_cons_succ, i64_w, i32_w]
  rfl
 refine pure_ (i := 5) (N := some 21) (v := ?_) (a' := ?_) #[true, true, false, false, false, true, false, false, false, false, false, false, false, false, false, false] rfl rfl (any_of HT_.out (by kernel_rfl)) (fun _ _ _ h => h) (Or.inl ⟨by rfl, ?_⟩) ?_ ?_
 rotate_left
 ·
  intro w'
  go_simp
  with_reducible rfl
 rotate_left
 ·
  simp only [Act.put, List.setIfInBounds_toArray, List.set_cons_zero, List.set_cons_succ, i64_w, i32_w]
  rfl
 refine pure_ (i := 6) (N := some 22) (v := ?_) (a' := ?_) #[true, true, false, false, false, true, true, false, false, false, false, false, false, false, false, false] rfl rfl (any_of HT_.out (by kernel_rfl)) (fun _ _ _ h => h) (Or.inl ⟨by rfl, ?_⟩) ?_ ?_
 rotate_left
 ·
  intro w'
  go_simp
  with_reducible rfl
 rotate_left
 ·
  simp only [Act.put, List.setIfInBounds_toArray, List.set_cons_zero, List.set_cons_succ, i64_w, i32_w]
  rfl
 refine inv_at [2, 3, 4, 7, 8, 9, 10, 11, 12, 13, 14, 15] (fun a0_ b a w' => ∃ (v184 : Value), a = putSel a0_ b [(2, 18, .int .i64 t179), (3, 19, .pointer (some (ad182.add (t179).toNat))), (4, 20, .string (rdOf ByteArray.empty t176 t179)), (7, 23, v184), (8, 24, .int .i64 t186), (9, 25, .int .i64 t189), (10, 26, .tuple #[.string t192, .bool t193]), (11, 15, .tuple #[.string t192, .bool t193]), (12, 27, .string t192), (13, 28, .bool t193), (14, 4, .string t192), (15, 5, .bool t193)] ∧ (Kd.R Kd.string 9 w' w.heap.size (fun _ => True) (.slice (some ad182) t176.length co22) t176) ∧ (b 2 = false → IsS57 w0 w' g s0_0 t174 t175) ∧ (KeepBut w w' g none) ∧ (Below w0.heap.size w0 w') ∧ (b 2 = true → b 8 = false → IsS57 w0 w' g s0_0 t180 t181) ∧ (b 7 = true → Kd.R (Kd.int .i64) 2 w' w.heap.size (fun _ => True) v184 y183) ∧ (b 8 = true → b 9 = false → IsS57 w0 w' g s0_0 t187 t188) ∧ (b 9 = true → IsS57 w0 w' g s0_0 t190 t191)) HT_.out HW_.out (by kernel_rfl) (by kernel_rfl) ?_ ?_ ?_
 ·
  exact ⟨.bool false, by simp only [putSel, Bool.false_eq_true, if_false], HO178.out, fun _ => HI0.out, HK.out, HB.out, fun h_ => absurd h_ (by decide), fun h_ => absurd h_ (by decide), fun h_ => absurd h_ (by decide), fun h_ => absurd h_ (by decide)⟩
 ·
  skip
  clear HB HI0 HK HO178
  refine steps_cons ?_ ?_
  ·
   rintro b a w' ⟨v184, ha, Q_HO178, Q_HI0, Q_HK, Q_HB, Q_HI0_e2, Q_HO185, Q_HI0_e8, Q_HI0_e9⟩ hb_ hon hoff
   refine ⟨_, rfl, fun K hK => ?_⟩
   have e17 : a.tmps[17]? = some (.pointer (some ⟨g, 0, none⟩)) := by rw [ha]; exact (putSel_off rfl).trans rfl
   replace ha := Aside0.mk ha
   have HO178 := Aside0.mk Q_HO178
   have HI0 := Aside0.mk (Q_HI0 hb_)
   have HK := Aside0.mk Q_HK
   have HB := Aside0.mk Q_HB
   refine goes_ Try.func36 (by kernel_rfl) rfl #[.pointer (some ⟨g, 0, none⟩), .int .i64 4] (by rfl) rfl rfl (by first | (simp only [List.map_toArray, List.map_cons, List.map_nil, Act.eval, Array.getD_eq_getD_getElem?, Option.getD_some, e17]; done) | (simp only [List.map_toArray, List.map_cons, List.map_nil, Act.eval, Array.getD_eq_getD_getElem?, Option.getD_some, e17]; rfl)) ?_
   with_reducible refine (spec_l01Next.calls g s0_0 t174 t175 4 t179 t180 t181 w0 _ ?side1 ?side2 A5.out).mono ?_
   (case side1 => exact qI HI0.out)
   (case side2 => exact qS HB.out)
   rintro e w14 ⟨rfl, hi, hb, hk⟩
   refine ⟨_, rfl, ?_⟩
   have n0_ := Aside0.mk (Kd.R_mono (Kd.R_keep (IsS57.apart (show IsS57 w0 _ g s0_0 t174 t175 from qI HI0.out) (qR HO178.out) (by decide)) hk (fun _ h => h.2)) (fun _ h => h.1))
   have n1_ := Aside0.mk (KeepBut.trans (qK HK.out) hk (.inl rfl))
   have n2_ := Aside0.mk (hb)
   have n3_ := Aside0.mk (hi)
   have z_HO185 := fun (h0_ : b 7 = true) => (show Kd.R (Kd.int .i64) 2 w14 w.heap.size (fun _ => True) v184 y183 from by first | exact (Kd.R_mono (Kd.R_keep (IsS57.apart (show IsS57 w0 _ g s0_0 t174 t175 from qI HI0.out) (by (with_reducible repeat (first | apply Kd.R_alloc | apply Kd.R_drewN | apply Kd.R_drew)); exact (Q_HO185 h0_)) (by decide)) hk (fun _ h => h.2)) (fun _ h => h.1)) | exact Kd.R_mono (Kd.R_mono (Kd.R_keep (IsS57.apart (show IsS57 w0 _ g s0_0 t174 t175 from qI HI0.out) (by (with_reducible repeat (first | apply Kd.R_alloc | apply Kd.R_drewN | apply Kd.R_drew)); exact (Q_HO185 h0_)) (by decide)) hk (fun _ h => h.2)) (fun _ h => h.1)) (fun _ h_ => by first | trivial | exact h_ | exact h_.1))
   clear HO178
   clear HK
   clear HB
   clear HI0
   have HO178 := n0_
   have HK := n1_
   have HB := n2_
   have HI0 := n3_
   clear n0_ n1_ n2_ n3_
   (try clear hb)
   (try clear hb2)
   (try clear hk)
   (try clear hi)
   refine hK.out _ _ ⟨v184, (by rw [ha.out]; exact putSel_upk 0 hb_ rfl rfl rfl), (qR HO178.out), fun h0_ => absurd ((up_self b 2).symm.trans h0_) (by decide), (qK HK.out), (qS HB.out), fun _ _ => (qI HI0.out), z_HO185, fun h0_ _ => absurd ((hoff 8 (by kernel_rfl)).symm.trans h0_) (by decide), fun h0_ => absurd ((hoff 9 (by kernel_rfl)).symm.trans h0_) (by decide)⟩
  refine steps_cons ?_ ?_
  ·
   rintro b a w' ⟨v184, ha, Q_HO178, Q_HI0, Q_HK, Q_HB, Q_HI0_e2, Q_HO185, Q_HI0_e8, Q_HI0_e9⟩ hb_ hon hoff
   refine ⟨_, rfl, fun K hK => ?_⟩
   have e16 : a.tmps[16]? = some (.slice (some ad182) t176.length co22) := by rw [ha]; exact (putSel_off rfl).trans rfl
   have e18 : a.tmps[18]? = some (.int .i64 t179) := by rw [ha]; exact putSel_on (e := (2, 18, .int .i64 t179)) 0 rfl rfl (hon 2 (by kernel_rfl)) rfl
   replace ha := Aside0.mk ha
   have HO178 := Aside0.mk Q_HO178
   have HK := Aside0.mk Q_HK
   have HB := Aside0.mk Q_HB
   refine value_ (w1 := w') (v := .pointer (some (ad182.add (t179).toNat))) (by rfl) rfl ?_ ?_
   ·
    go_simp
    (try simp only [i64_w])
    try rfl
   refine hK.out _ _ ⟨v184, (by rw [ha.out]; exact putSel_upk 1 hb_ rfl rfl rfl), Q_HO178, fun h0_ => absurd ((hon 2 (by kernel_rfl)).symm.trans h0_) (by decide), Q_HK, Q_HB, Q_HI0_e2, Q_HO185, Q_HI0_e8, Q_HI0_e9⟩
  refine steps_cons ?_ ?_
  ·
   rintro b a w' ⟨v184, ha, Q_HO178, Q_HI0, Q_HK, Q_HB, Q_HI0_e2, Q_HO185, Q_HI0_e8, Q_HI0_e9⟩ hb_ hon hoff
   refine ⟨_, rfl, fun K hK => ?_⟩
   have e19 : a.tmps[19]? = some (.pointer (some (ad182.add (t179).toNat))) := by rw [ha]; exact putSel_on (e := (3, 19, .pointer (some (ad182.add (t179).toNat)))) 1 rfl rfl (hon 3 (by kernel_rfl)) rfl
   replace ha := Aside0.mk ha
   have HO178 := Aside0.mk Q_HO178
   have HK := Aside0.mk Q_HK
   have HB := Aside0.mk Q_HB
   obtain ⟨ad182_z, e182_z, hx182_0_z⟩ := Kd.at_string (Kd.R_reads' HO178.out).2.2 t179 (of_eq_true p182) (of_eq_true q182)
   cases e182_z
   have hs0_ : w'.cell? (ad182.add (t179).toNat) = some (.string (rdOf ByteArray.empty t176 t179)) := (by first | exact hx182_0_z | (have h_ := hx182_0_z; (try simp only [Int.reduceToNat, Nat.zero_mul, Nat.reduceMul, Nat.reduceEqDiff, Go.Addr.add, ↓reduceIte, Addr.add_zero'] at h_); exact h_))
   refine value_ (w1 := w') (v := .string (rdOf ByteArray.empty t176 t179)) (by rfl) rfl ?_ ?_
   ·
    go_simp
    (try simp only [i64_w])
    try rfl
   refine hK.out _ _ ⟨v184, (by rw [ha.out]; exact putSel_upk 2 hb_ rfl rfl rfl), Q_HO178, fun h0_ => absurd ((hon 2 (by kernel_rfl)).symm.trans h0_) (by decide), Q_HK, Q_HB, Q_HI0_e2, Q_HO185, Q_HI0_e8, Q_HI0_e9⟩
  refine steps_cons ?_ ?_
  ·
   rintro b a w' ⟨v184, ha, Q_HO178, Q_HI0, Q_HK, Q_HB, Q_HI0_e2, Q_HO185, Q_HI0_e8, Q_HI0_e9⟩ hb_ hon hoff
   refine ⟨_, rfl, fun K hK => ?_⟩
   replace ha := Aside0.mk ha
   have HO178 := Aside0.mk Q_HO178
   have HK := Aside0.mk Q_HK
   have HB := Aside0.mk Q_HB
   refine Kd.R_lit_step (Kd.int .i64) _ 2 ?hg (N := 23) ?hd (xs := ([12, 30, 61] : List Int)) (inner := [.int .i64 12, .int .i64 30, .int .i64 61]) (ok := fun _ => True) (okp := fun _ => True) ?hr ?hp (fun _ hk => hk) trivial (Below.refl _ _) (Nat.le_refl _) (by simp) ?_; (case hd => rfl); (case hg => rfl); (case hr => first | (go_simp; done) | (go_simp; rfl)); (case hp => exact (Reps.one (show Kd.M (Kd.int .i64) _ _ _ 12 [.int .i64 12] from rfl) (Reps.one (show Kd.M (Kd.int .i64) _ _ _ 30 [.int .i64 30] from rfl) (Reps.one (show Kd.M (Kd.int .i64) _ _ _ 61 [.int .i64 61] from rfl) (Reps.none _ _)))))
   intro v184 w14 ho15 hb hg_ hnew_
   clear hg_ hnew_
   (first | rw [← Ny183.out] at ho15 | (simp only [Int.reduceToNat] at ho15; rw [← Ny183.out] at ho15))
   have n0_ := Aside0.mk (Kd.R_below (qR HO178.out) hb)
   have n1_ := Aside0.mk (Kd.R_lower ho15 (keep_size (w := w) (g := g) (row := none) (qK HK.out)))
   have n3_ := Aside0.mk (KeepBut.trans (qK HK.out) (KeepBut.of_below hb g none) (.inl rfl))
   have n4_ := Aside0.mk (below_step (qB HB.out) hb)
   have z_HI0 := fun (h0_ : b 2 = false) => (show IsS57 w0 w14 g s0_0 t174 t175 from by first | exact (IsS57.below (by repeat (first | (with_reducible first | exact (Q_HI0 h0_) | apply IsS57.alloc | apply IsS57.drewN | apply IsS57.drew | apply IsS57.set_1 | apply IsS57.set_2) | exact (Q_HI0 h0_))) hb))
   have z_HI0_e2 := fun (h0_ : b 2 = true) (h1_ : b 8 = false) => (show IsS57 w0 w14 g s0_0 t180 t181 from by first | exact (IsS57.below (by repeat (first | (with_reducible first | exact (Q_HI0_e2 h0_ h1_) | apply IsS57.alloc | apply IsS57.drewN | apply IsS57.drew | apply IsS57.set_1 | apply IsS57.set_2) | exact (Q_HI0_e2 h0_ h1_))) hb))
   clear HO178
   clear HK
   clear HB
   have HO178 := n0_
   have HO185 := n1_
   have HK := n3_
   have HB := n4_
   clear n0_ n1_ n3_ n4_
   clear hb ho15
   refine hK.out _ _ ⟨v184, (by rw [ha.out]; exact putSel_upk 3 hb_ rfl rfl rfl), (qR HO178.out), z_HI0, (qK HK.out), (qB HB.out), z_HI0_e2, fun _ => (qR HO185.out), fun h0_ _ => absurd ((hoff 8 (by kernel_rfl)).symm.trans h0_) (by decide), fun h0_ => absurd ((hoff 9 (by kernel_rfl)).symm.trans h0_) (by decide)⟩
  refine steps_cons ?_ ?_
  ·
   rintro b a w' ⟨v184, ha, Q_HO178, Q_HI0, Q_HK, Q_HB, Q_HI0_e2, Q_HO185, Q_HI0_e8, Q_HI0_e9⟩ hb_ hon hoff
   refine ⟨_, rfl, fun K hK => ?_⟩
   have e22 : a.tmps[22]? = some (.pointer (some ⟨g, 0, none⟩)) := by rw [ha]; exact (putSel_off rfl).trans rfl
   have e23 : a.tmps[23]? = some (v184) := by rw [ha]; exact putSel_on (e := (7, 23, v184)) 3 rfl rfl (hon 7 (by kernel_rfl)) rfl
   replace ha := Aside0.mk ha
   have HO178 := Aside0.mk Q_HO178
   have HK := Aside0.mk Q_HK
   have HB := Aside0.mk Q_HB
   have HI0 := Aside0.mk (Q_HI0_e2 (hon 2 (by kernel_rfl)) hb_)
   have HO185 := Aside0.mk (Q_HO185 (hon 7 (by kernel_rfl)))
   obtain ⟨Ao18, co18, eo18⟩ := Kd.R_slice HO185.out
   (first | subst eo18 | (injection eo18 with f1_ f2_ f3_; have f4_ := f1_.symm; have f5_ := f3_.symm; clear f1_ f2_ f3_; subst f4_; subst f5_))
   refine goes_ Try.func37 (by kernel_rfl) rfl #[.pointer (some ⟨g, 0, none⟩), .slice Ao18 y183.length co18] (by rfl) rfl rfl (by first | (simp only [List.map_toArray, List.map_cons, List.map_nil, Act.eval, Array.getD_eq_getD_getElem?, Option.getD_some, e22, e23]; done) | (simp only [List.map_toArray, List.map_cons, List.map_nil, Act.eval, Array.getD_eq_getD_getElem?, Option.getD_some, e22, e23]; rfl)) ?_
   with_reducible refine (spec_l01Pick.calls g s0_0 t180 t181 _ _ y183 t186 t187 t188 w0 _ ?side1 ?side2 ?side3 ?side4 ?side5 A8.out).mono ?_
   (case side1 => exact qI HI0.out)
   (case side2 => exact qS HB.out)
   (case side3 => exact qC (Kd.R_reads' HO185.out).2.2)
   (case side4 => exact (Kd.R_reads' HO185.out).2.1)
   (case side5 => exact far_slice (IsS57.own_ne HI0.out HO185.out (by decide)))
   rintro e w19 ⟨rfl, hi, hb, hk⟩
   refine ⟨_, rfl, ?_⟩
   have n0_ := Aside0.mk (Kd.R_mono (Kd.R_keep (IsS57.apart (show IsS57 w0 _ g s0_0 t180 t181 from qI HI0.out) (qR HO178.out) (by decide)) hk (fun _ h => h.2)) (fun _ h => h.1))
   have n1_ := Aside0.mk (Kd.R_mono (Kd.R_keep (IsS57.apart (show IsS57 w0 _ g s0_0 t180 t181 from qI HI0.out) (qR HO185.out) (by decide)) hk (fun _ h => h.2)) (fun _ h => h.1))
   have n2_ := Aside0.mk (KeepBut.trans (qK HK.out) hk (.inl rfl))
   have n3_ := Aside0.mk (hb)
   have n4_ := Aside0.mk (hi)
   clear HO178
   clear HO185
   clear HK
   clear HB
   clear HI0
   have HO178 := n0_
   have HO185 := n1_
   have HK := n2_
   have HB := n3_
   have HI0 := n4_
   clear n0_ n1_ n2_ n3_ n4_
   (try clear hb)
   (try clear hb2)
   (try clear hk)
   (try clear hi)
   refine hK.out _ _ ⟨.slice Ao18 y183.length co18, (by rw [ha.out]; exact putSel_upk 4 hb_ rfl rfl rfl), (qR HO178.out), fun h0_ => absurd ((hon 2 (by kernel_rfl)).symm.trans h0_) (by decide), (qK HK.out), (qS HB.out), fun _ h1_ => absurd ((up_self b 8).symm.trans h1_) (by decide), fun _ => (qR HO185.out), fun _ _ => (qI HI0.out), fun h0_ => absurd ((hoff 9 (by kernel_rfl)).symm.trans h0_) (by decide)⟩
  refine steps_cons ?_ ?_
  ·
   rintro b a w' ⟨v184, ha, Q_HO178, Q_HI0, Q_HK, Q_HB, Q_HI0_e2, Q_HO185, Q_HI0_e8, Q_HI0_e9⟩ hb_ hon hoff
   refine ⟨_, rfl, fun K hK => ?_⟩
   have e21 : a.tmps[21]? = some (.pointer (some ⟨g, 0, none⟩)) := by rw [ha]; exact (putSel_off rfl).trans rfl
   have e24 : a.tmps[24]? = some (.int .i64 t186) := by rw [ha]; exact putSel_on (e := (8, 24, .int .i64 t186)) 4 rfl rfl (hon 8 (by kernel_rfl)) rfl
   replace ha := Aside0.mk ha
   have HO178 := Aside0.mk Q_HO178
   have HK := Aside0.mk Q_HK
   have HB := Aside0.mk Q_HB
   have HO185 := Aside0.mk (Q_HO185 (hon 7 (by kernel_rfl)))
   have HI0 := Aside0.mk (Q_HI0_e8 (hon 8 (by kernel_rfl)) hb_)
   refine goes_ Try.func36 (by kernel_rfl) rfl #[.pointer (some ⟨g, 0, none⟩), .int .i64 t186] (by rfl) rfl rfl (by first | (simp only [List.map_toArray, List.map_cons, List.map_nil, Act.eval, Array.getD_eq_getD_getElem?, Option.getD_some, e21, e24]; done) | (simp only [List.map_toArray, List.map_cons, List.map_nil, Act.eval, Array.getD_eq_getD_getElem?, Option.getD_some, e21, e24]; rfl)) ?_
   with_reducible refine (spec_l01Next.calls g s0_0 t187 t188 t186 t189 t190 t191 w0 _ ?side1 ?side2 A9.out).mono ?_
   (case side1 => exact qI HI0.out)
   (case side2 => exact qS HB.out)
   rintro e w20 ⟨rfl, hi, hb, hk⟩
   refine ⟨_, rfl, ?_⟩
   have n0_ := Aside0.mk (Kd.R_mono (Kd.R_keep (IsS57.apart (show IsS57 w0 _ g s0_0 t187 t188 from qI HI0.out) (qR HO178.out) (by decide)) hk (fun _ h => h.2)) (fun _ h => h.1))
   have n1_ := Aside0.mk (Kd.R_mono (Kd.R_keep (IsS57.apart (show IsS57 w0 _ g s0_0 t187 t188 from qI HI0.out) (qR HO185.out) (by decide)) hk (fun _ h => h.2)) (fun _ h => h.1))
   have n2_ := Aside0.mk (KeepBut.trans (qK HK.out) hk (.inl rfl))
   have n3_ := Aside0.mk (hb)
   have n4_ := Aside0.mk (hi)
   clear HO178
   clear HO185
   clear HK
   clear HB
   clear HI0
   have HO178 := n0_
   have HO185 := n1_
   have HK := n2_
   have HB := n3_
   have HI0 := n4_
   clear n0_ n1_ n2_ n3_ n4_
   (try clear hb)
   (try clear hb2)
   (try clear hk)
   (try clear hi)
   refine hK.out _ _ ⟨v184, (by rw [ha.out]; exact putSel_upk 5 hb_ rfl rfl rfl), (qR HO178.out), fun h0_ => absurd ((hon 2 (by kernel_rfl)).symm.trans h0_) (by decide), (qK HK.out), (qS HB.out), fun _ h1_ => absurd ((hon 8 (by kernel_rfl)).symm.trans h1_) (by decide), fun _ => (qR HO185.out), fun _ h1_ => absurd ((up_self b 9).symm.trans h1_) (by decide), fun _ => (qI HI0.out)⟩
  refine steps_cons ?_ ?_
  ·
   rintro b a w' ⟨v184, ha, Q_HO178, Q_HI0, Q_HK, Q_HB, Q_HI0_e2, Q_HO185, Q_HI0_e8, Q_HI0_e9⟩ hb_ hon hoff
   refine ⟨_, rfl, fun K hK => ?_⟩
   have e20 : a.tmps[20]? = some (.string (rdOf ByteArray.empty t176 t179)) := by rw [ha]; exact putSel_on (e := (4, 20, .string (rdOf ByteArray.empty t176 t179))) 2 rfl rfl (hon 4 (by kernel_rfl)) rfl
   have e25 : a.tmps[25]? = some (.int .i64 t189) := by rw [ha]; exact putSel_on (e := (9, 25, .int .i64 t189)) 5 rfl rfl (hon 9 (by kernel_rfl)) rfl
   replace ha := Aside0.mk ha
   have HO178 := Aside0.mk Q_HO178
   have HK := Aside0.mk Q_HK
   have HB := Aside0.mk Q_HB
   have HO185 := Aside0.mk (Q_HO185 (hon 7 (by kernel_rfl)))
   have HI0 := Aside0.mk (Q_HI0_e9 (hon 9 (by kernel_rfl)))
   refine goes_ Try.func70 (by kernel_rfl) rfl #[.string (rdOf ByteArray.empty t176 t179), .int .i64 t189] (by rfl) rfl rfl (by first | (simp only [List.map_toArray, List.map_cons, List.map_nil, Act.eval, Array.getD_eq_getD_getElem?, Option.getD_some, e20, e25]; done) | (simp only [List.map_toArray, List.map_cons, List.map_nil, Act.eval, Array.getD_eq_getD_getElem?, Option.getD_some, e20, e25]; rfl)) ?_
   with_reducible refine (spec_l01Named.calls k (rdOf ByteArray.empty t176 t179) t189 t192 t193 _ A10.out).mono ?_
   rintro e w21 ⟨rfl, hb⟩
   refine ⟨_, rfl, ?_⟩
   have n0_ := Aside0.mk (Kd.R_below (qR HO178.out) hb)
   have n1_ := Aside0.mk (Kd.R_below (qR HO185.out) hb)
   have n2_ := Aside0.mk (IsS57.below (qI HI0.out) hb)
   have n3_ := Aside0.mk (KeepBut.trans (qK HK.out) (KeepBut.of_below hb g none) (.inl rfl))
   have n4_ := Aside0.mk (below_step (qS HB.out) hb)
   clear HO178
   clear HO185
   clear HI0
   clear HK
   clear HB
   have HO178 := n0_
   have HO185 := n1_
   have HI0 := n2_
   have HK := n3_
   have HB := n4_
   clear n0_ n1_ n2_ n3_ n4_
   (try clear hb)
   (try clear hb2)
   (try clear hk)
   (try clear hi)
   refine hK.out _ _ ⟨v184, (by rw [ha.out]; exact putSel_upk 6 hb_ rfl rfl rfl), (qR HO178.out), fun h0_ => absurd ((hon 2 (by kernel_rfl)).symm.trans h0_) (by decide), (qK HK.out), (qS HB.out), fun _ h1_ => absurd ((hon 8 (by kernel_rfl)).symm.trans h1_) (by decide), fun _ => (qR HO185.out), fun _ h1_ => absurd ((hon 9 (by kernel_rfl)).symm.trans h1_) (by decide), fun _ => (qI HI0.out)⟩
  refine steps_cons ?_ ?_
  ·
   rintro b a w' ⟨v184, ha, Q_HO178, Q_HI0, Q_HK, Q_HB, Q_HI0_e2, Q_HO185, Q_HI0_e8, Q_HI0_e9⟩ hb_ hon hoff
   refine ⟨_, rfl, fun K hK => ?_⟩
   have e26 : a.tmps[26]? = some (.tuple #[.string t192, .bool t193]) := by rw [ha]; exact putSel_on (e := (10, 26, .tuple #[.string t192, .bool t193])) 6 rfl rfl (hon 10 (by kernel_rfl)) rfl
   replace ha := Aside0.mk ha
   have HO178 := Aside0.mk Q_HO178
   have HK := Aside0.mk Q_HK
   have HB := Aside0.mk Q_HB
   have HO185 := Aside0.mk (Q_HO185 (hon 7 (by kernel_rfl)))
   have HI0 := Aside0.mk (Q_HI0_e9 (hon 9 (by kernel_rfl)))
   refine value_ (w1 := w') (v := .tuple #[.string t192, .bool t193]) (by rfl) rfl ?_ ?_
   ·
    go_simp
    (try simp only [i64_w])
    try rfl
   refine hK.out _ _ ⟨v184, (by rw [ha.out]; exact putSel_upk 7 hb_ rfl rfl rfl), Q_HO178, fun h0_ => absurd ((hon 2 (by kernel_rfl)).symm.trans h0_) (by decide), Q_HK, Q_HB, fun _ h1_ => absurd ((hon 8 (by kernel_rfl)).symm.trans h1_) (by decide), Q_HO185, fun _ h1_ => absurd ((hon 9 (by kernel_rfl)).symm.trans h1_) (by decide), Q_HI0_e9⟩
  refine steps_cons ?_ ?_
  ·
   rintro b a w' ⟨v184, ha, Q_HO178, Q_HI0, Q_HK, Q_HB, Q_HI0_e2, Q_HO185, Q_HI0_e8, Q_HI0_e9⟩ hb_ hon hoff
   refine ⟨_, rfl, fun K hK => ?_⟩
   have e15 : a.tmps[15]? = some (.tuple #[.string t192, .bool t193]) := by rw [ha]; exact putSel_on (e := (11, 15, .tuple #[.string t192, .bool t193])) 7 rfl rfl (hon 11 (by kernel_rfl)) rfl
   replace ha := Aside0.mk ha
   have HO178 := Aside0.mk Q_HO178
   have HK := Aside0.mk Q_HK
   have HB := Aside0.mk Q_HB
   have HO185 := Aside0.mk (Q_HO185 (hon 7 (by kernel_rfl)))
   have HI0 := Aside0.mk (Q_HI0_e9 (hon 9 (by kernel_rfl)))
   refine value_ (w1 := w') (v := .string t192) (by rfl) rfl ?_ ?_
   ·
    go_simp
    (try simp only [i64_w])
    try rfl
   refine hK.out _ _ ⟨v184, (by rw [ha.out]; exact putSel_upk 8 hb_ rfl rfl rfl), Q_HO178, fun h0_ => absurd ((hon 2 (by kernel_rfl)).symm.trans h0_) (by decide), Q_HK, Q_HB, fun _ h1_ => absurd ((hon 8 (by kernel_rfl)).symm.trans h1_) (by decide), Q_HO185, fun _ h1_ => absurd ((hon 9 (by kernel_rfl)).symm.trans h1_) (by decide), Q_HI0_e9⟩
  refine steps_cons ?_ ?_
  ·
   rintro b a w' ⟨v184, ha, Q_HO178, Q_HI0, Q_HK, Q_HB, Q_HI0_e2, Q_HO185, Q_HI0_e8, Q_HI0_e9⟩ hb_ hon hoff
   refine ⟨_, rfl, fun K hK => ?_⟩
   have e15 : a.tmps[15]? = some (.tuple #[.string t192, .bool t193]) := by rw [ha]; exact putSel_on (e := (11, 15, .tuple #[.string t192, .bool t193])) 7 rfl rfl (hon 11 (by kernel_rfl)) rfl
   replace ha := Aside0.mk ha
   have HO178 := Aside0.mk Q_HO178
   have HK := Aside0.mk Q_HK
   have HB := Aside0.mk Q_HB
   have HO185 := Aside0.mk (Q_HO185 (hon 7 (by kernel_rfl)))
   have HI0 := Aside0.mk (Q_HI0_e9 (hon 9 (by kernel_rfl)))
   refine value_ (w1 := w') (v := .bool t193) (by rfl) rfl ?_ ?_
   ·
    go_simp
    (try simp only [i64_w])
    try rfl
   refine hK.out _ _ ⟨v184, (by rw [ha.out]; exact putSel_upk 9 hb_ rfl rfl rfl), Q_HO178, fun h0_ => absurd ((hon 2 (by kernel_rfl)).symm.trans h0_) (by decide), Q_HK, Q_HB, fun _ h1_ => absurd ((hon 8 (by kernel_rfl)).symm.trans h1_) (by decide), Q_HO185, fun _ h1_ => absurd ((hon 9 (by kernel_rfl)).symm.trans h1_) (by decide), Q_HI0_e9⟩
  refine steps_cons ?_ ?_
  ·
   rintro b a w' ⟨v184, ha, Q_HO178, Q_HI0, Q_HK, Q_HB, Q_HI0_e2, Q_HO185, Q_HI0_e8, Q_HI0_e9⟩ hb_ hon hoff
   refine ⟨_, rfl, fun K hK => ?_⟩
   have e27 : a.tmps[27]? = some (.string t192) := by rw [ha]; exact putSel_on (e := (12, 27, .string t192)) 8 rfl rfl (hon 12 (by kernel_rfl)) rfl
   replace ha := Aside0.mk ha
   have HO178 := Aside0.mk Q_HO178
   have HK := Aside0.mk Q_HK
   have HB := Aside0.mk Q_HB
   have HO185 := Aside0.mk (Q_HO185 (hon 7 (by kernel_rfl)))
   have HI0 := Aside0.mk (Q_HI0_e9 (hon 9 (by kernel_rfl)))
   refine value_ (w1 := w') (v := .string t192) (by rfl) rfl ?_ ?_
   ·
    go_simp
    (try simp only [i64_w])
    try rfl
   refine hK.out _ _ ⟨v184, (by rw [ha.out]; exact putSel_upk 10 hb_ rfl rfl rfl), Q_HO178, fun h0_ => absurd ((hon 2 (by kernel_rfl)).symm.trans h0_) (by decide), Q_HK, Q_HB, fun _ h1_ => absurd ((hon 8 (by kernel_rfl)).symm.trans h1_) (by decide), Q_HO185, fun _ h1_ => absurd ((hon 9 (by kernel_rfl)).symm.trans h1_) (by decide), Q_HI0_e9⟩
  refine steps_cons ?_ ?_
  ·
   rintro b a w' ⟨v184, ha, Q_HO178, Q_HI0, Q_HK, Q_HB, Q_HI0_e2, Q_HO185, Q_HI0_e8, Q_HI0_e9⟩ hb_ hon hoff
   refine ⟨_, rfl, fun K hK => ?_⟩
   have e28 : a.tmps[28]? = some (.bool t193) := by rw [ha]; exact putSel_on (e := (13, 28, .bool t193)) 9 rfl rfl (hon 13 (by kernel_rfl)) rfl
   replace ha := Aside0.mk ha
   have HO178 := Aside0.mk Q_HO178
   have HK := Aside0.mk Q_HK
   have HB := Aside0.mk Q_HB
   have HO185 := Aside0.mk (Q_HO185 (hon 7 (by kernel_rfl)))
   have HI0 := Aside0.mk (Q_HI0_e9 (hon 9 (by kernel_rfl)))
   refine value_ (w1 := w') (v := .bool t193) (by rfl) rfl ?_ ?_
   ·
    go_simp
    (try simp only [i64_w])
    try rfl
   refine hK.out _ _ ⟨v184, (by rw [ha.out]; exact putSel_upk 11 hb_ rfl rfl rfl), Q_HO178, fun h0_ => absurd ((hon 2 (by kernel_rfl)).symm.trans h0_) (by decide), Q_HK, Q_HB, fun _ h1_ => absurd ((hon 8 (by kernel_rfl)).symm.trans h1_) (by decide), Q_HO185, fun _ h1_ => absurd ((hon 9 (by kernel_rfl)).symm.trans h1_) (by decide), Q_HI0_e9⟩
  exact steps_nil
 rintro b a w21 hall ⟨v184, ha, Q_HO178, Q_HI0, Q_HK, Q_HB, Q_HI0_e2, Q_HO185, Q_HI0_e8, Q_HI0_e9⟩
 clear HB HI0 HK HO178
 have hb2_ := hall 2 (by kernel_rfl)
 have hb3_ := hall 3 (by kernel_rfl)
 have hb4_ := hall 4 (by kernel_rfl)
 have hb7_ := hall 7 (by kernel_rfl)
 have hb8_ := hall 8 (by kernel_rfl)
 have hb9_ := hall 9 (by kernel_rfl)
 have hb10_ := hall 10 (by kernel_rfl)
 have hb11_ := hall 11 (by kernel_rfl)
 have hb12_ := hall 12 (by kernel_rfl)
 have hb13_ := hall 13 (by kernel_rfl)
 have hb14_ := hall 14 (by kernel_rfl)
 have hb15_ := hall 15 (by kernel_rfl)
 subst ha
 simp only [putSel, hb2_, hb3_, hb4_, hb7_, hb8_, hb9_, hb10_, hb11_, hb12_, hb13_, hb14_, hb15_, if_true, Act.put, List.setIfInBounds_toArray, List.set_cons_zero, List.set_cons_succ]
 have HO178 := Aside0.mk Q_HO178
 clear Q_HO178
 clear Q_HI0
 have HK := Aside0.mk Q_HK
 clear Q_HK
 have HB := Aside0.mk Q_HB
 clear Q_HB
 clear Q_HI0_e2
 have HO185 := Aside0.mk (Q_HO185 hb7_)
 clear Q_HO185
 clear Q_HI0_e8
 have HI0 := Aside0.mk (Q_HI0_e9 hb9_)
 clear Q_HI0_e9
 clear hall hb2_ hb3_ hb4_ hb7_ hb8_ hb9_ hb10_ hb11_ hb12_ hb13_ hb14_ hb15_
 try go_wp2
 go_ret
 exact ⟨qE, qI HI0.out, qS HB.out, qK HK.out⟩
end Go.Proofs.Ytjmcffejpgblfaa.PF

namespace Go.Proofs.Ytjmcffejpgblfaa.PF
open Go.RowKit Go.Proofs.YtjmcffejpgblfaaW.PrintWords Go.Proofs.YtjmcffejpgblfaaW.PrintLast Go.Proofs.YtjmcffejpgblfaaW.PrintMore
attribute [local go_sem] max2_int min2_int max_two min_two max_three min_three max_four min_four   -- for this text's walks alone
set_option linter.unusedVariables false
set_option linter.unusedSimpArgs false

/-! ### spec_l01Spoil: function 46 -/
def spec_l01Spoil.f (k : Nat) (s0_0 : List Int) (s0_1 : Int) (s0_2 : Int) : Option (ByteArray × Int × Int) := (spec_l01Draw.f k s0_0 s0_1 s0_2).bind fun bt252 => ((spec_l01Bad.f k s0_0 bt252.2.1 bt252.2.2 bt252.1).bind fun bt255 => (some (bt255.1, bt255.2.1, bt255.2.2)))
theorem spec_l01Spoil.mono : ∀ a0 a1 a2 k, LeO (spec_l01Spoil.f k a0 a1 a2) (spec_l01Spoil.f (k + 1) a0 a1 a2) := by
 intro a0 a1 a2 k
 unfold spec_l01Spoil.f
 with_reducible repeat' first
   | exact spec_l01Bad.mono _ _ _ _ _
   | exact spec_l01Draw.mono _ _ _ _
   | exact LeO.refl _
   | exact LeO.none _
   | refine LeO.ite ?_ ?_
   | refine LeO.bind ?_ (fun _ => ?_)
set_option maxHeartbeats 8000000 in
set_option maxRecDepth 100000 in
theorem spec_l01Spoil.calls (k : Nat) (g : Nat) (s0_0 : List Int) (s0_1 : Int) (s0_2 : Int) (r1 : ByteArray) (r2 : Int) (r3 : Int) (w0 w : World) (hI : IsS57 w0 w g s0_0 s0_1 s0_2) (hB : Below w0.heap.size w0 w) (h : spec_l01Spoil.f k s0_0 s0_1 s0_2 = some (r1, r2, r3)) :
  Calls Try.prog 46 #[.pointer (some ⟨g, 0, none⟩)] w fun e w' => e = .returned (.string r1) ∧ IsS57 w0 w' g s0_0 r2 r3 ∧ Below w0.heap.size w0 w' ∧ KeepBut w w' g none := by
 have HI0 := Aside0.mk hI
 have HK := Aside0.mk (KeepBut.refl w g none)
 have HL := Aside0.mk hB.size
 clear hI
 have HW0 := Aside0.mk hB.size
 have HB := Aside0.mk hB
 clear hB
 have H : ((spec_l01Draw.f k s0_0 s0_1 s0_2).bind fun bt252 => ((spec_l01Bad.f k s0_0 bt252.2.1 bt252.2.2 bt252.1).bind fun bt255 => (some (bt255.1, bt255.2.1, bt255.2.2)))) = some (r1, r2, r3) := h
 clear h
 replace H := qN H
 obtain ⟨⟨t252, t253, t254⟩, A2, H⟩ := H
 try dsimp only at H
 replace H := qN H
 obtain ⟨⟨t255, t256, t257⟩, A3, H⟩ := H
 try dsimp only at H
 simp only [Option.some.injEq, Prod.mk.injEq] at H
 obtain ⟨rfl, rfl, rfl⟩ := H
 go_enter Try.func46, Try.ntmps46
 go_wp2_with (first | ((with_reducible refine gate_callee (f := 60) rfl ?_); refine goesL_ (some 5) rfl rfl Try.func60 (by kernel_rfl) rfl #[.pointer (some ⟨g, 0, none⟩)] rfl qV ?_; (with_reducible refine (spec_l01Draw.calls k g s0_0 s0_1 s0_2 t252 t253 t254 w0 _ ?side1 ?side2 A2.out).mono ?_); (case side1 => exact qI HI0.out); (case side2 => exact qS HB.out); rintro e w4 ⟨rfl, hi, hb, hk⟩; refine ⟨_, rfl, ?_⟩; replace HK := Aside0.mk (KeepBut.trans (qK HK.out) hk (.inl rfl)); replace HB := Aside0.mk (hb); replace HI0 := Aside0.mk (hi)) | ((with_reducible refine gate_callee (f := 34) rfl ?_); refine goesL_ (some 6) rfl rfl Try.func34 (by kernel_rfl) rfl #[.pointer (some ⟨g, 0, none⟩), .string t252] rfl qV ?_; (with_reducible refine (spec_l01Bad.calls k g s0_0 t253 t254 t252 t255 t256 t257 w0 _ ?side1 ?side2 A3.out).mono ?_); (case side1 => exact qI HI0.out); (case side2 => exact qS HB.out); rintro e w5 ⟨rfl, hi, hb, hk⟩; refine ⟨_, rfl, ?_⟩; replace HK := Aside0.mk (KeepBut.trans (qK HK.out) hk (.inl rfl)); replace HB := Aside0.mk (hb); replace HI0 := Aside0.mk (hi)))
 go_ret
 exact ⟨qE, qI HI0.out, qS HB.out, qK HK.out⟩

end Go.Proofs.Ytjmcffejpgblfaa.PF

namespace Go.Proofs.Ytjmcffejpgblfaa.PF
open Go.RowKit Go.Proofs.YtjmcffejpgblfaaW.PrintWords Go.Proofs.YtjmcffejpgblfaaW.PrintLast Go.Proofs.YtjmcffejpgblfaaW.PrintMore
attribute [local go_sem] max2_int min2_int max_two min_two max_three min_three max_four min_four   -- for this text's walks alone
set_option linter.unusedVariables false
set_option linter.unusedSimpArgs false

/-! ### spec_l04Draw: function 25 -/
def spec_l04Draw.l0 : Nat → ByteArray → ByteArray → Int → List Int → Int → Int → Option (ByteArray × Int × Int)
 | 0, _, _, _, _, _, _ => none
 | k + 1, x4, x5, x6, x1000, x1001, x1002 => if x6 < (x4.size : Int) then (if (x5.size : Int) < 20 then (if 0 ≤ x6 then (if x6 ≤ (wrap64 (x6 + 1)) then (if (wrap64 (x6 + 1)) ≤ (x4.size : Int) then (if x5.size + (x4.extract (x6 : Int).toNat ((wrap64 (x6 + 1)) : Int).toNat).size ≤ 9223372036854775807 then ((spec_l04Closure.f k (x5 ++ (x4.extract (x6 : Int).toNat ((wrap64 (x6 + 1)) : Int).toNat))).bind fun t289 => (spec_l04Draw.l0 k x4 t289 (wrap64 (x6 + 1)) x1000 x1001 x1002)) else (none)) else (none)) else (none)) else (none)) else ((spec_l01Bad.f k x1000 x1001 x1002 x5).bind fun bt290 => (some (bt290.1, bt290.2.1, bt290.2.2)))) else ((spec_l01Bad.f k x1000 x1001 x1002 x5).bind fun bt293 => (some (bt293.1, bt293.2.1, bt293.2.2)))
def spec_l04Draw.f (k : Nat) (s0_0 : List Int) (s0_1 : Int) (s0_2 : Int) : Option (ByteArray × Int × Int) := (spec_l01Next.f s0_0 s0_1 s0_2 4).bind fun bt258 => (if bt258.1 = 0 then ((spec_l01Next.f s0_0 bt258.2.1 bt258.2.2 14).bind fun bt261 => ((spec_l01Pick.f s0_0 bt261.2.1 bt261.2.2 (([2, 2, 3] : List Int))).bind fun bt267 => ((spec_l01DrawOf.f k s0_0 bt267.2.1 bt267.2.2 bt261.1 bt267.1).bind fun bt270 => ((spec_l01Reversed.f k bt270.1).bind fun t273 => (if bt270.1.size + t273.size ≤ 9223372036854775807 then ((spec_l01Bad.f k s0_0 bt270.2.1 bt270.2.2 (bt270.1 ++ t273)).bind fun bt274 => (some (bt274.1, bt274.2.1, bt274.2.2))) else (none)))))) else (if bt258.1 = 1 then ((spec_l01Next.f s0_0 bt258.2.1 bt258.2.2 7).bind fun bt277 => ((spec_l01Pick.f s0_0 bt277.2.1 bt277.2.2 (([2, 3] : List Int))).bind fun bt283 => ((spec_l01DrawOf.f k s0_0 bt283.2.1 bt283.2.2 bt277.1 bt283.1).bind fun bt286 => (spec_l04Draw.l0 k bt286.1 (⟨#[]⟩ : ByteArray) 0 s0_0 bt286.2.1 bt286.2.2)))) else ((spec_l01Spoil.f k s0_0 bt258.2.1 bt258.2.2).bind fun bt296 => (some (bt296.1, bt296.2.1, bt296.2.2)))))
theorem spec_l04Draw.mono_l : ∀ k, (∀ y0 y1 y2 y3 y4 y5, LeO (spec_l04Draw.l0 k y0 y1 y2 y3 y4 y5) (spec_l04Draw.l0 (k + 1) y0 y1 y2 y3 y4 y5))
 | 0 => fun _ _ _ _ _ _ r h => by simp [spec_l04Draw.l0] at h
 | k + 1 => by
  have ih0 := spec_l04Draw.mono_l k
  ·
   intro y0 y1 y2 y3 y4 y5
   unfold spec_l04Draw.l0
   with_reducible repeat' first
   | exact ih0 _ _ _ _ _ _
   | exact spec_l01Bad.mono _ _ _ _ _
   | exact spec_l01DrawOf.mono _ _ _ _ _ _
   | exact spec_l01Reversed.mono _ _
   | exact spec_l01Spoil.mono _ _ _ _
   | exact spec_l04Closure.mono _ _
   | exact LeO.refl _
   | exact LeO.none _
   | refine LeO.ite ?_ ?_
   | refine LeO.bind ?_ (fun _ => ?_)
theorem spec_l04Draw.mono : ∀ a0 a1 a2 k, LeO (spec_l04Draw.f k a0 a1 a2) (spec_l04Draw.f (k + 1) a0 a1 a2) := by
 intro a0 a1 a2 k
 have ih0 := spec_l04Draw.mono_l k
 unfold spec_l04Draw.f
 with_reducible repeat' first
   | exact ih0 _ _ _ _ _ _
   | exact spec_l01Bad.mono _ _ _ _ _
   | exact spec_l01DrawOf.mono _ _ _ _ _ _
   | exact spec_l01Reversed.mono _ _
   | exact spec_l01Spoil.mono _ _ _ _
   | exact spec_l04Closure.mono _ _
   | exact LeO.refl _
   | exact LeO.none _
   | refine LeO.ite ?_ ?_
   | refine LeO.bind ?_ (fun _ => ?_)
set_option maxHeartbeats 8000000 in
set_option maxRecDepth 100000 in
theorem spec_l04Draw.calls (k : Nat) (g : Nat) (s0_0 : List Int) (s0_1 : Int) (s0_2 : Int) (r1 : ByteArray) (r2 : Int) (r3 : Int) (w0 w : World) (hI : IsS57 w0 w g s0_0 s0_1 s0_2) (hB : Below w0.heap.size w0 w) (h : spec_l04Draw.f k s0_0 s0_1 s0_2 = some (r1, r2, r3)) :
  Calls Try.prog 25 #[.pointer (some ⟨g, 0, none⟩)] w fun e w' => e = .returned (.string r1) ∧ IsS57 w0 w' g s0_0 r2 r3 ∧ Below w0.heap.size w0 w' ∧ KeepBut w w' g none := by
 have HI0 := Aside0.mk hI
 have HK := Aside0.mk (KeepBut.refl w g none)
 have HL := Aside0.mk hB.size
 clear hI
 have HW0 := Aside0.mk hB.size
 have HB := Aside0.mk hB
 clear hB
 have H : ((spec_l01Next.f s0_0 s0_1 s0_2 4).bind fun bt258 => (if bt258.1 = 0 then ((spec_l01Next.f s0_0 bt258.2.1 bt258.2.2 14).bind fun bt261 => ((spec_l01Pick.f s0_0 bt261.2.1 bt261.2.2 (([2, 2, 3] : List Int))).bind fun bt267 => ((spec_l01DrawOf.f k s0_0 bt267.2.1 bt267.2.2 bt261.1 bt267.1).bind fun bt270 => ((spec_l01Reversed.f k bt270.1).bind fun t273 => (if bt270.1.size + t273.size ≤ 9223372036854775807 then ((spec_l01Bad.f k s0_0 bt270.2.1 bt270.2.2 (bt270.1 ++ t273)).bind fun bt274 => (some (bt274.1, bt274.2.1, bt274.2.2))) else (none)))))) else (if bt258.1 = 1 then ((spec_l01Next.f s0_0 bt258.2.1 bt258.2.2 7).bind fun bt277 => ((spec_l01Pick.f s0_0 bt277.2.1 bt277.2.2 (([2, 3] : List Int))).bind fun bt283 => ((spec_l01DrawOf.f k s0_0 bt283.2.1 bt283.2.2 bt277.1 bt283.1).bind fun bt286 => (spec_l04Draw.l0 k bt286.1 (⟨#[]⟩ : ByteArray) 0 s0_0 bt286.2.1 bt286.2.2)))) else ((spec_l01Spoil.f k s0_0 bt258.2.1 bt258.2.2).bind fun bt296 => (some (bt296.1, bt296.2.1, bt296.2.2)))))) = some (r1, r2, r3) := h
 clear h
 replace H := qN H
 obtain ⟨⟨t258, t259, t260⟩, A2, H⟩ := H
 try dsimp only at H
 by_cases c3 : t258 = 0
 ·
  rw [if_pos c3] at H
  obtain ⟨c3b0, c3b1⟩ := zT c3
  clear c3
  replace H := qN H
  obtain ⟨⟨t261, t262, t263⟩, A4, H⟩ := H
  try dsimp only at H
  obtain ⟨y264, hy264⟩ : ∃ y_ : List Int, y_ = (([2, 2, 3] : List Int)) := ⟨_, rfl⟩
  replace H : ((spec_l01Pick.f s0_0 t262 t263 y264).bind fun bt267 => ((spec_l01DrawOf.f k s0_0 bt267.2.1 bt267.2.2 t261 bt267.1).bind fun bt270 => ((spec_l01Reversed.f k bt270.1).bind fun t273 => (if bt270.1.size + t273.size ≤ 9223372036854775807 then ((spec_l01Bad.f k s0_0 bt270.2.1 bt270.2.2 (bt270.1 ++ t273)).bind fun bt274 => (some (bt274.1, bt274.2.1, bt274.2.2))) else (none))))) = some (r1, r2, r3) := by first | (rw [hy264]; with_reducible exact H) | (have H2_ := (Option.bind_some _ _).symm.trans H; rw [hy264]; with_reducible exact H2_) | (have H2_ := (Option.bind_some _ _).symm.trans H; with_reducible exact H2_) | with_reducible exact H | (rw [hy264]; exact H) | exact H
  have Ny264 := Aside0.mk hy264
  clear hy264
  replace H := qN H
  obtain ⟨⟨t267, t268, t269⟩, A5, H⟩ := H
  try dsimp only at H
  replace H := qN H
  obtain ⟨⟨t270, t271, t272⟩, A6, H⟩ := H
  try dsimp only at H
  replace H := qN H
  obtain ⟨t273, A7, H⟩ := H
  try dsimp only at H
  by_cases c8 : t270.size + t273.size ≤ 9223372036854775807
  rotate_left
  ·
   rw [if_neg c8] at H
   exact absurd H (by simp)
  rw [if_pos c8] at H
  have c8b0 := eq_true c8
  have c8b1 : decide (t270.size + t273.size ≤ 9223372036854775807) = true := decide_eq_true c8
  try have c8b2 : (9223372036854775807 < t270.size + t273.size) = False := eq_false (Nat.not_lt.2 c8)
  replace H := qN H
  obtain ⟨⟨t274, t275, t276⟩, A9, H⟩ := H
  try dsimp only at H
  simp only [Option.some.injEq, Prod.mk.injEq] at H
  obtain ⟨rfl, rfl, rfl⟩ := H
  go_enter Try.func25, Try.ntmps25
  go_wp2_with (first | ((with_reducible refine gate_callee (f := 36) rfl ?_); refine goesL_ (some 8) rfl rfl Try.func36 (by kernel_rfl) rfl #[.pointer (some ⟨g, 0, none⟩), .int .i64 4] rfl qV ?_; (with_reducible refine (spec_l01Next.calls g s0_0 s0_1 s0_2 4 t258 t259 t260 w0 _ ?side1 ?side2 A2.out).mono ?_); (case side1 => exact qI HI0.out); (case side2 => exact qS HB.out); rintro e w10 ⟨rfl, hi, hb, hk⟩; refine ⟨_, rfl, ?_⟩; replace HK := Aside0.mk (KeepBut.trans (qK HK.out) hk (.inl rfl)); replace HB := Aside0.mk (hb); replace HI0 := Aside0.mk (hi)) | ((with_reducible refine gate_callee (f := 36) rfl ?_); refine goesL_ (some 13) rfl rfl Try.func36 (by kernel_rfl) rfl #[.pointer (some ⟨g, 0, none⟩), .int .i64 14] rfl qV ?_; (with_reducible refine (spec_l01Next.calls g s0_0 t259 t260 14 t261 t262 t263 w0 _ ?side1 ?side2 A4.out).mono ?_); (case side1 => exact qI HI0.out); (case side2 => exact qS HB.out); rintro e w11 ⟨rfl, hi, hb, hk⟩; refine ⟨_, rfl, ?_⟩; replace HK := Aside0.mk (KeepBut.trans (qK HK.out) hk (.inl rfl)); replace HB := Aside0.mk (hb); replace HI0 := Aside0.mk (hi)) | ((with_reducible refine gate_dst (N := 15) rfl ?_); (try (refine gate_guard (by rfl) ?_; dsimp only)); refine Kd.R_lit (Kd.int .i64) _ 2 ?hg (N := 15) ?hd (xs := ([2, 2, 3] : List Int)) (inner := [.int .i64 2, .int .i64 2, .int .i64 3]) (ok := fun _ => True) (okp := fun _ => True) ?hr ?hp (fun _ hk => hk) trivial (Below.refl _ _) (Nat.le_refl _) (by simp) ?_; (case hd => rfl); (case hg => rfl); (case hr => first | (go_simp; done) | (go_simp; rfl)); (case hp => exact (Reps.one (show Kd.M (Kd.int .i64) _ _ _ 2 [.int .i64 2] from rfl) (Reps.one (show Kd.M (Kd.int .i64) _ _ _ 2 [.int .i64 2] from rfl) (Reps.one (show Kd.M (Kd.int .i64) _ _ _ 3 [.int .i64 3] from rfl) (Reps.none _ _))))); intro v265 w12 ho13 hb hg_ hnew_; clear hg_ hnew_; (first | rw [← Ny264.out] at ho13 | (simp only [Int.reduceToNat] at ho13; rw [← Ny264.out] at ho13)); have HO266 := Aside0.mk (Kd.R_lower ho13 (keep_size (w := w) (g := g) (row := none) (qK HK.out))); replace HI0 := Aside0.mk (IsS57.below (qI HI0.out) hb); replace HK := Aside0.mk (KeepBut.trans (qK HK.out) (KeepBut.of_below hb g none) (.inl rfl)); replace HB := Aside0.mk (below_step (qS HB.out) hb); clear hb ho13; obtain ⟨Ao14, co14, eo14⟩ := Kd.R_slice HO266.out; subst eo14) | ((with_reducible refine gate_callee (f := 37) rfl ?_); refine goesL_ (some 16) rfl rfl Try.func37 (by kernel_rfl) rfl #[.pointer (some ⟨g, 0, none⟩), .slice Ao14 y264.length co14] rfl qV ?_; (with_reducible refine (spec_l01Pick.calls g s0_0 t262 t263 _ _ y264 t267 t268 t269 w0 _ ?side1 ?side2 ?side3 ?side4 ?side5 A5.out).mono ?_); (case side1 => exact qI HI0.out); (case side2 => exact qS HB.out); (case side3 => exact qC (Kd.R_reads' HO266.out).2.2); (case side4 => exact (Kd.R_reads' HO266.out).2.1); (case side5 => exact far_slice (IsS57.own_ne HI0.out HO266.out (by decide))); rintro e w15 ⟨rfl, hi, hb, hk⟩; refine ⟨_, rfl, ?_⟩; replace HO266 := Aside0.mk (Kd.R_mono (Kd.R_keep (IsS57.apart (show IsS57 w0 _ g s0_0 t262 t263 from qI HI0.out) (qR HO266.out) (by decide)) hk (fun _ h => h.2)) (fun _ h => h.1)); replace HK := Aside0.mk (KeepBut.trans (qK HK.out) hk (.inl rfl)); replace HB := Aside0.mk (hb); replace HI0 := Aside0.mk (hi)) | ((with_reducible refine gate_callee (f := 35) rfl ?_); refine goesL_ (some 17) rfl rfl Try.func35 (by kernel_rfl) rfl #[.pointer (some ⟨g, 0, none⟩), .int .i64 t261, .int .i64 t267] rfl qV ?_; (with_reducible refine (spec_l01DrawOf.calls k g s0_0 t268 t269 t261 t267 t270 t271 t272 w0 _ ?side1 ?side2 A6.out).mono ?_); (case side1 => exact qI HI0.out); (case side2 => exact qS HB.out); rintro e w16 ⟨rfl, hi, hb, hk⟩; refine ⟨_, rfl, ?_⟩; replace HO266 := Aside0.mk (Kd.R_mono (Kd.R_keep (IsS57.apart (show IsS57 w0 _ g s0_0 t268 t269 from qI HI0.out) (qR HO266.out) (by decide)) hk (fun _ h => h.2)) (fun _ h => h.1)); replace HK := Aside0.mk (KeepBut.trans (qK HK.out) hk (.inl rfl)); replace HB := Aside0.mk (hb); replace HI0 := Aside0.mk (hi)) | ((with_reducible refine gate_callee (f := 45) rfl ?_); refine goesL_ (some 21) rfl rfl Try.func45 (by kernel_rfl) rfl #[.string t270] rfl qV ?_; (with_reducible refine (spec_l01Reversed.calls k t270 t273 _ A7.out).mono ?_); rintro e w17 ⟨rfl, hb⟩; refine ⟨_, rfl, ?_⟩; replace HO266 := Aside0.mk (Kd.R_below (qR HO266.out) hb); replace HI0 := Aside0.mk (IsS57.below (qI HI0.out) hb); replace HK := Aside0.mk (KeepBut.trans (qK HK.out) (KeepBut.of_below hb g none) (.inl rfl)); replace HB := Aside0.mk (below_step (qS HB.out) hb)) | ((with_reducible refine gate_callee (f := 34) rfl ?_); refine goesL_ (some 23) rfl rfl Try.func34 (by kernel_rfl) rfl #[.pointer (some ⟨g, 0, none⟩), .string (t270 ++ t273)] rfl qV ?_; (with_reducible refine (spec_l01Bad.calls k g s0_0 t271 t272 (t270 ++ t273) t274 t275 t276 w0 _ ?side1 ?side2 A9.out).mono ?_); (case side1 => exact qI HI0.out); (case side2 => exact qS HB.out); rintro e w18 ⟨rfl, hi, hb, hk⟩; refine ⟨_, rfl, ?_⟩; replace HO266 := Aside0.mk (Kd.R_mono (Kd.R_keep (IsS57.apart (show IsS57 w0 _ g s0_0 t271 t272 from qI HI0.out) (qR HO266.out) (by decide)) hk (fun _ h => h.2)) (fun _ h => h.1)); replace HK := Aside0.mk (KeepBut.trans (qK HK.out) hk (.inl rfl)); replace HB := Aside0.mk (hb); replace HI0 := Aside0.mk (hi)))
  go_ret
  exact ⟨qE, qI HI0.out, qS HB.out, qK HK.out⟩
 rw [if_neg c3] at H
 obtain ⟨c3b0, c3b1⟩ := zF c3
 by_cases c19 : t258 = 1
 rotate_left
 ·
  rw [if_neg c19] at H
  obtain ⟨c19b0, c19b1⟩ := zF c19
  replace H := qN H
  obtain ⟨⟨t296, t297, t298⟩, A42, H⟩ := H
  try dsimp only at H
  simp only [Option.some.injEq, Prod.mk.injEq] at H
  obtain ⟨rfl, rfl, rfl⟩ := H
  go_enter Try.func25, Try.ntmps25
  go_wp2_with (first | ((with_reducible refine gate_callee (f := 36) rfl ?_); refine goesL_ (some 8) rfl rfl Try.func36 (by kernel_rfl) rfl #[.pointer (some ⟨g, 0, none⟩), .int .i64 4] rfl qV ?_; (with_reducible refine (spec_l01Next.calls g s0_0 s0_1 s0_2 4 t258 t259 t260 w0 _ ?side1 ?side2 A2.out).mono ?_); (case side1 => exact qI HI0.out); (case side2 => exact qS HB.out); rintro e w43 ⟨rfl, hi, hb, hk⟩; refine ⟨_, rfl, ?_⟩; replace HK := Aside0.mk (KeepBut.trans (qK HK.out) hk (.inl rfl)); replace HB := Aside0.mk (hb); replace HI0 := Aside0.mk (hi)) | ((with_reducible refine gate_callee (f := 46) rfl ?_); refine goesL_ (some 56) rfl rfl Try.func46 (by kernel_rfl) rfl #[.pointer (some ⟨g, 0, none⟩)] rfl qV ?_; (with_reducible refine (spec_l01Spoil.calls k g s0_0 t259 t260 t296 t297 t298 w0 _ ?side1 ?side2 A42.out).mono ?_); (case side1 => exact qI HI0.out); (case side2 => exact qS HB.out); rintro e w44 ⟨rfl, hi, hb, hk⟩; refine ⟨_, rfl, ?_⟩; replace HK := Aside0.mk (KeepBut.trans (qK HK.out) hk (.inl rfl)); replace HB := Aside0.mk (hb); replace HI0 := Aside0.mk (hi)))
  go_ret
  exact ⟨qE, qI HI0.out, qS HB.out, qK HK.out⟩

 rw [if_pos c19] at H
 obtain ⟨c19b0, c19b1⟩ := zT c19
 clear c19
 replace H := qN H
 obtain ⟨⟨t277, t278, t279⟩, A20, H⟩ := H
 try dsimp only at H
 obtain ⟨y280, hy280⟩ : ∃ y_ : List Int, y_ = (([2, 3] : List Int)) := ⟨_, rfl⟩
 replace H : ((spec_l01Pick.f s0_0 t278 t279 y280).bind fun bt283 => ((spec_l01DrawOf.f k s0_0 bt283.2.1 bt283.2.2 t277 bt283.1).bind fun bt286 => (spec_l04Draw.l0 k bt286.1 (⟨#[]⟩ : ByteArray) 0 s0_0 bt286.2.1 bt286.2.2))) = some (r1, r2, r3) := by first | (rw [hy280]; with_reducible exact H) | (have H2_ := (Option.bind_some _ _).symm.trans H; rw [hy280]; with_reducible exact H2_) | (have H2_ := (Option.bind_some _ _).symm.trans H; with_reducible exact H2_) | with_reducible exact H | (rw [hy280]; exact H) | exact H
 have Ny280 := Aside0.mk hy280
 clear hy280
 replace H := qN H
 obtain ⟨⟨t283, t284, t285⟩, A21, H⟩ := H
 try dsimp only at H
 replace H := qN H
 obtain ⟨⟨t286, t287, t288⟩, A22, H⟩ := H
 try dsimp only at H
 have H' := Aside0.mk H
 clear H
 go_enter Try.func25, Try.ntmps25
 go_wp2_with (first | ((with_reducible refine gate_callee (f := 36) rfl ?_); refine goesL_ (some 8) rfl rfl Try.func36 (by kernel_rfl) rfl #[.pointer (some ⟨g, 0, none⟩), .int .i64 4] rfl qV ?_; (with_reducible refine (spec_l01Next.calls g s0_0 s0_1 s0_2 4 t258 t259 t260 w0 _ ?side1 ?side2 A2.out).mono ?_); (case side1 => exact qI HI0.out); (case side2 => exact qS HB.out); rintro e w23 ⟨rfl, hi, hb, hk⟩; refine ⟨_, rfl, ?_⟩; replace HK := Aside0.mk (KeepBut.trans (qK HK.out) hk (.inl rfl)); replace HB := Aside0.mk (hb); replace HI0 := Aside0.mk (hi)) | ((with_reducible refine gate_callee (f := 36) rfl ?_); refine goesL_ (some 28) rfl rfl Try.func36 (by kernel_rfl) rfl #[.pointer (some ⟨g, 0, none⟩), .int .i64 7] rfl qV ?_; (with_reducible refine (spec_l01Next.calls g s0_0 t259 t260 7 t277 t278 t279 w0 _ ?side1 ?side2 A20.out).mono ?_); (case side1 => exact qI HI0.out); (case side2 => exact qS HB.out); rintro e w24 ⟨rfl, hi, hb, hk⟩; refine ⟨_, rfl, ?_⟩; replace HK := Aside0.mk (KeepBut.trans (qK HK.out) hk (.inl rfl)); replace HB := Aside0.mk (hb); replace HI0 := Aside0.mk (hi)) | ((with_reducible refine gate_dst (N := 30) rfl ?_); (try (refine gate_guard (by rfl) ?_; dsimp only)); refine Kd.R_lit (Kd.int .i64) _ 2 ?hg (N := 30) ?hd (xs := ([2, 3] : List Int)) (inner := [.int .i64 2, .int .i64 3]) (ok := fun _ => True) (okp := fun _ => True) ?hr ?hp (fun _ hk => hk) trivial (Below.refl _ _) (Nat.le_refl _) (by simp) ?_; (case hd => rfl); (case hg => rfl); (case hr => first | (go_simp; done) | (go_simp; rfl)); (case hp => exact (Reps.one (show Kd.M (Kd.int .i64) _ _ _ 2 [.int .i64 2] from rfl) (Reps.one (show Kd.M (Kd.int .i64) _ _ _ 3 [.int .i64 3] from rfl) (Reps.none _ _)))); intro v281 w25 ho26 hb hg_ hnew_; clear hg_ hnew_; (first | rw [← Ny280.out] at ho26 | (simp only [Int.reduceToNat] at ho26; rw [← Ny280.out] at ho26)); have HO282 := Aside0.mk (Kd.R_lower ho26 (keep_size (w := w) (g := g) (row := none) (qK HK.out))); replace HI0 := Aside0.mk (IsS57.below (qI HI0.out) hb); replace HK := Aside0.mk (KeepBut.trans (qK HK.out) (KeepBut.of_below hb g none) (.inl rfl)); replace HB := Aside0.mk (below_step (qS HB.out) hb); clear hb ho26; obtain ⟨Ao27, co27, eo27⟩ := Kd.R_slice HO282.out; subst eo27) | ((with_reducible refine gate_callee (f := 37) rfl ?_); refine goesL_ (some 31) rfl rfl Try.func37 (by kernel_rfl) rfl #[.pointer (some ⟨g, 0, none⟩), .slice Ao27 y280.length co27] rfl qV ?_; (with_reducible refine (spec_l01Pick.calls g s0_0 t278 t279 _ _ y280 t283 t284 t285 w0 _ ?side1 ?side2 ?side3 ?side4 ?side5 A21.out).mono ?_); (case side1 => exact qI HI0.out); (case side2 => exact qS HB.out); (case side3 => exact qC (Kd.R_reads' HO282.out).2.2); (case side4 => exact (Kd.R_reads' HO282.out).2.1); (case side5 => exact far_slice (IsS57.own_ne HI0.out HO282.out (by decide))); rintro e w28 ⟨rfl, hi, hb, hk⟩; refine ⟨_, rfl, ?_⟩; replace HO282 := Aside0.mk (Kd.R_mono (Kd.R_keep (IsS57.apart (show IsS57 w0 _ g s0_0 t278 t279 from qI HI0.out) (qR HO282.out) (by decide)) hk (fun _ h => h.2)) (fun _ h => h.1)); replace HK := Aside0.mk (KeepBut.trans (qK HK.out) hk (.inl rfl)); replace HB := Aside0.mk (hb); replace HI0 := Aside0.mk (hi)) | ((with_reducible refine gate_callee (f := 35) rfl ?_); refine goesL_ (some 32) rfl rfl Try.func35 (by kernel_rfl) rfl #[.pointer (some ⟨g, 0, none⟩), .int .i64 t277, .int .i64 t283] rfl qV ?_; (with_reducible refine (spec_l01DrawOf.calls k g s0_0 t284 t285 t277 t283 t286 t287 t288 w0 _ ?side1 ?side2 A22.out).mono ?_); (case side1 => exact qI HI0.out); (case side2 => exact qS HB.out); rintro e w29 ⟨rfl, hi, hb, hk⟩; refine ⟨_, rfl, ?_⟩; replace HO282 := Aside0.mk (Kd.R_mono (Kd.R_keep (IsS57.apart (show IsS57 w0 _ g s0_0 t284 t285 from qI HI0.out) (qR HO282.out) (by decide)) hk (fun _ h => h.2)) (fun _ h => h.1)); replace HK := Aside0.mk (KeepBut.trans (qK HK.out) hk (.inl rfl)); replace HB := Aside0.mk (hb); replace HI0 := Aside0.mk (hi)))
 go_loopg [5, 6] k (fun kq v5 v6 w' => ∃ (x5_1 : ByteArray) (x6_1 : Int), v5 = .string x5_1 ∧ v6 = .int .i64 x6_1 ∧ Aside0 (spec_l04Draw.l0 kq t286 x5_1 x6_1 s0_0 t287 t288 = some (r1, r2, r3)) ∧ Aside0 (kq ≤ k) ∧ Aside0 (IsS57 w0 w' g s0_0 t287 t288) ∧ Aside0 (KeepBut w w' g none) ∧ Aside0 (Below w0.heap.size w0 w'))
 case atStart => exact ⟨((⟨#[]⟩ : ByteArray)), (0), qF, qF, H', ⟨Nat.le_refl _⟩, ⟨qI HI0.out⟩, ⟨qK HK.out⟩, ⟨qS HB.out⟩⟩
 case round =>
  clear H'
  obtain ⟨x5_1, x6_1, rfl, rfl, HA, HK1, HI0, HK, HB⟩ := hrel
  cases gk with
  | zero => exact absurd HA.out (by simp [spec_l04Draw.l0])
  | succ k1 =>
   have H := HA.out
   clear HA
   simp only [spec_l04Draw.l0] at H
   by_cases c30 : x6_1 < (t286.size : Int)
   rotate_left
   ·
    rw [if_neg c30] at H
    have c30b0 : decide (x6_1 < (t286.size : Int)) = false := decide_eq_false c30
    clear c30
    replace H := qN H
    obtain ⟨⟨t293, t294, t295⟩, A40, H⟩ := H
    try dsimp only at H
    simp only [Option.some.injEq, Prod.mk.injEq] at H
    obtain ⟨rfl, rfl, rfl⟩ := H
    go_wp2_with (first | ((with_reducible refine gate_callee (f := 34) rfl ?_); refine goesL_ (some 54) rfl rfl Try.func34 (by kernel_rfl) rfl #[.pointer (some ⟨g, 0, none⟩), .string x5_1] rfl qV ?_; (with_reducible refine (spec_l01Bad.calls k1 g s0_0 t287 t288 x5_1 t293 t294 t295 w0 _ ?side1 ?side2 A40.out).mono ?_); (case side1 => exact qI HI0.out); (case side2 => exact qS HB.out); rintro e w41 ⟨rfl, hi, hb, hk⟩; refine ⟨_, rfl, ?_⟩; replace HK := Aside0.mk (KeepBut.trans (qK HK.out) hk (.inl rfl)); replace HB := Aside0.mk (hb); replace HI0 := Aside0.mk (hi)))
    go_ret
    exact ⟨qE, qI HI0.out, qS HB.out, qK HK.out⟩
   rw [if_pos c30] at H
   have c30b0 : decide (x6_1 < (t286.size : Int)) = true := decide_eq_true c30
   clear c30
   by_cases c31 : (x5_1.size : Int) < 20
   rotate_left
   ·
    rw [if_neg c31] at H
    have c31b0 : decide ((x5_1.size : Int) < 20) = false := decide_eq_false c31
    have c31b1 : decide (x5_1.size < 20) = false := decide_eq_false (by omega)
    clear c31
    replace H := qN H
    obtain ⟨⟨t290, t291, t292⟩, A38, H⟩ := H
    try dsimp only at H
    simp only [Option.some.injEq, Prod.mk.injEq] at H
    obtain ⟨rfl, rfl, rfl⟩ := H
    go_wp2_with (first | ((with_reducible refine gate_callee (f := 34) rfl ?_); refine goesL_ (some 54) rfl rfl Try.func34 (by kernel_rfl) rfl #[.pointer (some ⟨g, 0, none⟩), .string x5_1] rfl qV ?_; (with_reducible refine (spec_l01Bad.calls k1 g s0_0 t287 t288 x5_1 t290 t291 t292 w0 _ ?side1 ?side2 A38.out).mono ?_); (case side1 => exact qI HI0.out); (case side2 => exact qS HB.out); rintro e w39 ⟨rfl, hi, hb, hk⟩; refine ⟨_, rfl, ?_⟩; replace HK := Aside0.mk (KeepBut.trans (qK HK.out) hk (.inl rfl)); replace HB := Aside0.mk (hb); replace HI0 := Aside0.mk (hi)))
    go_ret
    exact ⟨qE, qI HI0.out, qS HB.out, qK HK.out⟩
   rw [if_pos c31] at H
   have c31b0 : decide ((x5_1.size : Int) < 20) = true := decide_eq_true c31
   have c31b1 : decide (x5_1.size < 20) = true := decide_eq_true (by omega)
   clear c31
   by_cases c32 : 0 ≤ x6_1
   rotate_left
   ·
    rw [if_neg c32] at H
    exact absurd H (by simp)
   rw [if_pos c32] at H
   have c32b0 := eq_true c32
   have c32b1 : decide (0 ≤ x6_1) = true := decide_eq_true c32
   clear c32
   by_cases c33 : x6_1 ≤ (wrap64 (x6_1 + 1))
   rotate_left
   ·
    rw [if_neg c33] at H
    exact absurd H (by simp)
   rw [if_pos c33] at H
   have c33b0 := eq_true c33
   have c33b1 : decide (x6_1 ≤ (wrap64 (x6_1 + 1))) = true := decide_eq_true c33
   by_cases c34 : (wrap64 (x6_1 + 1)) ≤ (t286.size : Int)
   rotate_left
   ·
    rw [if_neg c34] at H
    exact absurd H (by simp)
   rw [if_pos c34] at H
   have c34b0 := eq_true c34
   have c34b1 : decide ((wrap64 (x6_1 + 1)) ≤ (t286.size : Int)) = true := decide_eq_true c34
   by_cases c35 : x5_1.size + (t286.extract (x6_1 : Int).toNat ((wrap64 (x6_1 + 1)) : Int).toNat).size ≤ 9223372036854775807
   rotate_left
   ·
    rw [if_neg c35] at H
    exact absurd H (by simp)
   rw [if_pos c35] at H
   have c35b0 := eq_true c35
   have c35b1 : decide (x5_1.size + (t286.extract (x6_1 : Int).toNat ((wrap64 (x6_1 + 1)) : Int).toNat).size ≤ 9223372036854775807) = true := decide_eq_true c35
   try have c35b2 : (9223372036854775807 < x5_1.size + (t286.extract (x6_1 : Int).toNat ((wrap64 (x6_1 + 1)) : Int).toNat).size) = False := eq_false (Nat.not_lt.2 c35)
   replace H := qN H
   obtain ⟨t289, A36, H⟩ := H
   try dsimp only at H
   have H' := Aside0.mk H
   clear H
   go_wp2_with (first | ((with_reducible refine gate_callee (f := 33) rfl ?_); refine goesL_ (some 51) rfl rfl Try.func33 (by kernel_rfl) rfl #[.string (x5_1 ++ (t286.extract (x6_1 : Int).toNat ((wrap64 (x6_1 + 1)) : Int).toNat))] rfl qV ?_; (with_reducible refine (spec_l04Closure.calls k1 (x5_1 ++ (t286.extract (x6_1 : Int).toNat ((wrap64 (x6_1 + 1)) : Int).toNat)) t289 _ A36.out).mono ?_); rintro e w37 ⟨rfl, hb⟩; refine ⟨_, rfl, ?_⟩; replace HI0 := Aside0.mk (IsS57.below (qI HI0.out) hb); replace HK := Aside0.mk (KeepBut.trans (qK HK.out) (KeepBut.of_below hb g none) (.inl rfl)); replace HB := Aside0.mk (below_step (qS HB.out) hb)))
   go_roundg k1
   case measure => have := HK1.out; omega
   case rel => exact ⟨(t289), (wrap64 (x6_1 + 1)), qF, qF, H', ⟨by have := HK1.out; omega⟩, ⟨qI HI0.out⟩, ⟨qK HK.out⟩, ⟨qS HB.out⟩⟩
end Go.Proofs.Ytjmcffejpgblfaa.PF

namespace Go.Proofs.Ytjmcffejpgblfaa.PF
open Go.RowKit Go.Proofs.YtjmcffejpgblfaaW.PrintWords Go.Proofs.YtjmcffejpgblfaaW.PrintLast Go.Proofs.YtjmcffejpgblfaaW.PrintMore
attribute [local go_sem] max2_int min2_int max_two min_two max_three min_three max_four min_four   -- for this text's walks alone
set_option linter.unusedVariables false
set_option linter.unusedSimpArgs false

/-! ### spec_l01From: function 26 -/
def spec_l01From.l0 : Nat → List Int → Int → List Int → Int → Int → Option (List Int × Int × Int)
 | 0, _, _, _, _, _ => none
 | k + 1, x0, x4, x300000, x300001, x300002 => if x4 < (x0.length : Int) then (if x4 < 4096 then (if 0 ≤ x4 then (spec_l01From.l0 k x0 (wrap64 (x4 + 1)) x300000 x300001 (IntKind.u64.wrap ((IntKind.u64.wrap ((IntKind.u64.wrap (x300002 * 1099511628211)) + (IntKind.u64.wrap (rd x0 x4)))) + 211))) else (none)) else (some (x300000, x300001, x300002))) else (some (x300000, x300001, x300002))
def spec_l01From.f (k : Nat) (l0 : List Int) : Option (List Int × Int × Int) := spec_l01From.l0 k l0 0 l0 0 (IntKind.u64.wrap (13711 + (IntKind.u64.wrap ((l0.length : Int)))))
theorem spec_l01From.mono_l : ∀ k, (∀ y0 y1 y2 y3 y4, LeO (spec_l01From.l0 k y0 y1 y2 y3 y4) (spec_l01From.l0 (k + 1) y0 y1 y2 y3 y4))
 | 0 => fun _ _ _ _ _ r h => by simp [spec_l01From.l0] at h
 | k + 1 => by
  have ih0 := spec_l01From.mono_l k
  ·
   intro y0 y1 y2 y3 y4
   unfold spec_l01From.l0
   with_reducible repeat' first
   | exact ih0 _ _ _ _ _
   | exact LeO.refl _
   | exact LeO.none _
   | refine LeO.ite ?_ ?_
   | refine LeO.bind ?_ (fun _ => ?_)
theorem spec_l01From.mono : ∀ a0 k, LeO (spec_l01From.f k a0) (spec_l01From.f (k + 1) a0) := by
 intro a0 k
 have ih0 := spec_l01From.mono_l k
 unfold spec_l01From.f
 with_reducible repeat' first
   | exact ih0 _ _ _ _ _
   | exact LeO.refl _
   | exact LeO.none _
   | refine LeO.ite ?_ ?_
   | refine LeO.bind ?_ (fun _ => ?_)
def spec_l01From.T5 : Bool × List (List Nat × List Nat) := (true, [([], []), ([], []), ([1], [1]), ([2], [2]), ([3], [3]), ([4], [4]), ([], []), ([], []), ([6, 7], [6, 7]), ([8], [8]), ([9], [9]), ([5, 10], [5, 10]), ([11], [11]), ([0, 0, 1, 2, 3, 4, 5, 6, 7, 8, 9, 10, 11, 12], [0]), ([13, 0, 1, 2, 3, 4, 5, 6, 7, 8, 9, 10, 11, 12], [13]), ([14, 12, 0, 1, 2, 3, 4, 5, 6, 7, 8, 9, 10, 11, 12], [12, 14])])
def spec_l01From.B5 : List Nat := [0, 0, 2, 6, 14, 30, 0, 0, 192, 448, 960, 2046, 4094, 8191, 16383, 32767]
theorem spec_l01From.tab5 : rtab .any (opsOf Try.f26 5) = spec_l01From.T5 := by kernel_rfl
theorem spec_l01From.bits5 : waitsOk spec_l01From.T5.2 spec_l01From.B5 = true := by kernel_rfl
set_option maxHeartbeats 8000000 in
set_option maxRecDepth 100000 in
theorem spec_l01From.calls (k : Nat) (A0 : Option Addr) (c0 : Nat) (l0 : List Int) (r1 : List Int) (r2 : Int) (r3 : Int) (w0 w : World) (hB : Below w0.heap.size w0 w) (hr0 : Kd.C (Kd.int .u8) w0 A0 l0.length l0) (hc0 : l0.length ≤ c0) (h : spec_l01From.f k l0 = some (r1, r2, r3)) :
  Calls Try.prog 26 #[.slice A0 l0.length c0] w fun e w' => ∃ g_ : Nat, e = .returned (.pointer (some ⟨g_, 0, none⟩)) ∧ IsS57 w0 w' g_ r1 r2 r3 ∧ Below w0.heap.size w0 w' ∧ Below w.heap.size w w' := by
 have hu57 := Try.underlying57
 have HR0 := Aside0.mk hr0
 have HC0 := Aside0.mk hc0
 clear hr0 hc0
 have HBW := Aside0.mk (Below.refl w.heap.size w)
 have HW0 := Aside0.mk hB.size
 have HB := Aside0.mk hB
 clear hB
 have H : (spec_l01From.l0 k l0 0 l0 0 (IntKind.u64.wrap (13711 + (IntKind.u64.wrap ((l0.length : Int)))))) = some (r1, r2, r3) := h
 clear h
 have H' := Aside0.mk H
 clear H
 go_enter Try.func26, Try.ntmps26
 go_wp2_with (first | ((with_reducible refine gate_dst (N := 11) rfl ?_); refine box_event ?hg (N := 11) ?hd (cs := #[.slice A0 l0.length c0, .int .i64 0, .int .u64 (IntKind.u64.wrap (13711 + (IntKind.u64.wrap ((l0.length : Int)))))]) (t := 57) ?hr ?_; (case hd => rfl); (case hg => rfl); (case hr => first | (go_simp; done) | (go_simp; rfl)); intro gb299 hg w2 hbox hb; replace HB := Aside0.mk (below_step (qB HB.out) hb); have BK299 := Aside0.mk (hbox); have GW299 := Aside0.mk ((by rw [hg]; exact (below_size (qB HBW.out)) : w.heap.size ≤ gb299)); have GE299 := Aside0.mk ((Nat.le_trans HW0.out (by rw [hg]; exact (below_size (qB HBW.out)) : w.heap.size ≤ gb299) : w0.heap.size ≤ gb299)); replace HBW := Aside0.mk (below_step HBW.out hb); clear hb hbox hg))
 go_loopg [4] k (fun kq v4 w' => ∃ (x4_1 : Int) (x300002_1 : Int), v4 = .int .i64 x4_1 ∧ Aside0 (spec_l01From.l0 kq l0 x4_1 l0 0 x300002_1 = some (r1, r2, r3)) ∧ Aside0 (kq ≤ k) ∧ Aside0 (w'.heap[gb299]? = some (.cells #[(.slice A0 l0.length c0), .int .i64 0, .int .u64 x300002_1] 57 (0, 0))) ∧ Aside0 (Below w0.heap.size w0 w') ∧ Aside0 (Below w.heap.size w w'))
 case atStart => exact ⟨(0), (IntKind.u64.wrap (13711 + (IntKind.u64.wrap ((l0.length : Int))))), qF, H', ⟨Nat.le_refl _⟩, ⟨qA BK299.out⟩, ⟨qG HB.out⟩, ⟨qG HBW.out⟩⟩
 case round =>
  clear H'
  clear HBW
  obtain ⟨x4_1, x300002_1, rfl, HA, HK1, BK299, HB, HBW⟩ := hrel
  cases gk with
  | zero => exact absurd HA.out (by simp [spec_l01From.l0])
  | succ k1 =>
   have H := HA.out
   clear HA
   simp only [spec_l01From.l0] at H
   by_cases c3 : x4_1 < (l0.length : Int)
   rotate_left
   ·
    rw [if_neg c3] at H
    have c3b0 : decide (x4_1 < (l0.length : Int)) = false := decide_eq_false c3
    clear c3
    simp only [Option.some.injEq, Prod.mk.injEq] at H
    obtain ⟨rfl, rfl, rfl⟩ := H
    go_wp2
    go_ret
    exact ⟨_, rfl, (show IsS57 w0 _ gb299 l0 0 x300002_1 from ⟨_, _, qA BK299.out, GE299.out, HR0.out⟩), qG HB.out, qG HBW.out⟩

   rw [if_pos c3] at H
   have c3b0 : decide (x4_1 < (l0.length : Int)) = true := decide_eq_true c3
   clear c3
   by_cases c4 : x4_1 < 4096
   rotate_left
   ·
    rw [if_neg c4] at H
    have c4b0 : decide (x4_1 < 4096) = false := decide_eq_false c4
    clear c4
    simp only [Option.some.injEq, Prod.mk.injEq] at H
    obtain ⟨rfl, rfl, rfl⟩ := H
    go_wp2
    go_ret
    exact ⟨_, rfl, (show IsS57 w0 _ gb299 l0 0 x300002_1 from ⟨_, _, qA BK299.out, GE299.out, HR0.out⟩), qG HB.out, qG HBW.out⟩
   rw [if_pos c4] at H
   have c4b0 : decide (x4_1 < 4096) = true := decide_eq_true c4
   clear c4
   by_cases c5 : 0 ≤ x4_1
   rotate_left
   ·
    rw [if_neg c5] at H
    exact absurd H (by simp)
   rw [if_pos c5] at H
   have c5b0 : decide (0 ≤ x4_1) = true := decide_eq_true c5
   clear c5
   have H' := Aside0.mk H
   clear H
   try go_wp2
   have n0_ := Aside0.mk (blk_drew BK299.out)
   have n1_ := Aside0.mk (below_drew1 HB.out)
   have n9_ := Aside0.mk (below_drew1 HBW.out)
   clear HBW
   have HBW := n9_
   clear n9_
   clear BK299
   clear HB
   have BK299 := n0_
   have HB := n1_
   clear n0_ n1_
   have p300 : 0 ≤ (x4_1 : Int) := of_decide_eq_true (by first | (with_reducible assumption) | assumption)
   have q300 : x4_1 < (l0.length : Int) := of_decide_eq_true (by first | (with_reducible assumption) | assumption)
   obtain ⟨ad300, e300, hx300_0⟩ := Kd.at_int HR0.out x4_1 p300 q300
   have hw300_0 := hx300_0
   cases e300
   replace hx300_0 := pw_cell_below HB.out hx300_0
   replace p300 := eq_true p300
   replace q300 := eq_true q300
   refine start_ (n := 16) (S := fun w' => w'.cell? ⟨gb299, 0, none⟩ = some (.slice (some ad300) l0.length c0) ∧ w'.cell? ⟨gb299, 1, none⟩ = some (.int .i64 0) ∧ w'.cell? ⟨gb299, 2, none⟩ = some (.int .u64 x300002_1) ∧ w'.cell? (ad300.add (x4_1).toNat) = some (.int .u8 (rd l0 x4_1))) (ds := [15]) #[false, false, false, false, false, false, false, false, false, false, false, false, false, false, false, false] (by kernel_rfl) rfl rfl ⟨(blk_cell BK299.out 0).trans rfl, (blk_cell BK299.out 1).trans rfl, (blk_cell BK299.out 2).trans rfl, ((HB.out.cell (World.block_lt_of_cell? w0 _ hw300_0)).trans hw300_0)⟩ (fun hHeld => ?_); refine with_tabW spec_l01From.tab5 spec_l01From.bits5 (fun HT_ HW_ => ?_)
   generalize wr.drew = w6 at BK299 HB HBW hx300_0 hHeld ⊢
   refine pure_ (i := 0) (N := some 22) (v := ?_) (a' := ?_) #[true, false, false, false, false, false, false, false, false, false, false, false, false, false, false, false] rfl rfl (any_of HT_.out (by kernel_rfl)) (fun _ _ _ h => h) (Or.inl ⟨by rfl, ?_⟩) ?_ ?_
   rotate_left
   ·
    intro w'
    go_simp
    with_reducible rfl
   rotate_left
   ·
    simp only [Act.put, List.setIfInBounds_toArray, List.set_cons_zero, List.set_cons_succ, i64_w, i32_w]
    rfl
   refine pure_ (i := 1) (N := some 23) (v := ?_) (a' := ?_) #[true, true, false, false, false, false, false, false, false, false, false, false, false, false, false, false] rfl rfl (any_of HT_.out (by kernel_rfl)) (fun _ _ _ h => h) (Or.inl ⟨by rfl, ?_⟩) ?_ ?_
   rotate_left
   ·
    intro w'
    go_simp
    with_reducible rfl
   rotate_left
   ·
    simp only [Act.put, List.setIfInBounds_toArray, List.set_cons_zero, List.set_cons_succ, i64_w, i32_w]
    rfl
   refine pure_ (i := 2) (N := some 24) (v := ?_) (a' := ?_) #[true, true, true, false, false, false, false, false, false, false, false, false, false, false, false, false] rfl rfl (any_of HT_.out (by kernel_rfl)) (fun _ _ _ h => h) (Or.inl ⟨by rfl, ?_⟩) ?_ ?_
   rotate_left
   ·
    intro w'
    go_simp
    with_reducible rfl
   rotate_left
   ·
    simp only [Act.put, List.setIfInBounds_toArray, List.set_cons_zero, List.set_cons_succ, i64_w, i32_w]
    rfl
   refine pure_ (i := 3) (N := some 25) (v := ?_) (a' := ?_) #[true, true, true, true, false, false, false, false, false, false, false, false, false, false, false, false] rfl rfl (any_of HT_.out (by kernel_rfl)) (fun _ _ _ h => h) (Or.inl ⟨by rfl, ?_⟩) ?_ ?_
   rotate_left
   ·
    intro w'
    go_simp
    with_reducible rfl
   rotate_left
   ·
    simp only [Act.put, List.setIfInBounds_toArray, List.set_cons_zero, List.set_cons_succ, i64_w, i32_w]
    rfl
   refine pure_ (i := 6) (N := some 28) (v := ?_) (a' := ?_) #[true, true, true, true, false, false, true, false, false, false, false, false, false, false, false, false] rfl rfl (any_of HT_.out (by kernel_rfl)) (fun _ _ _ h => h) (Or.inl ⟨by rfl, ?_⟩) ?_ ?_
   rotate_left
   ·
    intro w'
    go_simp
    with_reducible rfl
   rotate_left
   ·
    simp only [Act.put, List.setIfInBounds_toArray, List.set_cons_zero, List.set_cons_succ, i64_w, i32_w]
    rfl
   refine pure_ (i := 7) (N := some 29) (v := ?_) (a' := ?_) #[true, true, true, true, false, false, true, true, false, false, false, false, false, false, false, false] rfl rfl (any_of HT_.out (by kernel_rfl)) (fun _ _ _ h => h) (Or.inl ⟨by rfl, ?_⟩) ?_ ?_
   rotate_left
   ·
    intro w'
    go_simp
    with_reducible rfl
   rotate_left
   ·
    simp only [Act.put, List.setIfInBounds_toArray, List.set_cons_zero, List.set_cons_succ, i64_w, i32_w]
    rfl
   refine pure_ (i := 8) (N := some 30) (v := ?_) (a' := ?_) #[true, true, true, true, false, false, true, true, true, false, false, false, false, false, false, false] rfl rfl (any_of HT_.out (by kernel_rfl)) (fun _ _ _ h => h) (Or.inl ⟨by rfl, ?_⟩) ?_ ?_
   rotate_left
   ·
    intro w'
    go_simp
    with_reducible rfl
   rotate_left
   ·
    simp only [Act.put, List.setIfInBounds_toArray, List.set_cons_zero, List.set_cons_succ, i64_w, i32_w]
    rfl
   refine take_ (i := 4) (N := some 26) (v := ?_) (a' := ?_) #[true, true, true, true, true, false, true, true, true, false, false, false, false, false, false, false] rfl rfl (take_ofW HT_.out HW_.out (by kernel_rfl)) (fun _ _ _ h => h) (Or.inl ⟨by rfl, ?_⟩) hHeld ?_ ?_
   rotate_left
   ·
    rintro w' ⟨s0, s1, s2, s3⟩
    go_simp
    with_reducible rfl
   rotate_left
   ·
    simp only [Act.put, List.setIfInBounds_toArray, List.set_cons_zero, List.set_cons_succ, i64_w, i32_w]
    rfl
   refine pure_ (i := 5) (N := some 27) (v := ?_) (a' := ?_) #[true, true, true, true, true, true, true, true, true, false, false, false, false, false, false, false] rfl rfl (any_of HT_.out (by kernel_rfl)) (fun _ _ _ h => h) (Or.inl ⟨by rfl, ?_⟩) ?_ ?_
   rotate_left
   ·
    intro w'
    go_simp
    with_reducible rfl
   rotate_left
   ·
    simp only [Act.put, List.setIfInBounds_toArray, List.set_cons_zero, List.set_cons_succ, i64_w, i32_w]
    rfl
   refine take_ (i := 9) (N := some 31) (v := ?_) (a' := ?_) #[true, true, true, true, true, true, true, true, true, true, false, false, false, false, false, false] rfl rfl (take_ofW HT_.out HW_.out (by kernel_rfl)) (fun _ _ _ h => h) (Or.inl ⟨by rfl, ?_⟩) hHeld ?_ ?_
   rotate_left
   ·
    rintro w' ⟨s0, s1, s2, s3⟩
    go_simp
    with_reducible rfl
   rotate_left
   ·
    simp only [Act.put, List.setIfInBounds_toArray, List.set_cons_zero, List.set_cons_succ, i64_w, i32_w]
    rfl
   refine pure_ (i := 10) (N := some 32) (v := ?_) (a' := ?_) #[true, true, true, true, true, true, true, true, true, true, true, false, false, false, false, false] rfl rfl (any_of HT_.out (by kernel_rfl)) (fun _ _ _ h => h) (Or.inl ⟨by rfl, ?_⟩) ?_ ?_
   rotate_left
   ·
    intro w'
    go_simp
    with_reducible rfl
   rotate_left
   ·
    simp only [Act.put, List.setIfInBounds_toArray, List.set_cons_zero, List.set_cons_succ, i64_w, i32_w]
    rfl
   refine pure_ (i := 11) (N := some 33) (v := ?_) (a' := ?_) #[true, true, true, true, true, true, true, true, true, true, true, true, false, false, false, false] rfl rfl (any_of HT_.out (by kernel_rfl)) (fun _ _ _ h => h) (Or.inl ⟨by rfl, ?_⟩) ?_ ?_
   rotate_left
   ·
    intro w'
    go_simp
    with_reducible rfl
   rotate_left
   ·
    simp only [Act.put, List.setIfInBounds_toArray, List.set_cons_zero, List.set_cons_succ, i64_w, i32_w]
    rfl
   refine pure_ (i := 12) (N := some 34) (v := ?_) (a' := ?_) #[true, true, true, true, true, true, true, true, true, true, true, true, true, false, false, false] rfl rfl (any_of HT_.out (by kernel_rfl)) (fun _ _ _ h => h) (Or.inl ⟨by rfl, ?_⟩) ?_ ?_
   rotate_left
   ·
    intro w'
    go_simp
    with_reducible rfl
   rotate_left
   ·
    simp only [Act.put, List.setIfInBounds_toArray, List.set_cons_zero, List.set_cons_succ, i64_w, i32_w]
    rfl
   refine pure_ (i := 13) (N := some 35) (v := ?_) (a' := ?_) #[true, true, true, true, true, true, true, true, true, true, true, true, true, true, false, false] rfl rfl (any_of HT_.out (by kernel_rfl)) (fun _ _ _ h => h) (Or.inl ⟨by rfl, ?_⟩) ?_ ?_
   rotate_left
   ·
    intro w'
    go_simp
    with_reducible rfl
   rotate_left
   ·
    simp only [Act.put, List.setIfInBounds_toArray, List.set_cons_zero, List.set_cons_succ, i64_w, i32_w]
    rfl
   refine pure_ (i := 14) (N := some 36) (v := ?_) (a' := ?_) #[true, true, true, true, true, true, true, true, true, true, true, true, true, true, true, false] rfl rfl (any_of HT_.out (by kernel_rfl)) (fun _ _ _ h => h) (Or.inl ⟨by rfl, ?_⟩) ?_ ?_
   rotate_left
   ·
    intro w'
    go_simp
    with_reducible rfl
   rotate_left
   ·
    simp only [Act.put, List.setIfInBounds_toArray, List.set_cons_zero, List.set_cons_succ, i64_w, i32_w]
    rfl
   refine last_ (i := 15) (N := none) #[true, true, true, true, true, true, true, true, true, true, true, true, true, true, true, true] rfl rfl (one_of HT_.out (by kernel_rfl)) (by decide) (fun K hK => ?_)
   have hs7 : w6.cell? ⟨gb299, 2, none⟩ = some (.int .u64 x300002_1) := (blk_cell BK299.out 2).trans rfl
   have hfs7 := blk_frozen BK299.out 2
   refine skip_ (w1 := ?_) (by rfl) rfl ?_ ?_
   rotate_left
   ·
    go_simp
    rfl
   refine hK.out _ _ ?_
   clear hK K
   refine done_ (done_of HT_.out (by kernel_rfl)) ?_
   try go_wp2
   go_roundg k1
   case measure => have := HK1.out; omega
   case rel => exact ⟨(wrap64 (x4_1 + 1)), (IntKind.u64.wrap ((IntKind.u64.wrap ((IntKind.u64.wrap (x300002_1 * 1099511628211)) + (IntKind.u64.wrap (rd l0 x4_1)))) + 211)), qF, H', ⟨by have := HK1.out; omega⟩, ⟨by (with_reducible repeat (first | refine blk_drewN ?_ _ | refine blk_drew ?_ | refine blk_alloc ?_ _)); refine blk_put (cs := #[.slice (some ad300) l0.length c0, .int .i64 0, .int .u64 x300002_1]) ?_ 2 _ rfl; (with_reducible repeat (first | refine blk_drewN ?_ _ | refine blk_drew ?_ | refine blk_alloc ?_ _)); exact BK299.out⟩, ⟨qG HB.out⟩, ⟨qG HBW.out⟩⟩
end Go.Proofs.Ytjmcffejpgblfaa.PF

namespace Go.Proofs.Ytjmcffejpgblfaa.PF
open Go.RowKit Go.Proofs.YtjmcffejpgblfaaW.PrintWords Go.Proofs.YtjmcffejpgblfaaW.PrintLast Go.Proofs.YtjmcffejpgblfaaW.PrintMore
attribute [local go_sem] max2_int min2_int max_two min_two max_three min_three max_four min_four   -- for this text's walks alone
set_option linter.unusedVariables false
set_option linter.unusedSimpArgs false

/-! ### spec_DrawFewestParts: function 5 -/
def spec_DrawFewestParts.f (k : Nat) (l0 : List Int) : Option (ByteArray) := (spec_l01From.f k l0).bind fun bt301 => ((spec_l04Draw.f k bt301.1 bt301.2.1 bt301.2.2).bind fun bt305 => (some bt305.1))
theorem spec_DrawFewestParts.mono : ∀ a0 k, LeO (spec_DrawFewestParts.f k a0) (spec_DrawFewestParts.f (k + 1) a0) := by
 intro a0 k
 unfold spec_DrawFewestParts.f
 with_reducible repeat' first
   | exact spec_l01From.mono _ _
   | exact spec_l04Draw.mono _ _ _ _
   | exact LeO.refl _
   | exact LeO.none _
   | refine LeO.ite ?_ ?_
   | refine LeO.bind ?_ (fun _ => ?_)
set_option maxHeartbeats 8000000 in
set_option maxRecDepth 100000 in
theorem spec_DrawFewestParts.calls (k : Nat) (A0 : Option Addr) (c0 : Nat) (l0 : List Int) (r : ByteArray) (w : World) (hr0 : Kd.C (Kd.int .u8) w A0 l0.length l0) (hc0 : l0.length ≤ c0) (h : spec_DrawFewestParts.f k l0 = some r) :
  Calls Try.prog 5 #[.slice A0 l0.length c0] w fun e w' => e = .returned (.string r) ∧ Below w.heap.size w w' := by
 have HR0 := Aside0.mk hr0
 have HC0 := Aside0.mk hc0
 clear hr0 hc0
 have HB := Aside0.mk (Below.refl w.heap.size w)
 have H : ((spec_l01From.f k l0).bind fun bt301 => ((spec_l04Draw.f k bt301.1 bt301.2.1 bt301.2.2).bind fun bt305 => (some bt305.1))) = some r := h
 clear h
 replace H := qN H
 obtain ⟨⟨t301, t302, t303⟩, A2, H⟩ := H
 try dsimp only at H
 replace H := qN H
 obtain ⟨⟨t305, t306, t307⟩, A3, H⟩ := H
 try dsimp only at H
 obtain rfl := Option.some.inj H
 go_enter Try.func5, Try.ntmps5
 go_wp2_with (first | ((with_reducible refine gate_callee (f := 26) rfl ?_); refine goesL_ (some 4) rfl rfl Try.func26 (by kernel_rfl) rfl #[.slice A0 l0.length c0] rfl qV ?_; (with_reducible refine (spec_l01From.calls k _ _ l0 t301 t302 t303 w _ ?side1 ?side2 ?side3 A2.out).mono ?_); (case side1 => exact qB HB.out); (case side2 => exact HR0.out); (case side3 => exact HC0.out); rintro e w4 ⟨g304, rfl, hi, hb, hb2⟩; refine ⟨_, rfl, ?_⟩; replace HB := Aside0.mk (hb); have HI304 := Aside0.mk (hi)) | ((with_reducible refine gate_callee (f := 25) rfl ?_); refine goesL_ (some 5) rfl rfl Try.func25 (by kernel_rfl) rfl #[.pointer (some ⟨g304, 0, none⟩)] rfl qV ?_; (with_reducible refine (spec_l04Draw.calls k g304 t301 t302 t303 t305 t306 t307 w _ ?side1 ?side2 A3.out).mono ?_); (case side1 => exact qI HI304.out); (case side2 => exact qS HB.out); rintro e w5 ⟨rfl, hi, hb, hk⟩; refine ⟨_, rfl, ?_⟩; replace HB := Aside0.mk (hb); replace HI304 := Aside0.mk (hi)))
 go_ret
 exact ⟨qE, qS HB.out⟩

end Go.Proofs.Ytjmcffejpgblfaa.PF

namespace Go.Proofs.Ytjmcffejpgblfaa.PF
open Go.RowKit Go.Proofs.YtjmcffejpgblfaaW.PrintWords Go.Proofs.YtjmcffejpgblfaaW.PrintLast Go.Proofs.YtjmcffejpgblfaaW.PrintMore
attribute [local go_sem] max2_int min2_int max_two min_two max_three min_three max_four min_four   -- for this text's walks alone
set_option linter.unusedVariables false
set_option linter.unusedSimpArgs false

/-! ### impl_always: function 28 -/
def impl_always.f  : Option (Bool) := some true
set_option maxHeartbeats 8000000 in
set_option maxRecDepth 100000 in
theorem impl_always.calls  (r : Bool) (w : World) (h : impl_always.f  = some r) :
  Calls Try.prog 28 #[] w fun e w' => e = .returned (.bool r) ∧ Drawn0 w w' := by
 have H : (some true) = some r := h
 clear h
 obtain rfl := Option.some.inj H
 go_enter Try.func28, Try.ntmps28
 go_wp2
 go_ret
 exact ⟨by first | rfl | (simp; done) | (simp [*]; done) | (simp; rw [Bool.eq_iff_iff]; simp; done), by repeat (first | exact Drawn0.refl _ | apply Drawn0.step)⟩

end Go.Proofs.Ytjmcffejpgblfaa.PF
