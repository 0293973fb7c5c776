-- an own text, written by a program of this place (wip/tools)
import Derived.Test.YtfihfeffbhohjaaPFx0
import Derived.Test.YtfihfeffbhohjaaPFx2
import Derived.Test.YtfihfeffbhohjaaPFGivA
import Derived.Test.YtfihfeffbhohjaaPFx4
namespace Go.Proofs.Ytfihfeffbhohjaa.PF
open Go.RowKit Go.Proofs.YtfihfeffbhohjaaW.PrintWords Go.Proofs.YtfihfeffbhohjaaW.PrintLast Go.Proofs.YtfihfeffbhohjaaW.PrintMore
attribute [local go_sem] max2_int min2_int max_two min_two max_three min_three max_four min_four   -- for this text's walks alone
set_option linter.unusedVariables false
set_option linter.unusedSimpArgs false

/-! ### impl_filledCode: function 32 -/
def impl_filledCode.f (k : Nat) (a0 : ByteArray) : Option (Int) := (impl_wordCode.f k (impl_always.f) (([a0] : List ByteArray))).bind fun t415 => (if t415 = 0 then (if a0.toList = ([] : List UInt8) then (some 5) else (some 0)) else (some t415))
theorem impl_filledCode.mono : ∀ a0 k, LeO (impl_filledCode.f k a0) (impl_filledCode.f (k + 1) a0) := by
 intro a0 k
 unfold impl_filledCode.f
 repeat' first
   | (with_reducible exact LeO.refl _)
   | (with_reducible exact LeO.none _)
   | (with_reducible refine LeO.ite ?_ ?_)
   | (with_reducible refine LeO.bind ?_ (fun _ => ?_))
   | refine impl_wordCode.monoP ?_
set_option maxHeartbeats 8000000 in
set_option maxRecDepth 100000 in
theorem impl_filledCode.calls (k : Nat) (a0 : ByteArray) (r : Int) (w : World) (h : impl_filledCode.f k a0 = some r) :
  Calls Try.prog 32 #[.string a0] w fun e w' => e = .returned (.int .i64 r) ∧ Below w.heap.size w w' := by
 have HB := Aside0.mk (Below.refl w.heap.size w)
 have H : ((impl_wordCode.f k (impl_always.f) (([a0] : List ByteArray))).bind fun t415 => (if t415 = 0 then (if a0.toList = ([] : List UInt8) then (some 5) else (some 0)) else (some t415))) = some r := h
 clear h
 obtain ⟨y412, hy412⟩ : ∃ y_ : List ByteArray, y_ = (([a0] : List ByteArray)) := ⟨_, rfl⟩
 replace H : ((impl_wordCode.f k (impl_always.f) y412).bind fun t415 => (if t415 = 0 then (if a0.toList = ([] : List UInt8) then (some 5) else (some 0)) else (some t415))) = some r := by first | (rw [hy412]; with_reducible exact H) | (have H2_ := (Option.bind_some _ _).symm.trans H; rw [hy412]; with_reducible exact H2_) | (have H2_ := (Option.bind_some _ _).symm.trans H; with_reducible exact H2_) | with_reducible exact H | (rw [hy412]; exact H) | exact H
 have Ny412 := Aside0.mk hy412
 clear hy412
 replace H := qN H
 obtain ⟨t415, A2, H⟩ := H
 try dsimp only at H
 by_cases c3 : t415 = 0
 rotate_left
 ·
  rw [if_neg c3] at H
  obtain ⟨c3b0, c3b1⟩ := zF c3
  obtain rfl := Option.some.inj H
  go_enter Try.func32, Try.ntmps32
  go_wp2_with (first | ((with_reducible refine gate_dst (N := 5) rfl ?_); refine Kd.R_lit Kd.string _ 9 ?hg (N := 5) ?hd (xs := ([a0] : List ByteArray)) (inner := [.string a0]) (ok := fun _ => True) (okp := fun _ => True) ?hr ?hp (fun _ hk => hk) trivial (Below.refl _ _) (Nat.le_refl _) (by simp) ?_; (case hd => rfl); (case hg => rfl); (case hr => first | (go_simp; done) | (go_simp; rfl)); (case hp => exact (Reps.one (show Kd.M Kd.string _ _ _ a0 [.string a0] from rfl) (Reps.none _ _))); intro v413 w13 ho14 hb hg_ hnew_; clear hg_ hnew_; (first | rw [← Ny412.out] at ho14 | (simp only [Int.reduceToNat] at ho14; rw [← Ny412.out] at ho14)); have HO414 := Aside0.mk (Kd.R_lower ho14 (below_size (qB HB.out))); replace HB := Aside0.mk (below_step (qB HB.out) hb); clear hb ho14; obtain ⟨Ao15, co15, eo15⟩ := Kd.R_slice HO414.out; subst eo15) | ((with_reducible refine gate_callee (f := 24) rfl ?_); refine goesL_ (some 6) rfl rfl Try.func24 (by kernel_rfl) rfl #[.func (.func 25) #[] #[], .slice Ao15 y412.length co15] rfl qV ?_; (with_reducible refine (impl_wordCode.calls k (impl_always.f) 25 #[] _ _ y412 t415 _ ?side1 ?side2 ?side3 A2.out).mono ?_); (case side1 => exact qC (Kd.R_reads' HO414.out).2.2); (case side2 => exact (Kd.R_reads' HO414.out).2.1); (case side3 => exact ⟨Go.Proofs.enters_of Try.func25 (by kernel_rfl) rfl, fun W_ hW_ r_ h_ => (impl_always.calls  r_ W_  h_).mono (fun e_ W2_ h2_ => ⟨h2_.1, by first | exact h2_.2 | exact h2_.2.below⟩)⟩); rintro e w16 ⟨rfl, hb⟩; refine ⟨_, rfl, ?_⟩; replace HO414 := Aside0.mk (Kd.R_below (qR HO414.out) hb); replace HB := Aside0.mk (below_step (qB HB.out) hb)))
  go_ret
  exact ⟨qE, qB HB.out⟩

 rw [if_pos c3] at H
 obtain ⟨c3b0, c3b1⟩ := zT c3
 clear c3
 by_cases c4 : a0.toList = ([] : List UInt8)
 ·
  rw [if_pos c4] at H
  obtain ⟨c4b0, c4b1⟩ := zT c4
  clear c4
  obtain rfl := Option.some.inj H
  go_enter Try.func32, Try.ntmps32
  go_wp2_with (first | ((with_reducible refine gate_dst (N := 5) rfl ?_); refine Kd.R_lit Kd.string _ 9 ?hg (N := 5) ?hd (xs := ([a0] : List ByteArray)) (inner := [.string a0]) (ok := fun _ => True) (okp := fun _ => True) ?hr ?hp (fun _ hk => hk) trivial (Below.refl _ _) (Nat.le_refl _) (by simp) ?_; (case hd => rfl); (case hg => rfl); (case hr => first | (go_simp; done) | (go_simp; rfl)); (case hp => exact (Reps.one (show Kd.M Kd.string _ _ _ a0 [.string a0] from rfl) (Reps.none _ _))); intro v413 w5 ho6 hb hg_ hnew_; clear hg_ hnew_; (first | rw [← Ny412.out] at ho6 | (simp only [Int.reduceToNat] at ho6; rw [← Ny412.out] at ho6)); have HO414 := Aside0.mk (Kd.R_lower ho6 (below_size (qB HB.out))); replace HB := Aside0.mk (below_step (qB HB.out) hb); clear hb ho6; obtain ⟨Ao7, co7, eo7⟩ := Kd.R_slice HO414.out; subst eo7) | ((with_reducible refine gate_callee (f := 24) rfl ?_); refine goesL_ (some 6) rfl rfl Try.func24 (by kernel_rfl) rfl #[.func (.func 25) #[] #[], .slice Ao7 y412.length co7] rfl qV ?_; (with_reducible refine (impl_wordCode.calls k (impl_always.f) 25 #[] _ _ y412 t415 _ ?side1 ?side2 ?side3 A2.out).mono ?_); (case side1 => exact qC (Kd.R_reads' HO414.out).2.2); (case side2 => exact (Kd.R_reads' HO414.out).2.1); (case side3 => exact ⟨Go.Proofs.enters_of Try.func25 (by kernel_rfl) rfl, fun W_ hW_ r_ h_ => (impl_always.calls  r_ W_  h_).mono (fun e_ W2_ h2_ => ⟨h2_.1, by first | exact h2_.2 | exact h2_.2.below⟩)⟩); rintro e w8 ⟨rfl, hb⟩; refine ⟨_, rfl, ?_⟩; replace HO414 := Aside0.mk (Kd.R_below (qR HO414.out) hb); replace HB := Aside0.mk (below_step (qB HB.out) hb)))
  go_ret
  exact ⟨qE, qB HB.out⟩
 rw [if_neg c4] at H
 obtain ⟨c4b0, c4b1⟩ := zF c4
 obtain rfl := Option.some.inj H
 go_enter Try.func32, Try.ntmps32
 go_wp2_with (first | ((with_reducible refine gate_dst (N := 5) rfl ?_); refine Kd.R_lit Kd.string _ 9 ?hg (N := 5) ?hd (xs := ([a0] : List ByteArray)) (inner := [.string a0]) (ok := fun _ => True) (okp := fun _ => True) ?hr ?hp (fun _ hk => hk) trivial (Below.refl _ _) (Nat.le_refl _) (by simp) ?_; (case hd => rfl); (case hg => rfl); (case hr => first | (go_simp; done) | (go_simp; rfl)); (case hp => exact (Reps.one (show Kd.M Kd.string _ _ _ a0 [.string a0] from rfl) (Reps.none _ _))); intro v413 w9 ho10 hb hg_ hnew_; clear hg_ hnew_; (first | rw [← Ny412.out] at ho10 | (simp only [Int.reduceToNat] at ho10; rw [← Ny412.out] at ho10)); have HO414 := Aside0.mk (Kd.R_lower ho10 (below_size (qB HB.out))); replace HB := Aside0.mk (below_step (qB HB.out) hb); clear hb ho10; obtain ⟨Ao11, co11, eo11⟩ := Kd.R_slice HO414.out; subst eo11) | ((with_reducible refine gate_callee (f := 24) rfl ?_); refine goesL_ (some 6) rfl rfl Try.func24 (by kernel_rfl) rfl #[.func (.func 25) #[] #[], .slice Ao11 y412.length co11] rfl qV ?_; (with_reducible refine (impl_wordCode.calls k (impl_always.f) 25 #[] _ _ y412 t415 _ ?side1 ?side2 ?side3 A2.out).mono ?_); (case side1 => exact qC (Kd.R_reads' HO414.out).2.2); (case side2 => exact (Kd.R_reads' HO414.out).2.1); (case side3 => exact ⟨Go.Proofs.enters_of Try.func25 (by kernel_rfl) rfl, fun W_ hW_ r_ h_ => (impl_always.calls  r_ W_  h_).mono (fun e_ W2_ h2_ => ⟨h2_.1, by first | exact h2_.2 | exact h2_.2.below⟩)⟩); rintro e w12 ⟨rfl, hb⟩; refine ⟨_, rfl, ?_⟩; replace HO414 := Aside0.mk (Kd.R_below (qR HO414.out) hb); replace HB := Aside0.mk (below_step (qB HB.out) hb)))
 go_ret
 exact ⟨qE, qB HB.out⟩
end Go.Proofs.Ytfihfeffbhohjaa.PF

namespace Go.Proofs.Ytfihfeffbhohjaa.PF
open Go.RowKit Go.Proofs.YtfihfeffbhohjaaW.PrintWords Go.Proofs.YtfihfeffbhohjaaW.PrintLast Go.Proofs.YtfihfeffbhohjaaW.PrintMore
attribute [local go_sem] max2_int min2_int max_two min_two max_three min_three max_four min_four   -- for this text's walks alone
set_option linter.unusedVariables false
set_option linter.unusedSimpArgs false

/-! ### impl_PlacesOf: function 21 -/
def impl_PlacesOf.f (k : Nat) (a0 : ByteArray) (a1 : ByteArray) : Option (List Int × Int) := (impl_wordCode.f k (impl_always.f) (([a0, a1] : List ByteArray))).bind fun t462 => (if t462 = 0 then ((impl_places.f k a0 a1).bind fun t463 => (some (t463, 0))) else (some (([] : List Int), t462)))
theorem impl_PlacesOf.mono : ∀ a0 a1 k, LeO (impl_PlacesOf.f k a0 a1) (impl_PlacesOf.f (k + 1) a0 a1) := by
 intro a0 a1 k
 unfold impl_PlacesOf.f
 repeat' first
   | (with_reducible exact impl_places.mono _ _ _)
   | (with_reducible exact LeO.refl _)
   | (with_reducible exact LeO.none _)
   | (with_reducible refine LeO.ite ?_ ?_)
   | (with_reducible refine LeO.bind ?_ (fun _ => ?_))
   | refine impl_wordCode.monoP ?_
set_option maxHeartbeats 8000000 in
set_option maxRecDepth 100000 in
theorem impl_PlacesOf.calls (k : Nat) (a0 : ByteArray) (a1 : ByteArray) (r1 : List Int) (r2 : Int) (w : World) (h : impl_PlacesOf.f k a0 a1 = some (r1, r2)) :
  Calls Try.prog 21 #[.string a0, .string a1] w fun e w' => ∃ v0_ : Value, e = .returned (.tuple #[v0_, .int .i64 r2]) ∧ Kd.R (Kd.int .i64) 2 w' w.heap.size (fun _ => True) v0_ r1 ∧ Below w.heap.size w w' := by
 have HB := Aside0.mk (Below.refl w.heap.size w)
 have H : ((impl_wordCode.f k (impl_always.f) (([a0, a1] : List ByteArray))).bind fun t462 => (if t462 = 0 then ((impl_places.f k a0 a1).bind fun t463 => (some (t463, 0))) else (some (([] : List Int), t462)))) = some (r1, r2) := h
 clear h
 obtain ⟨y459, hy459⟩ : ∃ y_ : List ByteArray, y_ = (([a0, a1] : List ByteArray)) := ⟨_, rfl⟩
 replace H : ((impl_wordCode.f k (impl_always.f) y459).bind fun t462 => (if t462 = 0 then ((impl_places.f k a0 a1).bind fun t463 => (some (t463, 0))) else (some (([] : List Int), t462)))) = some (r1, r2) := by first | (rw [hy459]; with_reducible exact H) | (have H2_ := (Option.bind_some _ _).symm.trans H; rw [hy459]; with_reducible exact H2_) | (have H2_ := (Option.bind_some _ _).symm.trans H; with_reducible exact H2_) | with_reducible exact H | (rw [hy459]; exact H) | exact H
 have Ny459 := Aside0.mk hy459
 clear hy459
 replace H := qN H
 obtain ⟨t462, A3, H⟩ := H
 try dsimp only at H
 by_cases c4 : t462 = 0
 rotate_left
 ·
  rw [if_neg c4] at H
  obtain ⟨c4b0, c4b1⟩ := zF c4
  simp only [Option.some.injEq, Prod.mk.injEq] at H
  obtain ⟨rfl, rfl⟩ := H
  go_enter Try.func21, Try.ntmps21
  go_wp2_with (first | ((with_reducible refine gate_dst (N := 9) rfl ?_); refine Kd.R_lit Kd.string _ 9 ?hg (N := 9) ?hd (xs := ([a0, a1] : List ByteArray)) (inner := [.string a0, .string a1]) (ok := fun _ => True) (okp := fun _ => True) ?hr ?hp (fun _ hk => hk) trivial (Below.refl _ _) (Nat.le_refl _) (by simp) ?_; (case hd => rfl); (case hg => rfl); (case hr => first | (go_simp; done) | (go_simp; rfl)); (case hp => exact (Reps.one (show Kd.M Kd.string _ _ _ a0 [.string a0] from rfl) (Reps.one (show Kd.M Kd.string _ _ _ a1 [.string a1] from rfl) (Reps.none _ _)))); intro v460 w11 ho12 hb hg_ hnew_; clear hg_ hnew_; (first | rw [← Ny459.out] at ho12 | (simp only [Int.reduceToNat] at ho12; rw [← Ny459.out] at ho12)); have HO461 := Aside0.mk (Kd.R_lower ho12 (below_size (qB HB.out))); replace HB := Aside0.mk (below_step (qB HB.out) hb); clear hb ho12; obtain ⟨Ao13, co13, eo13⟩ := Kd.R_slice HO461.out; subst eo13) | ((with_reducible refine gate_callee (f := 24) rfl ?_); refine goesL_ (some 10) rfl rfl Try.func24 (by kernel_rfl) rfl #[.func (.func 25) #[] #[], .slice Ao13 y459.length co13] rfl qV ?_; (with_reducible refine (impl_wordCode.calls k (impl_always.f) 25 #[] _ _ y459 t462 _ ?side1 ?side2 ?side3 A3.out).mono ?_); (case side1 => exact qC (Kd.R_reads' HO461.out).2.2); (case side2 => exact (Kd.R_reads' HO461.out).2.1); (case side3 => exact ⟨Go.Proofs.enters_of Try.func25 (by kernel_rfl) rfl, fun W_ hW_ r_ h_ => (impl_always.calls  r_ W_  h_).mono (fun e_ W2_ h2_ => ⟨h2_.1, by first | exact h2_.2 | exact h2_.2.below⟩)⟩); rintro e w14 ⟨rfl, hb⟩; refine ⟨_, rfl, ?_⟩; replace HO461 := Aside0.mk (Kd.R_below (qR HO461.out) hb); replace HB := Aside0.mk (below_step (qB HB.out) hb)))
  go_ret2
  exact ⟨_, qE, by first | exact Kd.R_nil _ _ _ _ _ | exact Kd.N_nil _ _ _ _ _ | exact Kd.V_nil _ _ _ _ _ | exact Kd.Q_nil _ _ _ _ _ | exact Kd.S_nil _ _ _ _ _, qB HB.out⟩

 rw [if_pos c4] at H
 obtain ⟨c4b0, c4b1⟩ := zT c4
 clear c4
 replace H := qN H
 obtain ⟨t463, A5, H⟩ := H
 try dsimp only at H
 simp only [Option.some.injEq, Prod.mk.injEq] at H
 obtain ⟨rfl, rfl⟩ := H
 go_enter Try.func21, Try.ntmps21
 go_wp2_with (first | ((with_reducible refine gate_dst (N := 9) rfl ?_); refine Kd.R_lit Kd.string _ 9 ?hg (N := 9) ?hd (xs := ([a0, a1] : List ByteArray)) (inner := [.string a0, .string a1]) (ok := fun _ => True) (okp := fun _ => True) ?hr ?hp (fun _ hk => hk) trivial (Below.refl _ _) (Nat.le_refl _) (by simp) ?_; (case hd => rfl); (case hg => rfl); (case hr => first | (go_simp; done) | (go_simp; rfl)); (case hp => exact (Reps.one (show Kd.M Kd.string _ _ _ a0 [.string a0] from rfl) (Reps.one (show Kd.M Kd.string _ _ _ a1 [.string a1] from rfl) (Reps.none _ _)))); intro v460 w6 ho7 hb hg_ hnew_; clear hg_ hnew_; (first | rw [← Ny459.out] at ho7 | (simp only [Int.reduceToNat] at ho7; rw [← Ny459.out] at ho7)); have HO461 := Aside0.mk (Kd.R_lower ho7 (below_size (qB HB.out))); replace HB := Aside0.mk (below_step (qB HB.out) hb); clear hb ho7; obtain ⟨Ao8, co8, eo8⟩ := Kd.R_slice HO461.out; subst eo8) | ((with_reducible refine gate_callee (f := 24) rfl ?_); refine goesL_ (some 10) rfl rfl Try.func24 (by kernel_rfl) rfl #[.func (.func 25) #[] #[], .slice Ao8 y459.length co8] rfl qV ?_; (with_reducible refine (impl_wordCode.calls k (impl_always.f) 25 #[] _ _ y459 t462 _ ?side1 ?side2 ?side3 A3.out).mono ?_); (case side1 => exact qC (Kd.R_reads' HO461.out).2.2); (case side2 => exact (Kd.R_reads' HO461.out).2.1); (case side3 => exact ⟨Go.Proofs.enters_of Try.func25 (by kernel_rfl) rfl, fun W_ hW_ r_ h_ => (impl_always.calls  r_ W_  h_).mono (fun e_ W2_ h2_ => ⟨h2_.1, by first | exact h2_.2 | exact h2_.2.below⟩)⟩); rintro e w9 ⟨rfl, hb⟩; refine ⟨_, rfl, ?_⟩; replace HO461 := Aside0.mk (Kd.R_below (qR HO461.out) hb); replace HB := Aside0.mk (below_step (qB HB.out) hb)) | ((with_reducible refine gate_callee (f := 36) rfl ?_); refine goesL_ (some 16) rfl rfl Try.func36 (by kernel_rfl) rfl #[.string a0, .string a1] rfl qV ?_; (with_reducible refine (impl_places.calls k a0 a1 t463 _ A5.out).mono ?_); rintro e w10 ⟨v464, rfl, ho0, hb⟩; refine ⟨_, rfl, ?_⟩; replace HO461 := Aside0.mk (Kd.R_below (qR HO461.out) hb); have HO465 := Aside0.mk (Kd.R_lower ho0 (below_size (qB HB.out))); replace HB := Aside0.mk (below_step (qB HB.out) hb)))
 go_ret2
 exact ⟨_, qE, qR HO465.out, qB HB.out⟩
end Go.Proofs.Ytfihfeffbhohjaa.PF
