-- an own text, written by a program of this place (wip/tools)
import Derived.Test.YtippkbjdifmdnaaPFx0
import Derived.Test.YtippkbjdifmdnaaPFGivA
import Derived.Test.YtippkbjdifmdnaaPFGivSe
import Derived.Test.YtippkbjdifmdnaaPFx1
namespace Go.Proofs.Ytippkbjdifmdnaa.PF
open Go.RowKit Go.Proofs.YtippkbjdifmdnaaW.PrintWords Go.Proofs.YtippkbjdifmdnaaW.PrintLast Go.Proofs.YtippkbjdifmdnaaW.PrintMore
attribute [local go_sem] max2_int min2_int max_two min_two max_three min_three max_four min_four   -- for this text's walks alone
set_option linter.unusedVariables false
set_option linter.unusedSimpArgs false

/-! ### impl_SortedWord: function 21 -/
def impl_SortedWord.f (k : Nat) (a0 : ByteArray) : Option (ByteArray × Int) := (impl_wordCode.f k (impl_always.f) (([a0] : List ByteArray))).bind fun t235 => (if t235 = 0 then ((impl_sortedWord.f a0).bind fun t236 => (some (t236, 0))) else (some ((⟨#[]⟩ : ByteArray), t235)))
theorem impl_SortedWord.mono : ∀ a0 k, LeO (impl_SortedWord.f k a0) (impl_SortedWord.f (k + 1) a0) := by
 intro a0 k
 unfold impl_SortedWord.f
 repeat' first
   | (with_reducible exact LeO.refl _)
   | (with_reducible exact LeO.none _)
   | (with_reducible refine LeO.ite ?_ ?_)
   | (with_reducible refine LeO.bind ?_ (fun _ => ?_))
   | refine impl_wordCode.monoP ?_
set_option maxHeartbeats 8000000 in
set_option maxRecDepth 100000 in
theorem impl_SortedWord.calls (k : Nat) (a0 : ByteArray) (r1 : ByteArray) (r2 : Int) (w : World) (h : impl_SortedWord.f k a0 = some (r1, r2)) :
  Calls Try.prog 21 #[.string a0] w fun e w' => e = .returned (.tuple #[.string r1, .int .i64 r2]) ∧ Below w.heap.size w w' := by
 have HB := Aside0.mk (Below.refl w.heap.size w)
 have H : ((impl_wordCode.f k (impl_always.f) (([a0] : List ByteArray))).bind fun t235 => (if t235 = 0 then ((impl_sortedWord.f a0).bind fun t236 => (some (t236, 0))) else (some ((⟨#[]⟩ : ByteArray), t235)))) = some (r1, r2) := h
 clear h
 obtain ⟨y232, hy232⟩ : ∃ y_ : List ByteArray, y_ = (([a0] : List ByteArray)) := ⟨_, rfl⟩
 replace H : ((impl_wordCode.f k (impl_always.f) y232).bind fun t235 => (if t235 = 0 then ((impl_sortedWord.f a0).bind fun t236 => (some (t236, 0))) else (some ((⟨#[]⟩ : ByteArray), t235)))) = some (r1, r2) := by first | (rw [hy232]; with_reducible exact H) | (have H2_ := (Option.bind_some _ _).symm.trans H; rw [hy232]; with_reducible exact H2_) | (have H2_ := (Option.bind_some _ _).symm.trans H; with_reducible exact H2_) | with_reducible exact H | (rw [hy232]; exact H) | exact H
 have Ny232 := Aside0.mk hy232
 clear hy232
 replace H := qN H
 obtain ⟨t235, A2, H⟩ := H
 try dsimp only at H
 by_cases c3 : t235 = 0
 rotate_left
 ·
  rw [if_neg c3] at H
  obtain ⟨c3b0, c3b1⟩ := zF c3
  simp only [Option.some.injEq, Prod.mk.injEq] at H
  obtain ⟨rfl, rfl⟩ := H
  go_enter Try.func21, Try.ntmps21
  go_wp2_with (first | ((with_reducible refine gate_dst (N := 6) rfl ?_); refine Kd.R_lit Kd.string _ 9 ?hg (N := 6) ?hd (xs := ([a0] : List ByteArray)) (inner := [.string a0]) (ok := fun _ => True) (okp := fun _ => True) ?hr ?hp (fun _ hk => hk) trivial (Below.refl _ _) (Nat.le_refl _) (by simp) ?_; (case hd => rfl); (case hg => rfl); (case hr => first | (go_simp; done) | (go_simp; rfl)); (case hp => exact (Reps.one (show Kd.M Kd.string _ _ _ a0 [.string a0] from rfl) (Reps.none _ _))); intro v233 w10 ho11 hb hg_ hnew_; clear hg_ hnew_; (first | rw [← Ny232.out] at ho11 | (simp only [Int.reduceToNat] at ho11; rw [← Ny232.out] at ho11)); have HO234 := Aside0.mk (Kd.R_lower ho11 (below_size (qB HB.out))); replace HB := Aside0.mk (below_step (qB HB.out) hb); clear hb ho11; obtain ⟨Ao12, co12, eo12⟩ := Kd.R_slice HO234.out; subst eo12) | ((with_reducible refine gate_callee (f := 44) rfl ?_); refine goesL_ (some 7) rfl rfl Try.func44 (by kernel_rfl) rfl #[.func (.func 45) #[] #[], .slice Ao12 y232.length co12] rfl qV ?_; (with_reducible refine (impl_wordCode.calls k (impl_always.f) 45 #[] _ _ y232 t235 _ ?side1 ?side2 ?side3 A2.out).mono ?_); (case side1 => exact qC (Kd.R_reads' HO234.out).2.2); (case side2 => exact (Kd.R_reads' HO234.out).2.1); (case side3 => exact ⟨Go.Proofs.enters_of Try.func45 (by kernel_rfl) rfl, fun W_ hW_ r_ h_ => (impl_always.calls  r_ W_  h_).mono (fun e_ W2_ h2_ => ⟨h2_.1, by first | exact h2_.2 | exact h2_.2.below⟩)⟩); rintro e w13 ⟨rfl, hb⟩; refine ⟨_, rfl, ?_⟩; replace HO234 := Aside0.mk (Kd.R_below (qR HO234.out) hb); replace HB := Aside0.mk (below_step (qB HB.out) hb)))
  go_ret2
  exact ⟨qE, qB HB.out⟩

 rw [if_pos c3] at H
 obtain ⟨c3b0, c3b1⟩ := zT c3
 clear c3
 replace H := qN H
 obtain ⟨t236, A4, H⟩ := H
 try dsimp only at H
 simp only [Option.some.injEq, Prod.mk.injEq] at H
 obtain ⟨rfl, rfl⟩ := H
 go_enter Try.func21, Try.ntmps21
 go_wp2_with (first | ((with_reducible refine gate_dst (N := 6) rfl ?_); refine Kd.R_lit Kd.string _ 9 ?hg (N := 6) ?hd (xs := ([a0] : List ByteArray)) (inner := [.string a0]) (ok := fun _ => True) (okp := fun _ => True) ?hr ?hp (fun _ hk => hk) trivial (Below.refl _ _) (Nat.le_refl _) (by simp) ?_; (case hd => rfl); (case hg => rfl); (case hr => first | (go_simp; done) | (go_simp; rfl)); (case hp => exact (Reps.one (show Kd.M Kd.string _ _ _ a0 [.string a0] from rfl) (Reps.none _ _))); intro v233 w5 ho6 hb hg_ hnew_; clear hg_ hnew_; (first | rw [← Ny232.out] at ho6 | (simp only [Int.reduceToNat] at ho6; rw [← Ny232.out] at ho6)); have HO234 := Aside0.mk (Kd.R_lower ho6 (below_size (qB HB.out))); replace HB := Aside0.mk (below_step (qB HB.out) hb); clear hb ho6; obtain ⟨Ao7, co7, eo7⟩ := Kd.R_slice HO234.out; subst eo7) | ((with_reducible refine gate_callee (f := 44) rfl ?_); refine goesL_ (some 7) rfl rfl Try.func44 (by kernel_rfl) rfl #[.func (.func 45) #[] #[], .slice Ao7 y232.length co7] rfl qV ?_; (with_reducible refine (impl_wordCode.calls k (impl_always.f) 45 #[] _ _ y232 t235 _ ?side1 ?side2 ?side3 A2.out).mono ?_); (case side1 => exact qC (Kd.R_reads' HO234.out).2.2); (case side2 => exact (Kd.R_reads' HO234.out).2.1); (case side3 => exact ⟨Go.Proofs.enters_of Try.func45 (by kernel_rfl) rfl, fun W_ hW_ r_ h_ => (impl_always.calls  r_ W_  h_).mono (fun e_ W2_ h2_ => ⟨h2_.1, by first | exact h2_.2 | exact h2_.2.below⟩)⟩); rintro e w8 ⟨rfl, hb⟩; refine ⟨_, rfl, ?_⟩; replace HO234 := Aside0.mk (Kd.R_below (qR HO234.out) hb); replace HB := Aside0.mk (below_step (qB HB.out) hb)) | ((with_reducible refine gate_callee (f := 46) rfl ?_); refine goesL_ (some 12) rfl rfl Try.func46 (by kernel_rfl) rfl #[.string a0] rfl qV ?_; (with_reducible refine (impl_sortedWord.calls a0 t236 _ A4.out).mono ?_); rintro e w9 ⟨rfl, hb⟩; refine ⟨_, rfl, ?_⟩; replace HO234 := Aside0.mk (Kd.R_below (qR HO234.out) hb); replace HB := Aside0.mk (below_step (qB HB.out) hb)))
 go_ret2
 exact ⟨qE, qB HB.out⟩
end Go.Proofs.Ytippkbjdifmdnaa.PF

namespace Go.Proofs.Ytippkbjdifmdnaa.PF
open Go.RowKit Go.Proofs.YtippkbjdifmdnaaW.PrintWords Go.Proofs.YtippkbjdifmdnaaW.PrintLast Go.Proofs.YtippkbjdifmdnaaW.PrintMore
attribute [local go_sem] max2_int min2_int max_two min_two max_three min_three max_four min_four   -- for this text's walks alone
set_option linter.unusedVariables false
set_option linter.unusedSimpArgs false

/-! ### laws_FnExactSortedWord: function 6 -/
def laws_FnExactSortedWord.f (k : Nat) (a0 : ByteArray) : Option (Bool) := if (a0.size : Int) > 1048576 then (some true) else ((spec_SortedWord.f k a0).bind fun bt237 => ((impl_SortedWord.f k a0).bind fun bt239 => (if bt239.1.toList = bt237.1.toList then (if bt239.2 = bt237.2 then (some true) else (some false)) else (some false))))
theorem laws_FnExactSortedWord.mono : ∀ a0 k, LeO (laws_FnExactSortedWord.f k a0) (laws_FnExactSortedWord.f (k + 1) a0) := by
 intro a0 k
 unfold laws_FnExactSortedWord.f
 with_reducible repeat' first
   | exact impl_SortedWord.mono _ _
   | exact spec_SortedWord.mono _ _
   | exact LeO.refl _
   | exact LeO.none _
   | refine LeO.ite ?_ ?_
   | refine LeO.bind ?_ (fun _ => ?_)
set_option maxHeartbeats 8000000 in
set_option maxRecDepth 100000 in
theorem laws_FnExactSortedWord.calls (k : Nat) (a0 : ByteArray) (r : Bool) (w : World) (h : laws_FnExactSortedWord.f k a0 = some r) :
  Calls Try.prog 6 #[.string a0] w fun e w' => e = .returned (.bool r) ∧ Below w.heap.size w w' := by
 have HB := Aside0.mk (Below.refl w.heap.size w)
 have H : (if (a0.size : Int) > 1048576 then (some true) else ((spec_SortedWord.f k a0).bind fun bt237 => ((impl_SortedWord.f k a0).bind fun bt239 => (if bt239.1.toList = bt237.1.toList then (if bt239.2 = bt237.2 then (some true) else (some false)) else (some false))))) = some r := h
 clear h
 by_cases c2 : (a0.size : Int) > 1048576
 ·
  rw [if_pos c2] at H
  have c2b0 : decide (1048576 < (a0.size : Int)) = true := decide_eq_true c2
  have c2b1 : decide (1048576 < a0.size) = true := decide_eq_true (by omega)
  clear c2
  obtain rfl := Option.some.inj H
  go_enter Try.func6, Try.ntmps6
  go_wp2
  go_ret
  exact ⟨qE, qB HB.out⟩
 rw [if_neg c2] at H
 have c2b0 : decide (1048576 < (a0.size : Int)) = false := decide_eq_false c2
 have c2b1 : decide (1048576 < a0.size) = false := decide_eq_false (by omega)
 clear c2
 replace H := qN H
 obtain ⟨⟨t237, t238⟩, A3, H⟩ := H
 try dsimp only at H
 replace H := qN H
 obtain ⟨⟨t239, t240⟩, A4, H⟩ := H
 try dsimp only at H
 by_cases c5 : t239.toList = t237.toList
 rotate_left
 ·
  rw [if_neg c5] at H
  obtain ⟨c5b0, c5b1⟩ := zF c5
  obtain rfl := Option.some.inj H
  go_enter Try.func6, Try.ntmps6
  go_wp2_with (first | ((with_reducible refine gate_callee (f := 20) rfl ?_); refine goesL_ (some 12) rfl rfl Try.func20 (by kernel_rfl) rfl #[.string a0] rfl qV ?_; (with_reducible refine (spec_SortedWord.calls k a0 t237 t238 _ A3.out).mono ?_); rintro e w11 ⟨rfl, hb⟩; refine ⟨_, rfl, ?_⟩; replace HB := Aside0.mk (below_step (qB HB.out) hb)) | ((with_reducible refine gate_callee (f := 21) rfl ?_); refine goesL_ (some 17) rfl rfl Try.func21 (by kernel_rfl) rfl #[.string a0] rfl qV ?_; (with_reducible refine (impl_SortedWord.calls k a0 t239 t240 _ A4.out).mono ?_); rintro e w12 ⟨rfl, hb⟩; refine ⟨_, rfl, ?_⟩; replace HB := Aside0.mk (below_step (qB HB.out) hb)))
  go_ret
  exact ⟨qE, qB HB.out⟩

 rw [if_pos c5] at H
 obtain ⟨c5b0, c5b1⟩ := zT c5
 clear c5
 by_cases c6 : t240 = t238
 ·
  rw [if_pos c6] at H
  obtain ⟨c6b0, c6b1⟩ := zT c6
  clear c6
  obtain rfl := Option.some.inj H
  go_enter Try.func6, Try.ntmps6
  go_wp2_with (first | ((with_reducible refine gate_callee (f := 20) rfl ?_); refine goesL_ (some 12) rfl rfl Try.func20 (by kernel_rfl) rfl #[.string a0] rfl qV ?_; (with_reducible refine (spec_SortedWord.calls k a0 t237 t238 _ A3.out).mono ?_); rintro e w7 ⟨rfl, hb⟩; refine ⟨_, rfl, ?_⟩; replace HB := Aside0.mk (below_step (qB HB.out) hb)) | ((with_reducible refine gate_callee (f := 21) rfl ?_); refine goesL_ (some 17) rfl rfl Try.func21 (by kernel_rfl) rfl #[.string a0] rfl qV ?_; (with_reducible refine (impl_SortedWord.calls k a0 t239 t240 _ A4.out).mono ?_); rintro e w8 ⟨rfl, hb⟩; refine ⟨_, rfl, ?_⟩; replace HB := Aside0.mk (below_step (qB HB.out) hb)))
  go_ret
  exact ⟨qE, qB HB.out⟩
 rw [if_neg c6] at H
 obtain ⟨c6b0, c6b1⟩ := zF c6
 obtain rfl := Option.some.inj H
 go_enter Try.func6, Try.ntmps6
 go_wp2_with (first | ((with_reducible refine gate_callee (f := 20) rfl ?_); refine goesL_ (some 12) rfl rfl Try.func20 (by kernel_rfl) rfl #[.string a0] rfl qV ?_; (with_reducible refine (spec_SortedWord.calls k a0 t237 t238 _ A3.out).mono ?_); rintro e w9 ⟨rfl, hb⟩; refine ⟨_, rfl, ?_⟩; replace HB := Aside0.mk (below_step (qB HB.out) hb)) | ((with_reducible refine gate_callee (f := 21) rfl ?_); refine goesL_ (some 17) rfl rfl Try.func21 (by kernel_rfl) rfl #[.string a0] rfl qV ?_; (with_reducible refine (impl_SortedWord.calls k a0 t239 t240 _ A4.out).mono ?_); rintro e w10 ⟨rfl, hb⟩; refine ⟨_, rfl, ?_⟩; replace HB := Aside0.mk (below_step (qB HB.out) hb)))
 go_ret
 exact ⟨qE, qB HB.out⟩
/-- THE ONE PURE STATEMENT of laws_FnExactSortedWord: yours. -/
def laws_FnExactSortedWord.Pure : Prop := ∀ (a0 : ByteArray), a0.size ≤ 140737488351232 → ∃ k, laws_FnExactSortedWord.f k a0 = some true
theorem laws_FnExactSortedWord.walk (P : laws_FnExactSortedWord.Pure) (a0 : ByteArray) (w : World) (w0 : a0.size ≤ 140737488351232) :
  Calls Try.prog 6 #[.string a0] w fun e w' => e = .returned (.bool true) ∧ Below w.heap.size w w' := by
 obtain ⟨k, h⟩ := P a0 w0
 refine (laws_FnExactSortedWord.calls k a0 true w h).mono ?_
 rintro e w' ⟨rfl, hd⟩
 exact ⟨rfl, hd⟩

end Go.Proofs.Ytippkbjdifmdnaa.PF
