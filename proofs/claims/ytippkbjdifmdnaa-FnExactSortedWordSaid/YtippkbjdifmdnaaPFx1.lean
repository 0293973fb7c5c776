-- an own text, written by a program of this place (wip/tools)
import Derived.Test.YtippkbjdifmdnaaPFx0
namespace Go.Proofs.Ytippkbjdifmdnaa.PF
open Go.RowKit Go.Proofs.YtippkbjdifmdnaaW.PrintWords Go.Proofs.YtippkbjdifmdnaaW.PrintLast Go.Proofs.YtippkbjdifmdnaaW.PrintMore
attribute [local go_sem] max2_int min2_int max_two min_two max_three min_three max_four min_four   -- for this text's walks alone
set_option linter.unusedVariables false
set_option linter.unusedSimpArgs false

/-! ### spec_SortedWord: function 20 -/
def spec_SortedWord.f (k : Nat) (a0 : ByteArray) : Option (ByteArray × Int) := (spec_l01Is.f k a0).bind fun t112 => (if t112 = true then ((spec_l01Count.f k a0).bind fun t113 => ((spec_l07Sorted.f k t113).bind fun t116 => (some (t116, 0)))) else (some ((⟨#[]⟩ : ByteArray), 1)))
theorem spec_SortedWord.mono : ∀ a0 k, LeO (spec_SortedWord.f k a0) (spec_SortedWord.f (k + 1) a0) := by
 intro a0 k
 unfold spec_SortedWord.f
 with_reducible repeat' first
   | exact spec_l01Count.mono _ _
   | exact spec_l01Is.mono _ _
   | exact spec_l07Sorted.mono _ _
   | exact LeO.refl _
   | exact LeO.none _
   | refine LeO.ite ?_ ?_
   | refine LeO.bind ?_ (fun _ => ?_)
set_option maxHeartbeats 8000000 in
set_option maxRecDepth 100000 in
theorem spec_SortedWord.calls (k : Nat) (a0 : ByteArray) (r1 : ByteArray) (r2 : Int) (w : World) (h : spec_SortedWord.f k a0 = some (r1, r2)) :
  Calls Try.prog 20 #[.string a0] w fun e w' => e = .returned (.tuple #[.string r1, .int .i64 r2]) ∧ Below w.heap.size w w' := by
 have HB := Aside0.mk (Below.refl w.heap.size w)
 have H : ((spec_l01Is.f k a0).bind fun t112 => (if t112 = true then ((spec_l01Count.f k a0).bind fun t113 => ((spec_l07Sorted.f k t113).bind fun t116 => (some (t116, 0)))) else (some ((⟨#[]⟩ : ByteArray), 1)))) = some (r1, r2) := h
 clear h
 replace H := qN H
 obtain ⟨t112, A2, H⟩ := H
 try dsimp only at H
 by_cases c3 : t112 = true
 rotate_left
 ·
  replace c3 := Bool.eq_false_iff.mpr c3
  subst c3
  rw [if_neg (show ¬ (false = true) by decide)] at H
  simp only [Option.some.injEq, Prod.mk.injEq] at H
  obtain ⟨rfl, rfl⟩ := H
  go_enter Try.func20, Try.ntmps20
  go_wp2_with (first | ((with_reducible refine gate_callee (f := 41) rfl ?_); refine goesL_ (some 5) rfl rfl Try.func41 (by kernel_rfl) rfl #[.string a0] rfl qV ?_; (with_reducible refine (spec_l01Is.calls k a0 false _ A2.out).mono ?_); rintro e w' ⟨rfl, ⟨nd, rfl⟩⟩; refine ⟨_, rfl, ?_⟩))
  go_ret2
  exact ⟨qE, qB HB.out⟩

 subst c3
 rw [if_pos rfl] at H
 replace H := qN H
 obtain ⟨t113, A4, H⟩ := H
 try dsimp only at H
 replace H := qN H
 obtain ⟨t116, A5, H⟩ := H
 try dsimp only at H
 simp only [Option.some.injEq, Prod.mk.injEq] at H
 obtain ⟨rfl, rfl⟩ := H
 go_enter Try.func20, Try.ntmps20
 go_wp2_with (first | ((with_reducible refine gate_callee (f := 41) rfl ?_); refine goesL_ (some 5) rfl rfl Try.func41 (by kernel_rfl) rfl #[.string a0] rfl qV ?_; (with_reducible refine (spec_l01Is.calls k a0 true _ A2.out).mono ?_); rintro e w' ⟨rfl, ⟨nd, rfl⟩⟩; refine ⟨_, rfl, ?_⟩) | ((with_reducible refine gate_callee (f := 43) rfl ?_); refine goesL_ (some 8) rfl rfl Try.func43 (by kernel_rfl) rfl #[.string a0] rfl qV ?_; (with_reducible refine (spec_l01Count.calls k a0 t113 _ A4.out).mono ?_); rintro e w6 ⟨v114, rfl, ho0, hb⟩; refine ⟨_, rfl, ?_⟩; have HO115 := Aside0.mk (Kd.R_lower ho0 (below_size (qB HB.out))); replace HB := Aside0.mk (below_step (qB HB.out) hb); obtain ⟨Ao7, co7, eo7⟩ := Kd.R_slice HO115.out; subst eo7) | ((with_reducible refine gate_callee (f := 42) rfl ?_); refine goesL_ (some 9) rfl rfl Try.func42 (by kernel_rfl) rfl #[.slice Ao7 t113.length co7] rfl qV ?_; (with_reducible refine (spec_l07Sorted.calls k _ _ t113 t116 _ ?side1 ?side2 A5.out).mono ?_); (case side1 => exact qC (Kd.R_reads' HO115.out).2.2); (case side2 => exact (Kd.R_reads' HO115.out).2.1); rintro e w8 ⟨rfl, hb⟩; refine ⟨_, rfl, ?_⟩; replace HO115 := Aside0.mk (Kd.R_below (qR HO115.out) hb); replace HB := Aside0.mk (below_step (qB HB.out) hb)))
 go_ret2
 exact ⟨qE, qB HB.out⟩
end Go.Proofs.Ytippkbjdifmdnaa.PF
