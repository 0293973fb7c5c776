-- an own text, written by a program of this place (wip/tools)
import Derived.Test.YtfehmbifcoajeaaGreatPFx0
import Derived.Test.YtfehmbifcoajeaaGreatPFGivY
namespace Go.Proofs.YtfehmbifcoajeaaGreat.PF
open Go.RowKit Go.Proofs.YtfehmbifcoajeaaGreatW.PrintWords Go.Proofs.YtfehmbifcoajeaaGreatW.PrintLast Go.Proofs.YtfehmbifcoajeaaGreatW.PrintMore
attribute [local go_sem] max2_int min2_int max_two min_two max_three min_three max_four min_four   -- for this text's walks alone
set_option linter.unusedVariables false
set_option linter.unusedSimpArgs false

/-! ### impl_WindowOf_2: function 41 -/
def impl_WindowOf_2.f (k : Nat) (a0 : ByteArray) (l1 : List ByteArray) : Option (Bool) := (impl_hasAll.f k a0 l1).bind fun t458 => (some t458)
theorem impl_WindowOf_2.mono : ∀ a0 a1 k, LeO (impl_WindowOf_2.f k a0 a1) (impl_WindowOf_2.f (k + 1) a0 a1) := by
 intro a0 a1 k
 unfold impl_WindowOf_2.f
 with_reducible repeat' first
   | exact impl_hasAll.mono _ _ _
   | exact LeO.refl _
   | exact LeO.none _
   | refine LeO.ite ?_ ?_
   | refine LeO.bind ?_ (fun _ => ?_)
set_option maxHeartbeats 8000000 in
set_option maxRecDepth 100000 in
theorem impl_WindowOf_2.calls (k : Nat) (a0 : ByteArray) (g1 : Nat) (A1 : Option Addr) (c1 : Nat) (l1 : List ByteArray) (r : Bool) (w : World) (hMax : MaxOk w) (hb1 : w.heap[g1]? = some (.cells #[.slice A1 l1.length c1] 26 (0, 0))) (hr1 : Kd.C Kd.string w A1 l1.length l1) (hc1 : l1.length ≤ c1) (h : impl_WindowOf_2.f k a0 l1 = some r) :
  Calls Tryz.prog 41 #[.string a0, .pointer (some ⟨g1, 0, none⟩)] w fun e w' => e = .returned (.bool r) ∧ Below w.heap.size w w' := by
 have BK457 := Aside0.mk hb1
 clear hb1
 have HR1 := Aside0.mk hr1
 have HC1 := Aside0.mk hc1
 clear hr1 hc1
 have HB := Aside0.mk (Below.refl w.heap.size w)
 have HMAX := Aside0.mk hMax
 clear hMax
 have H : ((impl_hasAll.f k a0 l1).bind fun t458 => (some t458)) = some r := h
 clear h
 replace H := qN H
 obtain ⟨t458, A3, H⟩ := H
 try dsimp only at H
 obtain rfl := Option.some.inj H
 have hcz4_0 : w.cell? ⟨g1, 0, none⟩ = some (.slice A1 l1.length c1) := (blk_cell BK457.out 0).trans rfl
 have hfz4_0 := blk_frozen BK457.out 0
 go_enter Tryz.func41, Tryz.ntmps41
 go_wp2_with (first | ((with_reducible refine gate_callee (f := 42) rfl ?_); refine goesL_ (some 6) rfl rfl Tryz.func42 (by kernel_rfl) rfl #[.string a0, .slice A1 l1.length c1] rfl qV ?_; (with_reducible refine (impl_hasAll.calls k a0 _ _ l1 t458 _ ?hMx ?side1 ?side2 A3.out).mono ?_); (case hMx => exact HMAX.out.below (qB HB.out)); (case side1 => exact qC HR1.out); (case side2 => exact HC1.out); rintro e w5 ⟨rfl, hb⟩; refine ⟨_, rfl, ?_⟩; replace BK457 := Aside0.mk (blk_below (g := g1) (o := .cells #[.slice A1 l1.length c1] 26 (0, 0)) (qA BK457.out) hb); replace HB := Aside0.mk (below_step (qG HB.out) hb)))
 go_ret
 exact ⟨qE, qG HB.out⟩

end Go.Proofs.YtfehmbifcoajeaaGreat.PF
