-- an own text, written by a program of this place (wip/tools)
import Derived.Test.YtfehmbifcoajeaaGreatPFx0
import Derived.Test.YtfehmbifcoajeaaGreatPFx1
import Derived.Test.YtfehmbifcoajeaaGreatPFGivA
import Derived.Test.YtfehmbifcoajeaaGreatPFx2
import Derived.Test.YtfehmbifcoajeaaGreatPFx3
namespace Go.Proofs.YtfehmbifcoajeaaGreat.PF
open Go.RowKit Go.Proofs.YtfehmbifcoajeaaGreatW.PrintWords Go.Proofs.YtfehmbifcoajeaaGreatW.PrintLast Go.Proofs.YtfehmbifcoajeaaGreatW.PrintMore
attribute [local go_sem] max2_int min2_int max_two min_two max_three min_three max_four min_four   -- for this text's walks alone
set_option linter.unusedVariables false
set_option linter.unusedSimpArgs false

/-! ### impl_placesFor: function 27 -/
def impl_placesFor.f (k : Nat) (a0 : ByteArray) (a1 : ByteArray) (a2 : Int) : Option (List Int × Int) := (impl_wordCode.f k (impl_placesFor_1.f a1) (([a0, a1] : List ByteArray))).bind fun t300 => (if t300 = 0 then ((impl_places.f k a0 a1).bind fun t301 => (if (t301.length : Int) < a2 then (some (([] : List Int), 4)) else (some (t301, 0)))) else (some (([] : List Int), t300)))
theorem impl_placesFor.mono : ∀ a0 a1 a2 k, LeO (impl_placesFor.f k a0 a1 a2) (impl_placesFor.f (k + 1) a0 a1 a2) := by
 intro a0 a1 a2 k
 unfold impl_placesFor.f
 repeat' first
   | (with_reducible exact impl_places.mono _ _ _)
   | (with_reducible exact LeO.refl _)
   | (with_reducible exact LeO.none _)
   | (with_reducible refine LeO.ite ?_ ?_)
   | (with_reducible refine LeO.bind ?_ (fun _ => ?_))
   | refine impl_wordCode.monoP ?_
set_option maxHeartbeats 8000000 in
set_option maxRecDepth 100000 in
theorem impl_placesFor.calls (k : Nat) (a0 : ByteArray) (a1 : ByteArray) (a2 : Int) (r1 : List Int) (r2 : Int) (w : World) (h : impl_placesFor.f k a0 a1 a2 = some (r1, r2)) :
  Calls Tryz.prog 27 #[.string a0, .string a1, .int .i64 a2] w fun e w' => ∃ v0_ : Value, e = .returned (.tuple #[v0_, .int .i64 r2]) ∧ Kd.R (Kd.int .i64) 2 w' w.heap.size (fun _ => True) v0_ r1 ∧ Below w.heap.size w w' := by
 have HB := Aside0.mk (Below.refl w.heap.size w)
 have H : ((impl_wordCode.f k (impl_placesFor_1.f a1) (([a0, a1] : List ByteArray))).bind fun t300 => (if t300 = 0 then ((impl_places.f k a0 a1).bind fun t301 => (if (t301.length : Int) < a2 then (some (([] : List Int), 4)) else (some (t301, 0)))) else (some (([] : List Int), t300)))) = some (r1, r2) := h
 clear h
 obtain ⟨y297, hy297⟩ : ∃ y_ : List ByteArray, y_ = (([a0, a1] : List ByteArray)) := ⟨_, rfl⟩
 replace H : ((impl_wordCode.f k (impl_placesFor_1.f a1) y297).bind fun t300 => (if t300 = 0 then ((impl_places.f k a0 a1).bind fun t301 => (if (t301.length : Int) < a2 then (some (([] : List Int), 4)) else (some (t301, 0)))) else (some (([] : List Int), t300)))) = some (r1, r2) := by first | (rw [hy297]; with_reducible exact H) | (have H2_ := (Option.bind_some _ _).symm.trans H; rw [hy297]; with_reducible exact H2_) | (have H2_ := (Option.bind_some _ _).symm.trans H; with_reducible exact H2_) | with_reducible exact H | (rw [hy297]; exact H) | exact H
 have Ny297 := Aside0.mk hy297
 clear hy297
 replace H := qN H
 obtain ⟨t300, A4, H⟩ := H
 try dsimp only at H
 by_cases c5 : t300 = 0
 rotate_left
 ·
  rw [if_neg c5] at H
  obtain ⟨c5b0, c5b1⟩ := zF c5
  simp only [Option.some.injEq, Prod.mk.injEq] at H
  obtain ⟨rfl, rfl⟩ := H
  go_enter Tryz.func27, Tryz.ntmps27
  go_wp2_with (first | ((with_reducible refine gate_dst (N := 4) rfl ?_); refine box_event ?hg (N := 4) ?hd (cs := #[.string a1]) (t := 9) ?hr ?_; (case hd => rfl); (case hg => rfl); (case hr => first | (go_simp; done) | (go_simp; rfl)); intro gb296 hg w26 hbox hb; have BK296 := Aside0.mk (hbox); have GW296 := Aside0.mk ((by rw [hg]; exact (below_size (qB HB.out)) : w.heap.size ≤ gb296)); have GE296 := Aside0.mk ((by rw [hg]; exact (below_size (qB HB.out)) : w.heap.size ≤ gb296)); replace HB := Aside0.mk (below_step (qB HB.out) hb); clear hb hbox hg; have hcz27_0 : w26.cell? ⟨gb296, 0, none⟩ = some (.string a1) := (blk_cell BK296.out 0).trans rfl; have hfz27_0 := blk_frozen BK296.out 0) | ((with_reducible refine gate_dst (N := 13) rfl ?_); refine Kd.R_lit Kd.string _ 9 ?hg (N := 13) ?hd (xs := ([a0, a1] : List ByteArray)) (inner := [.string a0, .string a1]) (ok := fun _ => True) (okp := fun _ => True) ?hr ?hp (fun _ hk => hk) trivial (Below.refl _ _) (Nat.le_refl _) (by simp) ?_; (case hd => rfl); (case hg => rfl); (case hr => first | (go_simp; done) | (go_simp; rfl)); (case hp => exact (Reps.one (show Kd.M Kd.string _ _ _ a0 [.string a0] from rfl) (Reps.one (show Kd.M Kd.string _ _ _ a1 [.string a1] from rfl) (Reps.none _ _)))); intro v298 w28 ho29 hb hg_ hnew_; clear hg_ hnew_; (first | rw [← Ny297.out] at ho29 | (simp only [Int.reduceToNat] at ho29; rw [← Ny297.out] at ho29)); have HO299 := Aside0.mk (Kd.R_lower (Kd.R_newB ho29 (g := gb296) (o := .cells #[.string a1] 9 (0, 0)) (qA BK296.out)) (below_size (qG HB.out))); replace BK296 := Aside0.mk (blk_below (g := gb296) (o := .cells #[.string a1] 9 (0, 0)) (qA BK296.out) hb); replace HB := Aside0.mk (below_step (qG HB.out) hb); clear hb ho29; obtain ⟨Ao30, co30, eo30⟩ := Kd.R_slice HO299.out; subst eo30) | ((with_reducible refine gate_callee (f := 32) rfl ?_); refine goesL_ (some 14) rfl rfl Tryz.func32 (by kernel_rfl) rfl #[.func (.func 61) #[] #[.pointer (some ⟨gb296, 0, none⟩)], .slice Ao30 y297.length co30] rfl qV ?_; (with_reducible refine (impl_wordCode.calls k (impl_placesFor_1.f a1) 61 #[.pointer (some ⟨gb296, 0, none⟩)] _ _ y297 t300 _ ?side1 ?side2 ?side3 A4.out).mono ?_); (case side1 => exact qC (Kd.R_reads' HO299.out).2.2); (case side2 => exact (Kd.R_reads' HO299.out).2.1); (case side3 => exact ⟨Go.Proofs.enters_of Tryz.func61 (by kernel_rfl) rfl, fun W_ hW_ r_ h_ => (impl_placesFor_1.calls gb296 a1 r_ W_ (blk_below (g := gb296) (o := .cells #[.string a1] 9 (0, 0)) (qA BK296.out) hW_) h_).mono (fun e_ W2_ h2_ => ⟨h2_.1, by first | exact h2_.2 | exact h2_.2.below⟩)⟩); rintro e w31 ⟨rfl, hb⟩; refine ⟨_, rfl, ?_⟩; replace HO299 := Aside0.mk (Kd.R_below (qR HO299.out) hb); replace BK296 := Aside0.mk (blk_below (g := gb296) (o := .cells #[.string a1] 9 (0, 0)) (qA BK296.out) hb); replace HB := Aside0.mk (below_step (qG HB.out) hb)))
  go_ret2
  exact ⟨_, qE, by first | exact Kd.R_nil _ _ _ _ _ | exact Kd.N_nil _ _ _ _ _ | exact Kd.V_nil _ _ _ _ _ | exact Kd.Q_nil _ _ _ _ _ | exact Kd.S_nil _ _ _ _ _, qG HB.out⟩

 rw [if_pos c5] at H
 obtain ⟨c5b0, c5b1⟩ := zT c5
 clear c5
 replace H := qN H
 obtain ⟨t301, A6, H⟩ := H
 try dsimp only at H
 by_cases c7 : (t301.length : Int) < a2
 ·
  rw [if_pos c7] at H
  have c7b0 : decide ((t301.length : Int) < a2) = true := decide_eq_true c7
  clear c7
  simp only [Option.some.injEq, Prod.mk.injEq] at H
  obtain ⟨rfl, rfl⟩ := H
  go_enter Tryz.func27, Tryz.ntmps27
  go_wp2_with (first | ((with_reducible refine gate_dst (N := 4) rfl ?_); refine box_event ?hg (N := 4) ?hd (cs := #[.string a1]) (t := 9) ?hr ?_; (case hd => rfl); (case hg => rfl); (case hr => first | (go_simp; done) | (go_simp; rfl)); intro gb296 hg w8 hbox hb; have BK296 := Aside0.mk (hbox); have GW296 := Aside0.mk ((by rw [hg]; exact (below_size (qB HB.out)) : w.heap.size ≤ gb296)); have GE296 := Aside0.mk ((by rw [hg]; exact (below_size (qB HB.out)) : w.heap.size ≤ gb296)); replace HB := Aside0.mk (below_step (qB HB.out) hb); clear hb hbox hg; have hcz9_0 : w8.cell? ⟨gb296, 0, none⟩ = some (.string a1) := (blk_cell BK296.out 0).trans rfl; have hfz9_0 := blk_frozen BK296.out 0) | ((with_reducible refine gate_dst (N := 13) rfl ?_); refine Kd.R_lit Kd.string _ 9 ?hg (N := 13) ?hd (xs := ([a0, a1] : List ByteArray)) (inner := [.string a0, .string a1]) (ok := fun _ => True) (okp := fun _ => True) ?hr ?hp (fun _ hk => hk) trivial (Below.refl _ _) (Nat.le_refl _) (by simp) ?_; (case hd => rfl); (case hg => rfl); (case hr => first | (go_simp; done) | (go_simp; rfl)); (case hp => exact (Reps.one (show Kd.M Kd.string _ _ _ a0 [.string a0] from rfl) (Reps.one (show Kd.M Kd.string _ _ _ a1 [.string a1] from rfl) (Reps.none _ _)))); intro v298 w10 ho11 hb hg_ hnew_; clear hg_ hnew_; (first | rw [← Ny297.out] at ho11 | (simp only [Int.reduceToNat] at ho11; rw [← Ny297.out] at ho11)); have HO299 := Aside0.mk (Kd.R_lower (Kd.R_newB ho11 (g := gb296) (o := .cells #[.string a1] 9 (0, 0)) (qA BK296.out)) (below_size (qG HB.out))); replace BK296 := Aside0.mk (blk_below (g := gb296) (o := .cells #[.string a1] 9 (0, 0)) (qA BK296.out) hb); replace HB := Aside0.mk (below_step (qG HB.out) hb); clear hb ho11; obtain ⟨Ao12, co12, eo12⟩ := Kd.R_slice HO299.out; subst eo12) | ((with_reducible refine gate_callee (f := 32) rfl ?_); refine goesL_ (some 14) rfl rfl Tryz.func32 (by kernel_rfl) rfl #[.func (.func 61) #[] #[.pointer (some ⟨gb296, 0, none⟩)], .slice Ao12 y297.length co12] rfl qV ?_; (with_reducible refine (impl_wordCode.calls k (impl_placesFor_1.f a1) 61 #[.pointer (some ⟨gb296, 0, none⟩)] _ _ y297 t300 _ ?side1 ?side2 ?side3 A4.out).mono ?_); (case side1 => exact qC (Kd.R_reads' HO299.out).2.2); (case side2 => exact (Kd.R_reads' HO299.out).2.1); (case side3 => exact ⟨Go.Proofs.enters_of Tryz.func61 (by kernel_rfl) rfl, fun W_ hW_ r_ h_ => (impl_placesFor_1.calls gb296 a1 r_ W_ (blk_below (g := gb296) (o := .cells #[.string a1] 9 (0, 0)) (qA BK296.out) hW_) h_).mono (fun e_ W2_ h2_ => ⟨h2_.1, by first | exact h2_.2 | exact h2_.2.below⟩)⟩); rintro e w13 ⟨rfl, hb⟩; refine ⟨_, rfl, ?_⟩; replace HO299 := Aside0.mk (Kd.R_below (qR HO299.out) hb); replace BK296 := Aside0.mk (blk_below (g := gb296) (o := .cells #[.string a1] 9 (0, 0)) (qA BK296.out) hb); replace HB := Aside0.mk (below_step (qG HB.out) hb); have hcz14_0 : w13.cell? ⟨gb296, 0, none⟩ = some (.string a1) := (blk_cell BK296.out 0).trans rfl; have hfz14_0 := blk_frozen BK296.out 0) | ((with_reducible refine gate_callee (f := 34) rfl ?_); refine goesL_ (some 20) rfl rfl Tryz.func34 (by kernel_rfl) rfl #[.string a0, .string a1] rfl qV ?_; (with_reducible refine (impl_places.calls k a0 a1 t301 _ A6.out).mono ?_); rintro e w15 ⟨v302, rfl, ho0, hb⟩; refine ⟨_, rfl, ?_⟩; replace HO299 := Aside0.mk (Kd.R_below (qR HO299.out) hb); have HO303 := Aside0.mk (Kd.R_lower ho0 (below_size (qG HB.out))); replace BK296 := Aside0.mk (blk_below (g := gb296) (o := .cells #[.string a1] 9 (0, 0)) (qA BK296.out) hb); replace HB := Aside0.mk (below_step (qG HB.out) hb); obtain ⟨Ao16, co16, eo16⟩ := Kd.R_slice HO303.out; subst eo16))
  go_ret2
  exact ⟨_, qE, by first | exact Kd.R_nil _ _ _ _ _ | exact Kd.N_nil _ _ _ _ _ | exact Kd.V_nil _ _ _ _ _ | exact Kd.Q_nil _ _ _ _ _ | exact Kd.S_nil _ _ _ _ _, qG HB.out⟩
 rw [if_neg c7] at H
 have c7b0 : decide ((t301.length : Int) < a2) = false := decide_eq_false c7
 clear c7
 simp only [Option.some.injEq, Prod.mk.injEq] at H
 obtain ⟨rfl, rfl⟩ := H
 go_enter Tryz.func27, Tryz.ntmps27
 go_wp2_with (first | ((with_reducible refine gate_dst (N := 4) rfl ?_); refine box_event ?hg (N := 4) ?hd (cs := #[.string a1]) (t := 9) ?hr ?_; (case hd => rfl); (case hg => rfl); (case hr => first | (go_simp; done) | (go_simp; rfl)); intro gb296 hg w17 hbox hb; have BK296 := Aside0.mk (hbox); have GW296 := Aside0.mk ((by rw [hg]; exact (below_size (qB HB.out)) : w.heap.size ≤ gb296)); have GE296 := Aside0.mk ((by rw [hg]; exact (below_size (qB HB.out)) : w.heap.size ≤ gb296)); replace HB := Aside0.mk (below_step (qB HB.out) hb); clear hb hbox hg; have hcz18_0 : w17.cell? ⟨gb296, 0, none⟩ = some (.string a1) := (blk_cell BK296.out 0).trans rfl; have hfz18_0 := blk_frozen BK296.out 0) | ((with_reducible refine gate_dst (N := 13) rfl ?_); refine Kd.R_lit Kd.string _ 9 ?hg (N := 13) ?hd (xs := ([a0, a1] : List ByteArray)) (inner := [.string a0, .string a1]) (ok := fun _ => True) (okp := fun _ => True) ?hr ?hp (fun _ hk => hk) trivial (Below.refl _ _) (Nat.le_refl _) (by simp) ?_; (case hd => rfl); (case hg => rfl); (case hr => first | (go_simp; done) | (go_simp; rfl)); (case hp => exact (Reps.one (show Kd.M Kd.string _ _ _ a0 [.string a0] from rfl) (Reps.one (show Kd.M Kd.string _ _ _ a1 [.string a1] from rfl) (Reps.none _ _)))); intro v298 w19 ho20 hb hg_ hnew_; clear hg_ hnew_; (first | rw [← Ny297.out] at ho20 | (simp only [Int.reduceToNat] at ho20; rw [← Ny297.out] at ho20)); have HO299 := Aside0.mk (Kd.R_lower (Kd.R_newB ho20 (g := gb296) (o := .cells #[.string a1] 9 (0, 0)) (qA BK296.out)) (below_size (qG HB.out))); replace BK296 := Aside0.mk (blk_below (g := gb296) (o := .cells #[.string a1] 9 (0, 0)) (qA BK296.out) hb); replace HB := Aside0.mk (below_step (qG HB.out) hb); clear hb ho20; obtain ⟨Ao21, co21, eo21⟩ := Kd.R_slice HO299.out; subst eo21) | ((with_reducible refine gate_callee (f := 32) rfl ?_); refine goesL_ (some 14) rfl rfl Tryz.func32 (by kernel_rfl) rfl #[.func (.func 61) #[] #[.pointer (some ⟨gb296, 0, none⟩)], .slice Ao21 y297.length co21] rfl qV ?_; (with_reducible refine (impl_wordCode.calls k (impl_placesFor_1.f a1) 61 #[.pointer (some ⟨gb296, 0, none⟩)] _ _ y297 t300 _ ?side1 ?side2 ?side3 A4.out).mono ?_); (case side1 => exact qC (Kd.R_reads' HO299.out).2.2); (case side2 => exact (Kd.R_reads' HO299.out).2.1); (case side3 => exact ⟨Go.Proofs.enters_of Tryz.func61 (by kernel_rfl) rfl, fun W_ hW_ r_ h_ => (impl_placesFor_1.calls gb296 a1 r_ W_ (blk_below (g := gb296) (o := .cells #[.string a1] 9 (0, 0)) (qA BK296.out) hW_) h_).mono (fun e_ W2_ h2_ => ⟨h2_.1, by first | exact h2_.2 | exact h2_.2.below⟩)⟩); rintro e w22 ⟨rfl, hb⟩; refine ⟨_, rfl, ?_⟩; replace HO299 := Aside0.mk (Kd.R_below (qR HO299.out) hb); replace BK296 := Aside0.mk (blk_below (g := gb296) (o := .cells #[.string a1] 9 (0, 0)) (qA BK296.out) hb); replace HB := Aside0.mk (below_step (qG HB.out) hb); have hcz23_0 : w22.cell? ⟨gb296, 0, none⟩ = some (.string a1) := (blk_cell BK296.out 0).trans rfl; have hfz23_0 := blk_frozen BK296.out 0) | ((with_reducible refine gate_callee (f := 34) rfl ?_); refine goesL_ (some 20) rfl rfl Tryz.func34 (by kernel_rfl) rfl #[.string a0, .string a1] rfl qV ?_; (with_reducible refine (impl_places.calls k a0 a1 t301 _ A6.out).mono ?_); rintro e w24 ⟨v302, rfl, ho0, hb⟩; refine ⟨_, rfl, ?_⟩; replace HO299 := Aside0.mk (Kd.R_below (qR HO299.out) hb); have HO303 := Aside0.mk (Kd.R_lower ho0 (below_size (qG HB.out))); replace BK296 := Aside0.mk (blk_below (g := gb296) (o := .cells #[.string a1] 9 (0, 0)) (qA BK296.out) hb); replace HB := Aside0.mk (below_step (qG HB.out) hb); obtain ⟨Ao25, co25, eo25⟩ := Kd.R_slice HO303.out; subst eo25))
 go_ret2
 exact ⟨_, qE, qR HO303.out, qG HB.out⟩
end Go.Proofs.YtfehmbifcoajeaaGreat.PF

namespace Go.Proofs.YtfehmbifcoajeaaGreat.PF
open Go.RowKit Go.Proofs.YtfehmbifcoajeaaGreatW.PrintWords Go.Proofs.YtfehmbifcoajeaaGreatW.PrintLast Go.Proofs.YtfehmbifcoajeaaGreatW.PrintMore
attribute [local go_sem] max2_int min2_int max_two min_two max_three min_three max_four min_four   -- for this text's walks alone
set_option linter.unusedVariables false
set_option linter.unusedSimpArgs false

/-! ### impl_GapsOf: function 8 -/
def impl_GapsOf.l0 : Nat → List Int → List Int → Int → Option (List Int × Int)
 | 0, _, _, _ => none
 | k + 1, x6, x8, x9 => if x9 < (x6.length : Int) then (if 0 ≤ x9 then (if 0 ≤ (wrap64 (x9 - 1)) then (if (wrap64 (x9 - 1)) < (x6.length : Int) then (if x8.length < 17592186044416 then (impl_GapsOf.l0 k x6 (x8 ++ [wrap64 ((rd x6 x9) - (rd x6 (wrap64 (x9 - 1))))]) (wrap64 (x9 + 1))) else (none)) else (none)) else (none)) else (none)) else (some (x8, 0))
def impl_GapsOf.f (k : Nat) (a0 : ByteArray) (a1 : ByteArray) : Option (List Int × Int) := (impl_placesFor.f k a0 a1 1).bind fun bt378 => (if bt378.2 = 0 then (impl_GapsOf.l0 k bt378.1 ([] : List Int) 1) else (some (([] : List Int), bt378.2)))
theorem impl_GapsOf.mono_l : ∀ k, (∀ y0 y1 y2, LeO (impl_GapsOf.l0 k y0 y1 y2) (impl_GapsOf.l0 (k + 1) y0 y1 y2))
 | 0 => fun _ _ _ r h => by simp [impl_GapsOf.l0] at h
 | k + 1 => by
  have ih0 := impl_GapsOf.mono_l k
  ·
   intro y0 y1 y2
   unfold impl_GapsOf.l0
   with_reducible repeat' first
   | exact ih0 _ _ _
   | exact impl_placesFor.mono _ _ _ _
   | exact LeO.refl _
   | exact LeO.none _
   | refine LeO.ite ?_ ?_
   | refine LeO.bind ?_ (fun _ => ?_)
theorem impl_GapsOf.mono : ∀ a0 a1 k, LeO (impl_GapsOf.f k a0 a1) (impl_GapsOf.f (k + 1) a0 a1) := by
 intro a0 a1 k
 have ih0 := impl_GapsOf.mono_l k
 unfold impl_GapsOf.f
 with_reducible repeat' first
   | exact ih0 _ _ _
   | exact impl_placesFor.mono _ _ _ _
   | exact LeO.refl _
   | exact LeO.none _
   | refine LeO.ite ?_ ?_
   | refine LeO.bind ?_ (fun _ => ?_)
def impl_GapsOf.T8 : Bool × List (List Nat × List Nat) := (true, [([], []), ([], []), ([], []), ([1, 2], [1, 2]), ([3], [3]), ([], []), ([], []), ([6], [6]), ([5, 7], [5, 7]), ([8], [8]), ([4, 9], [4, 9]), ([10], [10]), ([0, 11], [0, 11]), ([12, 12, 0, 1, 2, 3, 4, 5, 6, 7, 8, 9, 10, 11, 12], [0, 12])])
def impl_GapsOf.B8 : List Nat := [0, 0, 0, 6, 14, 0, 0, 64, 224, 480, 1022, 2046, 4095, 8191]
theorem impl_GapsOf.tab8 : rtab .any (opsOf Tryz.f8 8) = impl_GapsOf.T8 := by kernel_rfl
theorem impl_GapsOf.bits8 : waitsOk impl_GapsOf.T8.2 impl_GapsOf.B8 = true := by kernel_rfl
set_option maxHeartbeats 8000000 in
set_option maxRecDepth 100000 in
theorem impl_GapsOf.calls (k : Nat) (a0 : ByteArray) (a1 : ByteArray) (r1 : List Int) (r2 : Int) (w : World) (h : impl_GapsOf.f k a0 a1 = some (r1, r2)) :
  Calls Tryz.prog 8 #[.string a0, .string a1] w fun e w' => ∃ v0_ : Value, e = .returned (.tuple #[v0_, .int .i64 r2]) ∧ Kd.R (Kd.int .i64) 2 w' w.heap.size (fun _ => True) v0_ r1 ∧ Below w.heap.size w w' := by
 have HB := Aside0.mk (Below.refl w.heap.size w)
 have H : ((impl_placesFor.f k a0 a1 1).bind fun bt378 => (if bt378.2 = 0 then (impl_GapsOf.l0 k bt378.1 ([] : List Int) 1) else (some (([] : List Int), bt378.2)))) = some (r1, r2) := h
 clear h
 replace H := qN H
 obtain ⟨⟨t378, t379⟩, A3, H⟩ := H
 try dsimp only at H
 by_cases c4 : t379 = 0
 rotate_left
 ·
  rw [if_neg c4] at H
  obtain ⟨c4b0, c4b1⟩ := zF c4
  simp only [Option.some.injEq, Prod.mk.injEq] at H
  obtain ⟨rfl, rfl⟩ := H
  go_enter Tryz.func8, Tryz.ntmps8
  go_wp2_with (first | ((with_reducible refine gate_callee (f := 27) rfl ?_); refine goesL_ (some 13) rfl rfl Tryz.func27 (by kernel_rfl) rfl #[.string a0, .string a1, .int .i64 1] rfl qV ?_; (with_reducible refine (impl_placesFor.calls k a0 a1 1 t378 t379 _ A3.out).mono ?_); rintro e w16 ⟨v380, rfl, ho0, hb⟩; refine ⟨_, rfl, ?_⟩; have HO381 := Aside0.mk (Kd.R_lower ho0 (below_size (qB HB.out))); replace HB := Aside0.mk (below_step (qB HB.out) hb)))
  go_ret2
  exact ⟨_, qE, by first | exact Kd.R_nil _ _ _ _ _ | exact Kd.N_nil _ _ _ _ _ | exact Kd.V_nil _ _ _ _ _ | exact Kd.Q_nil _ _ _ _ _ | exact Kd.S_nil _ _ _ _ _, qB HB.out⟩

 rw [if_pos c4] at H
 obtain ⟨c4b0, c4b1⟩ := zT c4
 clear c4
 have H' := Aside0.mk H
 clear H
 go_enter Tryz.func8, Tryz.ntmps8
 go_wp2_with (first | ((with_reducible refine gate_callee (f := 27) rfl ?_); refine goesL_ (some 13) rfl rfl Tryz.func27 (by kernel_rfl) rfl #[.string a0, .string a1, .int .i64 1] rfl qV ?_; (with_reducible refine (impl_placesFor.calls k a0 a1 1 t378 t379 _ A3.out).mono ?_); rintro e w5 ⟨v380, rfl, ho0, hb⟩; refine ⟨_, rfl, ?_⟩; have HO381 := Aside0.mk (Kd.R_lower ho0 (below_size (qB HB.out))); replace HB := Aside0.mk (below_step (qB HB.out) hb)))
 go_loopg [8, 9] k (fun kq v8 v9 w' => ∃ (x8_1 : List Int) (x9_1 : Int), v9 = .int .i64 x9_1 ∧ Aside0 (impl_GapsOf.l0 kq t378 x8_1 x9_1 = some (r1, r2)) ∧ Aside0 (kq ≤ k) ∧ Aside0 (Kd.R (Kd.int .i64) 2 w' w.heap.size (fun k_ => some k_ ≠ (v8 : Value).ownBlock) v380 t378) ∧ Aside0 (Kd.R (Kd.int .i64) 2 w' w.heap.size (fun k_ => some k_ ≠ (v380 : Value).ownBlock) v8 x8_1) ∧ Aside0 (Below w.heap.size w w'))
 case atStart => exact ⟨(([] : List Int)), (1), qF, H', ⟨Nat.le_refl _⟩, ⟨by (with_reducible repeat (first | apply Kd.R_alloc | apply Kd.R_drewN | apply Kd.R_drew)); exact Kd.R_mono HO381.out (fun _ hk => (by simp [Value.ownBlock]))⟩, ⟨by first | exact Kd.R_nil _ _ _ _ _ | exact Kd.N_nil _ _ _ _ _ | exact Kd.V_nil _ _ _ _ _ | exact Kd.Q_nil _ _ _ _ _ | exact Kd.S_nil _ _ _ _ _⟩, ⟨qB HB.out⟩⟩
 case round =>
  clear H'
  obtain ⟨x8_1, x9_1, rfl, HA, HK1, HO_6, HO_8, HB⟩ := hrel
  cases gk with
  | zero => exact absurd HA.out (by simp [impl_GapsOf.l0])
  | succ k1 =>
   have H := HA.out
   clear HA
   simp only [impl_GapsOf.l0] at H
   by_cases c6 : x9_1 < (t378.length : Int)
   rotate_left
   ·
    rw [if_neg c6] at H
    have c6b0 : decide (x9_1 < (t378.length : Int)) = false := decide_eq_false c6
    clear c6
    simp only [Option.some.injEq, Prod.mk.injEq] at H
    obtain ⟨rfl, rfl⟩ := H
    obtain ⟨Ao15, co15, eo15⟩ := Kd.R_slice HO_6.out
    subst eo15
    go_wp2
    go_ret2
    exact ⟨_, qE, by (with_reducible repeat (first | apply Kd.R_alloc | apply Kd.R_drewN | apply Kd.R_drew)); exact Kd.R_mono HO_8.out (fun _ hk => trivial), qB HB.out⟩
   rw [if_pos c6] at H
   have c6b0 : decide (x9_1 < (t378.length : Int)) = true := decide_eq_true c6
   clear c6
   by_cases c7 : 0 ≤ x9_1
   rotate_left
   ·
    rw [if_neg c7] at H
    exact absurd H (by simp)
   rw [if_pos c7] at H
   have c7b0 : decide (0 ≤ x9_1) = true := decide_eq_true c7
   clear c7
   obtain ⟨ji8, hji8⟩ : ∃ j_ : Int, (wrap64 (x9_1 - 1)) = j_ := ⟨_, rfl⟩
   replace H : (if 0 ≤ (ji8) then (if (ji8) < (t378.length : Int) then (if x8_1.length < 17592186044416 then (impl_GapsOf.l0 k1 t378 (x8_1 ++ [wrap64 ((rd t378 x9_1) - (rd t378 (ji8)))]) (wrap64 (x9_1 + 1))) else (none)) else (none)) else (none)) = some (r1, r2) := by first | (rw [hji8] at H; exact H) | (simp only [hji8] at H ⊢; exact H)
   have hji8w : (IntKind.i64.wrap (x9_1 - 1)) = ji8 := (i64_w _).trans hji8
   by_cases c9 : 0 ≤ (ji8)
   rotate_left
   ·
    rw [if_neg c9] at H
    exact absurd H (by simp)
   rw [if_pos c9] at H
   have c9b0 : decide (0 ≤ (ji8)) = true := decide_eq_true c9
   clear c9
   by_cases c10 : (ji8) < (t378.length : Int)
   rotate_left
   ·
    rw [if_neg c10] at H
    exact absurd H (by simp)
   rw [if_pos c10] at H
   have c10b0 : decide ((ji8) < (t378.length : Int)) = true := decide_eq_true c10
   clear c10
   by_cases c11 : x8_1.length < 17592186044416
   rotate_left
   ·
    rw [if_neg c11] at H
    exact absurd H (by simp)
   rw [if_pos c11] at H
   have LMc11 := Aside0.mk c11
   clear c11
   obtain ⟨y384, hy384⟩ : ∃ y_ : List Int, y_ = (x8_1 ++ [wrap64 ((rd t378 x9_1) - (rd t378 (ji8)))]) := ⟨_, rfl⟩
   replace H : (impl_GapsOf.l0 k1 t378 y384 (wrap64 (x9_1 + 1))) = some (r1, r2) := by first | (rw [hy384]; with_reducible exact H) | (have H2_ := (Option.bind_some _ _).symm.trans H; rw [hy384]; with_reducible exact H2_) | (have H2_ := (Option.bind_some _ _).symm.trans H; with_reducible exact H2_) | with_reducible exact H | (rw [hy384]; exact H) | exact H
   have Ny384 := Aside0.mk hy384
   clear hy384
   have H' := Aside0.mk H
   clear H
   obtain ⟨Ao12, co12, eo12⟩ := Kd.R_slice HO_6.out
   subst eo12
   try go_wp2
   have n0_ := Aside0.mk (Kd.R_drew HO_6.out)
   have n1_ := Aside0.mk (Kd.R_drew HO_8.out)
   have n2_ := Aside0.mk (below_drew1 HB.out)
   clear HO_6
   clear HO_8
   clear HB
   have HO_6 := n0_
   have HO_8 := n1_
   have HB := n2_
   clear n0_ n1_ n2_
   have p382 : 0 ≤ (x9_1 : Int) := of_decide_eq_true (by first | (with_reducible assumption) | assumption)
   have q382 : x9_1 < (t378.length : Int) := of_decide_eq_true (by first | (with_reducible assumption) | assumption)
   obtain ⟨ad382, e382, hx382_0⟩ := Kd.at_int (Kd.R_reads' HO_6.out).2.2 x9_1 p382 q382
   cases e382
   replace p382 := eq_true p382
   replace q382 := eq_true q382
   have p383 : 0 ≤ ((ji8) : Int) := of_decide_eq_true (by first | (with_reducible assumption) | assumption)
   have q383 : (ji8) < (t378.length : Int) := of_decide_eq_true (by first | (with_reducible assumption) | assumption)
   obtain ⟨ad383, e383, hx383_0⟩ := Kd.at_int (Kd.R_reads' HO_6.out).2.2 (ji8) p383 q383
   obtain rfl : ad382 = ad383 := (by injection e383)
   replace p383 := eq_true p383
   replace q383 := eq_true q383
   refine start_ (n := 14) (S := fun w' => w'.cell? (ad382.add (x9_1).toNat) = some (.int .i64 (rd t378 x9_1)) ∧ w'.cell? (ad382.add ((ji8)).toNat) = some (.int .i64 (rd t378 (ji8)))) (ds := [11, 12]) #[false, false, false, false, false, false, false, false, false, false, false, false, false, false] (by kernel_rfl) rfl rfl ⟨hx382_0, hx383_0⟩ (fun hHeld => ?_); refine with_tabW impl_GapsOf.tab8 impl_GapsOf.bits8 (fun HT_ HW_ => ?_)
   generalize wr.drew = w13 at HO_6 HO_8 HB hx382_0 hx383_0 hHeld ⊢
   refine pure_ (i := 0) (N := some 25) (v := ?_) (a' := ?_) #[true, false, false, false, false, false, false, false, false, false, false, false, false, false] rfl rfl (any_of HT_.out (by kernel_rfl)) (fun _ _ _ h => h) (Or.inl ⟨by rfl, ?_⟩) ?_ ?_
   rotate_left
   ·
    intro w'
    go_simp
    with_reducible rfl
   rotate_left
   ·
    simp only [Act.put, List.setIfInBounds_toArray, List.set_cons_zero, List.set_cons_succ, i64_w, i32_w]
    rfl
   refine pure_ (i := 1) (N := some 26) (v := ?_) (a' := ?_) #[true, true, false, false, false, false, false, false, false, false, false, false, false, false] rfl rfl (any_of HT_.out (by kernel_rfl)) (fun _ _ _ h => h) (Or.inl ⟨by rfl, ?_⟩) ?_ ?_
   rotate_left
   ·
    intro w'
    go_simp
    with_reducible rfl
   rotate_left
   ·
    simp only [Act.put, List.setIfInBounds_toArray, List.set_cons_zero, List.set_cons_succ, i64_w, i32_w]
    rfl
   refine pure_ (i := 2) (N := some 27) (v := ?_) (a' := ?_) #[true, true, true, false, false, false, false, false, false, false, false, false, false, false] rfl rfl (any_of HT_.out (by kernel_rfl)) (fun _ _ _ h => h) (Or.inl ⟨by rfl, ?_⟩) ?_ ?_
   rotate_left
   ·
    intro w'
    go_simp
    with_reducible rfl
   rotate_left
   ·
    simp only [Act.put, List.setIfInBounds_toArray, List.set_cons_zero, List.set_cons_succ, i64_w, i32_w]
    rfl
   refine pure_ (i := 3) (N := some 28) (v := ?_) (a' := ?_) #[true, true, true, true, false, false, false, false, false, false, false, false, false, false] rfl rfl (any_of HT_.out (by kernel_rfl)) (fun _ _ _ h => h) (Or.inl ⟨by rfl, ?_⟩) ?_ ?_
   rotate_left
   ·
    intro w'
    go_simp
    with_reducible rfl
   rotate_left
   ·
    simp only [Act.put, List.setIfInBounds_toArray, List.set_cons_zero, List.set_cons_succ, i64_w, i32_w]
    rfl
   refine pure_ (i := 5) (N := some 30) (v := ?_) (a' := ?_) #[true, true, true, true, false, true, false, false, false, false, false, false, false, false] rfl rfl (any_of HT_.out (by kernel_rfl)) (fun _ _ _ h => h) (Or.inl ⟨by rfl, ?_⟩) ?_ ?_
   rotate_left
   ·
    intro w'
    go_simp
    with_reducible rfl
   rotate_left
   ·
    simp only [Act.put, List.setIfInBounds_toArray, List.set_cons_zero, List.set_cons_succ, i64_w, i32_w]
    rfl
   refine pure_ (i := 6) (N := some 31) (v := ?_) (a' := ?_) #[true, true, true, true, false, true, true, false, false, false, false, false, false, false] rfl rfl (any_of HT_.out (by kernel_rfl)) (fun _ _ _ h => h) (Or.inl ⟨by rfl, ?_⟩) ?_ ?_
   rotate_left
   ·
    intro w'
    go_simp
    with_reducible rfl
   rotate_left
   ·
    simp only [Act.put, List.setIfInBounds_toArray, List.set_cons_zero, List.set_cons_succ, i64_w, i32_w]
    rfl
   refine pure_ (i := 7) (N := some 32) (v := ?_) (a' := ?_) #[true, true, true, true, false, true, true, true, false, false, false, false, false, false] rfl rfl (any_of HT_.out (by kernel_rfl)) (fun _ _ _ h => h) (Or.inl ⟨by rfl, ?_⟩) ?_ ?_
   rotate_left
   ·
    intro w'
    go_simp
    with_reducible rfl
   rotate_left
   ·
    simp only [Act.put, List.setIfInBounds_toArray, List.set_cons_zero, List.set_cons_succ, i64_w, i32_w]
    rfl
   refine pure_ (i := 8) (N := some 33) (v := ?_) (a' := ?_) #[true, true, true, true, false, true, true, true, true, false, false, false, false, false] rfl rfl (any_of HT_.out (by kernel_rfl)) (fun _ _ _ h => h) (Or.inl ⟨by rfl, ?_⟩) ?_ ?_
   rotate_left
   ·
    intro w'
    go_simp
    with_reducible rfl
   rotate_left
   ·
    simp only [Act.put, List.setIfInBounds_toArray, List.set_cons_zero, List.set_cons_succ, i64_w, i32_w]
    rfl
   refine take_ (i := 4) (N := some 29) (v := ?_) (a' := ?_) #[true, true, true, true, true, true, true, true, true, false, false, false, false, false] rfl rfl (take_ofW HT_.out HW_.out (by kernel_rfl)) (fun _ _ _ h => h) (Or.inl ⟨by rfl, ?_⟩) hHeld ?_ ?_
   rotate_left
   ·
    rintro w' ⟨s0, s1⟩
    go_simp
    with_reducible rfl
   rotate_left
   ·
    simp only [Act.put, List.setIfInBounds_toArray, List.set_cons_zero, List.set_cons_succ, i64_w, i32_w]
    rfl
   refine take_ (i := 9) (N := some 34) (v := ?_) (a' := ?_) #[true, true, true, true, true, true, true, true, true, true, false, false, false, false] rfl rfl (take_ofW HT_.out HW_.out (by kernel_rfl)) (fun _ _ _ h => h) (Or.inl ⟨by rfl, ?_⟩) hHeld ?_ ?_
   rotate_left
   ·
    rintro w' ⟨s0, s1⟩
    go_simp
    with_reducible rfl
   rotate_left
   ·
    simp only [Act.put, List.setIfInBounds_toArray, List.set_cons_zero, List.set_cons_succ, i64_w, i32_w]
    rfl
   refine pure_ (i := 10) (N := some 35) (v := ?_) (a' := ?_) #[true, true, true, true, true, true, true, true, true, true, true, false, false, false] rfl rfl (any_of HT_.out (by kernel_rfl)) (fun _ _ _ h => h) (Or.inl ⟨by rfl, ?_⟩) ?_ ?_
   rotate_left
   ·
    intro w'
    go_simp
    with_reducible rfl
   rotate_left
   ·
    simp only [Act.put, List.setIfInBounds_toArray, List.set_cons_zero, List.set_cons_succ, i64_w, i32_w]
    rfl
   refine last_ (i := 11) (N := some 36) #[true, true, true, true, true, true, true, true, true, true, true, true, false, false] rfl rfl (one_of HT_.out (by kernel_rfl)) (by decide) (fun K hK => ?_)
   refine value_ (w1 := ?_) (v := ?_) (by rfl) rfl ?_ ?_
   rotate_left 2
   ·
    go_simp
    constructor
    ·
     rfl
    ·
     rfl
   refine hK.out _ _ ?_
   clear hK K
   refine norm_ (a' := ?_) ?_ ?_
   rotate_left
   ·
    show Act.put _ (some 36) _ = _
    simp only [Act.put, List.setIfInBounds_toArray, List.set_cons_zero, List.set_cons_succ, i64_w, i32_w]
    rfl
   refine last_ (i := 12) (N := some 37) #[true, true, true, true, true, true, true, true, true, true, true, true, true, false] rfl rfl (one_of HT_.out (by kernel_rfl)) (by decide) (fun K hK => ?_)
   refine Kd.R_append_step (Kd.int .i64) (w0 := w) w.heap.size (by rfl) (.tmp 25) (.tmp 36) 29 2 (.int .i64 0) 8 rfl Tryz.underlying29 info2 rfl (by decide) (by omega) u8 x8_1 (wrap64 ((rd t378 x9_1) - (rd t378 (ji8)))) [.int .i64 (wrap64 ((rd t378 x9_1) - (rd t378 (ji8))))] (fun k_ => some k_ ≠ (.slice (some ad382) t378.length co12 : Value).ownBlock) (fun _ => False) rfl rfl ?aP (fun _ hk => hk.elim) ?aF ?aO ?aB ?aS ?aL ?_
   (case aP => exact rfl)
   (case aB => exact (qB HB.out))
   (case aF => exact (fun k_ hk => Kd.fresh' (Kd.R_lt (qR HO_6.out)) k_ hk))
   (case aO => exact (qR HO_8.out))
   (case aS => exact (below_size (qB HB.out)))
   (case aL => have := LMc11.out; omega)
   intro v385 w14 ho hb hg hat
   rw [← Ny384.out] at ho
   have n0_ := Aside0.mk (Kd.R_after (ok := (fun _ => True)) (by (with_reducible repeat (first | apply Kd.R_alloc | apply Kd.R_drewN | apply Kd.R_drew)); exact Kd.R_mono HO_6.out (fun _ hk => ⟨trivial, hk⟩)) hg hat)
   have n1_ := Aside0.mk (hb)
   have n2_ := Aside0.mk (ho)
   clear HO_6
   clear HB
   clear HO_8
   have HO_6 := n0_
   have HB := n1_
   have HO386 := n2_
   clear n0_ n1_ n2_
   clear ho hb hg hat
   refine hK.out _ _ ?_
   clear hK K
   refine norm_ (a' := ?_) ?_ ?_
   rotate_left
   ·
    show Act.put _ (some 37) _ = _
    simp only [Act.put, List.setIfInBounds_toArray, List.set_cons_zero, List.set_cons_succ, i64_w, i32_w]
    rfl
   refine pure_ (i := 13) (N := some 8) (v := ?_) (a' := ?_) #[true, true, true, true, true, true, true, true, true, true, true, true, true, true] rfl rfl (any_of HT_.out (by kernel_rfl)) (fun _ _ _ h => h) (Or.inl ⟨by rfl, ?_⟩) ?_ ?_
   rotate_left
   ·
    intro w'
    go_simp
    with_reducible rfl
   rotate_left
   ·
    simp only [Act.put, List.setIfInBounds_toArray, List.set_cons_zero, List.set_cons_succ, i64_w, i32_w]
    rfl
   refine done_ (done_of HT_.out (by kernel_rfl)) ?_
   try go_wp2
   go_roundg k1
   case measure => have := HK1.out; omega
   case rel => exact ⟨(y384), (wrap64 (x9_1 + 1)), qF, H', ⟨by have := HK1.out; omega⟩, ⟨by (with_reducible repeat (first | apply Kd.R_alloc | apply Kd.R_drewN | apply Kd.R_drew)); exact Kd.R_mono HO_6.out (fun _ hk => hk.2)⟩, ⟨qR HO386.out⟩, ⟨qB HB.out⟩⟩
end Go.Proofs.YtfehmbifcoajeaaGreat.PF

namespace Go.Proofs.YtfehmbifcoajeaaGreat.PF
open Go.RowKit Go.Proofs.YtfehmbifcoajeaaGreatW.PrintWords Go.Proofs.YtfehmbifcoajeaaGreatW.PrintLast Go.Proofs.YtfehmbifcoajeaaGreatW.PrintMore
attribute [local go_sem] max2_int min2_int max_two min_two max_three min_three max_four min_four   -- for this text's walks alone
set_option linter.unusedVariables false
set_option linter.unusedSimpArgs false

/-! ### impl_PlacesOf: function 12 -/
def impl_PlacesOf.f (k : Nat) (a0 : ByteArray) (a1 : ByteArray) : Option (List Int × Int) := (impl_wordCode.f k (impl_always.f) (([a0, a1] : List ByteArray))).bind fun t406 => (if t406 = 0 then ((impl_places.f k a0 a1).bind fun t407 => (some (t407, 0))) else (some (([] : List Int), t406)))
theorem impl_PlacesOf.mono : ∀ a0 a1 k, LeO (impl_PlacesOf.f k a0 a1) (impl_PlacesOf.f (k + 1) a0 a1) := by
 intro a0 a1 k
 unfold impl_PlacesOf.f
 repeat' first
   | (with_reducible exact impl_places.mono _ _ _)
   | (with_reducible exact LeO.refl _)
   | (with_reducible exact LeO.none _)
   | (with_reducible refine LeO.ite ?_ ?_)
   | (with_reducible refine LeO.bind ?_ (fun _ => ?_))
   | refine impl_wordCode.monoP ?_
set_option maxHeartbeats 8000000 in
set_option maxRecDepth 100000 in
theorem impl_PlacesOf.calls (k : Nat) (a0 : ByteArray) (a1 : ByteArray) (r1 : List Int) (r2 : Int) (w : World) (h : impl_PlacesOf.f k a0 a1 = some (r1, r2)) :
  Calls Tryz.prog 12 #[.string a0, .string a1] w fun e w' => ∃ v0_ : Value, e = .returned (.tuple #[v0_, .int .i64 r2]) ∧ Kd.R (Kd.int .i64) 2 w' w.heap.size (fun _ => True) v0_ r1 ∧ Below w.heap.size w w' := by
 have HB := Aside0.mk (Below.refl w.heap.size w)
 have H : ((impl_wordCode.f k (impl_always.f) (([a0, a1] : List ByteArray))).bind fun t406 => (if t406 = 0 then ((impl_places.f k a0 a1).bind fun t407 => (some (t407, 0))) else (some (([] : List Int), t406)))) = some (r1, r2) := h
 clear h
 obtain ⟨y403, hy403⟩ : ∃ y_ : List ByteArray, y_ = (([a0, a1] : List ByteArray)) := ⟨_, rfl⟩
 replace H : ((impl_wordCode.f k (impl_always.f) y403).bind fun t406 => (if t406 = 0 then ((impl_places.f k a0 a1).bind fun t407 => (some (t407, 0))) else (some (([] : List Int), t406)))) = some (r1, r2) := by first | (rw [hy403]; with_reducible exact H) | (have H2_ := (Option.bind_some _ _).symm.trans H; rw [hy403]; with_reducible exact H2_) | (have H2_ := (Option.bind_some _ _).symm.trans H; with_reducible exact H2_) | with_reducible exact H | (rw [hy403]; exact H) | exact H
 have Ny403 := Aside0.mk hy403
 clear hy403
 replace H := qN H
 obtain ⟨t406, A3, H⟩ := H
 try dsimp only at H
 by_cases c4 : t406 = 0
 rotate_left
 ·
  rw [if_neg c4] at H
  obtain ⟨c4b0, c4b1⟩ := zF c4
  simp only [Option.some.injEq, Prod.mk.injEq] at H
  obtain ⟨rfl, rfl⟩ := H
  go_enter Tryz.func12, Tryz.ntmps12
  go_wp2_with (first | ((with_reducible refine gate_dst (N := 9) rfl ?_); refine Kd.R_lit Kd.string _ 9 ?hg (N := 9) ?hd (xs := ([a0, a1] : List ByteArray)) (inner := [.string a0, .string a1]) (ok := fun _ => True) (okp := fun _ => True) ?hr ?hp (fun _ hk => hk) trivial (Below.refl _ _) (Nat.le_refl _) (by simp) ?_; (case hd => rfl); (case hg => rfl); (case hr => first | (go_simp; done) | (go_simp; rfl)); (case hp => exact (Reps.one (show Kd.M Kd.string _ _ _ a0 [.string a0] from rfl) (Reps.one (show Kd.M Kd.string _ _ _ a1 [.string a1] from rfl) (Reps.none _ _)))); intro v404 w11 ho12 hb hg_ hnew_; clear hg_ hnew_; (first | rw [← Ny403.out] at ho12 | (simp only [Int.reduceToNat] at ho12; rw [← Ny403.out] at ho12)); have HO405 := Aside0.mk (Kd.R_lower ho12 (below_size (qB HB.out))); replace HB := Aside0.mk (below_step (qB HB.out) hb); clear hb ho12; obtain ⟨Ao13, co13, eo13⟩ := Kd.R_slice HO405.out; subst eo13) | ((with_reducible refine gate_callee (f := 32) rfl ?_); refine goesL_ (some 10) rfl rfl Tryz.func32 (by kernel_rfl) rfl #[.func (.func 33) #[] #[], .slice Ao13 y403.length co13] rfl qV ?_; (with_reducible refine (impl_wordCode.calls k (impl_always.f) 33 #[] _ _ y403 t406 _ ?side1 ?side2 ?side3 A3.out).mono ?_); (case side1 => exact qC (Kd.R_reads' HO405.out).2.2); (case side2 => exact (Kd.R_reads' HO405.out).2.1); (case side3 => exact ⟨Go.Proofs.enters_of Tryz.func33 (by kernel_rfl) rfl, fun W_ hW_ r_ h_ => (impl_always.calls  r_ W_  h_).mono (fun e_ W2_ h2_ => ⟨h2_.1, by first | exact h2_.2 | exact h2_.2.below⟩)⟩); rintro e w14 ⟨rfl, hb⟩; refine ⟨_, rfl, ?_⟩; replace HO405 := Aside0.mk (Kd.R_below (qR HO405.out) hb); replace HB := Aside0.mk (below_step (qB HB.out) hb)))
  go_ret2
  exact ⟨_, qE, by first | exact Kd.R_nil _ _ _ _ _ | exact Kd.N_nil _ _ _ _ _ | exact Kd.V_nil _ _ _ _ _ | exact Kd.Q_nil _ _ _ _ _ | exact Kd.S_nil _ _ _ _ _, qB HB.out⟩

 rw [if_pos c4] at H
 obtain ⟨c4b0, c4b1⟩ := zT c4
 clear c4
 replace H := qN H
 obtain ⟨t407, A5, H⟩ := H
 try dsimp only at H
 simp only [Option.some.injEq, Prod.mk.injEq] at H
 obtain ⟨rfl, rfl⟩ := H
 go_enter Tryz.func12, Tryz.ntmps12
 go_wp2_with (first | ((with_reducible refine gate_dst (N := 9) rfl ?_); refine Kd.R_lit Kd.string _ 9 ?hg (N := 9) ?hd (xs := ([a0, a1] : List ByteArray)) (inner := [.string a0, .string a1]) (ok := fun _ => True) (okp := fun _ => True) ?hr ?hp (fun _ hk => hk) trivial (Below.refl _ _) (Nat.le_refl _) (by simp) ?_; (case hd => rfl); (case hg => rfl); (case hr => first | (go_simp; done) | (go_simp; rfl)); (case hp => exact (Reps.one (show Kd.M Kd.string _ _ _ a0 [.string a0] from rfl) (Reps.one (show Kd.M Kd.string _ _ _ a1 [.string a1] from rfl) (Reps.none _ _)))); intro v404 w6 ho7 hb hg_ hnew_; clear hg_ hnew_; (first | rw [← Ny403.out] at ho7 | (simp only [Int.reduceToNat] at ho7; rw [← Ny403.out] at ho7)); have HO405 := Aside0.mk (Kd.R_lower ho7 (below_size (qB HB.out))); replace HB := Aside0.mk (below_step (qB HB.out) hb); clear hb ho7; obtain ⟨Ao8, co8, eo8⟩ := Kd.R_slice HO405.out; subst eo8) | ((with_reducible refine gate_callee (f := 32) rfl ?_); refine goesL_ (some 10) rfl rfl Tryz.func32 (by kernel_rfl) rfl #[.func (.func 33) #[] #[], .slice Ao8 y403.length co8] rfl qV ?_; (with_reducible refine (impl_wordCode.calls k (impl_always.f) 33 #[] _ _ y403 t406 _ ?side1 ?side2 ?side3 A3.out).mono ?_); (case side1 => exact qC (Kd.R_reads' HO405.out).2.2); (case side2 => exact (Kd.R_reads' HO405.out).2.1); (case side3 => exact ⟨Go.Proofs.enters_of Tryz.func33 (by kernel_rfl) rfl, fun W_ hW_ r_ h_ => (impl_always.calls  r_ W_  h_).mono (fun e_ W2_ h2_ => ⟨h2_.1, by first | exact h2_.2 | exact h2_.2.below⟩)⟩); rintro e w9 ⟨rfl, hb⟩; refine ⟨_, rfl, ?_⟩; replace HO405 := Aside0.mk (Kd.R_below (qR HO405.out) hb); replace HB := Aside0.mk (below_step (qB HB.out) hb)) | ((with_reducible refine gate_callee (f := 34) rfl ?_); refine goesL_ (some 16) rfl rfl Tryz.func34 (by kernel_rfl) rfl #[.string a0, .string a1] rfl qV ?_; (with_reducible refine (impl_places.calls k a0 a1 t407 _ A5.out).mono ?_); rintro e w10 ⟨v408, rfl, ho0, hb⟩; refine ⟨_, rfl, ?_⟩; replace HO405 := Aside0.mk (Kd.R_below (qR HO405.out) hb); have HO409 := Aside0.mk (Kd.R_lower ho0 (below_size (qB HB.out))); replace HB := Aside0.mk (below_step (qB HB.out) hb)))
 go_ret2
 exact ⟨_, qE, qR HO409.out, qB HB.out⟩
end Go.Proofs.YtfehmbifcoajeaaGreat.PF

namespace Go.Proofs.YtfehmbifcoajeaaGreat.PF
open Go.RowKit Go.Proofs.YtfehmbifcoajeaaGreatW.PrintWords Go.Proofs.YtfehmbifcoajeaaGreatW.PrintLast Go.Proofs.YtfehmbifcoajeaaGreatW.PrintMore
attribute [local go_sem] max2_int min2_int max_two min_two max_three min_three max_four min_four   -- for this text's walks alone
set_option linter.unusedVariables false
set_option linter.unusedSimpArgs false

/-! ### impl_LongestAntipower: function 20 -/
def impl_LongestAntipower.l0 : Nat → ByteArray → Int → Int → Int → Int → Int → Option (Int × Int × Int)
 | 0, _, _, _, _, _, _ => none
 | k + 1, x0, x8, x9, x20, x21, x511000 => if x21 < x20 then ((impl_antipower.f k x0 x21 x511000).bind fun t515 => (if t515 > x9 then (impl_LongestAntipower.l0 k x0 x21 t515 x20 (wrap64 (x21 + 1)) x511000) else (impl_LongestAntipower.l0 k x0 x8 x9 x20 (wrap64 (x21 + 1)) x511000))) else (if x9 = 0 then (some (0, 0, 4)) else (some (x8, x9, 0)))
def impl_LongestAntipower.f (k : Nat) (a0 : ByteArray) (a1 : Int) : Option (Int × Int × Int) := (impl_wordCode.f k (impl_LongestAntipower_1.f a1) (([a0] : List ByteArray))).bind fun t514 => (if t514 = 0 then (impl_LongestAntipower.l0 k a0 0 0 (a0.size : Int) 0 a1) else (some (0, 0, t514)))
theorem impl_LongestAntipower.mono_l : ∀ k, (∀ y0 y1 y2 y3 y4 y5, LeO (impl_LongestAntipower.l0 k y0 y1 y2 y3 y4 y5) (impl_LongestAntipower.l0 (k + 1) y0 y1 y2 y3 y4 y5))
 | 0 => fun _ _ _ _ _ _ r h => by simp [impl_LongestAntipower.l0] at h
 | k + 1 => by
  have ih0 := impl_LongestAntipower.mono_l k
  ·
   intro y0 y1 y2 y3 y4 y5
   unfold impl_LongestAntipower.l0
   repeat' first
   | (with_reducible exact ih0 _ _ _ _ _ _)
   | (with_reducible exact impl_antipower.mono _ _ _ _)
   | (with_reducible exact LeO.refl _)
   | (with_reducible exact LeO.none _)
   | (with_reducible refine LeO.ite ?_ ?_)
   | (with_reducible refine LeO.bind ?_ (fun _ => ?_))
   | refine impl_wordCode.monoP ?_
theorem impl_LongestAntipower.mono : ∀ a0 a1 k, LeO (impl_LongestAntipower.f k a0 a1) (impl_LongestAntipower.f (k + 1) a0 a1) := by
 intro a0 a1 k
 have ih0 := impl_LongestAntipower.mono_l k
 unfold impl_LongestAntipower.f
 repeat' first
   | (with_reducible exact ih0 _ _ _ _ _ _)
   | (with_reducible exact impl_antipower.mono _ _ _ _)
   | (with_reducible exact LeO.refl _)
   | (with_reducible exact LeO.none _)
   | (with_reducible refine LeO.ite ?_ ?_)
   | (with_reducible refine LeO.bind ?_ (fun _ => ?_))
   | refine impl_wordCode.monoP ?_
set_option maxHeartbeats 8000000 in
set_option maxRecDepth 100000 in
theorem impl_LongestAntipower.calls (k : Nat) (a0 : ByteArray) (a1 : Int) (r1 : Int) (r2 : Int) (r3 : Int) (w : World) (h : impl_LongestAntipower.f k a0 a1 = some (r1, r2, r3)) :
  Calls Tryz.prog 20 #[.string a0, .int .i64 a1] w fun e w' => e = .returned (.tuple #[.int .i64 r1, .int .i64 r2, .int .i64 r3]) ∧ Below w.heap.size w w' := by
 have HB := Aside0.mk (Below.refl w.heap.size w)
 have H : ((impl_wordCode.f k (impl_LongestAntipower_1.f a1) (([a0] : List ByteArray))).bind fun t514 => (if t514 = 0 then (impl_LongestAntipower.l0 k a0 0 0 (a0.size : Int) 0 a1) else (some (0, 0, t514)))) = some (r1, r2, r3) := h
 clear h
 obtain ⟨y511, hy511⟩ : ∃ y_ : List ByteArray, y_ = (([a0] : List ByteArray)) := ⟨_, rfl⟩
 replace H : ((impl_wordCode.f k (impl_LongestAntipower_1.f a1) y511).bind fun t514 => (if t514 = 0 then (impl_LongestAntipower.l0 k a0 0 0 (a0.size : Int) 0 a1) else (some (0, 0, t514)))) = some (r1, r2, r3) := by first | (rw [hy511]; with_reducible exact H) | (have H2_ := (Option.bind_some _ _).symm.trans H; rw [hy511]; with_reducible exact H2_) | (have H2_ := (Option.bind_some _ _).symm.trans H; with_reducible exact H2_) | with_reducible exact H | (rw [hy511]; exact H) | exact H
 have Ny511 := Aside0.mk hy511
 clear hy511
 replace H := qN H
 obtain ⟨t514, A3, H⟩ := H
 try dsimp only at H
 by_cases c4 : t514 = 0
 rotate_left
 ·
  rw [if_neg c4] at H
  obtain ⟨c4b0, c4b1⟩ := zF c4
  simp only [Option.some.injEq, Prod.mk.injEq] at H
  obtain ⟨rfl, rfl, rfl⟩ := H
  go_enter Tryz.func20, Tryz.ntmps20
  go_wp2_with (first | ((with_reducible refine gate_dst (N := 3) rfl ?_); refine box_event ?hg (N := 3) ?hd (cs := #[.int .i64 a1]) (t := 2) ?hr ?_; (case hd => rfl); (case hg => rfl); (case hr => first | (go_simp; done) | (go_simp; rfl)); intro gb510 hg w18 hbox hb; have BK510 := Aside0.mk (hbox); have GW510 := Aside0.mk ((by rw [hg]; exact (below_size (qB HB.out)) : w.heap.size ≤ gb510)); have GE510 := Aside0.mk ((by rw [hg]; exact (below_size (qB HB.out)) : w.heap.size ≤ gb510)); replace HB := Aside0.mk (below_step (qB HB.out) hb); clear hb hbox hg) | ((with_reducible refine gate_dst (N := 14) rfl ?_); refine Kd.R_lit Kd.string _ 9 ?hg (N := 14) ?hd (xs := ([a0] : List ByteArray)) (inner := [.string a0]) (ok := fun _ => True) (okp := fun _ => True) ?hr ?hp (fun _ hk => hk) trivial (Below.refl _ _) (Nat.le_refl _) (by simp) ?_; (case hd => rfl); (case hg => rfl); (case hr => first | (go_simp; done) | (go_simp; rfl)); (case hp => exact (Reps.one (show Kd.M Kd.string _ _ _ a0 [.string a0] from rfl) (Reps.none _ _))); intro v512 w19 ho20 hb hg_ hnew_; clear hg_ hnew_; (first | rw [← Ny511.out] at ho20 | (simp only [Int.reduceToNat] at ho20; rw [← Ny511.out] at ho20)); have HO513 := Aside0.mk (Kd.R_lower ho20 (below_size (qG HB.out))); replace BK510 := Aside0.mk (blk_below (g := gb510) (o := .cells #[.int .i64 a1] 2 (0, 0)) (qA BK510.out) hb); replace HB := Aside0.mk (below_step (qG HB.out) hb); clear hb ho20; obtain ⟨Ao21, co21, eo21⟩ := Kd.R_slice HO513.out; subst eo21) | ((with_reducible refine gate_callee (f := 32) rfl ?_); refine goesL_ (some 15) rfl rfl Tryz.func32 (by kernel_rfl) rfl #[.func (.func 47) #[] #[.pointer (some ⟨gb510, 0, none⟩)], .slice Ao21 y511.length co21] rfl qV ?_; (with_reducible refine (impl_wordCode.calls k (impl_LongestAntipower_1.f a1) 47 #[.pointer (some ⟨gb510, 0, none⟩)] _ _ y511 t514 _ ?side1 ?side2 ?side3 A3.out).mono ?_); (case side1 => exact qC (Kd.R_reads' HO513.out).2.2); (case side2 => exact (Kd.R_reads' HO513.out).2.1); (case side3 => exact ⟨Go.Proofs.enters_of Tryz.func47 (by kernel_rfl) rfl, fun W_ hW_ r_ h_ => (impl_LongestAntipower_1.calls gb510 a1 r_ W_ (blk_below (g := gb510) (o := .cells #[.int .i64 a1] 2 (0, 0)) (qA BK510.out) hW_) h_).mono (fun e_ W2_ h2_ => ⟨h2_.1, by first | exact h2_.2 | exact h2_.2.below⟩)⟩); rintro e w22 ⟨rfl, hb⟩; refine ⟨_, rfl, ?_⟩; replace HO513 := Aside0.mk (Kd.R_below (qR HO513.out) hb); replace BK510 := Aside0.mk (blk_below (g := gb510) (o := .cells #[.int .i64 a1] 2 (0, 0)) (qA BK510.out) hb); replace HB := Aside0.mk (below_step (qG HB.out) hb)))
  go_ret3
  exact ⟨qE, qG HB.out⟩

 rw [if_pos c4] at H
 obtain ⟨c4b0, c4b1⟩ := zT c4
 clear c4
 have H' := Aside0.mk H
 clear H
 go_enter Tryz.func20, Tryz.ntmps20
 go_wp2_with (first | ((with_reducible refine gate_dst (N := 3) rfl ?_); refine box_event ?hg (N := 3) ?hd (cs := #[.int .i64 a1]) (t := 2) ?hr ?_; (case hd => rfl); (case hg => rfl); (case hr => first | (go_simp; done) | (go_simp; rfl)); intro gb510 hg w5 hbox hb; have BK510 := Aside0.mk (hbox); have GW510 := Aside0.mk ((by rw [hg]; exact (below_size (qB HB.out)) : w.heap.size ≤ gb510)); have GE510 := Aside0.mk ((by rw [hg]; exact (below_size (qB HB.out)) : w.heap.size ≤ gb510)); replace HB := Aside0.mk (below_step (qB HB.out) hb); clear hb hbox hg) | ((with_reducible refine gate_dst (N := 14) rfl ?_); refine Kd.R_lit Kd.string _ 9 ?hg (N := 14) ?hd (xs := ([a0] : List ByteArray)) (inner := [.string a0]) (ok := fun _ => True) (okp := fun _ => True) ?hr ?hp (fun _ hk => hk) trivial (Below.refl _ _) (Nat.le_refl _) (by simp) ?_; (case hd => rfl); (case hg => rfl); (case hr => first | (go_simp; done) | (go_simp; rfl)); (case hp => exact (Reps.one (show Kd.M Kd.string _ _ _ a0 [.string a0] from rfl) (Reps.none _ _))); intro v512 w6 ho7 hb hg_ hnew_; clear hg_ hnew_; (first | rw [← Ny511.out] at ho7 | (simp only [Int.reduceToNat] at ho7; rw [← Ny511.out] at ho7)); have HO513 := Aside0.mk (Kd.R_lower ho7 (below_size (qG HB.out))); replace BK510 := Aside0.mk (blk_below (g := gb510) (o := .cells #[.int .i64 a1] 2 (0, 0)) (qA BK510.out) hb); replace HB := Aside0.mk (below_step (qG HB.out) hb); clear hb ho7; obtain ⟨Ao8, co8, eo8⟩ := Kd.R_slice HO513.out; subst eo8) | ((with_reducible refine gate_callee (f := 32) rfl ?_); refine goesL_ (some 15) rfl rfl Tryz.func32 (by kernel_rfl) rfl #[.func (.func 47) #[] #[.pointer (some ⟨gb510, 0, none⟩)], .slice Ao8 y511.length co8] rfl qV ?_; (with_reducible refine (impl_wordCode.calls k (impl_LongestAntipower_1.f a1) 47 #[.pointer (some ⟨gb510, 0, none⟩)] _ _ y511 t514 _ ?side1 ?side2 ?side3 A3.out).mono ?_); (case side1 => exact qC (Kd.R_reads' HO513.out).2.2); (case side2 => exact (Kd.R_reads' HO513.out).2.1); (case side3 => exact ⟨Go.Proofs.enters_of Tryz.func47 (by kernel_rfl) rfl, fun W_ hW_ r_ h_ => (impl_LongestAntipower_1.calls gb510 a1 r_ W_ (blk_below (g := gb510) (o := .cells #[.int .i64 a1] 2 (0, 0)) (qA BK510.out) hW_) h_).mono (fun e_ W2_ h2_ => ⟨h2_.1, by first | exact h2_.2 | exact h2_.2.below⟩)⟩); rintro e w9 ⟨rfl, hb⟩; refine ⟨_, rfl, ?_⟩; replace HO513 := Aside0.mk (Kd.R_below (qR HO513.out) hb); replace BK510 := Aside0.mk (blk_below (g := gb510) (o := .cells #[.int .i64 a1] 2 (0, 0)) (qA BK510.out) hb); replace HB := Aside0.mk (below_step (qG HB.out) hb)))
 go_loopg [8, 9, 21] k (fun kq v8 v9 v21 w' => ∃ (x8_1 : Int) (x9_1 : Int) (x21_1 : Int), v8 = .int .i64 x8_1 ∧ v9 = .int .i64 x9_1 ∧ v21 = .int .i64 x21_1 ∧ Aside0 (impl_LongestAntipower.l0 kq a0 x8_1 x9_1 (a0.size : Int) x21_1 a1 = some (r1, r2, r3)) ∧ Aside0 (kq ≤ k) ∧ Aside0 (w'.heap[gb510]? = some (.cells #[.int .i64 a1] 2 (0, 0))) ∧ Aside0 (Below w.heap.size w w'))
 case atStart => exact ⟨(0), (0), (0), qF, qF, qF, H', ⟨Nat.le_refl _⟩, ⟨qA BK510.out⟩, ⟨qG HB.out⟩⟩
 case round =>
  clear H'
  obtain ⟨x8_1, x9_1, x21_1, rfl, rfl, rfl, HA, HK1, BK510, HB⟩ := hrel
  cases gk with
  | zero => exact absurd HA.out (by simp [impl_LongestAntipower.l0])
  | succ k1 =>
   have H := HA.out
   clear HA
   simp only [impl_LongestAntipower.l0] at H
   by_cases c10 : x21_1 < (a0.size : Int)
   rotate_left
   ·
    rw [if_neg c10] at H
    have c10b0 : decide (x21_1 < (a0.size : Int)) = false := decide_eq_false c10
    clear c10
    by_cases c17 : x9_1 = 0
    ·
     rw [if_pos c17] at H
     obtain ⟨c17b0, c17b1⟩ := zT c17
     clear c17
     simp only [Option.some.injEq, Prod.mk.injEq] at H
     obtain ⟨rfl, rfl, rfl⟩ := H
     go_wp2
     go_ret3
     exact ⟨qE, qG HB.out⟩
    rw [if_neg c17] at H
    obtain ⟨c17b0, c17b1⟩ := zF c17
    simp only [Option.some.injEq, Prod.mk.injEq] at H
    obtain ⟨rfl, rfl, rfl⟩ := H
    go_wp2
    go_ret3
    exact ⟨qE, qG HB.out⟩
   rw [if_pos c10] at H
   have c10b0 : decide (x21_1 < (a0.size : Int)) = true := decide_eq_true c10
   clear c10
   replace H := qN H
   obtain ⟨t515, A11, H⟩ := H
   try dsimp only at H
   by_cases c12 : t515 > x9_1
   ·
    rw [if_pos c12] at H
    have c12b0 : decide (x9_1 < t515) = true := decide_eq_true c12
    clear c12
    have H' := Aside0.mk H
    clear H
    have hcz13_0 : wr.cell? ⟨gb510, 0, none⟩ = some (.int .i64 a1) := (blk_cell BK510.out 0).trans rfl
    have hfz13_0 := blk_frozen BK510.out 0
    go_wp2_with (first | ((with_reducible refine gate_callee (f := 49) rfl ?_); refine goesL_ (some 27) rfl rfl Tryz.func49 (by kernel_rfl) rfl #[.string a0, .int .i64 x21_1, .int .i64 a1] rfl qV ?_; (with_reducible refine (impl_antipower.calls k1 a0 x21_1 a1 t515 _ A11.out).mono ?_); rintro e w14 ⟨rfl, hb⟩; refine ⟨_, rfl, ?_⟩; replace BK510 := Aside0.mk (blk_below (g := gb510) (o := .cells #[.int .i64 a1] 2 (0, 0)) (qA BK510.out) hb); replace HB := Aside0.mk (below_step (qG HB.out) hb)))
    go_roundg k1
    case measure => have := HK1.out; omega
    case rel => exact ⟨(x21_1), (t515), (wrap64 (x21_1 + 1)), qF, qF, qF, H', ⟨by have := HK1.out; omega⟩, ⟨qA BK510.out⟩, ⟨qG HB.out⟩⟩
   rw [if_neg c12] at H
   have c12b0 : decide (x9_1 < t515) = false := decide_eq_false c12
   clear c12
   have H' := Aside0.mk H
   clear H
   have hcz15_0 : wr.cell? ⟨gb510, 0, none⟩ = some (.int .i64 a1) := (blk_cell BK510.out 0).trans rfl
   have hfz15_0 := blk_frozen BK510.out 0
   go_wp2_with (first | ((with_reducible refine gate_callee (f := 49) rfl ?_); refine goesL_ (some 27) rfl rfl Tryz.func49 (by kernel_rfl) rfl #[.string a0, .int .i64 x21_1, .int .i64 a1] rfl qV ?_; (with_reducible refine (impl_antipower.calls k1 a0 x21_1 a1 t515 _ A11.out).mono ?_); rintro e w16 ⟨rfl, hb⟩; refine ⟨_, rfl, ?_⟩; replace BK510 := Aside0.mk (blk_below (g := gb510) (o := .cells #[.int .i64 a1] 2 (0, 0)) (qA BK510.out) hb); replace HB := Aside0.mk (below_step (qG HB.out) hb)))
   go_roundg k1
   case measure => have := HK1.out; omega
   case rel => exact ⟨(x8_1), (x9_1), (wrap64 (x21_1 + 1)), qF, qF, qF, H', ⟨by have := HK1.out; omega⟩, ⟨qA BK510.out⟩, ⟨qG HB.out⟩⟩
end Go.Proofs.YtfehmbifcoajeaaGreat.PF

namespace Go.Proofs.YtfehmbifcoajeaaGreat.PF
open Go.RowKit Go.Proofs.YtfehmbifcoajeaaGreatW.PrintWords Go.Proofs.YtfehmbifcoajeaaGreatW.PrintLast Go.Proofs.YtfehmbifcoajeaaGreatW.PrintMore
attribute [local go_sem] max2_int min2_int max_two min_two max_three min_three max_four min_four   -- for this text's walks alone
set_option linter.unusedVariables false
set_option linter.unusedSimpArgs false

/-! ### impl_FactorAt: function 22 -/
def impl_FactorAt.f (k : Nat) (a0 : ByteArray) (a1 : Int) (a2 : Int) : Option (ByteArray × Int) := (impl_wordCode.f k (impl_FactorAt_1.f a1 a0 a2) (([a0] : List ByteArray))).bind fun t539 => (if t539 = 0 then (if 0 ≤ a1 then (if a1 ≤ (wrap64 (a1 + a2)) then (if (wrap64 (a1 + a2)) ≤ (a0.size : Int) then (some (a0.extract (a1 : Int).toNat ((wrap64 (a1 + a2)) : Int).toNat, 0)) else (none)) else (none)) else (none)) else (some ((⟨#[]⟩ : ByteArray), t539)))
theorem impl_FactorAt.mono : ∀ a0 a1 a2 k, LeO (impl_FactorAt.f k a0 a1 a2) (impl_FactorAt.f (k + 1) a0 a1 a2) := by
 intro a0 a1 a2 k
 unfold impl_FactorAt.f
 repeat' first
   | (with_reducible exact LeO.refl _)
   | (with_reducible exact LeO.none _)
   | (with_reducible refine LeO.ite ?_ ?_)
   | (with_reducible refine LeO.bind ?_ (fun _ => ?_))
   | refine impl_wordCode.monoP ?_
set_option maxHeartbeats 8000000 in
set_option maxRecDepth 100000 in
theorem impl_FactorAt.calls (k : Nat) (a0 : ByteArray) (a1 : Int) (a2 : Int) (r1 : ByteArray) (r2 : Int) (w : World) (h : impl_FactorAt.f k a0 a1 a2 = some (r1, r2)) :
  Calls Tryz.prog 22 #[.string a0, .int .i64 a1, .int .i64 a2] w fun e w' => e = .returned (.tuple #[.string r1, .int .i64 r2]) ∧ Below w.heap.size w w' := by
 have HB := Aside0.mk (Below.refl w.heap.size w)
 have H : ((impl_wordCode.f k (impl_FactorAt_1.f a1 a0 a2) (([a0] : List ByteArray))).bind fun t539 => (if t539 = 0 then (if 0 ≤ a1 then (if a1 ≤ (wrap64 (a1 + a2)) then (if (wrap64 (a1 + a2)) ≤ (a0.size : Int) then (some (a0.extract (a1 : Int).toNat ((wrap64 (a1 + a2)) : Int).toNat, 0)) else (none)) else (none)) else (none)) else (some ((⟨#[]⟩ : ByteArray), t539)))) = some (r1, r2) := h
 clear h
 obtain ⟨y536, hy536⟩ : ∃ y_ : List ByteArray, y_ = (([a0] : List ByteArray)) := ⟨_, rfl⟩
 replace H : ((impl_wordCode.f k (impl_FactorAt_1.f a1 a0 a2) y536).bind fun t539 => (if t539 = 0 then (if 0 ≤ a1 then (if a1 ≤ (wrap64 (a1 + a2)) then (if (wrap64 (a1 + a2)) ≤ (a0.size : Int) then (some (a0.extract (a1 : Int).toNat ((wrap64 (a1 + a2)) : Int).toNat, 0)) else (none)) else (none)) else (none)) else (some ((⟨#[]⟩ : ByteArray), t539)))) = some (r1, r2) := by first | (rw [hy536]; with_reducible exact H) | (have H2_ := (Option.bind_some _ _).symm.trans H; rw [hy536]; with_reducible exact H2_) | (have H2_ := (Option.bind_some _ _).symm.trans H; with_reducible exact H2_) | with_reducible exact H | (rw [hy536]; exact H) | exact H
 have Ny536 := Aside0.mk hy536
 clear hy536
 replace H := qN H
 obtain ⟨t539, A4, H⟩ := H
 try dsimp only at H
 by_cases c5 : t539 = 0
 rotate_left
 ·
  rw [if_neg c5] at H
  obtain ⟨c5b0, c5b1⟩ := zF c5
  simp only [Option.some.injEq, Prod.mk.injEq] at H
  obtain ⟨rfl, rfl⟩ := H
  go_enter Tryz.func22, Tryz.ntmps22
  go_wp2_with (first | ((with_reducible refine gate_dst (N := 3) rfl ?_); refine box_event ?hg (N := 3) ?hd (cs := #[.string a0]) (t := 9) ?hr ?_; (case hd => rfl); (case hg => rfl); (case hr => first | (go_simp; done) | (go_simp; rfl)); intro gb533 hg w23 hbox hb; have BK533 := Aside0.mk (hbox); have GW533 := Aside0.mk ((by rw [hg]; exact (below_size (qB HB.out)) : w.heap.size ≤ gb533)); have GE533 := Aside0.mk ((by rw [hg]; exact (below_size (qB HB.out)) : w.heap.size ≤ gb533)); replace HB := Aside0.mk (below_step (qB HB.out) hb); clear hb hbox hg) | ((with_reducible refine gate_dst (N := 4) rfl ?_); refine box_event ?hg (N := 4) ?hd (cs := #[.int .i64 a1]) (t := 2) ?hr ?_; (case hd => rfl); (case hg => rfl); (case hr => first | (go_simp; done) | (go_simp; rfl)); intro gb534 hg w24 hbox hb; have BK534 := Aside0.mk (hbox); have GW534 := Aside0.mk ((by rw [hg]; exact (below_size (qG HB.out)) : w.heap.size ≤ gb534)); have GE534 := Aside0.mk ((by rw [hg]; exact (below_size (qG HB.out)) : w.heap.size ≤ gb534)); replace HB := Aside0.mk (below_step (qG HB.out) hb); have NB533_534 := Aside0.mk ((by rw [hg]; exact Nat.ne_of_lt (blk_lt (g := gb533) (o := .cells #[.string a0] 9 (0, 0)) (qA BK533.out)) : gb533 ≠ gb534)); have NB534_533 := Aside0.mk ((by rw [hg]; exact Nat.ne_of_gt (blk_lt (g := gb533) (o := .cells #[.string a0] 9 (0, 0)) (qA BK533.out)) : gb534 ≠ gb533)); replace BK533 := Aside0.mk (blk_below (g := gb533) (o := .cells #[.string a0] 9 (0, 0)) (qA BK533.out) hb); clear hb hbox hg) | ((with_reducible refine gate_dst (N := 5) rfl ?_); refine box_event ?hg (N := 5) ?hd (cs := #[.int .i64 a2]) (t := 2) ?hr ?_; (case hd => rfl); (case hg => rfl); (case hr => first | (go_simp; done) | (go_simp; rfl)); intro gb535 hg w25 hbox hb; have BK535 := Aside0.mk (hbox); have GW535 := Aside0.mk ((by rw [hg]; exact (below_size (qG HB.out)) : w.heap.size ≤ gb535)); have GE535 := Aside0.mk ((by rw [hg]; exact (below_size (qG HB.out)) : w.heap.size ≤ gb535)); replace HB := Aside0.mk (below_step (qG HB.out) hb); have NB533_535 := Aside0.mk ((by rw [hg]; exact Nat.ne_of_lt (blk_lt (g := gb533) (o := .cells #[.string a0] 9 (0, 0)) (qA BK533.out)) : gb533 ≠ gb535)); have NB535_533 := Aside0.mk ((by rw [hg]; exact Nat.ne_of_gt (blk_lt (g := gb533) (o := .cells #[.string a0] 9 (0, 0)) (qA BK533.out)) : gb535 ≠ gb533)); replace BK533 := Aside0.mk (blk_below (g := gb533) (o := .cells #[.string a0] 9 (0, 0)) (qA BK533.out) hb); have NB534_535 := Aside0.mk ((by rw [hg]; exact Nat.ne_of_lt (blk_lt (g := gb534) (o := .cells #[.int .i64 a1] 2 (0, 0)) (qA BK534.out)) : gb534 ≠ gb535)); have NB535_534 := Aside0.mk ((by rw [hg]; exact Nat.ne_of_gt (blk_lt (g := gb534) (o := .cells #[.int .i64 a1] 2 (0, 0)) (qA BK534.out)) : gb535 ≠ gb534)); replace BK534 := Aside0.mk (blk_below (g := gb534) (o := .cells #[.int .i64 a1] 2 (0, 0)) (qA BK534.out) hb); clear hb hbox hg; have hnb26 := NB533_534.out; have hnc26 := NB534_533.out; have hnb27 := NB533_535.out; have hnc27 := NB535_533.out; have hcz28_0 : w25.cell? ⟨gb533, 0, none⟩ = some (.string a0) := (blk_cell BK533.out 0).trans rfl; have hfz28_0 := blk_frozen BK533.out 0) | ((with_reducible refine gate_dst (N := 11) rfl ?_); refine Kd.R_lit Kd.string _ 9 ?hg (N := 11) ?hd (xs := ([a0] : List ByteArray)) (inner := [.string a0]) (ok := fun _ => True) (okp := fun _ => True) ?hr ?hp (fun _ hk => hk) trivial (Below.refl _ _) (Nat.le_refl _) (by simp) ?_; (case hd => rfl); (case hg => rfl); (case hr => first | (go_simp; done) | (go_simp; rfl)); (case hp => exact (Reps.one (show Kd.M Kd.string _ _ _ a0 [.string a0] from rfl) (Reps.none _ _))); intro v537 w29 ho30 hb hg_ hnew_; clear hg_ hnew_; (first | rw [← Ny536.out] at ho30 | (simp only [Int.reduceToNat] at ho30; rw [← Ny536.out] at ho30)); have HO538 := Aside0.mk (Kd.R_lower (Kd.R_newB ho30 (g := gb533) (o := .cells #[.string a0] 9 (0, 0)) (qA BK533.out)) (below_size (qG HB.out))); replace BK533 := Aside0.mk (blk_below (g := gb533) (o := .cells #[.string a0] 9 (0, 0)) (qA BK533.out) hb); replace BK534 := Aside0.mk (blk_below (g := gb534) (o := .cells #[.int .i64 a1] 2 (0, 0)) (qA BK534.out) hb); replace BK535 := Aside0.mk (blk_below (g := gb535) (o := .cells #[.int .i64 a2] 2 (0, 0)) (qA BK535.out) hb); replace HB := Aside0.mk (below_step (qG HB.out) hb); clear hb ho30; obtain ⟨Ao31, co31, eo31⟩ := Kd.R_slice HO538.out; subst eo31) | ((with_reducible refine gate_callee (f := 32) rfl ?_); refine goesL_ (some 12) rfl rfl Tryz.func32 (by kernel_rfl) rfl #[.func (.func 51) #[] #[.pointer (some ⟨gb534, 0, none⟩), .pointer (some ⟨gb533, 0, none⟩), .pointer (some ⟨gb535, 0, none⟩)], .slice Ao31 y536.length co31] rfl qV ?_; (with_reducible refine (impl_wordCode.calls k (impl_FactorAt_1.f a1 a0 a2) 51 #[.pointer (some ⟨gb534, 0, none⟩), .pointer (some ⟨gb533, 0, none⟩), .pointer (some ⟨gb535, 0, none⟩)] _ _ y536 t539 _ ?side1 ?side2 ?side3 A4.out).mono ?_); (case side1 => exact qC (Kd.R_reads' HO538.out).2.2); (case side2 => exact (Kd.R_reads' HO538.out).2.1); (case side3 => exact ⟨Go.Proofs.enters_of Tryz.func51 (by kernel_rfl) rfl, fun W_ hW_ r_ h_ => (impl_FactorAt_1.calls gb534 a1 gb533 a0 gb535 a2 r_ W_ (blk_below (g := gb534) (o := .cells #[.int .i64 a1] 2 (0, 0)) (qA BK534.out) hW_) (blk_below (g := gb533) (o := .cells #[.string a0] 9 (0, 0)) (qA BK533.out) hW_) (blk_below (g := gb535) (o := .cells #[.int .i64 a2] 2 (0, 0)) (qA BK535.out) hW_) h_).mono (fun e_ W2_ h2_ => ⟨h2_.1, by first | exact h2_.2 | exact h2_.2.below⟩)⟩); rintro e w32 ⟨rfl, hb⟩; refine ⟨_, rfl, ?_⟩; replace HO538 := Aside0.mk (Kd.R_below (qR HO538.out) hb); replace BK533 := Aside0.mk (blk_below (g := gb533) (o := .cells #[.string a0] 9 (0, 0)) (qA BK533.out) hb); replace BK534 := Aside0.mk (blk_below (g := gb534) (o := .cells #[.int .i64 a1] 2 (0, 0)) (qA BK534.out) hb); replace BK535 := Aside0.mk (blk_below (g := gb535) (o := .cells #[.int .i64 a2] 2 (0, 0)) (qA BK535.out) hb); replace HB := Aside0.mk (below_step (qG HB.out) hb)))
  go_ret2
  exact ⟨qE, qG HB.out⟩

 rw [if_pos c5] at H
 obtain ⟨c5b0, c5b1⟩ := zT c5
 clear c5
 by_cases c6 : 0 ≤ a1
 rotate_left
 ·
  rw [if_neg c6] at H
  exact absurd H (by simp)
 rw [if_pos c6] at H
 have c6b0 := eq_true c6
 have c6b1 : decide (0 ≤ a1) = true := decide_eq_true c6
 clear c6
 by_cases c7 : a1 ≤ (wrap64 (a1 + a2))
 rotate_left
 ·
  rw [if_neg c7] at H
  exact absurd H (by simp)
 rw [if_pos c7] at H
 have c7b0 := eq_true c7
 have c7b1 : decide (a1 ≤ (wrap64 (a1 + a2))) = true := decide_eq_true c7
 by_cases c8 : (wrap64 (a1 + a2)) ≤ (a0.size : Int)
 rotate_left
 ·
  rw [if_neg c8] at H
  exact absurd H (by simp)
 rw [if_pos c8] at H
 have c8b0 := eq_true c8
 have c8b1 : decide ((wrap64 (a1 + a2)) ≤ (a0.size : Int)) = true := decide_eq_true c8
 simp only [Option.some.injEq, Prod.mk.injEq] at H
 obtain ⟨rfl, rfl⟩ := H
 go_enter Tryz.func22, Tryz.ntmps22
 go_wp2_with (first | ((with_reducible refine gate_dst (N := 3) rfl ?_); refine box_event ?hg (N := 3) ?hd (cs := #[.string a0]) (t := 9) ?hr ?_; (case hd => rfl); (case hg => rfl); (case hr => first | (go_simp; done) | (go_simp; rfl)); intro gb533 hg w9 hbox hb; have BK533 := Aside0.mk (hbox); have GW533 := Aside0.mk ((by rw [hg]; exact (below_size (qB HB.out)) : w.heap.size ≤ gb533)); have GE533 := Aside0.mk ((by rw [hg]; exact (below_size (qB HB.out)) : w.heap.size ≤ gb533)); replace HB := Aside0.mk (below_step (qB HB.out) hb); clear hb hbox hg) | ((with_reducible refine gate_dst (N := 4) rfl ?_); refine box_event ?hg (N := 4) ?hd (cs := #[.int .i64 a1]) (t := 2) ?hr ?_; (case hd => rfl); (case hg => rfl); (case hr => first | (go_simp; done) | (go_simp; rfl)); intro gb534 hg w10 hbox hb; have BK534 := Aside0.mk (hbox); have GW534 := Aside0.mk ((by rw [hg]; exact (below_size (qG HB.out)) : w.heap.size ≤ gb534)); have GE534 := Aside0.mk ((by rw [hg]; exact (below_size (qG HB.out)) : w.heap.size ≤ gb534)); replace HB := Aside0.mk (below_step (qG HB.out) hb); have NB533_534 := Aside0.mk ((by rw [hg]; exact Nat.ne_of_lt (blk_lt (g := gb533) (o := .cells #[.string a0] 9 (0, 0)) (qA BK533.out)) : gb533 ≠ gb534)); have NB534_533 := Aside0.mk ((by rw [hg]; exact Nat.ne_of_gt (blk_lt (g := gb533) (o := .cells #[.string a0] 9 (0, 0)) (qA BK533.out)) : gb534 ≠ gb533)); replace BK533 := Aside0.mk (blk_below (g := gb533) (o := .cells #[.string a0] 9 (0, 0)) (qA BK533.out) hb); clear hb hbox hg) | ((with_reducible refine gate_dst (N := 5) rfl ?_); refine box_event ?hg (N := 5) ?hd (cs := #[.int .i64 a2]) (t := 2) ?hr ?_; (case hd => rfl); (case hg => rfl); (case hr => first | (go_simp; done) | (go_simp; rfl)); intro gb535 hg w11 hbox hb; have BK535 := Aside0.mk (hbox); have GW535 := Aside0.mk ((by rw [hg]; exact (below_size (qG HB.out)) : w.heap.size ≤ gb535)); have GE535 := Aside0.mk ((by rw [hg]; exact (below_size (qG HB.out)) : w.heap.size ≤ gb535)); replace HB := Aside0.mk (below_step (qG HB.out) hb); have NB533_535 := Aside0.mk ((by rw [hg]; exact Nat.ne_of_lt (blk_lt (g := gb533) (o := .cells #[.string a0] 9 (0, 0)) (qA BK533.out)) : gb533 ≠ gb535)); have NB535_533 := Aside0.mk ((by rw [hg]; exact Nat.ne_of_gt (blk_lt (g := gb533) (o := .cells #[.string a0] 9 (0, 0)) (qA BK533.out)) : gb535 ≠ gb533)); replace BK533 := Aside0.mk (blk_below (g := gb533) (o := .cells #[.string a0] 9 (0, 0)) (qA BK533.out) hb); have NB534_535 := Aside0.mk ((by rw [hg]; exact Nat.ne_of_lt (blk_lt (g := gb534) (o := .cells #[.int .i64 a1] 2 (0, 0)) (qA BK534.out)) : gb534 ≠ gb535)); have NB535_534 := Aside0.mk ((by rw [hg]; exact Nat.ne_of_gt (blk_lt (g := gb534) (o := .cells #[.int .i64 a1] 2 (0, 0)) (qA BK534.out)) : gb535 ≠ gb534)); replace BK534 := Aside0.mk (blk_below (g := gb534) (o := .cells #[.int .i64 a1] 2 (0, 0)) (qA BK534.out) hb); clear hb hbox hg; have hnb12 := NB533_534.out; have hnc12 := NB534_533.out; have hnb13 := NB533_535.out; have hnc13 := NB535_533.out; have hcz14_0 : w11.cell? ⟨gb533, 0, none⟩ = some (.string a0) := (blk_cell BK533.out 0).trans rfl; have hfz14_0 := blk_frozen BK533.out 0) | ((with_reducible refine gate_dst (N := 11) rfl ?_); refine Kd.R_lit Kd.string _ 9 ?hg (N := 11) ?hd (xs := ([a0] : List ByteArray)) (inner := [.string a0]) (ok := fun _ => True) (okp := fun _ => True) ?hr ?hp (fun _ hk => hk) trivial (Below.refl _ _) (Nat.le_refl _) (by simp) ?_; (case hd => rfl); (case hg => rfl); (case hr => first | (go_simp; done) | (go_simp; rfl)); (case hp => exact (Reps.one (show Kd.M Kd.string _ _ _ a0 [.string a0] from rfl) (Reps.none _ _))); intro v537 w15 ho16 hb hg_ hnew_; clear hg_ hnew_; (first | rw [← Ny536.out] at ho16 | (simp only [Int.reduceToNat] at ho16; rw [← Ny536.out] at ho16)); have HO538 := Aside0.mk (Kd.R_lower (Kd.R_newB ho16 (g := gb533) (o := .cells #[.string a0] 9 (0, 0)) (qA BK533.out)) (below_size (qG HB.out))); replace BK533 := Aside0.mk (blk_below (g := gb533) (o := .cells #[.string a0] 9 (0, 0)) (qA BK533.out) hb); replace BK534 := Aside0.mk (blk_below (g := gb534) (o := .cells #[.int .i64 a1] 2 (0, 0)) (qA BK534.out) hb); replace BK535 := Aside0.mk (blk_below (g := gb535) (o := .cells #[.int .i64 a2] 2 (0, 0)) (qA BK535.out) hb); replace HB := Aside0.mk (below_step (qG HB.out) hb); clear hb ho16; obtain ⟨Ao17, co17, eo17⟩ := Kd.R_slice HO538.out; subst eo17) | ((with_reducible refine gate_callee (f := 32) rfl ?_); refine goesL_ (some 12) rfl rfl Tryz.func32 (by kernel_rfl) rfl #[.func (.func 51) #[] #[.pointer (some ⟨gb534, 0, none⟩), .pointer (some ⟨gb533, 0, none⟩), .pointer (some ⟨gb535, 0, none⟩)], .slice Ao17 y536.length co17] rfl qV ?_; (with_reducible refine (impl_wordCode.calls k (impl_FactorAt_1.f a1 a0 a2) 51 #[.pointer (some ⟨gb534, 0, none⟩), .pointer (some ⟨gb533, 0, none⟩), .pointer (some ⟨gb535, 0, none⟩)] _ _ y536 t539 _ ?side1 ?side2 ?side3 A4.out).mono ?_); (case side1 => exact qC (Kd.R_reads' HO538.out).2.2); (case side2 => exact (Kd.R_reads' HO538.out).2.1); (case side3 => exact ⟨Go.Proofs.enters_of Tryz.func51 (by kernel_rfl) rfl, fun W_ hW_ r_ h_ => (impl_FactorAt_1.calls gb534 a1 gb533 a0 gb535 a2 r_ W_ (blk_below (g := gb534) (o := .cells #[.int .i64 a1] 2 (0, 0)) (qA BK534.out) hW_) (blk_below (g := gb533) (o := .cells #[.string a0] 9 (0, 0)) (qA BK533.out) hW_) (blk_below (g := gb535) (o := .cells #[.int .i64 a2] 2 (0, 0)) (qA BK535.out) hW_) h_).mono (fun e_ W2_ h2_ => ⟨h2_.1, by first | exact h2_.2 | exact h2_.2.below⟩)⟩); rintro e w18 ⟨rfl, hb⟩; refine ⟨_, rfl, ?_⟩; replace HO538 := Aside0.mk (Kd.R_below (qR HO538.out) hb); replace BK533 := Aside0.mk (blk_below (g := gb533) (o := .cells #[.string a0] 9 (0, 0)) (qA BK533.out) hb); replace BK534 := Aside0.mk (blk_below (g := gb534) (o := .cells #[.int .i64 a1] 2 (0, 0)) (qA BK534.out) hb); replace BK535 := Aside0.mk (blk_below (g := gb535) (o := .cells #[.int .i64 a2] 2 (0, 0)) (qA BK535.out) hb); replace HB := Aside0.mk (below_step (qG HB.out) hb); have hcz19_0 : w18.cell? ⟨gb533, 0, none⟩ = some (.string a0) := (blk_cell BK533.out 0).trans rfl; have hfz19_0 := blk_frozen BK533.out 0; have hnb20 := NB534_535.out; have hnc20 := NB535_534.out; have hcz21_0 : w18.cell? ⟨gb534, 0, none⟩ = some (.int .i64 a1) := (blk_cell BK534.out 0).trans rfl; have hfz21_0 := blk_frozen BK534.out 0; have hcz22_0 : w18.cell? ⟨gb535, 0, none⟩ = some (.int .i64 a2) := (blk_cell BK535.out 0).trans rfl; have hfz22_0 := blk_frozen BK535.out 0))
 go_ret2
 exact ⟨qE, qG HB.out⟩
end Go.Proofs.YtfehmbifcoajeaaGreat.PF
