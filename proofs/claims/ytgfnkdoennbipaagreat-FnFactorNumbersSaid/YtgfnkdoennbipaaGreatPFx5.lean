-- an own text, written by a program of this place (wip/tools)
import Derived.Test.YtgfnkdoennbipaaGreatPFx0
import Derived.Test.YtgfnkdoennbipaaGreatPFx1
import Derived.Test.YtgfnkdoennbipaaGreatPFGivA
import Derived.Test.YtgfnkdoennbipaaGreatPFGivC
import Derived.Test.YtgfnkdoennbipaaGreatPFGivB
import Derived.Test.YtgfnkdoennbipaaGreatPFx2
import Derived.Test.YtgfnkdoennbipaaGreatPFx4
import Derived.Test.YtgfnkdoennbipaaGreatPFx3
namespace Go.Proofs.YtgfnkdoennbipaaGreat.PF
open Go.RowKit Go.Proofs.YtgfnkdoennbipaaGreatW.PrintWords Go.Proofs.YtgfnkdoennbipaaGreatW.PrintLast Go.Proofs.YtgfnkdoennbipaaGreatW.PrintMore
attribute [local go_sem] max2_int min2_int max_two min_two max_three min_three max_four min_four   -- for this text's walks alone
set_option linter.unusedVariables false
set_option linter.unusedSimpArgs false

/-! ### impl_RightSpecial: function 8 -/
def impl_RightSpecial.f (k : Nat) (a0 : ByteArray) (a1 : Int) : Option (List ByteArray × Int) := (impl_wordCode.f k (impl_RightSpecial_1.f a1) (([a0] : List ByteArray))).bind fun t301 => (if t301 = 0 then ((impl_special.f k a0 a1 (fun z0_ z1_ => strings_HasPrefix.f z0_ z1_)).bind fun t302 => (some (t302, 0))) else (some (([] : List ByteArray), t301)))
theorem impl_RightSpecial.mono : ∀ a0 a1 k, LeO (impl_RightSpecial.f k a0 a1) (impl_RightSpecial.f (k + 1) a0 a1) := by
 intro a0 a1 k
 unfold impl_RightSpecial.f
 repeat' first
   | (with_reducible exact LeO.refl _)
   | (with_reducible exact LeO.none _)
   | (with_reducible refine LeO.ite ?_ ?_)
   | (with_reducible refine LeO.bind ?_ (fun _ => ?_))
   | refine impl_special.monoP (fun _ _ => ?_)
   | refine impl_wordCode.monoP ?_
set_option maxHeartbeats 8000000 in
set_option maxRecDepth 100000 in
theorem impl_RightSpecial.calls (k : Nat) (a0 : ByteArray) (a1 : Int) (r1 : List ByteArray) (r2 : Int) (w : World) (h : impl_RightSpecial.f k a0 a1 = some (r1, r2)) :
  Calls Tryz.prog 8 #[.string a0, .int .i64 a1] w fun e w' => ∃ v0_ : Value, e = .returned (.tuple #[v0_, .int .i64 r2]) ∧ Kd.R Kd.string 9 w' w.heap.size (fun _ => True) v0_ r1 ∧ Below w.heap.size w w' := by
 have HB := Aside0.mk (Below.refl w.heap.size w)
 have H : ((impl_wordCode.f k (impl_RightSpecial_1.f a1) (([a0] : List ByteArray))).bind fun t301 => (if t301 = 0 then ((impl_special.f k a0 a1 (fun z0_ z1_ => strings_HasPrefix.f z0_ z1_)).bind fun t302 => (some (t302, 0))) else (some (([] : List ByteArray), t301)))) = some (r1, r2) := h
 clear h
 obtain ⟨y298, hy298⟩ : ∃ y_ : List ByteArray, y_ = (([a0] : List ByteArray)) := ⟨_, rfl⟩
 replace H : ((impl_wordCode.f k (impl_RightSpecial_1.f a1) y298).bind fun t301 => (if t301 = 0 then ((impl_special.f k a0 a1 (fun z0_ z1_ => strings_HasPrefix.f z0_ z1_)).bind fun t302 => (some (t302, 0))) else (some (([] : List ByteArray), t301)))) = some (r1, r2) := by first | (rw [hy298]; with_reducible exact H) | (have H2_ := (Option.bind_some _ _).symm.trans H; rw [hy298]; with_reducible exact H2_) | (have H2_ := (Option.bind_some _ _).symm.trans H; with_reducible exact H2_) | with_reducible exact H | (rw [hy298]; exact H) | exact H
 have Ny298 := Aside0.mk hy298
 clear hy298
 replace H := qN H
 obtain ⟨t301, A3, H⟩ := H
 try dsimp only at H
 by_cases c4 : t301 = 0
 rotate_left
 ·
  rw [if_neg c4] at H
  obtain ⟨c4b0, c4b1⟩ := zF c4
  simp only [Option.some.injEq, Prod.mk.injEq] at H
  obtain ⟨rfl, rfl⟩ := H
  go_enter Tryz.func8, Tryz.ntmps8
  go_wp2_with (first | ((with_reducible refine gate_dst (N := 3) rfl ?_); refine box_event ?hg (N := 3) ?hd (cs := #[.int .i64 a1]) (t := 2) ?hr ?_; (case hd => rfl); (case hg => rfl); (case hr => first | (go_simp; done) | (go_simp; rfl)); intro gb297 hg w13 hbox hb; have BK297 := Aside0.mk (hbox); have GW297 := Aside0.mk ((by rw [hg]; exact (below_size (qB HB.out)) : w.heap.size ≤ gb297)); have GE297 := Aside0.mk ((by rw [hg]; exact (below_size (qB HB.out)) : w.heap.size ≤ gb297)); replace HB := Aside0.mk (below_step (qB HB.out) hb); clear hb hbox hg) | ((with_reducible refine gate_dst (N := 9) rfl ?_); refine Kd.R_lit Kd.string _ 9 ?hg (N := 9) ?hd (xs := ([a0] : List ByteArray)) (inner := [.string a0]) (ok := fun _ => True) (okp := fun _ => True) ?hr ?hp (fun _ hk => hk) trivial (Below.refl _ _) (Nat.le_refl _) (by simp) ?_; (case hd => rfl); (case hg => rfl); (case hr => first | (go_simp; done) | (go_simp; rfl)); (case hp => exact (Reps.one (show Kd.M Kd.string _ _ _ a0 [.string a0] from rfl) (Reps.none _ _))); intro v299 w14 ho15 hb hg_ hnew_; clear hg_ hnew_; (first | rw [← Ny298.out] at ho15 | (simp only [Int.reduceToNat] at ho15; rw [← Ny298.out] at ho15)); have HO300 := Aside0.mk (Kd.R_lower ho15 (below_size (qG HB.out))); replace BK297 := Aside0.mk (blk_below (g := gb297) (o := .cells #[.int .i64 a1] 2 (0, 0)) (qA BK297.out) hb); replace HB := Aside0.mk (below_step (qG HB.out) hb); clear hb ho15; obtain ⟨Ao16, co16, eo16⟩ := Kd.R_slice HO300.out; subst eo16) | ((with_reducible refine gate_callee (f := 35) rfl ?_); refine goesL_ (some 10) rfl rfl Tryz.func35 (by kernel_rfl) rfl #[.func (.func 36) #[] #[.pointer (some ⟨gb297, 0, none⟩)], .slice Ao16 y298.length co16] rfl qV ?_; (with_reducible refine (impl_wordCode.calls k (impl_RightSpecial_1.f a1) 36 #[.pointer (some ⟨gb297, 0, none⟩)] _ _ y298 t301 _ ?side1 ?side2 ?side3 A3.out).mono ?_); (case side1 => exact qC (Kd.R_reads' HO300.out).2.2); (case side2 => exact (Kd.R_reads' HO300.out).2.1); (case side3 => exact ⟨Go.Proofs.enters_of Tryz.func36 (by kernel_rfl) rfl, fun W_ hW_ r_ h_ => (impl_RightSpecial_1.calls gb297 a1 r_ W_ (blk_below (g := gb297) (o := .cells #[.int .i64 a1] 2 (0, 0)) (qA BK297.out) hW_) h_).mono (fun e_ W2_ h2_ => ⟨h2_.1, by first | exact h2_.2 | exact h2_.2.below⟩)⟩); rintro e w17 ⟨rfl, hb⟩; refine ⟨_, rfl, ?_⟩; replace HO300 := Aside0.mk (Kd.R_below (qR HO300.out) hb); replace BK297 := Aside0.mk (blk_below (g := gb297) (o := .cells #[.int .i64 a1] 2 (0, 0)) (qA BK297.out) hb); replace HB := Aside0.mk (below_step (qG HB.out) hb)))
  go_ret2
  exact ⟨_, qE, by first | exact Kd.R_nil _ _ _ _ _ | exact Kd.N_nil _ _ _ _ _ | exact Kd.V_nil _ _ _ _ _ | exact Kd.Q_nil _ _ _ _ _ | exact Kd.S_nil _ _ _ _ _, qG HB.out⟩

 rw [if_pos c4] at H
 obtain ⟨c4b0, c4b1⟩ := zT c4
 clear c4
 replace H := qN H
 obtain ⟨t302, A5, H⟩ := H
 try dsimp only at H
 simp only [Option.some.injEq, Prod.mk.injEq] at H
 obtain ⟨rfl, rfl⟩ := H
 go_enter Tryz.func8, Tryz.ntmps8
 go_wp2_with (first | ((with_reducible refine gate_dst (N := 3) rfl ?_); refine box_event ?hg (N := 3) ?hd (cs := #[.int .i64 a1]) (t := 2) ?hr ?_; (case hd => rfl); (case hg => rfl); (case hr => first | (go_simp; done) | (go_simp; rfl)); intro gb297 hg w6 hbox hb; have BK297 := Aside0.mk (hbox); have GW297 := Aside0.mk ((by rw [hg]; exact (below_size (qB HB.out)) : w.heap.size ≤ gb297)); have GE297 := Aside0.mk ((by rw [hg]; exact (below_size (qB HB.out)) : w.heap.size ≤ gb297)); replace HB := Aside0.mk (below_step (qB HB.out) hb); clear hb hbox hg) | ((with_reducible refine gate_dst (N := 9) rfl ?_); refine Kd.R_lit Kd.string _ 9 ?hg (N := 9) ?hd (xs := ([a0] : List ByteArray)) (inner := [.string a0]) (ok := fun _ => True) (okp := fun _ => True) ?hr ?hp (fun _ hk => hk) trivial (Below.refl _ _) (Nat.le_refl _) (by simp) ?_; (case hd => rfl); (case hg => rfl); (case hr => first | (go_simp; done) | (go_simp; rfl)); (case hp => exact (Reps.one (show Kd.M Kd.string _ _ _ a0 [.string a0] from rfl) (Reps.none _ _))); intro v299 w7 ho8 hb hg_ hnew_; clear hg_ hnew_; (first | rw [← Ny298.out] at ho8 | (simp only [Int.reduceToNat] at ho8; rw [← Ny298.out] at ho8)); have HO300 := Aside0.mk (Kd.R_lower ho8 (below_size (qG HB.out))); replace BK297 := Aside0.mk (blk_below (g := gb297) (o := .cells #[.int .i64 a1] 2 (0, 0)) (qA BK297.out) hb); replace HB := Aside0.mk (below_step (qG HB.out) hb); clear hb ho8; obtain ⟨Ao9, co9, eo9⟩ := Kd.R_slice HO300.out; subst eo9) | ((with_reducible refine gate_callee (f := 35) rfl ?_); refine goesL_ (some 10) rfl rfl Tryz.func35 (by kernel_rfl) rfl #[.func (.func 36) #[] #[.pointer (some ⟨gb297, 0, none⟩)], .slice Ao9 y298.length co9] rfl qV ?_; (with_reducible refine (impl_wordCode.calls k (impl_RightSpecial_1.f a1) 36 #[.pointer (some ⟨gb297, 0, none⟩)] _ _ y298 t301 _ ?side1 ?side2 ?side3 A3.out).mono ?_); (case side1 => exact qC (Kd.R_reads' HO300.out).2.2); (case side2 => exact (Kd.R_reads' HO300.out).2.1); (case side3 => exact ⟨Go.Proofs.enters_of Tryz.func36 (by kernel_rfl) rfl, fun W_ hW_ r_ h_ => (impl_RightSpecial_1.calls gb297 a1 r_ W_ (blk_below (g := gb297) (o := .cells #[.int .i64 a1] 2 (0, 0)) (qA BK297.out) hW_) h_).mono (fun e_ W2_ h2_ => ⟨h2_.1, by first | exact h2_.2 | exact h2_.2.below⟩)⟩); rintro e w10 ⟨rfl, hb⟩; refine ⟨_, rfl, ?_⟩; replace HO300 := Aside0.mk (Kd.R_below (qR HO300.out) hb); replace BK297 := Aside0.mk (blk_below (g := gb297) (o := .cells #[.int .i64 a1] 2 (0, 0)) (qA BK297.out) hb); replace HB := Aside0.mk (below_step (qG HB.out) hb); have hcz11_0 : w10.cell? ⟨gb297, 0, none⟩ = some (.int .i64 a1) := (blk_cell BK297.out 0).trans rfl; have hfz11_0 := blk_frozen BK297.out 0) | ((with_reducible refine gate_callee (f := 38) rfl ?_); refine goesL_ (some 16) rfl rfl Tryz.func38 (by kernel_rfl) rfl #[.string a0, .int .i64 a1, .func (.func 39) #[] #[]] rfl qV ?_; (with_reducible refine (impl_special.calls k a0 a1 (fun z0_ z1_ => strings_HasPrefix.f z0_ z1_) 39 #[] t302 _ ?side1 A5.out).mono ?_); (case side1 => exact ⟨Go.Proofs.enters_of Tryz.func39 (by kernel_rfl) rfl, fun z0_ z1_ W_ hW_ r_ h_ => (strings_HasPrefix.calls z0_ z1_ r_ W_  h_).mono (fun e_ W2_ h2_ => ⟨h2_.1, by first | exact h2_.2 | exact h2_.2.below⟩)⟩); rintro e w12 ⟨v303, rfl, ho0, hb⟩; refine ⟨_, rfl, ?_⟩; have HO304 := Aside0.mk (Kd.R_lower (Kd.R_new' ho0 (Kd.R_lt (qR HO300.out))) (below_size (qG HB.out))); replace HO300 := Aside0.mk (Kd.R_elder' (qR HO300.out) (Kd.R_base ho0) hb); replace BK297 := Aside0.mk (blk_below (g := gb297) (o := .cells #[.int .i64 a1] 2 (0, 0)) (qA BK297.out) hb); replace HB := Aside0.mk (below_step (qG HB.out) hb)))
 go_ret2
 exact ⟨_, qE, by (with_reducible repeat (first | apply Kd.R_alloc | apply Kd.R_drewN | apply Kd.R_drew)); exact Kd.R_mono HO304.out (fun _ hk => trivial), qG HB.out⟩
end Go.Proofs.YtgfnkdoennbipaaGreat.PF

namespace Go.Proofs.YtgfnkdoennbipaaGreat.PF
open Go.RowKit Go.Proofs.YtgfnkdoennbipaaGreatW.PrintWords Go.Proofs.YtgfnkdoennbipaaGreatW.PrintLast Go.Proofs.YtgfnkdoennbipaaGreatW.PrintMore
attribute [local go_sem] max2_int min2_int max_two min_two max_three min_three max_four min_four   -- for this text's walks alone
set_option linter.unusedVariables false
set_option linter.unusedSimpArgs false

/-! ### impl_LeftSpecial: function 10 -/
def impl_LeftSpecial.f (k : Nat) (a0 : ByteArray) (a1 : Int) : Option (List ByteArray × Int) := (impl_wordCode.f k (impl_LeftSpecial_1.f a1) (([a0] : List ByteArray))).bind fun t312 => (if t312 = 0 then ((impl_special.f k a0 a1 (fun z0_ z1_ => strings_HasSuffix.f z0_ z1_)).bind fun t313 => (some (t313, 0))) else (some (([] : List ByteArray), t312)))
theorem impl_LeftSpecial.mono : ∀ a0 a1 k, LeO (impl_LeftSpecial.f k a0 a1) (impl_LeftSpecial.f (k + 1) a0 a1) := by
 intro a0 a1 k
 unfold impl_LeftSpecial.f
 repeat' first
   | (with_reducible exact LeO.refl _)
   | (with_reducible exact LeO.none _)
   | (with_reducible refine LeO.ite ?_ ?_)
   | (with_reducible refine LeO.bind ?_ (fun _ => ?_))
   | refine impl_special.monoP (fun _ _ => ?_)
   | refine impl_wordCode.monoP ?_
set_option maxHeartbeats 8000000 in
set_option maxRecDepth 100000 in
theorem impl_LeftSpecial.calls (k : Nat) (a0 : ByteArray) (a1 : Int) (r1 : List ByteArray) (r2 : Int) (w : World) (h : impl_LeftSpecial.f k a0 a1 = some (r1, r2)) :
  Calls Tryz.prog 10 #[.string a0, .int .i64 a1] w fun e w' => ∃ v0_ : Value, e = .returned (.tuple #[v0_, .int .i64 r2]) ∧ Kd.R Kd.string 9 w' w.heap.size (fun _ => True) v0_ r1 ∧ Below w.heap.size w w' := by
 have HB := Aside0.mk (Below.refl w.heap.size w)
 have H : ((impl_wordCode.f k (impl_LeftSpecial_1.f a1) (([a0] : List ByteArray))).bind fun t312 => (if t312 = 0 then ((impl_special.f k a0 a1 (fun z0_ z1_ => strings_HasSuffix.f z0_ z1_)).bind fun t313 => (some (t313, 0))) else (some (([] : List ByteArray), t312)))) = some (r1, r2) := h
 clear h
 obtain ⟨y309, hy309⟩ : ∃ y_ : List ByteArray, y_ = (([a0] : List ByteArray)) := ⟨_, rfl⟩
 replace H : ((impl_wordCode.f k (impl_LeftSpecial_1.f a1) y309).bind fun t312 => (if t312 = 0 then ((impl_special.f k a0 a1 (fun z0_ z1_ => strings_HasSuffix.f z0_ z1_)).bind fun t313 => (some (t313, 0))) else (some (([] : List ByteArray), t312)))) = some (r1, r2) := by first | (rw [hy309]; with_reducible exact H) | (have H2_ := (Option.bind_some _ _).symm.trans H; rw [hy309]; with_reducible exact H2_) | (have H2_ := (Option.bind_some _ _).symm.trans H; with_reducible exact H2_) | with_reducible exact H | (rw [hy309]; exact H) | exact H
 have Ny309 := Aside0.mk hy309
 clear hy309
 replace H := qN H
 obtain ⟨t312, A3, H⟩ := H
 try dsimp only at H
 by_cases c4 : t312 = 0
 rotate_left
 ·
  rw [if_neg c4] at H
  obtain ⟨c4b0, c4b1⟩ := zF c4
  simp only [Option.some.injEq, Prod.mk.injEq] at H
  obtain ⟨rfl, rfl⟩ := H
  go_enter Tryz.func10, Tryz.ntmps10
  go_wp2_with (first | ((with_reducible refine gate_dst (N := 3) rfl ?_); refine box_event ?hg (N := 3) ?hd (cs := #[.int .i64 a1]) (t := 2) ?hr ?_; (case hd => rfl); (case hg => rfl); (case hr => first | (go_simp; done) | (go_simp; rfl)); intro gb308 hg w13 hbox hb; have BK308 := Aside0.mk (hbox); have GW308 := Aside0.mk ((by rw [hg]; exact (below_size (qB HB.out)) : w.heap.size ≤ gb308)); have GE308 := Aside0.mk ((by rw [hg]; exact (below_size (qB HB.out)) : w.heap.size ≤ gb308)); replace HB := Aside0.mk (below_step (qB HB.out) hb); clear hb hbox hg) | ((with_reducible refine gate_dst (N := 9) rfl ?_); refine Kd.R_lit Kd.string _ 9 ?hg (N := 9) ?hd (xs := ([a0] : List ByteArray)) (inner := [.string a0]) (ok := fun _ => True) (okp := fun _ => True) ?hr ?hp (fun _ hk => hk) trivial (Below.refl _ _) (Nat.le_refl _) (by simp) ?_; (case hd => rfl); (case hg => rfl); (case hr => first | (go_simp; done) | (go_simp; rfl)); (case hp => exact (Reps.one (show Kd.M Kd.string _ _ _ a0 [.string a0] from rfl) (Reps.none _ _))); intro v310 w14 ho15 hb hg_ hnew_; clear hg_ hnew_; (first | rw [← Ny309.out] at ho15 | (simp only [Int.reduceToNat] at ho15; rw [← Ny309.out] at ho15)); have HO311 := Aside0.mk (Kd.R_lower ho15 (below_size (qG HB.out))); replace BK308 := Aside0.mk (blk_below (g := gb308) (o := .cells #[.int .i64 a1] 2 (0, 0)) (qA BK308.out) hb); replace HB := Aside0.mk (below_step (qG HB.out) hb); clear hb ho15; obtain ⟨Ao16, co16, eo16⟩ := Kd.R_slice HO311.out; subst eo16) | ((with_reducible refine gate_callee (f := 35) rfl ?_); refine goesL_ (some 10) rfl rfl Tryz.func35 (by kernel_rfl) rfl #[.func (.func 40) #[] #[.pointer (some ⟨gb308, 0, none⟩)], .slice Ao16 y309.length co16] rfl qV ?_; (with_reducible refine (impl_wordCode.calls k (impl_LeftSpecial_1.f a1) 40 #[.pointer (some ⟨gb308, 0, none⟩)] _ _ y309 t312 _ ?side1 ?side2 ?side3 A3.out).mono ?_); (case side1 => exact qC (Kd.R_reads' HO311.out).2.2); (case side2 => exact (Kd.R_reads' HO311.out).2.1); (case side3 => exact ⟨Go.Proofs.enters_of Tryz.func40 (by kernel_rfl) rfl, fun W_ hW_ r_ h_ => (impl_LeftSpecial_1.calls gb308 a1 r_ W_ (blk_below (g := gb308) (o := .cells #[.int .i64 a1] 2 (0, 0)) (qA BK308.out) hW_) h_).mono (fun e_ W2_ h2_ => ⟨h2_.1, by first | exact h2_.2 | exact h2_.2.below⟩)⟩); rintro e w17 ⟨rfl, hb⟩; refine ⟨_, rfl, ?_⟩; replace HO311 := Aside0.mk (Kd.R_below (qR HO311.out) hb); replace BK308 := Aside0.mk (blk_below (g := gb308) (o := .cells #[.int .i64 a1] 2 (0, 0)) (qA BK308.out) hb); replace HB := Aside0.mk (below_step (qG HB.out) hb)))
  go_ret2
  exact ⟨_, qE, by first | exact Kd.R_nil _ _ _ _ _ | exact Kd.N_nil _ _ _ _ _ | exact Kd.V_nil _ _ _ _ _ | exact Kd.Q_nil _ _ _ _ _ | exact Kd.S_nil _ _ _ _ _, qG HB.out⟩

 rw [if_pos c4] at H
 obtain ⟨c4b0, c4b1⟩ := zT c4
 clear c4
 replace H := qN H
 obtain ⟨t313, A5, H⟩ := H
 try dsimp only at H
 simp only [Option.some.injEq, Prod.mk.injEq] at H
 obtain ⟨rfl, rfl⟩ := H
 go_enter Tryz.func10, Tryz.ntmps10
 go_wp2_with (first | ((with_reducible refine gate_dst (N := 3) rfl ?_); refine box_event ?hg (N := 3) ?hd (cs := #[.int .i64 a1]) (t := 2) ?hr ?_; (case hd => rfl); (case hg => rfl); (case hr => first | (go_simp; done) | (go_simp; rfl)); intro gb308 hg w6 hbox hb; have BK308 := Aside0.mk (hbox); have GW308 := Aside0.mk ((by rw [hg]; exact (below_size (qB HB.out)) : w.heap.size ≤ gb308)); have GE308 := Aside0.mk ((by rw [hg]; exact (below_size (qB HB.out)) : w.heap.size ≤ gb308)); replace HB := Aside0.mk (below_step (qB HB.out) hb); clear hb hbox hg) | ((with_reducible refine gate_dst (N := 9) rfl ?_); refine Kd.R_lit Kd.string _ 9 ?hg (N := 9) ?hd (xs := ([a0] : List ByteArray)) (inner := [.string a0]) (ok := fun _ => True) (okp := fun _ => True) ?hr ?hp (fun _ hk => hk) trivial (Below.refl _ _) (Nat.le_refl _) (by simp) ?_; (case hd => rfl); (case hg => rfl); (case hr => first | (go_simp; done) | (go_simp; rfl)); (case hp => exact (Reps.one (show Kd.M Kd.string _ _ _ a0 [.string a0] from rfl) (Reps.none _ _))); intro v310 w7 ho8 hb hg_ hnew_; clear hg_ hnew_; (first | rw [← Ny309.out] at ho8 | (simp only [Int.reduceToNat] at ho8; rw [← Ny309.out] at ho8)); have HO311 := Aside0.mk (Kd.R_lower ho8 (below_size (qG HB.out))); replace BK308 := Aside0.mk (blk_below (g := gb308) (o := .cells #[.int .i64 a1] 2 (0, 0)) (qA BK308.out) hb); replace HB := Aside0.mk (below_step (qG HB.out) hb); clear hb ho8; obtain ⟨Ao9, co9, eo9⟩ := Kd.R_slice HO311.out; subst eo9) | ((with_reducible refine gate_callee (f := 35) rfl ?_); refine goesL_ (some 10) rfl rfl Tryz.func35 (by kernel_rfl) rfl #[.func (.func 40) #[] #[.pointer (some ⟨gb308, 0, none⟩)], .slice Ao9 y309.length co9] rfl qV ?_; (with_reducible refine (impl_wordCode.calls k (impl_LeftSpecial_1.f a1) 40 #[.pointer (some ⟨gb308, 0, none⟩)] _ _ y309 t312 _ ?side1 ?side2 ?side3 A3.out).mono ?_); (case side1 => exact qC (Kd.R_reads' HO311.out).2.2); (case side2 => exact (Kd.R_reads' HO311.out).2.1); (case side3 => exact ⟨Go.Proofs.enters_of Tryz.func40 (by kernel_rfl) rfl, fun W_ hW_ r_ h_ => (impl_LeftSpecial_1.calls gb308 a1 r_ W_ (blk_below (g := gb308) (o := .cells #[.int .i64 a1] 2 (0, 0)) (qA BK308.out) hW_) h_).mono (fun e_ W2_ h2_ => ⟨h2_.1, by first | exact h2_.2 | exact h2_.2.below⟩)⟩); rintro e w10 ⟨rfl, hb⟩; refine ⟨_, rfl, ?_⟩; replace HO311 := Aside0.mk (Kd.R_below (qR HO311.out) hb); replace BK308 := Aside0.mk (blk_below (g := gb308) (o := .cells #[.int .i64 a1] 2 (0, 0)) (qA BK308.out) hb); replace HB := Aside0.mk (below_step (qG HB.out) hb); have hcz11_0 : w10.cell? ⟨gb308, 0, none⟩ = some (.int .i64 a1) := (blk_cell BK308.out 0).trans rfl; have hfz11_0 := blk_frozen BK308.out 0) | ((with_reducible refine gate_callee (f := 38) rfl ?_); refine goesL_ (some 16) rfl rfl Tryz.func38 (by kernel_rfl) rfl #[.string a0, .int .i64 a1, .func (.func 41) #[] #[]] rfl qV ?_; (with_reducible refine (impl_special.calls k a0 a1 (fun z0_ z1_ => strings_HasSuffix.f z0_ z1_) 41 #[] t313 _ ?side1 A5.out).mono ?_); (case side1 => exact ⟨Go.Proofs.enters_of Tryz.func41 (by kernel_rfl) rfl, fun z0_ z1_ W_ hW_ r_ h_ => (strings_HasSuffix.calls z0_ z1_ r_ W_  h_).mono (fun e_ W2_ h2_ => ⟨h2_.1, by first | exact h2_.2 | exact h2_.2.below⟩)⟩); rintro e w12 ⟨v314, rfl, ho0, hb⟩; refine ⟨_, rfl, ?_⟩; have HO315 := Aside0.mk (Kd.R_lower (Kd.R_new' ho0 (Kd.R_lt (qR HO311.out))) (below_size (qG HB.out))); replace HO311 := Aside0.mk (Kd.R_elder' (qR HO311.out) (Kd.R_base ho0) hb); replace BK308 := Aside0.mk (blk_below (g := gb308) (o := .cells #[.int .i64 a1] 2 (0, 0)) (qA BK308.out) hb); replace HB := Aside0.mk (below_step (qG HB.out) hb)))
 go_ret2
 exact ⟨_, qE, by (with_reducible repeat (first | apply Kd.R_alloc | apply Kd.R_drewN | apply Kd.R_drew)); exact Kd.R_mono HO315.out (fun _ hk => trivial), qG HB.out⟩
end Go.Proofs.YtgfnkdoennbipaaGreat.PF

namespace Go.Proofs.YtgfnkdoennbipaaGreat.PF
open Go.RowKit Go.Proofs.YtgfnkdoennbipaaGreatW.PrintWords Go.Proofs.YtgfnkdoennbipaaGreatW.PrintLast Go.Proofs.YtgfnkdoennbipaaGreatW.PrintMore
attribute [local go_sem] max2_int min2_int max_two min_two max_three min_three max_four min_four   -- for this text's walks alone
set_option linter.unusedVariables false
set_option linter.unusedSimpArgs false

/-! ### impl_Bispecial: function 6 -/
def impl_Bispecial.f (k : Nat) (a0 : ByteArray) (a1 : Int) : Option (List ByteArray × Int) := (impl_RightSpecial.f k a0 a1).bind fun bt320 => (if bt320.2 = 0 then ((impl_LeftSpecial.f k a0 a1).bind fun bt324 => ((slices_DeleteFunc_string_string.f k bt320.1 (fun z0_ => impl_Bispecial_1.f k z0_ bt324.1)).bind fun t329 => (some (t329, 0)))) else (some (([] : List ByteArray), bt320.2)))
theorem impl_Bispecial.mono : ∀ a0 a1 k, LeO (impl_Bispecial.f k a0 a1) (impl_Bispecial.f (k + 1) a0 a1) := by
 intro a0 a1 k
 unfold impl_Bispecial.f
 repeat' first
   | (with_reducible exact impl_Bispecial_1.mono _ _ _)
   | (with_reducible exact impl_LeftSpecial.mono _ _ _)
   | (with_reducible exact impl_RightSpecial.mono _ _ _)
   | (with_reducible exact LeO.refl _)
   | (with_reducible exact LeO.none _)
   | (with_reducible refine LeO.ite ?_ ?_)
   | (with_reducible refine LeO.bind ?_ (fun _ => ?_))
   | refine slices_DeleteFunc_string_string.monoP (fun _ => ?_)
set_option maxHeartbeats 8000000 in
set_option maxRecDepth 100000 in
theorem impl_Bispecial.calls (k : Nat) (a0 : ByteArray) (a1 : Int) (r1 : List ByteArray) (r2 : Int) (w : World) (h : impl_Bispecial.f k a0 a1 = some (r1, r2)) :
  Calls Tryz.prog 6 #[.string a0, .int .i64 a1] w fun e w' => ∃ v0_ : Value, e = .returned (.tuple #[v0_, .int .i64 r2]) ∧ Kd.R Kd.string 9 w' w.heap.size (fun _ => True) v0_ r1 ∧ Below w.heap.size w w' := by
 have HB := Aside0.mk (Below.refl w.heap.size w)
 have H : ((impl_RightSpecial.f k a0 a1).bind fun bt320 => (if bt320.2 = 0 then ((impl_LeftSpecial.f k a0 a1).bind fun bt324 => ((slices_DeleteFunc_string_string.f k bt320.1 (fun z0_ => impl_Bispecial_1.f k z0_ bt324.1)).bind fun t329 => (some (t329, 0)))) else (some (([] : List ByteArray), bt320.2)))) = some (r1, r2) := h
 clear h
 replace H := qN H
 obtain ⟨⟨t320, t321⟩, A3, H⟩ := H
 try dsimp only at H
 by_cases c4 : t321 = 0
 rotate_left
 ·
  rw [if_neg c4] at H
  obtain ⟨c4b0, c4b1⟩ := zF c4
  simp only [Option.some.injEq, Prod.mk.injEq] at H
  obtain ⟨rfl, rfl⟩ := H
  go_enter Tryz.func6, Tryz.ntmps6
  go_wp2_with (first | ((with_reducible refine gate_callee (f := 8) rfl ?_); refine goesL_ (some 13) rfl rfl Tryz.func8 (by kernel_rfl) rfl #[.string a0, .int .i64 a1] rfl qV ?_; (with_reducible refine (impl_RightSpecial.calls k a0 a1 t320 t321 _ A3.out).mono ?_); rintro e w15 ⟨v322, rfl, ho0, hb⟩; refine ⟨_, rfl, ?_⟩; have HO323 := Aside0.mk (Kd.R_lower ho0 (below_size (qB HB.out))); replace HB := Aside0.mk (below_step (qB HB.out) hb)))
  go_ret2
  exact ⟨_, qE, by first | exact Kd.R_nil _ _ _ _ _ | exact Kd.N_nil _ _ _ _ _ | exact Kd.V_nil _ _ _ _ _ | exact Kd.Q_nil _ _ _ _ _ | exact Kd.S_nil _ _ _ _ _, qB HB.out⟩

 rw [if_pos c4] at H
 obtain ⟨c4b0, c4b1⟩ := zT c4
 clear c4
 replace H := qN H
 obtain ⟨⟨t324, t325⟩, A5, H⟩ := H
 try dsimp only at H
 replace H := qN H
 obtain ⟨t329, A6, H⟩ := H
 try dsimp only at H
 simp only [Option.some.injEq, Prod.mk.injEq] at H
 obtain ⟨rfl, rfl⟩ := H
 go_enter Tryz.func6, Tryz.ntmps6
 go_wp2_with (first | ((with_reducible refine gate_callee (f := 8) rfl ?_); refine goesL_ (some 13) rfl rfl Tryz.func8 (by kernel_rfl) rfl #[.string a0, .int .i64 a1] rfl qV ?_; (with_reducible refine (impl_RightSpecial.calls k a0 a1 t320 t321 _ A3.out).mono ?_); rintro e w7 ⟨v322, rfl, ho0, hb⟩; refine ⟨_, rfl, ?_⟩; have HO323 := Aside0.mk (Kd.R_lower ho0 (below_size (qB HB.out))); replace HB := Aside0.mk (below_step (qB HB.out) hb)) | ((with_reducible refine gate_callee (f := 10) rfl ?_); refine goesL_ (some 22) rfl rfl Tryz.func10 (by kernel_rfl) rfl #[.string a0, .int .i64 a1] rfl qV ?_; (with_reducible refine (impl_LeftSpecial.calls k a0 a1 t324 t325 _ A5.out).mono ?_); rintro e w8 ⟨v326, rfl, ho0, hb⟩; refine ⟨_, rfl, ?_⟩; have HO327 := Aside0.mk (Kd.R_lower (Kd.R_new' ho0 (Kd.R_lt (qR HO323.out))) (below_size (qB HB.out))); replace HO323 := Aside0.mk (Kd.R_elder' (qR HO323.out) (Kd.R_base ho0) hb); replace HB := Aside0.mk (below_step (qB HB.out) hb)) | ((with_reducible refine gate_dst (N := 8) rfl ?_); refine box_event ?hg (N := 8) ?hd (cs := #[.slice none 0 0]) (t := 26) ?hr ?_; (case hd => rfl); (case hg => rfl); (case hr => first | (go_simp; done) | (go_simp; rfl)); intro gb328 hg w9 hbox hb; replace HO323 := Aside0.mk (Kd.R_below (qR HO323.out) hb); replace HO327 := Aside0.mk (Kd.R_below (qR HO327.out) hb); have BK328 := Aside0.mk (hbox); have GW328 := Aside0.mk ((by rw [hg]; exact (below_size (qB HB.out)) : w.heap.size ≤ gb328)); have GE328 := Aside0.mk ((by rw [hg]; exact (below_size (qB HB.out)) : w.heap.size ≤ gb328)); replace HB := Aside0.mk (below_step (qB HB.out) hb); clear hb hbox hg; obtain ⟨Ao10, co10, eo10⟩ := Kd.R_slice HO327.out; subst eo10; have hcz11_0 : w9.cell? ⟨gb328, 0, none⟩ = some (.slice none 0 0) := (blk_cell BK328.out 0).trans rfl; have hfz11_0 := blk_frozen BK328.out 0) | ((with_reducible refine gate_store (t := 26) (p := 8) rfl ?_); refine store_event (t := 26) (p := 8) (v := ?vo_w12) (w1 := (w9.setCell ⟨gb328, 0, none⟩ (.slice Ao10 t324.length co10))) ?hg ?ho ?hn ?hr ?_; (case ho => rfl); (case hg => rfl); (case hn => rfl); (case hr => first | (go_simp; done) | (go_simp; rfl)); intro w12 hw; have n0_ : Aside0 (Kd.R Kd.string 9 w12 w.heap.size (fun k_ => some k_ ≠ (.slice Ao10 t324.length co10 : Value).ownBlock) v322 t320) := ⟨(by rw [hw]; exact (by (with_reducible repeat (first | apply Kd.R_alloc | apply Kd.R_drewN | apply Kd.R_drew)); exact Kd.R_mono (Kd.R_far (p := ⟨gb328, 0, none⟩) (Kd.R_types HO323.out BK328.out (by decide)) (fun _ hk => hk.2) (.slice Ao10 t324.length co10)) (fun _ hk => hk.1.2)))⟩; have n1_ : Aside0 (Kd.R Kd.string 9 w12 w.heap.size (fun k_ => some k_ ≠ (v322 : Value).ownBlock) (.slice Ao10 t324.length co10) t324) := ⟨(by rw [hw]; exact (by (with_reducible repeat (first | apply Kd.R_alloc | apply Kd.R_drewN | apply Kd.R_drew)); exact Kd.R_mono (Kd.R_far (p := ⟨gb328, 0, none⟩) (Kd.R_types HO327.out BK328.out (by decide)) (fun _ hk => hk.2) (.slice Ao10 t324.length co10)) (fun _ hk => hk.1.2)))⟩; have n2_ : Aside0 (w12.heap[gb328]? = some (.cells #[.slice Ao10 t324.length co10] 26 (0, 0))) := ⟨(by rw [hw]; exact (by (with_reducible repeat (first | refine blk_drewN ?_ _ | refine blk_drew ?_ | refine blk_alloc ?_ _)); refine blk_put (cs := #[.slice none 0 0]) ?_ 0 _ rfl; (with_reducible repeat (first | refine blk_drewN ?_ _ | refine blk_drew ?_ | refine blk_alloc ?_ _)); exact BK328.out))⟩; have n3_ : Aside0 (Below w.heap.size w w12) := ⟨(by rw [hw]; exact (qG HB.out))⟩; clear hw; clear HO323; clear HO327; clear BK328; clear HB; have HO323 := n0_; have HO327 := n1_; have BK328 := n2_; have HB := n3_; clear n0_ n1_ n2_ n3_; obtain ⟨Ao13, co13, eo13⟩ := Kd.R_slice HO323.out; subst eo13) | ((with_reducible refine gate_callee (f := 30) rfl ?_); refine goesL_ (some 27) rfl rfl Tryz.func30 (by kernel_rfl) rfl #[.slice Ao13 t320.length co13, .func (.func 31) #[] #[.pointer (some ⟨gb328, 0, none⟩)]] rfl qV ?_; (with_reducible refine (slices_DeleteFunc_string_string.calls k (fun k_ => some k_ = (.slice Ao13 t320.length co13 : Value).ownBlock) (.slice Ao13 t320.length co13) t320 (fun z0_ => impl_Bispecial_1.f k z0_ t324) 31 #[.pointer (some ⟨gb328, 0, none⟩)] t329 w _ ?side1 ?side2 ?side3 A6.out).mono ?_); (case side1 => exact qG HB.out); (case side2 => exact Kd.R_tight rfl HO323.out); (case side3 => exact ⟨Go.Proofs.enters_of Tryz.func31 (by kernel_rfl) rfl, fun z0_ W_ hW_ r_ h_ => (impl_Bispecial_1.calls k z0_ gb328 _ _ t324 r_ W_ (blk_kept (qA BK328.out) hW_ (fun hs_ => (fun e_ => (Kd.R_ne HO323.out BK328.out (by decide)) e_) hs_)) (by exact Kd.C_kept_own (HO327.out) (fun k_ hk_ hs_ => (hk_) hs_) W_ hW_) (by exact (Kd.R_reads' HO327.out).2.1) h_).mono (fun e_ W2_ h2_ => ⟨h2_.1, by first | exact h2_.2 | exact h2_.2.below⟩)⟩); rintro e w14 ⟨v330, rfl, ho0, hb, hkp⟩; refine ⟨_, rfl, ?_⟩; replace BK328 := Aside0.mk (blk_kept (qA BK328.out) hkp (fun hs_ => (fun e_ => (Kd.R_ne HO323.out BK328.out (by decide)) e_) hs_)); have HO331 := Aside0.mk (Kd.R_mono (ok' := fun k_ => some k_ ≠ (.slice Ao10 t324.length co10 : Value).ownBlock) ho0 (fun k_ hk_ => Or.elim hk_ (fun hs_ => fun e_ => (((HO327.out).1 k_ e_.symm)) hs_) (fun hn_ => (Kd.fresh' (Kd.R_lt (qR HO327.out)) k_ hn_)))); replace HO327 := Aside0.mk (Kd.R_mono (ok' := fun k_ => some k_ ≠ (v330 : Value).ownBlock) (Kd.R_keptB (HO327.out) hkp (fun k_ hk_ hs_ => (hk_) hs_)) (fun k_ hk_ => fun e_ => Or.elim (ho0.1 k_ e_.symm) (fun hs_ => hk_.2.1 hs_) (fun hn_ => Nat.not_le.2 hk_.2.2 hn_))); replace HB := Aside0.mk (hb); clear HO323))
 go_ret2
 exact ⟨_, qE, by (with_reducible repeat (first | apply Kd.R_alloc | apply Kd.R_drewN | apply Kd.R_drew)); exact Kd.R_mono HO331.out (fun _ hk => trivial), qG HB.out⟩
end Go.Proofs.YtgfnkdoennbipaaGreat.PF

namespace Go.Proofs.YtgfnkdoennbipaaGreat.PF
open Go.RowKit Go.Proofs.YtgfnkdoennbipaaGreatW.PrintWords Go.Proofs.YtgfnkdoennbipaaGreatW.PrintLast Go.Proofs.YtgfnkdoennbipaaGreatW.PrintMore
attribute [local go_sem] max2_int min2_int max_two min_two max_three min_three max_four min_four   -- for this text's walks alone
set_option linter.unusedVariables false
set_option linter.unusedSimpArgs false

/-! ### laws_FnFactorNumbers: function 3 -/
mutual
def laws_FnFactorNumbers.j0 : Nat → List Int → ByteArray → Int → List ByteArray → Int → List ByteArray → List ByteArray → List (List Int) → Int → Bool → Option (Bool)
 | 0, _, _, _, _, _, _, _, _, _, _ => none
 | k + 1, x0, x3, x4, x5, x6, x9, x13, x17, x21, x167 => if x167 = true then (some false) else (if x6 = 0 then ((impl_FactorsOf.f k x3 x4).bind fun bt690 => (if bt690.2 = 0 then (if (bt690.1.length : Int) > 0 then (if x21 = (wrap64 ((wrap64 ((x17.length : Int) - (bt690.1.length : Int))) + 1)) then (if (x5.length : Int) > (x9.length : Int) then (laws_FnFactorNumbers.j1 k x0 x9 x17 bt690.1 true) else (laws_FnFactorNumbers.j1 k x0 x9 x17 bt690.1 (decide ((x5.length : Int) > (x13.length : Int))))) else (laws_FnFactorNumbers.j1 k x0 x9 x17 bt690.1 true)) else (if (x5.length : Int) > (x9.length : Int) then (laws_FnFactorNumbers.j1 k x0 x9 x17 bt690.1 true) else (laws_FnFactorNumbers.j1 k x0 x9 x17 bt690.1 (decide ((x5.length : Int) > (x13.length : Int)))))) else (laws_FnFactorNumbers.j1 k x0 x9 x17 bt690.1 true))) else (laws_FnFactorNumbers.j4 k x0))
def laws_FnFactorNumbers.j4 : Nat → List Int → Option (Bool)
 | 0, _ => none
 | k + 1, x0 => (spec_DrawComplexityOf.f k x0).bind fun t711 => ((impl_ComplexityOf.f k t711).bind fun bt712 => ((spec_ComplexityOf.f k t711).bind fun bt716 => ((impl_CountFactors.f k t711).bind fun bt720 => ((spec_CountFactors.f k t711).bind fun bt722 => (if bt712.2 = bt716.2 then ((laws_likeInts.f k bt712.1 bt716.1).bind fun t724 => (if t724 = true then (if bt720.2 = bt722.2 then (laws_FnFactorNumbers.j5 k x0 t711 bt712.1 bt712.2 bt720.1 (bt720.1 != bt722.1)) else (laws_FnFactorNumbers.j5 k x0 t711 bt712.1 bt712.2 bt720.1 true)) else (laws_FnFactorNumbers.j5 k x0 t711 bt712.1 bt712.2 bt720.1 true))) else (laws_FnFactorNumbers.j5 k x0 t711 bt712.1 bt712.2 bt720.1 true))))))
def laws_FnFactorNumbers.j5 : Nat → List Int → ByteArray → List Int → Int → Int → Bool → Option (Bool)
 | 0, _, _, _, _, _, _ => none
 | k + 1, x0, x31, x32, x33, x36, x330 => if x330 = true then (some false) else (if x33 = 0 then ((laws_sum.f k x32).bind fun t725 => (if t725 = x36 then (laws_FnFactorNumbers.j6 k x0 x32 (x31.size : Int) ((x32.length : Int) != (wrap64 ((x31.size : Int) + 1)))) else (laws_FnFactorNumbers.j6 k x0 x32 (x31.size : Int) true))) else ((spec_DrawHaveEqualFactors.f k x0).bind fun bt735 => ((impl_HaveEqualFactors.f k bt735.1 bt735.2.1 bt735.2.2).bind fun bt738 => ((spec_HaveEqualFactors.f k bt735.1 bt735.2.1 bt735.2.2).bind fun bt740 => (if bt738.2 = bt740.2 then (some (bt738.1 == bt740.1)) else (some false))))))
def laws_FnFactorNumbers.j6 : Nat → List Int → List Int → Int → Bool → Option (Bool)
 | 0, _, _, _, _ => none
 | k + 1, x0, x32, x40, x345 => if x345 = true then (some false) else (laws_FnFactorNumbers.l2 k x0 x32 x40 0)
def laws_FnFactorNumbers.l2 : Nat → List Int → List Int → Int → Int → Option (Bool)
 | 0, _, _, _, _ => none
 | k + 1, x0, x32, x40, x41 => if x41 ≤ x40 then (if 0 ≤ x41 then (if x41 < (x32.length : Int) then (if (rd x32 x41) < 1 then (some false) else (if (rd x32 x41) > (wrap64 ((wrap64 (x40 - x41)) + 1)) then (some false) else (laws_FnFactorNumbers.l2 k x0 x32 x40 (wrap64 (x41 + 1))))) else (none)) else (none)) else ((spec_DrawHaveEqualFactors.f k x0).bind fun bt728 => ((impl_HaveEqualFactors.f k bt728.1 bt728.2.1 bt728.2.2).bind fun bt731 => ((spec_HaveEqualFactors.f k bt728.1 bt728.2.1 bt728.2.2).bind fun bt733 => (if bt731.2 = bt733.2 then (some (bt731.1 == bt733.1)) else (some false)))))
def laws_FnFactorNumbers.j1 : Nat → List Int → List ByteArray → List (List Int) → List ByteArray → Bool → Option (Bool)
 | 0, _, _, _, _, _ => none
 | k + 1, x0, x9, x17, x25, x206 => if x206 = true then (some false) else (if 0 ≤ (x25.length : Int) then (if ((x25.length : Int) : Int).toNat ≤ 35184372088832 then (laws_FnFactorNumbers.l0 k x0 x9 x17 x25 (List.replicate ((x25.length : Int) : Int).toNat 0) 0) else (none)) else (none))
def laws_FnFactorNumbers.l0 : Nat → List Int → List ByteArray → List (List Int) → List ByteArray → List Int → Int → Option (Bool)
 | 0, _, _, _, _, _, _ => none
 | k + 1, x0, x9, x17, x25, x27, x28 => if x28 < (x17.length : Int) then (if 0 ≤ x28 then (if ((rd_L5 x17 x28).length : Int) = 2 then (if 0 < ((rd_L5 x17 x28).length : Int) then (if (rd (rd_L5 x17 x28) 0) < 0 then (some false) else (if (rd (rd_L5 x17 x28) 0) ≥ (x25.length : Int) then (some false) else (if 1 < ((rd_L5 x17 x28).length : Int) then (if (rd (rd_L5 x17 x28) 1) < 0 then (some false) else (if (rd (rd_L5 x17 x28) 1) ≥ (x25.length : Int) then (some false) else (if 0 ≤ (rd (rd_L5 x17 x28) 0) then (if (rd (rd_L5 x17 x28) 0) < (x27.length : Int) then (laws_FnFactorNumbers.l0 k x0 x9 x17 x25 (x27.set ((rd (rd_L5 x17 x28) 0) : Int).toNat (wrap64 ((rd x27 (rd (rd_L5 x17 x28) 0)) + 1))) (wrap64 (x28 + 1))) else (none)) else (none)))) else (none)))) else (none)) else (some false)) else (none)) else (laws_FnFactorNumbers.l1 k x0 x9 x25 x27 0 0)
def laws_FnFactorNumbers.l1 : Nat → List Int → List ByteArray → List ByteArray → List Int → Int → Int → Option (Bool)
 | 0, _, _, _, _, _, _ => none
 | k + 1, x0, x9, x25, x27, x29, x30 => if x30 < (x25.length : Int) then (if 0 ≤ x30 then (if x30 < (x27.length : Int) then (if (rd x27 x30) > 1 then (laws_FnFactorNumbers.l1 k x0 x9 x25 x27 (wrap64 (x29 + 1)) (wrap64 (x30 + 1))) else (laws_FnFactorNumbers.l1 k x0 x9 x25 x27 x29 (wrap64 (x30 + 1)))) else (none)) else (none)) else (if x29 = (x9.length : Int) then (laws_FnFactorNumbers.j4 k x0) else (some false))
end
def laws_FnFactorNumbers.f (k : Nat) (l0 : List Int) : Option (Bool) := (laws_big.f l0).bind fun t647 => (if t647 = true then (some true) else ((spec_DrawBispecial.f k l0).bind fun bt648 => ((impl_Bispecial.f k bt648.1 bt648.2).bind fun bt650 => ((spec_Bispecial.f k bt648.1 bt648.2).bind fun bt654 => ((impl_RightSpecial.f k bt648.1 bt648.2).bind fun bt658 => ((spec_RightSpecial.f k bt648.1 bt648.2).bind fun bt662 => ((impl_LeftSpecial.f k bt648.1 bt648.2).bind fun bt666 => ((spec_LeftSpecial.f k bt648.1 bt648.2).bind fun bt670 => ((impl_FactorEdges.f k bt648.1 bt648.2).bind fun bt674 => ((spec_FactorEdges.f k bt648.1 bt648.2).bind fun bt678 => ((impl_CountCycles.f k bt648.1 bt648.2).bind fun bt682 => ((spec_CountCycles.f k bt648.1 bt648.2).bind fun bt684 => (if bt650.2 = bt654.2 then ((laws_words5.f k bt650.1 bt654.1).bind fun t686 => (if t686 = true then (if bt658.2 = bt662.2 then ((laws_words5.f k bt658.1 bt662.1).bind fun t687 => (if t687 = true then (if bt666.2 = bt670.2 then ((laws_words5.f k bt666.1 bt670.1).bind fun t688 => (if t688 = true then (if bt674.2 = bt678.2 then ((laws_rows5.f k bt674.1 bt678.1).bind fun t689 => (if t689 = true then (if bt682.2 = bt684.2 then (laws_FnFactorNumbers.j0 k l0 bt648.1 bt648.2 bt650.1 bt650.2 bt658.1 bt666.1 bt674.1 bt682.1 (bt682.1 != bt684.1)) else (laws_FnFactorNumbers.j0 k l0 bt648.1 bt648.2 bt650.1 bt650.2 bt658.1 bt666.1 bt674.1 bt682.1 true)) else (laws_FnFactorNumbers.j0 k l0 bt648.1 bt648.2 bt650.1 bt650.2 bt658.1 bt666.1 bt674.1 bt682.1 true))) else (laws_FnFactorNumbers.j0 k l0 bt648.1 bt648.2 bt650.1 bt650.2 bt658.1 bt666.1 bt674.1 bt682.1 true)) else (laws_FnFactorNumbers.j0 k l0 bt648.1 bt648.2 bt650.1 bt650.2 bt658.1 bt666.1 bt674.1 bt682.1 true))) else (laws_FnFactorNumbers.j0 k l0 bt648.1 bt648.2 bt650.1 bt650.2 bt658.1 bt666.1 bt674.1 bt682.1 true)) else (laws_FnFactorNumbers.j0 k l0 bt648.1 bt648.2 bt650.1 bt650.2 bt658.1 bt666.1 bt674.1 bt682.1 true))) else (laws_FnFactorNumbers.j0 k l0 bt648.1 bt648.2 bt650.1 bt650.2 bt658.1 bt666.1 bt674.1 bt682.1 true)) else (laws_FnFactorNumbers.j0 k l0 bt648.1 bt648.2 bt650.1 bt650.2 bt658.1 bt666.1 bt674.1 bt682.1 true))) else (laws_FnFactorNumbers.j0 k l0 bt648.1 bt648.2 bt650.1 bt650.2 bt658.1 bt666.1 bt674.1 bt682.1 true))))))))))))))
theorem laws_FnFactorNumbers.mono_l : ∀ k, (∀ y0 y1 y2 y3 y4 y5 y6 y7 y8 y9, LeO (laws_FnFactorNumbers.j0 k y0 y1 y2 y3 y4 y5 y6 y7 y8 y9) (laws_FnFactorNumbers.j0 (k + 1) y0 y1 y2 y3 y4 y5 y6 y7 y8 y9)) ∧ (∀ y0, LeO (laws_FnFactorNumbers.j4 k y0) (laws_FnFactorNumbers.j4 (k + 1) y0)) ∧ (∀ y0 y1 y2 y3 y4 y5, LeO (laws_FnFactorNumbers.j5 k y0 y1 y2 y3 y4 y5) (laws_FnFactorNumbers.j5 (k + 1) y0 y1 y2 y3 y4 y5)) ∧ (∀ y0 y1 y2 y3, LeO (laws_FnFactorNumbers.j6 k y0 y1 y2 y3) (laws_FnFactorNumbers.j6 (k + 1) y0 y1 y2 y3)) ∧ (∀ y0 y1 y2 y3, LeO (laws_FnFactorNumbers.l2 k y0 y1 y2 y3) (laws_FnFactorNumbers.l2 (k + 1) y0 y1 y2 y3)) ∧ (∀ y0 y1 y2 y3 y4, LeO (laws_FnFactorNumbers.j1 k y0 y1 y2 y3 y4) (laws_FnFactorNumbers.j1 (k + 1) y0 y1 y2 y3 y4)) ∧ (∀ y0 y1 y2 y3 y4 y5, LeO (laws_FnFactorNumbers.l0 k y0 y1 y2 y3 y4 y5) (laws_FnFactorNumbers.l0 (k + 1) y0 y1 y2 y3 y4 y5)) ∧ (∀ y0 y1 y2 y3 y4 y5, LeO (laws_FnFactorNumbers.l1 k y0 y1 y2 y3 y4 y5) (laws_FnFactorNumbers.l1 (k + 1) y0 y1 y2 y3 y4 y5))
 | 0 => ⟨fun _ _ _ _ _ _ _ _ _ _ r h => by simp [laws_FnFactorNumbers.j0] at h, fun _ r h => by simp [laws_FnFactorNumbers.j4] at h, fun _ _ _ _ _ _ r h => by simp [laws_FnFactorNumbers.j5] at h, fun _ _ _ _ r h => by simp [laws_FnFactorNumbers.j6] at h, fun _ _ _ _ r h => by simp [laws_FnFactorNumbers.l2] at h, fun _ _ _ _ _ r h => by simp [laws_FnFactorNumbers.j1] at h, fun _ _ _ _ _ _ r h => by simp [laws_FnFactorNumbers.l0] at h, fun _ _ _ _ _ _ r h => by simp [laws_FnFactorNumbers.l1] at h⟩
 | k + 1 => by
  obtain ⟨ih0, ih1, ih2, ih3, ih4, ih5, ih6, ih7⟩ := laws_FnFactorNumbers.mono_l k
  refine ⟨?_, ?_, ?_, ?_, ?_, ?_, ?_, ?_⟩
  all_goals intros
  all_goals first | unfold laws_FnFactorNumbers.j0 | unfold laws_FnFactorNumbers.j4 | unfold laws_FnFactorNumbers.j5 | unfold laws_FnFactorNumbers.j6 | unfold laws_FnFactorNumbers.l2 | unfold laws_FnFactorNumbers.j1 | unfold laws_FnFactorNumbers.l0 | unfold laws_FnFactorNumbers.l1
  all_goals with_reducible repeat' first
  | exact ih0 _ _ _ _ _ _ _ _ _ _
  | exact ih1 _
  | exact ih2 _ _ _ _ _ _
  | exact ih3 _ _ _ _
  | exact ih4 _ _ _ _
  | exact ih5 _ _ _ _ _
  | exact ih6 _ _ _ _ _ _
  | exact ih7 _ _ _ _ _ _
  | exact impl_Bispecial.mono _ _ _
  | exact impl_ComplexityOf.mono _ _
  | exact impl_CountCycles.mono _ _ _
  | exact impl_CountFactors.mono _ _
  | exact impl_FactorEdges.mono _ _ _
  | exact impl_FactorsOf.mono _ _ _
  | exact impl_HaveEqualFactors.mono _ _ _ _
  | exact impl_LeftSpecial.mono _ _ _
  | exact impl_RightSpecial.mono _ _ _
  | exact laws_likeInts.mono _ _ _
  | exact laws_rows5.mono _ _ _
  | exact laws_sum.mono _ _
  | exact laws_words5.mono _ _ _
  | exact spec_Bispecial.mono _ _ _
  | exact spec_ComplexityOf.mono _ _
  | exact spec_CountCycles.mono _ _ _
  | exact spec_CountFactors.mono _ _
  | exact spec_DrawBispecial.mono _ _
  | exact spec_DrawComplexityOf.mono _ _
  | exact spec_DrawHaveEqualFactors.mono _ _
  | exact spec_FactorEdges.mono _ _ _
  | exact spec_HaveEqualFactors.mono _ _ _ _
  | exact spec_LeftSpecial.mono _ _ _
  | exact spec_RightSpecial.mono _ _ _
  | exact LeO.refl _
  | exact LeO.none _
  | refine LeO.ite ?_ ?_
  | refine LeO.bind ?_ (fun _ => ?_)
theorem laws_FnFactorNumbers.mono : ∀ a0 k, LeO (laws_FnFactorNumbers.f k a0) (laws_FnFactorNumbers.f (k + 1) a0) := by
 intro a0 k
 obtain ⟨ih0, ih1, ih2, ih3, ih4, ih5, ih6, ih7⟩ := laws_FnFactorNumbers.mono_l k
 unfold laws_FnFactorNumbers.f
 with_reducible repeat' first
   | exact ih0 _ _ _ _ _ _ _ _ _ _
   | exact ih1 _
   | exact ih2 _ _ _ _ _ _
   | exact ih3 _ _ _ _
   | exact ih4 _ _ _ _
   | exact ih5 _ _ _ _ _
   | exact ih6 _ _ _ _ _ _
   | exact ih7 _ _ _ _ _ _
   | exact impl_Bispecial.mono _ _ _
   | exact impl_ComplexityOf.mono _ _
   | exact impl_CountCycles.mono _ _ _
   | exact impl_CountFactors.mono _ _
   | exact impl_FactorEdges.mono _ _ _
   | exact impl_FactorsOf.mono _ _ _
   | exact impl_HaveEqualFactors.mono _ _ _ _
   | exact impl_LeftSpecial.mono _ _ _
   | exact impl_RightSpecial.mono _ _ _
   | exact laws_likeInts.mono _ _ _
   | exact laws_rows5.mono _ _ _
   | exact laws_sum.mono _ _
   | exact laws_words5.mono _ _ _
   | exact spec_Bispecial.mono _ _ _
   | exact spec_ComplexityOf.mono _ _
   | exact spec_CountCycles.mono _ _ _
   | exact spec_CountFactors.mono _ _
   | exact spec_DrawBispecial.mono _ _
   | exact spec_DrawComplexityOf.mono _ _
   | exact spec_DrawHaveEqualFactors.mono _ _
   | exact spec_FactorEdges.mono _ _ _
   | exact spec_HaveEqualFactors.mono _ _ _ _
   | exact spec_LeftSpecial.mono _ _ _
   | exact spec_RightSpecial.mono _ _ _
   | exact LeO.refl _
   | exact LeO.none _
   | refine LeO.ite ?_ ?_
   | refine LeO.bind ?_ (fun _ => ?_)
set_option maxHeartbeats 8000000 in
set_option maxRecDepth 100000 in
theorem laws_FnFactorNumbers.calls (k : Nat) (A0 : Option Addr) (c0 : Nat) (l0 : List Int) (r : Bool) (w : World) (hr0 : Kd.C (Kd.int .u8) w A0 l0.length l0) (hc0 : l0.length ≤ c0) (h : laws_FnFactorNumbers.f k l0 = some r) :
  Calls Tryz.prog 3 #[.slice A0 l0.length c0] w fun e w' => e = .returned (.bool r) ∧ Below w.heap.size w w' := by
 have HR0 := Aside0.mk hr0
 have HC0 := Aside0.mk hc0
 clear hr0 hc0
 have HB := Aside0.mk (Below.refl w.heap.size w)
 have H : ((laws_big.f l0).bind fun t647 => (if t647 = true then (some true) else ((spec_DrawBispecial.f k l0).bind fun bt648 => ((impl_Bispecial.f k bt648.1 bt648.2).bind fun bt650 => ((spec_Bispecial.f k bt648.1 bt648.2).bind fun bt654 => ((impl_RightSpecial.f k bt648.1 bt648.2).bind fun bt658 => ((spec_RightSpecial.f k bt648.1 bt648.2).bind fun bt662 => ((impl_LeftSpecial.f k bt648.1 bt648.2).bind fun bt666 => ((spec_LeftSpecial.f k bt648.1 bt648.2).bind fun bt670 => ((impl_FactorEdges.f k bt648.1 bt648.2).bind fun bt674 => ((spec_FactorEdges.f k bt648.1 bt648.2).bind fun bt678 => ((impl_CountCycles.f k bt648.1 bt648.2).bind fun bt682 => ((spec_CountCycles.f k bt648.1 bt648.2).bind fun bt684 => (if bt650.2 = bt654.2 then ((laws_words5.f k bt650.1 bt654.1).bind fun t686 => (if t686 = true then (if bt658.2 = bt662.2 then ((laws_words5.f k bt658.1 bt662.1).bind fun t687 => (if t687 = true then (if bt666.2 = bt670.2 then ((laws_words5.f k bt666.1 bt670.1).bind fun t688 => (if t688 = true then (if bt674.2 = bt678.2 then ((laws_rows5.f k bt674.1 bt678.1).bind fun t689 => (if t689 = true then (if bt682.2 = bt684.2 then (laws_FnFactorNumbers.j0 k l0 bt648.1 bt648.2 bt650.1 bt650.2 bt658.1 bt666.1 bt674.1 bt682.1 (bt682.1 != bt684.1)) else (laws_FnFactorNumbers.j0 k l0 bt648.1 bt648.2 bt650.1 bt650.2 bt658.1 bt666.1 bt674.1 bt682.1 true)) else (laws_FnFactorNumbers.j0 k l0 bt648.1 bt648.2 bt650.1 bt650.2 bt658.1 bt666.1 bt674.1 bt682.1 true))) else (laws_FnFactorNumbers.j0 k l0 bt648.1 bt648.2 bt650.1 bt650.2 bt658.1 bt666.1 bt674.1 bt682.1 true)) else (laws_FnFactorNumbers.j0 k l0 bt648.1 bt648.2 bt650.1 bt650.2 bt658.1 bt666.1 bt674.1 bt682.1 true))) else (laws_FnFactorNumbers.j0 k l0 bt648.1 bt648.2 bt650.1 bt650.2 bt658.1 bt666.1 bt674.1 bt682.1 true)) else (laws_FnFactorNumbers.j0 k l0 bt648.1 bt648.2 bt650.1 bt650.2 bt658.1 bt666.1 bt674.1 bt682.1 true))) else (laws_FnFactorNumbers.j0 k l0 bt648.1 bt648.2 bt650.1 bt650.2 bt658.1 bt666.1 bt674.1 bt682.1 true)) else (laws_FnFactorNumbers.j0 k l0 bt648.1 bt648.2 bt650.1 bt650.2 bt658.1 bt666.1 bt674.1 bt682.1 true))) else (laws_FnFactorNumbers.j0 k l0 bt648.1 bt648.2 bt650.1 bt650.2 bt658.1 bt666.1 bt674.1 bt682.1 true))))))))))))))) = some r := h
 clear h
 replace H := qN H
 obtain ⟨t647, A2, H⟩ := H
 try dsimp only at H
 by_cases c3 : t647 = true
 ·
  subst c3
  rw [if_pos rfl] at H
  obtain rfl := Option.some.inj H
  go_enter Tryz.func3, Tryz.ntmps3
  as_aux_lemma =>
   go_wp2_with (first | ((with_reducible refine gate_callee (f := 4) rfl ?_); refine goesL_ (some 50) rfl rfl Tryz.func4 (by kernel_rfl) rfl #[.slice A0 l0.length c0] rfl qV ?_; (with_reducible refine (laws_big.calls _ _ l0 true _ ?side1 ?side2 A2.out).mono ?_); (case side1 => exact qC HR0.out); (case side2 => exact HC0.out); rintro e w' ⟨rfl, ⟨nd, rfl⟩⟩; refine ⟨_, rfl, ?_⟩))
   go_ret
   exact ⟨qE, qB HB.out⟩
 replace c3 := Bool.eq_false_iff.mpr c3
 subst c3
 rw [if_neg (show ¬ (false = true) by decide)] at H
 replace H := qN H
 obtain ⟨⟨t648, t649⟩, A4, H⟩ := H
 try dsimp only at H
 replace H := qN H
 obtain ⟨⟨t650, t651⟩, A5, H⟩ := H
 try dsimp only at H
 replace H := qN H
 obtain ⟨⟨t654, t655⟩, A6, H⟩ := H
 try dsimp only at H
 replace H := qN H
 obtain ⟨⟨t658, t659⟩, A7, H⟩ := H
 try dsimp only at H
 replace H := qN H
 obtain ⟨⟨t662, t663⟩, A8, H⟩ := H
 try dsimp only at H
 replace H := qN H
 obtain ⟨⟨t666, t667⟩, A9, H⟩ := H
 try dsimp only at H
 replace H := qN H
 obtain ⟨⟨t670, t671⟩, A10, H⟩ := H
 try dsimp only at H
 replace H := qN H
 obtain ⟨⟨t674, t675⟩, A11, H⟩ := H
 try dsimp only at H
 replace H := qN H
 obtain ⟨⟨t678, t679⟩, A12, H⟩ := H
 try dsimp only at H
 replace H := qN H
 obtain ⟨⟨t682, t683⟩, A13, H⟩ := H
 try dsimp only at H
 replace H := qN H
 obtain ⟨⟨t684, t685⟩, A14, H⟩ := H
 try dsimp only at H
 have HC15 := Aside0.mk H
 clear H
 go_enter Tryz.func3, Tryz.ntmps3
 go_upto_region 14 with (first | ((with_reducible refine gate_callee (f := 4) rfl ?_); refine goesL_ (some 50) rfl rfl Tryz.func4 (by kernel_rfl) rfl #[.slice A0 l0.length c0] rfl qV ?_; (with_reducible refine (laws_big.calls _ _ l0 false _ ?side1 ?side2 A2.out).mono ?_); (case side1 => exact qC HR0.out); (case side2 => exact HC0.out); rintro e w' ⟨rfl, ⟨nd, rfl⟩⟩; refine ⟨_, rfl, ?_⟩) | ((with_reducible refine gate_callee (f := 5) rfl ?_); refine goesL_ (some 53) rfl rfl Tryz.func5 (by kernel_rfl) rfl #[.slice A0 l0.length c0] rfl qV ?_; (with_reducible refine (spec_DrawBispecial.calls k _ _ l0 t648 t649 _ ?side1 ?side2 A4.out).mono ?_); (case side1 => exact qC HR0.out); (case side2 => exact HC0.out); rintro e w16 ⟨rfl, hb⟩; refine ⟨_, rfl, ?_⟩; replace HB := Aside0.mk (below_step (qB HB.out) hb)) | ((with_reducible refine gate_callee (f := 6) rfl ?_); refine goesL_ (some 59) rfl rfl Tryz.func6 (by kernel_rfl) rfl #[.string t648, .int .i64 t649] rfl qV ?_; (with_reducible refine (impl_Bispecial.calls k t648 t649 t650 t651 _ A5.out).mono ?_); rintro e w17 ⟨v652, rfl, ho0, hb⟩; refine ⟨_, rfl, ?_⟩; have HO653 := Aside0.mk (Kd.R_lower ho0 (below_size (qB HB.out))); replace HB := Aside0.mk (below_step (qB HB.out) hb)) | ((with_reducible refine gate_callee (f := 7) rfl ?_); refine goesL_ (some 65) rfl rfl Tryz.func7 (by kernel_rfl) rfl #[.string t648, .int .i64 t649] rfl qV ?_; (with_reducible refine (spec_Bispecial.calls k t648 t649 t654 t655 _ A6.out).mono ?_); rintro e w18 ⟨v656, rfl, ho0, hb⟩; refine ⟨_, rfl, ?_⟩; have HO657 := Aside0.mk (Kd.R_lower (Kd.R_new' ho0 (Kd.R_lt (qR HO653.out))) (below_size (qB HB.out))); replace HO653 := Aside0.mk (Kd.R_elder' (qR HO653.out) (Kd.R_base ho0) hb); replace HB := Aside0.mk (below_step (qB HB.out) hb)) | ((with_reducible refine gate_callee (f := 8) rfl ?_); refine goesL_ (some 71) rfl rfl Tryz.func8 (by kernel_rfl) rfl #[.string t648, .int .i64 t649] rfl qV ?_; (with_reducible refine (impl_RightSpecial.calls k t648 t649 t658 t659 _ A7.out).mono ?_); rintro e w19 ⟨v660, rfl, ho0, hb⟩; refine ⟨_, rfl, ?_⟩; have HO661 := Aside0.mk (Kd.R_lower (Kd.R_new' (Kd.R_new' ho0 (Kd.R_lt (qR HO653.out))) (Kd.R_lt (qR HO657.out))) (below_size (qB HB.out))); replace HO653 := Aside0.mk (Kd.R_elder' (qR HO653.out) (Kd.R_base ho0) hb); replace HO657 := Aside0.mk (Kd.R_elder' (qR HO657.out) (Kd.R_base ho0) hb); replace HB := Aside0.mk (below_step (qB HB.out) hb)) | ((with_reducible refine gate_callee (f := 9) rfl ?_); refine goesL_ (some 77) rfl rfl Tryz.func9 (by kernel_rfl) rfl #[.string t648, .int .i64 t649] rfl qV ?_; (with_reducible refine (spec_RightSpecial.calls k t648 t649 t662 t663 _ A8.out).mono ?_); rintro e w20 ⟨v664, rfl, ho0, hb⟩; refine ⟨_, rfl, ?_⟩; have HO665 := Aside0.mk (Kd.R_lower (Kd.R_new' (Kd.R_new' (Kd.R_new' ho0 (Kd.R_lt (qR HO653.out))) (Kd.R_lt (qR HO657.out))) (Kd.R_lt (qR HO661.out))) (below_size (qB HB.out))); replace HO653 := Aside0.mk (Kd.R_elder' (qR HO653.out) (Kd.R_base ho0) hb); replace HO657 := Aside0.mk (Kd.R_elder' (qR HO657.out) (Kd.R_base ho0) hb); replace HO661 := Aside0.mk (Kd.R_elder' (qR HO661.out) (Kd.R_base ho0) hb); replace HB := Aside0.mk (below_step (qB HB.out) hb)) | ((with_reducible refine gate_callee (f := 10) rfl ?_); refine goesL_ (some 83) rfl rfl Tryz.func10 (by kernel_rfl) rfl #[.string t648, .int .i64 t649] rfl qV ?_; (with_reducible refine (impl_LeftSpecial.calls k t648 t649 t666 t667 _ A9.out).mono ?_); rintro e w21 ⟨v668, rfl, ho0, hb⟩; refine ⟨_, rfl, ?_⟩; have HO669 := Aside0.mk (Kd.R_lower (Kd.R_new' (Kd.R_new' (Kd.R_new' (Kd.R_new' ho0 (Kd.R_lt (qR HO653.out))) (Kd.R_lt (qR HO657.out))) (Kd.R_lt (qR HO661.out))) (Kd.R_lt (qR HO665.out))) (below_size (qB HB.out))); replace HO653 := Aside0.mk (Kd.R_elder' (qR HO653.out) (Kd.R_base ho0) hb); replace HO657 := Aside0.mk (Kd.R_elder' (qR HO657.out) (Kd.R_base ho0) hb); replace HO661 := Aside0.mk (Kd.R_elder' (qR HO661.out) (Kd.R_base ho0) hb); replace HO665 := Aside0.mk (Kd.R_elder' (qR HO665.out) (Kd.R_base ho0) hb); replace HB := Aside0.mk (below_step (qB HB.out) hb)) | ((with_reducible refine gate_callee (f := 11) rfl ?_); refine goesL_ (some 89) rfl rfl Tryz.func11 (by kernel_rfl) rfl #[.string t648, .int .i64 t649] rfl qV ?_; (with_reducible refine (spec_LeftSpecial.calls k t648 t649 t670 t671 _ A10.out).mono ?_); rintro e w22 ⟨v672, rfl, ho0, hb⟩; refine ⟨_, rfl, ?_⟩; have HO673 := Aside0.mk (Kd.R_lower (Kd.R_new' (Kd.R_new' (Kd.R_new' (Kd.R_new' (Kd.R_new' ho0 (Kd.R_lt (qR HO653.out))) (Kd.R_lt (qR HO657.out))) (Kd.R_lt (qR HO661.out))) (Kd.R_lt (qR HO665.out))) (Kd.R_lt (qR HO669.out))) (below_size (qB HB.out))); replace HO653 := Aside0.mk (Kd.R_elder' (qR HO653.out) (Kd.R_base ho0) hb); replace HO657 := Aside0.mk (Kd.R_elder' (qR HO657.out) (Kd.R_base ho0) hb); replace HO661 := Aside0.mk (Kd.R_elder' (qR HO661.out) (Kd.R_base ho0) hb); replace HO665 := Aside0.mk (Kd.R_elder' (qR HO665.out) (Kd.R_base ho0) hb); replace HO669 := Aside0.mk (Kd.R_elder' (qR HO669.out) (Kd.R_base ho0) hb); replace HB := Aside0.mk (below_step (qB HB.out) hb)) | ((with_reducible refine gate_callee (f := 12) rfl ?_); refine goesL_ (some 95) rfl rfl Tryz.func12 (by kernel_rfl) rfl #[.string t648, .int .i64 t649] rfl qV ?_; (with_reducible refine (impl_FactorEdges.calls k t648 t649 t674 t675 _ A11.out).mono ?_); rintro e w23 ⟨v676, rfl, ho0, hb⟩; refine ⟨_, rfl, ?_⟩; replace HO653 := Aside0.mk (Kd.R_below (qR HO653.out) hb); replace HO657 := Aside0.mk (Kd.R_below (qR HO657.out) hb); replace HO661 := Aside0.mk (Kd.R_below (qR HO661.out) hb); replace HO665 := Aside0.mk (Kd.R_below (qR HO665.out) hb); replace HO669 := Aside0.mk (Kd.R_below (qR HO669.out) hb); replace HO673 := Aside0.mk (Kd.R_below (qR HO673.out) hb); have HO677 := Aside0.mk (Kd.S_lower ho0 (below_size (qB HB.out))); replace HB := Aside0.mk (below_step (qB HB.out) hb)) | ((with_reducible refine gate_callee (f := 13) rfl ?_); refine goesL_ (some 101) rfl rfl Tryz.func13 (by kernel_rfl) rfl #[.string t648, .int .i64 t649] rfl qV ?_; (with_reducible refine (spec_FactorEdges.calls k t648 t649 t678 t679 _ A12.out).mono ?_); rintro e w24 ⟨v680, rfl, ho0, hb⟩; refine ⟨_, rfl, ?_⟩; replace HO653 := Aside0.mk (Kd.R_below (qR HO653.out) hb); replace HO657 := Aside0.mk (Kd.R_below (qR HO657.out) hb); replace HO661 := Aside0.mk (Kd.R_below (qR HO661.out) hb); replace HO665 := Aside0.mk (Kd.R_below (qR HO665.out) hb); replace HO669 := Aside0.mk (Kd.R_below (qR HO669.out) hb); replace HO673 := Aside0.mk (Kd.R_below (qR HO673.out) hb); have HO681 := Aside0.mk (Kd.S_lower (Kd.S_new' ho0 (Kd.S_lt (by (with_reducible repeat (first | apply Kd.S_alloc | apply Kd.S_drewN | apply Kd.S_drew)); exact HO677.out))) (below_size (qB HB.out))); replace HO677 := Aside0.mk (Kd.S_elder' (by (with_reducible repeat (first | apply Kd.S_alloc | apply Kd.S_drewN | apply Kd.S_drew)); exact HO677.out) (Kd.S_base ho0) hb); replace HB := Aside0.mk (below_step (qB HB.out) hb)) | ((with_reducible refine gate_callee (f := 14) rfl ?_); refine goesL_ (some 107) rfl rfl Tryz.func14 (by kernel_rfl) rfl #[.string t648, .int .i64 t649] rfl qV ?_; (with_reducible refine (impl_CountCycles.calls k t648 t649 t682 t683 _ A13.out).mono ?_); rintro e w25 ⟨rfl, hb⟩; refine ⟨_, rfl, ?_⟩; replace HO653 := Aside0.mk (Kd.R_below (qR HO653.out) hb); replace HO657 := Aside0.mk (Kd.R_below (qR HO657.out) hb); replace HO661 := Aside0.mk (Kd.R_below (qR HO661.out) hb); replace HO665 := Aside0.mk (Kd.R_below (qR HO665.out) hb); replace HO669 := Aside0.mk (Kd.R_below (qR HO669.out) hb); replace HO673 := Aside0.mk (Kd.R_below (qR HO673.out) hb); replace HO677 := Aside0.mk (Kd.S_below (by (with_reducible repeat (first | apply Kd.S_alloc | apply Kd.S_drewN | apply Kd.S_drew)); exact HO677.out) hb); replace HO681 := Aside0.mk (Kd.S_below (by (with_reducible repeat (first | apply Kd.S_alloc | apply Kd.S_drewN | apply Kd.S_drew)); exact HO681.out) hb); replace HB := Aside0.mk (below_step (qB HB.out) hb)) | ((with_reducible refine gate_callee (f := 15) rfl ?_); refine goesL_ (some 113) rfl rfl Tryz.func15 (by kernel_rfl) rfl #[.string t648, .int .i64 t649] rfl qV ?_; (with_reducible refine (spec_CountCycles.calls k t648 t649 t684 t685 _ A14.out).mono ?_); rintro e w26 ⟨rfl, hb⟩; refine ⟨_, rfl, ?_⟩; replace HO653 := Aside0.mk (Kd.R_below (qR HO653.out) hb); replace HO657 := Aside0.mk (Kd.R_below (qR HO657.out) hb); replace HO661 := Aside0.mk (Kd.R_below (qR HO661.out) hb); replace HO665 := Aside0.mk (Kd.R_below (qR HO665.out) hb); replace HO669 := Aside0.mk (Kd.R_below (qR HO669.out) hb); replace HO673 := Aside0.mk (Kd.R_below (qR HO673.out) hb); replace HO677 := Aside0.mk (Kd.S_below (by (with_reducible repeat (first | apply Kd.S_alloc | apply Kd.S_drewN | apply Kd.S_drew)); exact HO677.out) hb); replace HO681 := Aside0.mk (Kd.S_below (by (with_reducible repeat (first | apply Kd.S_alloc | apply Kd.S_drewN | apply Kd.S_drew)); exact HO681.out) hb); replace HB := Aside0.mk (below_step (qB HB.out) hb)))
 (try simp only [Act.put, List.setIfInBounds_toArray, List.set_cons_zero, List.set_cons_succ])
 go_cut [167] (fun v167 wc => ∃ (kq : Nat) (x167_14 : Bool), v167 = .bool x167_14 ∧ Aside0 (laws_FnFactorNumbers.j0 kq l0 t648 t649 t650 t651 t658 t666 t674 t682 x167_14 = some r) ∧ Aside0 (kq ≤ k) ∧ Aside0 (Kd.R Kd.string 9 wc w.heap.size (fun k_ => some k_ ≠ (v660 : Value).ownBlock ∧ some k_ ≠ (v668 : Value).ownBlock) v652 t650) ∧ Aside0 (Kd.R Kd.string 9 wc w.heap.size (fun k_ => some k_ ≠ (v652 : Value).ownBlock ∧ some k_ ≠ (v668 : Value).ownBlock) v660 t658) ∧ Aside0 (Kd.R Kd.string 9 wc w.heap.size (fun k_ => some k_ ≠ (v652 : Value).ownBlock ∧ some k_ ≠ (v660 : Value).ownBlock) v668 t666) ∧ Aside0 (Kd.S (Kd.slice 2 (Kd.int .i64)) 36 wc w.heap.size (fun _ => True) v676 t674) ∧ Aside0 (Below w.heap.size w wc))
 case first => as_aux_lemma =>
  have H := HC15.out
  clear HC15
  by_cases c27 : t651 = t655
  rotate_left
  ·
   rw [if_neg c27] at H
   obtain ⟨c27b0, c27b1⟩ := zF c27
   (first | rw [c27b0] | (simp only [i64_w, i32_w]; rw [c27b0]) | skip)
   have H' := Aside0.mk H
   clear H
   as_aux_lemma =>
    go_wp2
    go_meet
    case rel => exact ⟨_, (true), qF, H', ⟨by first | omega | exact Nat.le_refl _⟩, ⟨by (with_reducible repeat (first | apply Kd.R_alloc | apply Kd.R_drewN | apply Kd.R_drew)); exact Kd.R_mono HO653.out (fun _ hk => ⟨hk.1.1.1.2, hk.1.2⟩)⟩, ⟨by (with_reducible repeat (first | apply Kd.R_alloc | apply Kd.R_drewN | apply Kd.R_drew)); exact Kd.R_mono HO661.out (fun _ hk => ⟨hk.1.1.1.1.2, hk.1.2⟩)⟩, ⟨by (with_reducible repeat (first | apply Kd.R_alloc | apply Kd.R_drewN | apply Kd.R_drew)); exact Kd.R_mono HO669.out (fun _ hk => ⟨hk.1.1.1.1.2, hk.1.1.2⟩)⟩, ⟨by (with_reducible repeat (first | apply Kd.S_alloc | apply Kd.S_drewN | apply Kd.S_drew)); exact Kd.S_mono HO677.out (fun _ hk => trivial)⟩, ⟨qB HB.out⟩⟩
  rw [if_pos c27] at H
  obtain ⟨c27b0, c27b1⟩ := zT c27
  clear c27
  (first | rw [c27b0] | (simp only [i64_w, i32_w]; rw [c27b0]) | skip)
  replace H := qN H
  obtain ⟨t686, A28, H⟩ := H
  try dsimp only at H
  by_cases c29 : t686 = true
  rotate_left
  ·
   replace c29 := Bool.eq_false_iff.mpr c29
   subst c29
   rw [if_neg (show ¬ (false = true) by decide)] at H
   have H' := Aside0.mk H
   clear H
   obtain ⟨Ao86, co86, eo86⟩ := Kd.R_slice HO653.out
   subst eo86
   obtain ⟨Ao87, co87, eo87⟩ := Kd.R_slice HO657.out
   subst eo87
   as_aux_lemma =>
    go_wp2_with (first | (go_at_call 16; (with_reducible refine (laws_words5.calls k _ _ t650 _ _ t654 false _ ?side1 ?side2 ?side3 ?side4 A28.out).mono ?_); (case side1 => exact qC (Kd.R_reads' HO653.out).2.2); (case side2 => exact (Kd.R_reads' HO653.out).2.1); (case side3 => exact qC (Kd.R_reads' HO657.out).2.2); (case side4 => exact (Kd.R_reads' HO657.out).2.1); rintro e w' ⟨rfl, ⟨nd, rfl⟩⟩))
    go_meet
    case rel => exact ⟨_, (true), qF, H', ⟨by first | omega | exact Nat.le_refl _⟩, ⟨by (with_reducible repeat (first | apply Kd.R_alloc | apply Kd.R_drewN | apply Kd.R_drew)); exact Kd.R_mono HO653.out (fun _ hk => ⟨hk.1.1.1.2, hk.1.2⟩)⟩, ⟨by (with_reducible repeat (first | apply Kd.R_alloc | apply Kd.R_drewN | apply Kd.R_drew)); exact Kd.R_mono HO661.out (fun _ hk => ⟨hk.1.1.1.1.2, hk.1.2⟩)⟩, ⟨by (with_reducible repeat (first | apply Kd.R_alloc | apply Kd.R_drewN | apply Kd.R_drew)); exact Kd.R_mono HO669.out (fun _ hk => ⟨hk.1.1.1.1.2, hk.1.1.2⟩)⟩, ⟨by (with_reducible repeat (first | apply Kd.S_alloc | apply Kd.S_drewN | apply Kd.S_drew)); exact Kd.S_mono HO677.out (fun _ hk => trivial)⟩, ⟨qB HB.out⟩⟩
  subst c29
  rw [if_pos rfl] at H
  by_cases c30 : t659 = t663
  rotate_left
  ·
   rw [if_neg c30] at H
   obtain ⟨c30b0, c30b1⟩ := zF c30
   have H' := Aside0.mk H
   clear H
   obtain ⟨Ao84, co84, eo84⟩ := Kd.R_slice HO653.out
   subst eo84
   obtain ⟨Ao85, co85, eo85⟩ := Kd.R_slice HO657.out
   subst eo85
   as_aux_lemma =>
    go_wp2_with (first | (go_at_call 16; (with_reducible refine (laws_words5.calls k _ _ t650 _ _ t654 true _ ?side1 ?side2 ?side3 ?side4 A28.out).mono ?_); (case side1 => exact qC (Kd.R_reads' HO653.out).2.2); (case side2 => exact (Kd.R_reads' HO653.out).2.1); (case side3 => exact qC (Kd.R_reads' HO657.out).2.2); (case side4 => exact (Kd.R_reads' HO657.out).2.1); rintro e w' ⟨rfl, ⟨nd, rfl⟩⟩))
    go_meet
    case rel => exact ⟨_, (true), qF, H', ⟨by first | omega | exact Nat.le_refl _⟩, ⟨by (with_reducible repeat (first | apply Kd.R_alloc | apply Kd.R_drewN | apply Kd.R_drew)); exact Kd.R_mono HO653.out (fun _ hk => ⟨hk.1.1.1.2, hk.1.2⟩)⟩, ⟨by (with_reducible repeat (first | apply Kd.R_alloc | apply Kd.R_drewN | apply Kd.R_drew)); exact Kd.R_mono HO661.out (fun _ hk => ⟨hk.1.1.1.1.2, hk.1.2⟩)⟩, ⟨by (with_reducible repeat (first | apply Kd.R_alloc | apply Kd.R_drewN | apply Kd.R_drew)); exact Kd.R_mono HO669.out (fun _ hk => ⟨hk.1.1.1.1.2, hk.1.1.2⟩)⟩, ⟨by (with_reducible repeat (first | apply Kd.S_alloc | apply Kd.S_drewN | apply Kd.S_drew)); exact Kd.S_mono HO677.out (fun _ hk => trivial)⟩, ⟨qB HB.out⟩⟩
  rw [if_pos c30] at H
  obtain ⟨c30b0, c30b1⟩ := zT c30
  clear c30
  replace H := qN H
  obtain ⟨t687, A31, H⟩ := H
  try dsimp only at H
  by_cases c32 : t687 = true
  rotate_left
  ·
   replace c32 := Bool.eq_false_iff.mpr c32
   subst c32
   rw [if_neg (show ¬ (false = true) by decide)] at H
   have H' := Aside0.mk H
   clear H
   obtain ⟨Ao80, co80, eo80⟩ := Kd.R_slice HO653.out
   subst eo80
   obtain ⟨Ao81, co81, eo81⟩ := Kd.R_slice HO657.out
   subst eo81
   as_aux_lemma =>
    go_wp2_with (first | (go_at_call 16; (with_reducible refine (laws_words5.calls k _ _ t650 _ _ t654 true _ ?side1 ?side2 ?side3 ?side4 A28.out).mono ?_); (case side1 => exact qC (Kd.R_reads' HO653.out).2.2); (case side2 => exact (Kd.R_reads' HO653.out).2.1); (case side3 => exact qC (Kd.R_reads' HO657.out).2.2); (case side4 => exact (Kd.R_reads' HO657.out).2.1); rintro e w' ⟨rfl, ⟨nd, rfl⟩⟩; obtain ⟨Ao82, co82, eo82⟩ := Kd.R_slice HO661.out; subst eo82; obtain ⟨Ao83, co83, eo83⟩ := Kd.R_slice HO665.out; subst eo83) | (go_at_call 16; (with_reducible refine (laws_words5.calls k _ _ t658 _ _ t662 false _ ?side1 ?side2 ?side3 ?side4 A31.out).mono ?_); (case side1 => exact qC (Kd.R_reads' HO661.out).2.2); (case side2 => exact (Kd.R_reads' HO661.out).2.1); (case side3 => exact qC (Kd.R_reads' HO665.out).2.2); (case side4 => exact (Kd.R_reads' HO665.out).2.1); rintro e w' ⟨rfl, ⟨nd, rfl⟩⟩))
    go_meet
    case rel => exact ⟨_, (true), qF, H', ⟨by first | omega | exact Nat.le_refl _⟩, ⟨by (with_reducible repeat (first | apply Kd.R_alloc | apply Kd.R_drewN | apply Kd.R_drew)); exact Kd.R_mono HO653.out (fun _ hk => ⟨hk.1.1.1.2, hk.1.2⟩)⟩, ⟨by (with_reducible repeat (first | apply Kd.R_alloc | apply Kd.R_drewN | apply Kd.R_drew)); exact Kd.R_mono HO661.out (fun _ hk => ⟨hk.1.1.1.1.2, hk.1.2⟩)⟩, ⟨by (with_reducible repeat (first | apply Kd.R_alloc | apply Kd.R_drewN | apply Kd.R_drew)); exact Kd.R_mono HO669.out (fun _ hk => ⟨hk.1.1.1.1.2, hk.1.1.2⟩)⟩, ⟨by (with_reducible repeat (first | apply Kd.S_alloc | apply Kd.S_drewN | apply Kd.S_drew)); exact Kd.S_mono HO677.out (fun _ hk => trivial)⟩, ⟨qB HB.out⟩⟩
  subst c32
  rw [if_pos rfl] at H
  by_cases c33 : t667 = t671
  rotate_left
  ·
   rw [if_neg c33] at H
   obtain ⟨c33b0, c33b1⟩ := zF c33
   have H' := Aside0.mk H
   clear H
   obtain ⟨Ao76, co76, eo76⟩ := Kd.R_slice HO653.out
   subst eo76
   obtain ⟨Ao77, co77, eo77⟩ := Kd.R_slice HO657.out
   subst eo77
   as_aux_lemma =>
    go_wp2_with (first | (go_at_call 16; (with_reducible refine (laws_words5.calls k _ _ t650 _ _ t654 true _ ?side1 ?side2 ?side3 ?side4 A28.out).mono ?_); (case side1 => exact qC (Kd.R_reads' HO653.out).2.2); (case side2 => exact (Kd.R_reads' HO653.out).2.1); (case side3 => exact qC (Kd.R_reads' HO657.out).2.2); (case side4 => exact (Kd.R_reads' HO657.out).2.1); rintro e w' ⟨rfl, ⟨nd, rfl⟩⟩; obtain ⟨Ao78, co78, eo78⟩ := Kd.R_slice HO661.out; subst eo78; obtain ⟨Ao79, co79, eo79⟩ := Kd.R_slice HO665.out; subst eo79) | (go_at_call 16; (with_reducible refine (laws_words5.calls k _ _ t658 _ _ t662 true _ ?side1 ?side2 ?side3 ?side4 A31.out).mono ?_); (case side1 => exact qC (Kd.R_reads' HO661.out).2.2); (case side2 => exact (Kd.R_reads' HO661.out).2.1); (case side3 => exact qC (Kd.R_reads' HO665.out).2.2); (case side4 => exact (Kd.R_reads' HO665.out).2.1); rintro e w' ⟨rfl, ⟨nd, rfl⟩⟩))
    go_meet
    case rel => exact ⟨_, (true), qF, H', ⟨by first | omega | exact Nat.le_refl _⟩, ⟨by (with_reducible repeat (first | apply Kd.R_alloc | apply Kd.R_drewN | apply Kd.R_drew)); exact Kd.R_mono HO653.out (fun _ hk => ⟨hk.1.1.1.2, hk.1.2⟩)⟩, ⟨by (with_reducible repeat (first | apply Kd.R_alloc | apply Kd.R_drewN | apply Kd.R_drew)); exact Kd.R_mono HO661.out (fun _ hk => ⟨hk.1.1.1.1.2, hk.1.2⟩)⟩, ⟨by (with_reducible repeat (first | apply Kd.R_alloc | apply Kd.R_drewN | apply Kd.R_drew)); exact Kd.R_mono HO669.out (fun _ hk => ⟨hk.1.1.1.1.2, hk.1.1.2⟩)⟩, ⟨by (with_reducible repeat (first | apply Kd.S_alloc | apply Kd.S_drewN | apply Kd.S_drew)); exact Kd.S_mono HO677.out (fun _ hk => trivial)⟩, ⟨qB HB.out⟩⟩
  rw [if_pos c33] at H
  obtain ⟨c33b0, c33b1⟩ := zT c33
  clear c33
  replace H := qN H
  obtain ⟨t688, A34, H⟩ := H
  try dsimp only at H
  by_cases c35 : t688 = true
  rotate_left
  ·
   replace c35 := Bool.eq_false_iff.mpr c35
   subst c35
   rw [if_neg (show ¬ (false = true) by decide)] at H
   have H' := Aside0.mk H
   clear H
   obtain ⟨Ao70, co70, eo70⟩ := Kd.R_slice HO653.out
   subst eo70
   obtain ⟨Ao71, co71, eo71⟩ := Kd.R_slice HO657.out
   subst eo71
   as_aux_lemma =>
    go_wp2_with (first | (go_at_call 16; (with_reducible refine (laws_words5.calls k _ _ t650 _ _ t654 true _ ?side1 ?side2 ?side3 ?side4 A28.out).mono ?_); (case side1 => exact qC (Kd.R_reads' HO653.out).2.2); (case side2 => exact (Kd.R_reads' HO653.out).2.1); (case side3 => exact qC (Kd.R_reads' HO657.out).2.2); (case side4 => exact (Kd.R_reads' HO657.out).2.1); rintro e w' ⟨rfl, ⟨nd, rfl⟩⟩; obtain ⟨Ao72, co72, eo72⟩ := Kd.R_slice HO661.out; subst eo72; obtain ⟨Ao73, co73, eo73⟩ := Kd.R_slice HO665.out; subst eo73) | (go_at_call 16; (with_reducible refine (laws_words5.calls k _ _ t658 _ _ t662 true _ ?side1 ?side2 ?side3 ?side4 A31.out).mono ?_); (case side1 => exact qC (Kd.R_reads' HO661.out).2.2); (case side2 => exact (Kd.R_reads' HO661.out).2.1); (case side3 => exact qC (Kd.R_reads' HO665.out).2.2); (case side4 => exact (Kd.R_reads' HO665.out).2.1); rintro e w' ⟨rfl, ⟨nd, rfl⟩⟩; obtain ⟨Ao74, co74, eo74⟩ := Kd.R_slice HO669.out; subst eo74; obtain ⟨Ao75, co75, eo75⟩ := Kd.R_slice HO673.out; subst eo75) | (go_at_call 16; (with_reducible refine (laws_words5.calls k _ _ t666 _ _ t670 false _ ?side1 ?side2 ?side3 ?side4 A34.out).mono ?_); (case side1 => exact qC (Kd.R_reads' HO669.out).2.2); (case side2 => exact (Kd.R_reads' HO669.out).2.1); (case side3 => exact qC (Kd.R_reads' HO673.out).2.2); (case side4 => exact (Kd.R_reads' HO673.out).2.1); rintro e w' ⟨rfl, ⟨nd, rfl⟩⟩))
    go_meet
    case rel => exact ⟨_, (true), qF, H', ⟨by first | omega | exact Nat.le_refl _⟩, ⟨by (with_reducible repeat (first | apply Kd.R_alloc | apply Kd.R_drewN | apply Kd.R_drew)); exact Kd.R_mono HO653.out (fun _ hk => ⟨hk.1.1.1.2, hk.1.2⟩)⟩, ⟨by (with_reducible repeat (first | apply Kd.R_alloc | apply Kd.R_drewN | apply Kd.R_drew)); exact Kd.R_mono HO661.out (fun _ hk => ⟨hk.1.1.1.1.2, hk.1.2⟩)⟩, ⟨by (with_reducible repeat (first | apply Kd.R_alloc | apply Kd.R_drewN | apply Kd.R_drew)); exact Kd.R_mono HO669.out (fun _ hk => ⟨hk.1.1.1.1.2, hk.1.1.2⟩)⟩, ⟨by (with_reducible repeat (first | apply Kd.S_alloc | apply Kd.S_drewN | apply Kd.S_drew)); exact Kd.S_mono HO677.out (fun _ hk => trivial)⟩, ⟨qB HB.out⟩⟩
  subst c35
  rw [if_pos rfl] at H
  by_cases c36 : t675 = t679
  rotate_left
  ·
   rw [if_neg c36] at H
   obtain ⟨c36b0, c36b1⟩ := zF c36
   have H' := Aside0.mk H
   clear H
   obtain ⟨Ao64, co64, eo64⟩ := Kd.R_slice HO653.out
   subst eo64
   obtain ⟨Ao65, co65, eo65⟩ := Kd.R_slice HO657.out
   subst eo65
   as_aux_lemma =>
    go_wp2_with (first | (go_at_call 16; (with_reducible refine (laws_words5.calls k _ _ t650 _ _ t654 true _ ?side1 ?side2 ?side3 ?side4 A28.out).mono ?_); (case side1 => exact qC (Kd.R_reads' HO653.out).2.2); (case side2 => exact (Kd.R_reads' HO653.out).2.1); (case side3 => exact qC (Kd.R_reads' HO657.out).2.2); (case side4 => exact (Kd.R_reads' HO657.out).2.1); rintro e w' ⟨rfl, ⟨nd, rfl⟩⟩; obtain ⟨Ao66, co66, eo66⟩ := Kd.R_slice HO661.out; subst eo66; obtain ⟨Ao67, co67, eo67⟩ := Kd.R_slice HO665.out; subst eo67) | (go_at_call 16; (with_reducible refine (laws_words5.calls k _ _ t658 _ _ t662 true _ ?side1 ?side2 ?side3 ?side4 A31.out).mono ?_); (case side1 => exact qC (Kd.R_reads' HO661.out).2.2); (case side2 => exact (Kd.R_reads' HO661.out).2.1); (case side3 => exact qC (Kd.R_reads' HO665.out).2.2); (case side4 => exact (Kd.R_reads' HO665.out).2.1); rintro e w' ⟨rfl, ⟨nd, rfl⟩⟩; obtain ⟨Ao68, co68, eo68⟩ := Kd.R_slice HO669.out; subst eo68; obtain ⟨Ao69, co69, eo69⟩ := Kd.R_slice HO673.out; subst eo69) | (go_at_call 16; (with_reducible refine (laws_words5.calls k _ _ t666 _ _ t670 true _ ?side1 ?side2 ?side3 ?side4 A34.out).mono ?_); (case side1 => exact qC (Kd.R_reads' HO669.out).2.2); (case side2 => exact (Kd.R_reads' HO669.out).2.1); (case side3 => exact qC (Kd.R_reads' HO673.out).2.2); (case side4 => exact (Kd.R_reads' HO673.out).2.1); rintro e w' ⟨rfl, ⟨nd, rfl⟩⟩))
    go_meet
    case rel => exact ⟨_, (true), qF, H', ⟨by first | omega | exact Nat.le_refl _⟩, ⟨by (with_reducible repeat (first | apply Kd.R_alloc | apply Kd.R_drewN | apply Kd.R_drew)); exact Kd.R_mono HO653.out (fun _ hk => ⟨hk.1.1.1.2, hk.1.2⟩)⟩, ⟨by (with_reducible repeat (first | apply Kd.R_alloc | apply Kd.R_drewN | apply Kd.R_drew)); exact Kd.R_mono HO661.out (fun _ hk => ⟨hk.1.1.1.1.2, hk.1.2⟩)⟩, ⟨by (with_reducible repeat (first | apply Kd.R_alloc | apply Kd.R_drewN | apply Kd.R_drew)); exact Kd.R_mono HO669.out (fun _ hk => ⟨hk.1.1.1.1.2, hk.1.1.2⟩)⟩, ⟨by (with_reducible repeat (first | apply Kd.S_alloc | apply Kd.S_drewN | apply Kd.S_drew)); exact Kd.S_mono HO677.out (fun _ hk => trivial)⟩, ⟨qB HB.out⟩⟩
  rw [if_pos c36] at H
  obtain ⟨c36b0, c36b1⟩ := zT c36
  clear c36
  replace H := qN H
  obtain ⟨t689, A37, H⟩ := H
  try dsimp only at H
  by_cases c38 : t689 = true
  rotate_left
  ·
   replace c38 := Bool.eq_false_iff.mpr c38
   subst c38
   rw [if_neg (show ¬ (false = true) by decide)] at H
   have H' := Aside0.mk H
   clear H
   obtain ⟨Ao56, co56, eo56⟩ := Kd.R_slice HO653.out
   subst eo56
   obtain ⟨Ao57, co57, eo57⟩ := Kd.R_slice HO657.out
   subst eo57
   as_aux_lemma =>
    go_wp2_with (first | (go_at_call 16; (with_reducible refine (laws_words5.calls k _ _ t650 _ _ t654 true _ ?side1 ?side2 ?side3 ?side4 A28.out).mono ?_); (case side1 => exact qC (Kd.R_reads' HO653.out).2.2); (case side2 => exact (Kd.R_reads' HO653.out).2.1); (case side3 => exact qC (Kd.R_reads' HO657.out).2.2); (case side4 => exact (Kd.R_reads' HO657.out).2.1); rintro e w' ⟨rfl, ⟨nd, rfl⟩⟩; obtain ⟨Ao58, co58, eo58⟩ := Kd.R_slice HO661.out; subst eo58; obtain ⟨Ao59, co59, eo59⟩ := Kd.R_slice HO665.out; subst eo59) | (go_at_call 16; (with_reducible refine (laws_words5.calls k _ _ t658 _ _ t662 true _ ?side1 ?side2 ?side3 ?side4 A31.out).mono ?_); (case side1 => exact qC (Kd.R_reads' HO661.out).2.2); (case side2 => exact (Kd.R_reads' HO661.out).2.1); (case side3 => exact qC (Kd.R_reads' HO665.out).2.2); (case side4 => exact (Kd.R_reads' HO665.out).2.1); rintro e w' ⟨rfl, ⟨nd, rfl⟩⟩; obtain ⟨Ao60, co60, eo60⟩ := Kd.R_slice HO669.out; subst eo60; obtain ⟨Ao61, co61, eo61⟩ := Kd.R_slice HO673.out; subst eo61) | (go_at_call 16; (with_reducible refine (laws_words5.calls k _ _ t666 _ _ t670 true _ ?side1 ?side2 ?side3 ?side4 A34.out).mono ?_); (case side1 => exact qC (Kd.R_reads' HO669.out).2.2); (case side2 => exact (Kd.R_reads' HO669.out).2.1); (case side3 => exact qC (Kd.R_reads' HO673.out).2.2); (case side4 => exact (Kd.R_reads' HO673.out).2.1); rintro e w' ⟨rfl, ⟨nd, rfl⟩⟩; obtain ⟨Ao62, co62, eo62⟩ := Kd.S_slice HO677.out; subst eo62; obtain ⟨Ao63, co63, eo63⟩ := Kd.S_slice HO681.out; subst eo63) | (go_at_call 17; (with_reducible refine (laws_rows5.calls k _ _ t674 _ _ t678 false _ ?side1 ?side2 ?side3 ?side4 A37.out).mono ?_); (case side1 => exact qC (Kd.S_reads' HO677.out).2.2); (case side2 => exact (Kd.S_reads' HO677.out).2.1); (case side3 => exact qC (Kd.S_reads' HO681.out).2.2); (case side4 => exact (Kd.S_reads' HO681.out).2.1); rintro e w' ⟨rfl, ⟨nd, rfl⟩⟩))
    go_meet
    case rel => exact ⟨_, (true), qF, H', ⟨by first | omega | exact Nat.le_refl _⟩, ⟨by (with_reducible repeat (first | apply Kd.R_alloc | apply Kd.R_drewN | apply Kd.R_drew)); exact Kd.R_mono HO653.out (fun _ hk => ⟨hk.1.1.1.2, hk.1.2⟩)⟩, ⟨by (with_reducible repeat (first | apply Kd.R_alloc | apply Kd.R_drewN | apply Kd.R_drew)); exact Kd.R_mono HO661.out (fun _ hk => ⟨hk.1.1.1.1.2, hk.1.2⟩)⟩, ⟨by (with_reducible repeat (first | apply Kd.R_alloc | apply Kd.R_drewN | apply Kd.R_drew)); exact Kd.R_mono HO669.out (fun _ hk => ⟨hk.1.1.1.1.2, hk.1.1.2⟩)⟩, ⟨by (with_reducible repeat (first | apply Kd.S_alloc | apply Kd.S_drewN | apply Kd.S_drew)); exact Kd.S_mono HO677.out (fun _ hk => trivial)⟩, ⟨qB HB.out⟩⟩
  subst c38
  rw [if_pos rfl] at H
  by_cases c39 : t683 = t685
  ·
   rw [if_pos c39] at H
   obtain ⟨c39b0, c39b1⟩ := zT c39
   clear c39
   have H' := Aside0.mk H
   clear H
   obtain ⟨Ao40, co40, eo40⟩ := Kd.R_slice HO653.out
   subst eo40
   obtain ⟨Ao41, co41, eo41⟩ := Kd.R_slice HO657.out
   subst eo41
   as_aux_lemma =>
    go_wp2_with (first | (go_at_call 16; (with_reducible refine (laws_words5.calls k _ _ t650 _ _ t654 true _ ?side1 ?side2 ?side3 ?side4 A28.out).mono ?_); (case side1 => exact qC (Kd.R_reads' HO653.out).2.2); (case side2 => exact (Kd.R_reads' HO653.out).2.1); (case side3 => exact qC (Kd.R_reads' HO657.out).2.2); (case side4 => exact (Kd.R_reads' HO657.out).2.1); rintro e w' ⟨rfl, ⟨nd, rfl⟩⟩; obtain ⟨Ao42, co42, eo42⟩ := Kd.R_slice HO661.out; subst eo42; obtain ⟨Ao43, co43, eo43⟩ := Kd.R_slice HO665.out; subst eo43) | (go_at_call 16; (with_reducible refine (laws_words5.calls k _ _ t658 _ _ t662 true _ ?side1 ?side2 ?side3 ?side4 A31.out).mono ?_); (case side1 => exact qC (Kd.R_reads' HO661.out).2.2); (case side2 => exact (Kd.R_reads' HO661.out).2.1); (case side3 => exact qC (Kd.R_reads' HO665.out).2.2); (case side4 => exact (Kd.R_reads' HO665.out).2.1); rintro e w' ⟨rfl, ⟨nd, rfl⟩⟩; obtain ⟨Ao44, co44, eo44⟩ := Kd.R_slice HO669.out; subst eo44; obtain ⟨Ao45, co45, eo45⟩ := Kd.R_slice HO673.out; subst eo45) | (go_at_call 16; (with_reducible refine (laws_words5.calls k _ _ t666 _ _ t670 true _ ?side1 ?side2 ?side3 ?side4 A34.out).mono ?_); (case side1 => exact qC (Kd.R_reads' HO669.out).2.2); (case side2 => exact (Kd.R_reads' HO669.out).2.1); (case side3 => exact qC (Kd.R_reads' HO673.out).2.2); (case side4 => exact (Kd.R_reads' HO673.out).2.1); rintro e w' ⟨rfl, ⟨nd, rfl⟩⟩; obtain ⟨Ao46, co46, eo46⟩ := Kd.S_slice HO677.out; subst eo46; obtain ⟨Ao47, co47, eo47⟩ := Kd.S_slice HO681.out; subst eo47) | (go_at_call 17; (with_reducible refine (laws_rows5.calls k _ _ t674 _ _ t678 true _ ?side1 ?side2 ?side3 ?side4 A37.out).mono ?_); (case side1 => exact qC (Kd.S_reads' HO677.out).2.2); (case side2 => exact (Kd.S_reads' HO677.out).2.1); (case side3 => exact qC (Kd.S_reads' HO681.out).2.2); (case side4 => exact (Kd.S_reads' HO681.out).2.1); rintro e w' ⟨rfl, ⟨nd, rfl⟩⟩))
    go_meet
    case rel => exact ⟨_, ((t682 != t684)), qF, H', ⟨by first | omega | exact Nat.le_refl _⟩, ⟨by (with_reducible repeat (first | apply Kd.R_alloc | apply Kd.R_drewN | apply Kd.R_drew)); exact Kd.R_mono HO653.out (fun _ hk => ⟨hk.1.1.1.2, hk.1.2⟩)⟩, ⟨by (with_reducible repeat (first | apply Kd.R_alloc | apply Kd.R_drewN | apply Kd.R_drew)); exact Kd.R_mono HO661.out (fun _ hk => ⟨hk.1.1.1.1.2, hk.1.2⟩)⟩, ⟨by (with_reducible repeat (first | apply Kd.R_alloc | apply Kd.R_drewN | apply Kd.R_drew)); exact Kd.R_mono HO669.out (fun _ hk => ⟨hk.1.1.1.1.2, hk.1.1.2⟩)⟩, ⟨by (with_reducible repeat (first | apply Kd.S_alloc | apply Kd.S_drewN | apply Kd.S_drew)); exact Kd.S_mono HO677.out (fun _ hk => trivial)⟩, ⟨qB HB.out⟩⟩
  rw [if_neg c39] at H
  obtain ⟨c39b0, c39b1⟩ := zF c39
  have H' := Aside0.mk H
  clear H
  obtain ⟨Ao48, co48, eo48⟩ := Kd.R_slice HO653.out
  subst eo48
  obtain ⟨Ao49, co49, eo49⟩ := Kd.R_slice HO657.out
  subst eo49
  as_aux_lemma =>
   go_wp2_with (first | (go_at_call 16; (with_reducible refine (laws_words5.calls k _ _ t650 _ _ t654 true _ ?side1 ?side2 ?side3 ?side4 A28.out).mono ?_); (case side1 => exact qC (Kd.R_reads' HO653.out).2.2); (case side2 => exact (Kd.R_reads' HO653.out).2.1); (case side3 => exact qC (Kd.R_reads' HO657.out).2.2); (case side4 => exact (Kd.R_reads' HO657.out).2.1); rintro e w' ⟨rfl, ⟨nd, rfl⟩⟩; obtain ⟨Ao50, co50, eo50⟩ := Kd.R_slice HO661.out; subst eo50; obtain ⟨Ao51, co51, eo51⟩ := Kd.R_slice HO665.out; subst eo51) | (go_at_call 16; (with_reducible refine (laws_words5.calls k _ _ t658 _ _ t662 true _ ?side1 ?side2 ?side3 ?side4 A31.out).mono ?_); (case side1 => exact qC (Kd.R_reads' HO661.out).2.2); (case side2 => exact (Kd.R_reads' HO661.out).2.1); (case side3 => exact qC (Kd.R_reads' HO665.out).2.2); (case side4 => exact (Kd.R_reads' HO665.out).2.1); rintro e w' ⟨rfl, ⟨nd, rfl⟩⟩; obtain ⟨Ao52, co52, eo52⟩ := Kd.R_slice HO669.out; subst eo52; obtain ⟨Ao53, co53, eo53⟩ := Kd.R_slice HO673.out; subst eo53) | (go_at_call 16; (with_reducible refine (laws_words5.calls k _ _ t666 _ _ t670 true _ ?side1 ?side2 ?side3 ?side4 A34.out).mono ?_); (case side1 => exact qC (Kd.R_reads' HO669.out).2.2); (case side2 => exact (Kd.R_reads' HO669.out).2.1); (case side3 => exact qC (Kd.R_reads' HO673.out).2.2); (case side4 => exact (Kd.R_reads' HO673.out).2.1); rintro e w' ⟨rfl, ⟨nd, rfl⟩⟩; obtain ⟨Ao54, co54, eo54⟩ := Kd.S_slice HO677.out; subst eo54; obtain ⟨Ao55, co55, eo55⟩ := Kd.S_slice HO681.out; subst eo55) | (go_at_call 17; (with_reducible refine (laws_rows5.calls k _ _ t674 _ _ t678 true _ ?side1 ?side2 ?side3 ?side4 A37.out).mono ?_); (case side1 => exact qC (Kd.S_reads' HO677.out).2.2); (case side2 => exact (Kd.S_reads' HO677.out).2.1); (case side3 => exact qC (Kd.S_reads' HO681.out).2.2); (case side4 => exact (Kd.S_reads' HO681.out).2.1); rintro e w' ⟨rfl, ⟨nd, rfl⟩⟩))
   go_meet
   case rel => exact ⟨_, (true), qF, H', ⟨by first | omega | exact Nat.le_refl _⟩, ⟨by (with_reducible repeat (first | apply Kd.R_alloc | apply Kd.R_drewN | apply Kd.R_drew)); exact Kd.R_mono HO653.out (fun _ hk => ⟨hk.1.1.1.2, hk.1.2⟩)⟩, ⟨by (with_reducible repeat (first | apply Kd.R_alloc | apply Kd.R_drewN | apply Kd.R_drew)); exact Kd.R_mono HO661.out (fun _ hk => ⟨hk.1.1.1.1.2, hk.1.2⟩)⟩, ⟨by (with_reducible repeat (first | apply Kd.R_alloc | apply Kd.R_drewN | apply Kd.R_drew)); exact Kd.R_mono HO669.out (fun _ hk => ⟨hk.1.1.1.1.2, hk.1.1.2⟩)⟩, ⟨by (with_reducible repeat (first | apply Kd.S_alloc | apply Kd.S_drewN | apply Kd.S_drew)); exact Kd.S_mono HO677.out (fun _ hk => trivial)⟩, ⟨qB HB.out⟩⟩
 case rest => as_aux_lemma =>
  clear HC15
  obtain ⟨kq, x167_14, rfl, HA, HJ14, HO_5, HO_9, HO_13, HO_17, HB⟩ := hcut
  cases kq with
  | zero => exact absurd HA.out (by simp [laws_FnFactorNumbers.j0])
  | succ kj14 =>
   have H := HA.out
   clear HA
   simp only [laws_FnFactorNumbers.j0] at H
   by_cases c88 : x167_14 = true
   ·
    subst c88
    rw [if_pos rfl] at H
    obtain rfl := Option.some.inj H
    as_aux_lemma =>
     go_wp2
     go_ret
     exact ⟨qE, qB HB.out⟩
   replace c88 := Bool.eq_false_iff.mpr c88
   subst c88
   rw [if_neg (show ¬ (false = true) by decide)] at H
   have HC89 := Aside0.mk H
   clear H
   go_upto_if 169 with (fail)
   go_cut [] (fun wc => ∃ (kq : Nat), Aside0 (laws_FnFactorNumbers.j4 kq l0 = some r) ∧ Aside0 (kq ≤ kj14) ∧ Aside0 (Below w.heap.size w wc))
   case first => as_aux_lemma =>
    have H := HC89.out
    clear HC89
    by_cases c90 : t651 = 0
    rotate_left
    ·
     rw [if_neg c90] at H
     obtain ⟨c90b0, c90b1⟩ := zF c90
     (first | rw [c90b0] | (simp only [i64_w, i32_w]; rw [c90b0]) | skip)
     have H' := Aside0.mk H
     clear H
     as_aux_lemma =>
      go_wp2
      go_meet
      case rel => exact ⟨_, H', ⟨by have := HJ14.out; first | omega | exact Nat.le_refl _⟩, ⟨qB HB.out⟩⟩
    rw [if_pos c90] at H
    obtain ⟨c90b0, c90b1⟩ := zT c90
    clear c90
    (first | rw [c90b0] | (simp only [i64_w, i32_w]; rw [c90b0]) | skip)
    replace H := qN H
    obtain ⟨⟨t690, t691⟩, A91, H⟩ := H
    try dsimp only at H
    have HC92 := Aside0.mk H
    clear H
    go_upto_region 18 with (first | ((with_reducible refine gate_callee (f := 18) rfl ?_); refine goesL_ (some 173) rfl rfl Tryz.func18 (by kernel_rfl) rfl #[.string t648, .int .i64 t649] rfl qV ?_; (with_reducible refine (impl_FactorsOf.calls kj14 t648 t649 t690 t691 _ A91.out).mono ?_); rintro e w93 ⟨v692, rfl, ho0, hb⟩; refine ⟨_, rfl, ?_⟩; replace HO_17 := Aside0.mk (Kd.S_below (by (with_reducible repeat (first | apply Kd.S_alloc | apply Kd.S_drewN | apply Kd.S_drew)); exact HO_17.out) hb); have HO693 := Aside0.mk (Kd.R_lower (Kd.R_new' (Kd.R_new' (Kd.R_new' ho0 (Kd.R_lt (qR HO_5.out))) (Kd.R_lt (qR HO_9.out))) (Kd.R_lt (qR HO_13.out))) (below_size (qB HB.out))); replace HO_5 := Aside0.mk (Kd.R_elder' (qR HO_5.out) (Kd.R_base ho0) hb); replace HO_9 := Aside0.mk (Kd.R_elder' (qR HO_9.out) (Kd.R_base ho0) hb); replace HO_13 := Aside0.mk (Kd.R_elder' (qR HO_13.out) (Kd.R_base ho0) hb); replace HB := Aside0.mk (below_step (qB HB.out) hb)))
    (try simp only [Act.put, List.setIfInBounds_toArray, List.set_cons_zero, List.set_cons_succ])
    go_cut [206] (fun v206 wc => ∃ (kq : Nat) (x206_91 : Bool), v206 = .bool x206_91 ∧ Aside0 (laws_FnFactorNumbers.j1 kq l0 t658 t674 t690 x206_91 = some r) ∧ Aside0 (kq ≤ kj14) ∧ Aside0 (Kd.R Kd.string 9 wc w.heap.size (fun k_ => some k_ ≠ (v692 : Value).ownBlock) v660 t658) ∧ Aside0 (Kd.S (Kd.slice 2 (Kd.int .i64)) 36 wc w.heap.size (fun _ => True) v676 t674) ∧ Aside0 (Kd.R Kd.string 9 wc w.heap.size (fun k_ => some k_ ≠ (v660 : Value).ownBlock) v692 t690) ∧ Aside0 (Below w.heap.size w wc))
    case first => as_aux_lemma =>
     have H := HC92.out
     clear HC92
     by_cases c94 : t691 = 0
     rotate_left
     ·
      rw [if_neg c94] at H
      obtain ⟨c94b0, c94b1⟩ := zF c94
      (first | rw [c94b0] | (simp only [i64_w, i32_w]; rw [c94b0]) | skip)
      have H' := Aside0.mk H
      clear H
      as_aux_lemma =>
       go_wp2
       go_meet
       case rel => exact ⟨_, (true), qF, H', ⟨by have := HJ14.out; first | omega | exact Nat.le_refl _⟩, ⟨by (with_reducible repeat (first | apply Kd.R_alloc | apply Kd.R_drewN | apply Kd.R_drew)); exact Kd.R_mono HO_9.out (fun _ hk => hk.2)⟩, ⟨by (with_reducible repeat (first | apply Kd.S_alloc | apply Kd.S_drewN | apply Kd.S_drew)); exact HO_17.out⟩, ⟨by (with_reducible repeat (first | apply Kd.R_alloc | apply Kd.R_drewN | apply Kd.R_drew)); exact Kd.R_mono HO693.out (fun _ hk => hk.1.2)⟩, ⟨qB HB.out⟩⟩
     rw [if_pos c94] at H
     obtain ⟨c94b0, c94b1⟩ := zT c94
     clear c94
     (first | rw [c94b0] | (simp only [i64_w, i32_w]; rw [c94b0]) | skip)
     by_cases c95 : (t690.length : Int) > 0
     rotate_left
     ·
      rw [if_neg c95] at H
      have c95b0 : decide (0 < (t690.length : Int)) = false := decide_eq_false c95
      have c95b1 : decide (0 < t690.length) = false := decide_eq_false (by omega)
      clear c95
      by_cases c109 : (t650.length : Int) > (t658.length : Int)
      ·
       rw [if_pos c109] at H
       have c109b0 : decide ((t658.length : Int) < (t650.length : Int)) = true := decide_eq_true c109
       have c109b1 : decide (t658.length < t650.length) = true := decide_eq_true (Int.ofNat_lt.mp c109)
       clear c109
       have H' := Aside0.mk H
       clear H
       obtain ⟨Ao110, co110, eo110⟩ := Kd.R_slice HO693.out
       subst eo110
       obtain ⟨Ao111, co111, eo111⟩ := Kd.R_slice HO_5.out
       subst eo111
       obtain ⟨Ao112, co112, eo112⟩ := Kd.R_slice HO_9.out
       subst eo112
       as_aux_lemma =>
        go_wp2
        go_meet
        case rel => exact ⟨_, (true), qF, H', ⟨by have := HJ14.out; first | omega | exact Nat.le_refl _⟩, ⟨by (with_reducible repeat (first | apply Kd.R_alloc | apply Kd.R_drewN | apply Kd.R_drew)); exact Kd.R_mono HO_9.out (fun _ hk => hk.2)⟩, ⟨by (with_reducible repeat (first | apply Kd.S_alloc | apply Kd.S_drewN | apply Kd.S_drew)); exact HO_17.out⟩, ⟨by (with_reducible repeat (first | apply Kd.R_alloc | apply Kd.R_drewN | apply Kd.R_drew)); exact Kd.R_mono HO693.out (fun _ hk => hk.1.2)⟩, ⟨qB HB.out⟩⟩
      rw [if_neg c109] at H
      have c109b0 : decide ((t658.length : Int) < (t650.length : Int)) = false := decide_eq_false c109
      have c109b1 : decide (t658.length < t650.length) = false := decide_eq_false (fun h => c109 (Int.ofNat_lt.mpr h))
      clear c109
      have H' := Aside0.mk H
      clear H
      obtain ⟨Ao113, co113, eo113⟩ := Kd.R_slice HO693.out
      subst eo113
      obtain ⟨Ao114, co114, eo114⟩ := Kd.R_slice HO_5.out
      subst eo114
      obtain ⟨Ao115, co115, eo115⟩ := Kd.R_slice HO_9.out
      subst eo115
      obtain ⟨Ao116, co116, eo116⟩ := Kd.R_slice HO_13.out
      subst eo116
      as_aux_lemma =>
       go_wp2
       go_meet
       case rel => exact ⟨_, (decide ((t650.length : Int) > (t666.length : Int))), qF, H', ⟨by have := HJ14.out; first | omega | exact Nat.le_refl _⟩, ⟨by (with_reducible repeat (first | apply Kd.R_alloc | apply Kd.R_drewN | apply Kd.R_drew)); exact Kd.R_mono HO_9.out (fun _ hk => hk.2)⟩, ⟨by (with_reducible repeat (first | apply Kd.S_alloc | apply Kd.S_drewN | apply Kd.S_drew)); exact HO_17.out⟩, ⟨by (with_reducible repeat (first | apply Kd.R_alloc | apply Kd.R_drewN | apply Kd.R_drew)); exact Kd.R_mono HO693.out (fun _ hk => hk.1.2)⟩, ⟨qB HB.out⟩⟩
     rw [if_pos c95] at H
     have c95b0 : decide (0 < (t690.length : Int)) = true := decide_eq_true c95
     have c95b1 : decide (0 < t690.length) = true := decide_eq_true (by omega)
     clear c95
     by_cases c96 : t682 = (wrap64 ((wrap64 ((t674.length : Int) - (t690.length : Int))) + 1))
     rotate_left
     ·
      rw [if_neg c96] at H
      obtain ⟨c96b0, c96b1⟩ := zF c96
      have H' := Aside0.mk H
      clear H
      obtain ⟨Ao107, co107, eo107⟩ := Kd.R_slice HO693.out
      subst eo107
      obtain ⟨Ao108, co108, eo108⟩ := Kd.S_slice HO_17.out
      subst eo108
      as_aux_lemma =>
       go_wp2
       go_meet
       case rel => exact ⟨_, (true), qF, H', ⟨by have := HJ14.out; first | omega | exact Nat.le_refl _⟩, ⟨by (with_reducible repeat (first | apply Kd.R_alloc | apply Kd.R_drewN | apply Kd.R_drew)); exact Kd.R_mono HO_9.out (fun _ hk => hk.2)⟩, ⟨by (with_reducible repeat (first | apply Kd.S_alloc | apply Kd.S_drewN | apply Kd.S_drew)); exact HO_17.out⟩, ⟨by (with_reducible repeat (first | apply Kd.R_alloc | apply Kd.R_drewN | apply Kd.R_drew)); exact Kd.R_mono HO693.out (fun _ hk => hk.1.2)⟩, ⟨qB HB.out⟩⟩
     rw [if_pos c96] at H
     obtain ⟨c96b0, c96b1⟩ := zT c96
     clear c96
     by_cases c97 : (t650.length : Int) > (t658.length : Int)
     ·
      rw [if_pos c97] at H
      have c97b0 : decide ((t658.length : Int) < (t650.length : Int)) = true := decide_eq_true c97
      have c97b1 : decide (t658.length < t650.length) = true := decide_eq_true (Int.ofNat_lt.mp c97)
      clear c97
      have H' := Aside0.mk H
      clear H
      obtain ⟨Ao98, co98, eo98⟩ := Kd.R_slice HO693.out
      subst eo98
      obtain ⟨Ao99, co99, eo99⟩ := Kd.S_slice HO_17.out
      subst eo99
      obtain ⟨Ao100, co100, eo100⟩ := Kd.R_slice HO_5.out
      subst eo100
      obtain ⟨Ao101, co101, eo101⟩ := Kd.R_slice HO_9.out
      subst eo101
      as_aux_lemma =>
       go_wp2
       go_meet
       case rel => exact ⟨_, (true), qF, H', ⟨by have := HJ14.out; first | omega | exact Nat.le_refl _⟩, ⟨by (with_reducible repeat (first | apply Kd.R_alloc | apply Kd.R_drewN | apply Kd.R_drew)); exact Kd.R_mono HO_9.out (fun _ hk => hk.2)⟩, ⟨by (with_reducible repeat (first | apply Kd.S_alloc | apply Kd.S_drewN | apply Kd.S_drew)); exact HO_17.out⟩, ⟨by (with_reducible repeat (first | apply Kd.R_alloc | apply Kd.R_drewN | apply Kd.R_drew)); exact Kd.R_mono HO693.out (fun _ hk => hk.1.2)⟩, ⟨qB HB.out⟩⟩
     rw [if_neg c97] at H
     have c97b0 : decide ((t658.length : Int) < (t650.length : Int)) = false := decide_eq_false c97
     have c97b1 : decide (t658.length < t650.length) = false := decide_eq_false (fun h => c97 (Int.ofNat_lt.mpr h))
     clear c97
     have H' := Aside0.mk H
     clear H
     obtain ⟨Ao102, co102, eo102⟩ := Kd.R_slice HO693.out
     subst eo102
     obtain ⟨Ao103, co103, eo103⟩ := Kd.S_slice HO_17.out
     subst eo103
     obtain ⟨Ao104, co104, eo104⟩ := Kd.R_slice HO_5.out
     subst eo104
     obtain ⟨Ao105, co105, eo105⟩ := Kd.R_slice HO_9.out
     subst eo105
     obtain ⟨Ao106, co106, eo106⟩ := Kd.R_slice HO_13.out
     subst eo106
     as_aux_lemma =>
      go_wp2
      go_meet
      case rel => exact ⟨_, (decide ((t650.length : Int) > (t666.length : Int))), qF, H', ⟨by have := HJ14.out; first | omega | exact Nat.le_refl _⟩, ⟨by (with_reducible repeat (first | apply Kd.R_alloc | apply Kd.R_drewN | apply Kd.R_drew)); exact Kd.R_mono HO_9.out (fun _ hk => hk.2)⟩, ⟨by (with_reducible repeat (first | apply Kd.S_alloc | apply Kd.S_drewN | apply Kd.S_drew)); exact HO_17.out⟩, ⟨by (with_reducible repeat (first | apply Kd.R_alloc | apply Kd.R_drewN | apply Kd.R_drew)); exact Kd.R_mono HO693.out (fun _ hk => hk.1.2)⟩, ⟨qB HB.out⟩⟩
    case rest => as_aux_lemma =>
     clear HC92
     obtain ⟨kq, x206_91, rfl, HA, HJ91, HO_9, HO_17, HO_25, HB⟩ := hcut
     cases kq with
     | zero => exact absurd HA.out (by simp [laws_FnFactorNumbers.j1])
     | succ kj91 =>
      have H := HA.out
      clear HA
      simp only [laws_FnFactorNumbers.j1] at H
      by_cases c117 : x206_91 = true
      ·
       subst c117
       rw [if_pos rfl] at H
       obtain rfl := Option.some.inj H
       as_aux_lemma =>
        go_wp2
        go_ret
        exact ⟨qE, qB HB.out⟩
      replace c117 := Bool.eq_false_iff.mpr c117
      subst c117
      rw [if_neg (show ¬ (false = true) by decide)] at H
      by_cases c118 : 0 ≤ (t690.length : Int)
      rotate_left
      ·
       rw [if_neg c118] at H
       exact absurd H (by simp)
      rw [if_pos c118] at H
      have c118b0 := eq_true c118
      have c118b1 : decide (0 ≤ (t690.length : Int)) = true := decide_eq_true c118
      clear c118
      by_cases c119 : ((t690.length : Int) : Int).toNat ≤ 35184372088832
      rotate_left
      ·
       rw [if_neg c119] at H
       exact absurd H (by simp)
      rw [if_pos c119] at H
      have c119b0 := eq_true c119
      have c119b1 : decide (((t690.length : Int) : Int).toNat ≤ 35184372088832) = true := decide_eq_true c119
      clear c119
      obtain ⟨y694, hy694⟩ : ∃ y_ : List Int, y_ = (List.replicate ((t690.length : Int) : Int).toNat 0) := ⟨_, rfl⟩
      replace H : (laws_FnFactorNumbers.l0 kj91 l0 t658 t674 t690 y694 0) = some r := by first | (rw [hy694]; with_reducible exact H) | (have H2_ := (Option.bind_some _ _).symm.trans H; rw [hy694]; with_reducible exact H2_) | (have H2_ := (Option.bind_some _ _).symm.trans H; with_reducible exact H2_) | with_reducible exact H | (rw [hy694]; exact H) | exact H
      have Ny694 := Aside0.mk hy694
      clear hy694
      have H' := Aside0.mk H
      clear H
      obtain ⟨Ao120, co120, eo120⟩ := Kd.R_slice HO_25.out
      subst eo120
      go_wp2_with (first | ((with_reducible refine gate_dst (N := 209) rfl ?_); (try (refine gate_guard (by rfl) ?_; dsimp only)); refine Kd.R_make (Kd.int .i64) _ 2 rfl (N := 209) rfl 36 _ _ rfl (t690.length : Int) rfl rfl Tryz.underlying36 (.int .i64 0) 8 info2 rfl (by decide) (by omega) 0 (ok := fun _ => True) (okp := fun _ => True) rfl (fun _ hk => hk) trivial (of_decide_eq_true (by first | (with_reducible assumption) | assumption)) (Nat.le_trans (Nat.mul_le_mul_right _ (of_decide_eq_true (by first | (with_reducible assumption) | assumption) : (t690.length : Int).toNat ≤ 35184372088832)) (by omega)) (Below.refl _ _) (Nat.le_refl _) ?_; intro v695 w121 ho122 hb hg_ hnew_; clear hg_ hnew_; (first | rw [← Ny694.out] at ho122 | (simp only [Int.reduceToNat] at ho122; rw [← Ny694.out] at ho122)); replace HO_9 := Aside0.mk (Kd.R_below (qR HO_9.out) hb); replace HO_17 := Aside0.mk (Kd.S_elder' (by (with_reducible repeat (first | apply Kd.S_alloc | apply Kd.S_drewN | apply Kd.S_drew)); exact HO_17.out) (Kd.R_base ho122) hb); replace HO_25 := Aside0.mk (Kd.R_below (qR HO_25.out) hb); have HO696 := Aside0.mk (Kd.R_lower ho122 (below_size (qB HB.out))); replace HB := Aside0.mk (below_step (qB HB.out) hb); clear hb ho122))
      go_loopg [28] kj91 (fun kq v28 w' => ∃ (x27_3 : List Int) (x28_3 : Int), v28 = .int .i64 x28_3 ∧ Aside0 (laws_FnFactorNumbers.l0 kq l0 t658 t674 t690 x27_3 x28_3 = some r) ∧ Aside0 (kq ≤ kj91) ∧ Aside0 (Kd.R Kd.string 9 w' w.heap.size (fun k_ => some k_ ≠ ((.slice Ao120 t690.length co120) : Value).ownBlock) v660 t658) ∧ Aside0 (Kd.S (Kd.slice 2 (Kd.int .i64)) 36 w' w.heap.size (fun k_ => some k_ ≠ (v695 : Value).ownBlock) v676 t674) ∧ Aside0 (Kd.R Kd.string 9 w' w.heap.size (fun k_ => some k_ ≠ (v660 : Value).ownBlock) (.slice Ao120 t690.length co120) t690) ∧ Aside0 (Kd.R (Kd.int .i64) 2 w' w.heap.size (fun _ => True) v695 x27_3) ∧ Aside0 (Below w.heap.size w w'))
      case atStart => exact ⟨(y694), (0), qF, H', ⟨Nat.le_refl _⟩, ⟨qR HO_9.out⟩, ⟨by (with_reducible repeat (first | apply Kd.S_alloc | apply Kd.S_drewN | apply Kd.S_drew)); exact Kd.S_mono HO_17.out (fun _ hk => hk.2)⟩, ⟨qR HO_25.out⟩, ⟨qR HO696.out⟩, ⟨qB HB.out⟩⟩
      case round =>
       clear H'
       obtain ⟨x27_3, x28_3, rfl, HA, HK3, HO_9, HO_17, HO_25, HO_27, HB⟩ := hrel
       cases gk with
       | zero => exact absurd HA.out (by simp [laws_FnFactorNumbers.l0])
       | succ k3 =>
        have H := HA.out
        clear HA
        simp only [laws_FnFactorNumbers.l0] at H
        by_cases c123 : x28_3 < (t674.length : Int)
        rotate_left
        ·
         rw [if_neg c123] at H
         have c123b0 : decide (x28_3 < (t674.length : Int)) = false := decide_eq_false c123
         clear c123
         have H' := Aside0.mk H
         clear H
         obtain ⟨Ao144, co144, eo144⟩ := Kd.S_slice HO_17.out
         subst eo144
         go_wp2
         go_loopg [29, 30] k3 (fun kq v29 v30 w' => ∃ (x29_4 : Int) (x30_4 : Int), v29 = .int .i64 x29_4 ∧ v30 = .int .i64 x30_4 ∧ Aside0 (laws_FnFactorNumbers.l1 kq l0 t658 t690 x27_3 x29_4 x30_4 = some r) ∧ Aside0 (kq ≤ k3) ∧ Aside0 (Kd.R Kd.string 9 w' w.heap.size (fun k_ => some k_ ≠ ((.slice Ao120 t690.length co120) : Value).ownBlock) v660 t658) ∧ Aside0 (Kd.R Kd.string 9 w' w.heap.size (fun k_ => some k_ ≠ (v660 : Value).ownBlock) (.slice Ao120 t690.length co120) t690) ∧ Aside0 (Kd.R (Kd.int .i64) 2 w' w.heap.size (fun _ => True) v695 x27_3) ∧ Aside0 (Below w.heap.size w w'))
         case atStart => exact ⟨(0), (0), qF, qF, H', ⟨Nat.le_refl _⟩, ⟨qR HO_9.out⟩, ⟨qR HO_25.out⟩, ⟨qR HO_27.out⟩, ⟨qB HB.out⟩⟩
         case round =>
          clear H'
          obtain ⟨x29_4, x30_4, rfl, rfl, HA, HK4, HO_9, HO_25, HO_27, HB⟩ := hrel
          cases gk with
          | zero => exact absurd HA.out (by simp [laws_FnFactorNumbers.l1])
          | succ k4 =>
           have H := HA.out
           clear HA
           simp only [laws_FnFactorNumbers.l1] at H
           by_cases c145 : x30_4 < (t690.length : Int)
           rotate_left
           ·
            rw [if_neg c145] at H
            have c145b0 : decide (x30_4 < (t690.length : Int)) = false := decide_eq_false c145
            clear c145
            by_cases c151 : x29_4 = (t658.length : Int)
            rotate_left
            ·
             rw [if_neg c151] at H
             obtain ⟨c151b0, c151b1⟩ := zF c151
             obtain rfl := Option.some.inj H
             obtain ⟨Ao153, co153, eo153⟩ := Kd.R_slice HO_9.out
             subst eo153
             as_aux_lemma =>
              go_wp2
              go_ret
              exact ⟨qE, qB HB.out⟩
            rw [if_pos c151] at H
            obtain ⟨c151b0, c151b1⟩ := zT c151
            clear c151
            have H' := Aside0.mk H
            clear H
            obtain ⟨Ao152, co152, eo152⟩ := Kd.R_slice HO_9.out
            subst eo152
            as_aux_lemma =>
             go_wp2
             go_meet
             case rel => exact ⟨_, H', ⟨by have := HJ14.out; have := HJ91.out; have := HK3.out; have := HK4.out; first | omega | exact Nat.le_refl _⟩, ⟨qB HB.out⟩⟩
           rw [if_pos c145] at H
           have c145b0 : decide (x30_4 < (t690.length : Int)) = true := decide_eq_true c145
           clear c145
           by_cases c146 : 0 ≤ x30_4
           rotate_left
           ·
            rw [if_neg c146] at H
            exact absurd H (by simp)
           rw [if_pos c146] at H
           have c146b0 : decide (0 ≤ x30_4) = true := decide_eq_true c146
           clear c146
           by_cases c147 : x30_4 < (x27_3.length : Int)
           rotate_left
           ·
            rw [if_neg c147] at H
            exact absurd H (by simp)
           rw [if_pos c147] at H
           have c147b0 : decide (x30_4 < (x27_3.length : Int)) = true := decide_eq_true c147
           clear c147
           by_cases c148 : (rd x27_3 x30_4) > 1
           ·
            rw [if_pos c148] at H
            have c148b0 : decide (1 < (rd x27_3 x30_4)) = true := decide_eq_true c148
            clear c148
            have H' := Aside0.mk H
            clear H
            obtain ⟨Ao149, co149, eo149⟩ := Kd.R_slice HO_27.out
            subst eo149
            have p710 : 0 ≤ (x30_4 : Int) := of_decide_eq_true (by first | (with_reducible assumption) | assumption)
            have q710 : x30_4 < (x27_3.length : Int) := of_decide_eq_true (by first | (with_reducible assumption) | assumption)
            obtain ⟨ad710, e710, hx710_0⟩ := Kd.at_int (Kd.R_reads' HO_27.out).2.2 x30_4 p710 q710
            cases e710
            replace p710 := eq_true p710
            replace q710 := eq_true q710
            as_aux_lemma =>
             go_wp2
             go_roundg k4
             case measure => have := HJ14.out; have := HJ91.out; have := HK3.out; have := HK4.out; omega
             case rel => exact ⟨(wrap64 (x29_4 + 1)), (wrap64 (x30_4 + 1)), qF, qF, H', ⟨by have := HJ14.out; have := HJ91.out; have := HK3.out; have := HK4.out; omega⟩, ⟨qR HO_9.out⟩, ⟨qR HO_25.out⟩, ⟨qR HO_27.out⟩, ⟨qB HB.out⟩⟩
           rw [if_neg c148] at H
           have c148b0 : decide (1 < (rd x27_3 x30_4)) = false := decide_eq_false c148
           clear c148
           have H' := Aside0.mk H
           clear H
           obtain ⟨Ao150, co150, eo150⟩ := Kd.R_slice HO_27.out
           subst eo150
           have p710 : 0 ≤ (x30_4 : Int) := of_decide_eq_true (by first | (with_reducible assumption) | assumption)
           have q710 : x30_4 < (x27_3.length : Int) := of_decide_eq_true (by first | (with_reducible assumption) | assumption)
           obtain ⟨ad710, e710, hx710_0⟩ := Kd.at_int (Kd.R_reads' HO_27.out).2.2 x30_4 p710 q710
           cases e710
           replace p710 := eq_true p710
           replace q710 := eq_true q710
           as_aux_lemma =>
            go_wp2
            go_roundg k4
            case measure => have := HJ14.out; have := HJ91.out; have := HK3.out; have := HK4.out; omega
            case rel => exact ⟨(x29_4), (wrap64 (x30_4 + 1)), qF, qF, H', ⟨by have := HJ14.out; have := HJ91.out; have := HK3.out; have := HK4.out; omega⟩, ⟨qR HO_9.out⟩, ⟨qR HO_25.out⟩, ⟨qR HO_27.out⟩, ⟨qB HB.out⟩⟩
        rw [if_pos c123] at H
        have c123b0 : decide (x28_3 < (t674.length : Int)) = true := decide_eq_true c123
        clear c123
        by_cases c124 : 0 ≤ x28_3
        rotate_left
        ·
         rw [if_neg c124] at H
         exact absurd H (by simp)
        rw [if_pos c124] at H
        have c124b0 : decide (0 ≤ x28_3) = true := decide_eq_true c124
        clear c124
        by_cases c125 : ((rd_L5 t674 x28_3).length : Int) = 2
        rotate_left
        ·
         rw [if_neg c125] at H
         obtain ⟨c125b0, c125b1⟩ := zF c125
         obtain rfl := Option.some.inj H
         obtain ⟨Ao143, co143, eo143⟩ := Kd.S_slice HO_17.out
         subst eo143
         have p697 : 0 ≤ (x28_3 : Int) := of_decide_eq_true (by first | (with_reducible assumption) | assumption)
         have q697 : x28_3 < (t674.length : Int) := of_decide_eq_true (by first | (with_reducible assumption) | assumption)
         obtain ⟨ad697, A697_0, c697_0, e697, hx697_0, hl697_0, hi697_0⟩ := at_L5 (Kd.S_reads' HO_17.out).2.2 x28_3 p697 q697
         cases e697
         obtain ⟨ce697, hce697, hMe697, hcc697⟩ := Kd.S_get HO_17.out [] x28_3 p697 (by first | exact q697 | exact of_decide_eq_true (by first | (with_reducible assumption) | assumption) | (have e_ := (Kd.S_reads' HO_17.out).1; omega))
         obtain ⟨ve697_0, rfl, ge697_0⟩ := hMe697
         have hv697_0 := hcc697 0 _ rfl
         rw [Nat.add_zero, show ((Kd.slice 2 (Kd.int .i64))).sz = 1 from rfl, Nat.mul_one] at hv697_0
         replace hv697_0 := Option.some.inj (hv697_0.symm.trans hx697_0)
         rw [hv697_0] at ge697_0
         have HL697_0 := Aside0.mk (show Kd.R (Kd.int .i64) 2 _ _ _ _ (rd_L5 t674 x28_3) from ge697_0)
         clear hv697_0 ge697_0
         clear hcc697 hce697
         have HR697_0 := Aside0.mk hi697_0
         have HC697_0 := Aside0.mk hl697_0
         clear hi697_0 hl697_0
         replace p697 := eq_true p697
         replace q697 := eq_true q697
         as_aux_lemma =>
          go_wp2
          go_ret
          exact ⟨qE, qB HB.out⟩
        rw [if_pos c125] at H
        obtain ⟨c125b0, c125b1⟩ := zT c125
        clear c125
        by_cases c126 : 0 < ((rd_L5 t674 x28_3).length : Int)
        rotate_left
        ·
         rw [if_neg c126] at H
         exact absurd H (by simp)
        rw [if_pos c126] at H
        have c126b0 : decide (0 < ((rd_L5 t674 x28_3).length : Int)) = true := decide_eq_true c126
        have c126b1 : decide (0 < (rd_L5 t674 x28_3).length) = true := decide_eq_true (by omega)
        clear c126
        by_cases c127 : (rd (rd_L5 t674 x28_3) 0) < 0
        ·
         rw [if_pos c127] at H
         have c127b0 : decide ((rd (rd_L5 t674 x28_3) 0) < 0) = true := decide_eq_true c127
         clear c127
         obtain rfl := Option.some.inj H
         obtain ⟨Ao128, co128, eo128⟩ := Kd.S_slice HO_17.out
         subst eo128
         have p697 : 0 ≤ (x28_3 : Int) := of_decide_eq_true (by first | (with_reducible assumption) | assumption)
         have q697 : x28_3 < (t674.length : Int) := of_decide_eq_true (by first | (with_reducible assumption) | assumption)
         obtain ⟨ad697, A697_0, c697_0, e697, hx697_0, hl697_0, hi697_0⟩ := at_L5 (Kd.S_reads' HO_17.out).2.2 x28_3 p697 q697
         cases e697
         obtain ⟨ce697, hce697, hMe697, hcc697⟩ := Kd.S_get HO_17.out [] x28_3 p697 (by first | exact q697 | exact of_decide_eq_true (by first | (with_reducible assumption) | assumption) | (have e_ := (Kd.S_reads' HO_17.out).1; omega))
         obtain ⟨ve697_0, rfl, ge697_0⟩ := hMe697
         have hv697_0 := hcc697 0 _ rfl
         rw [Nat.add_zero, show ((Kd.slice 2 (Kd.int .i64))).sz = 1 from rfl, Nat.mul_one] at hv697_0
         replace hv697_0 := Option.some.inj (hv697_0.symm.trans hx697_0)
         rw [hv697_0] at ge697_0
         have HL697_0 := Aside0.mk (show Kd.R (Kd.int .i64) 2 _ _ _ _ (rd_L5 t674 x28_3) from ge697_0)
         clear hv697_0 ge697_0
         clear hcc697 hce697
         have HR697_0 := Aside0.mk hi697_0
         have HC697_0 := Aside0.mk hl697_0
         clear hi697_0 hl697_0
         replace p697 := eq_true p697
         replace q697 := eq_true q697
         have p698 : 0 ≤ (x28_3 : Int) := of_decide_eq_true (by first | (with_reducible assumption) | assumption)
         have q698 : x28_3 < (t674.length : Int) := of_decide_eq_true (by first | (with_reducible assumption) | assumption)
         obtain ⟨ad698, A698_0, c698_0, e698, hx698_0, hl698_0, hi698_0⟩ := at_L5 (Kd.S_reads' HO_17.out).2.2 x28_3 p698 q698
         obtain rfl : ad697 = ad698 := (by injection e698)
         obtain ⟨ce698, hce698, hMe698, hcc698⟩ := Kd.S_get HO_17.out [] x28_3 p698 (by first | exact q698 | exact of_decide_eq_true (by first | (with_reducible assumption) | assumption) | (have e_ := (Kd.S_reads' HO_17.out).1; omega))
         obtain ⟨ve698_0, rfl, ge698_0⟩ := hMe698
         have hv698_0 := hcc698 0 _ rfl
         rw [Nat.add_zero, show ((Kd.slice 2 (Kd.int .i64))).sz = 1 from rfl, Nat.mul_one] at hv698_0
         replace hv698_0 := Option.some.inj (hv698_0.symm.trans hx698_0)
         rw [hv698_0] at ge698_0
         have HL698_0 := Aside0.mk (show Kd.R (Kd.int .i64) 2 _ _ _ _ (rd_L5 t674 x28_3) from ge698_0)
         clear hv698_0 ge698_0
         clear hcc698 hce698
         have HR698_0 := Aside0.mk hi698_0
         have HC698_0 := Aside0.mk hl698_0
         clear hi698_0 hl698_0
         replace p698 := eq_true p698
         replace q698 := eq_true q698
         have ea_ := Option.some.inj (hx697_0.symm.trans hx698_0)
         injection ea_ with ea_ en_ ec_
         subst ea_
         subst ec_
         clear en_
         have p699 : 0 ≤ (0 : Int) := (by omega)
         have q699 : 0 < ((rd_L5 t674 x28_3).length : Int) := of_decide_eq_true (by first | (with_reducible assumption) | assumption)
         obtain ⟨ad699, e699, hx699_0⟩ := Kd.at_int (by repeat (first | (with_reducible exact HR698_0.out) | (with_reducible refine Kd.C_alloc ?_ _) | (with_reducible refine Kd.C_drewN ?_ _) | (with_reducible refine Kd.C_drew ?_) | exact HR698_0.out)) 0 p699 q699
         cases e699
         have qi699 : (0 < (rd_L5 t674 x28_3).length) = True := eq_true (by omega)
         (try rw [show ((0 : Int)).toNat = 0 from rfl] at hx699_0)
         (try rw [Addr.add_zero'] at hx699_0)
         replace p699 := eq_true p699
         replace q699 := eq_true q699
         as_aux_lemma =>
          go_wp2
          go_ret
          exact ⟨qE, qB HB.out⟩
        rw [if_neg c127] at H
        have c127b0 : decide ((rd (rd_L5 t674 x28_3) 0) < 0) = false := decide_eq_false c127
        clear c127
        by_cases c129 : (rd (rd_L5 t674 x28_3) 0) ≥ (t690.length : Int)
        ·
         rw [if_pos c129] at H
         have c129b0 : decide ((t690.length : Int) ≤ (rd (rd_L5 t674 x28_3) 0)) = true := decide_eq_true c129
         clear c129
         obtain rfl := Option.some.inj H
         obtain ⟨Ao130, co130, eo130⟩ := Kd.S_slice HO_17.out
         subst eo130
         have p697 : 0 ≤ (x28_3 : Int) := of_decide_eq_true (by first | (with_reducible assumption) | assumption)
         have q697 : x28_3 < (t674.length : Int) := of_decide_eq_true (by first | (with_reducible assumption) | assumption)
         obtain ⟨ad697, A697_0, c697_0, e697, hx697_0, hl697_0, hi697_0⟩ := at_L5 (Kd.S_reads' HO_17.out).2.2 x28_3 p697 q697
         cases e697
         obtain ⟨ce697, hce697, hMe697, hcc697⟩ := Kd.S_get HO_17.out [] x28_3 p697 (by first | exact q697 | exact of_decide_eq_true (by first | (with_reducible assumption) | assumption) | (have e_ := (Kd.S_reads' HO_17.out).1; omega))
         obtain ⟨ve697_0, rfl, ge697_0⟩ := hMe697
         have hv697_0 := hcc697 0 _ rfl
         rw [Nat.add_zero, show ((Kd.slice 2 (Kd.int .i64))).sz = 1 from rfl, Nat.mul_one] at hv697_0
         replace hv697_0 := Option.some.inj (hv697_0.symm.trans hx697_0)
         rw [hv697_0] at ge697_0
         have HL697_0 := Aside0.mk (show Kd.R (Kd.int .i64) 2 _ _ _ _ (rd_L5 t674 x28_3) from ge697_0)
         clear hv697_0 ge697_0
         clear hcc697 hce697
         have HR697_0 := Aside0.mk hi697_0
         have HC697_0 := Aside0.mk hl697_0
         clear hi697_0 hl697_0
         replace p697 := eq_true p697
         replace q697 := eq_true q697
         have p698 : 0 ≤ (x28_3 : Int) := of_decide_eq_true (by first | (with_reducible assumption) | assumption)
         have q698 : x28_3 < (t674.length : Int) := of_decide_eq_true (by first | (with_reducible assumption) | assumption)
         obtain ⟨ad698, A698_0, c698_0, e698, hx698_0, hl698_0, hi698_0⟩ := at_L5 (Kd.S_reads' HO_17.out).2.2 x28_3 p698 q698
         obtain rfl : ad697 = ad698 := (by injection e698)
         obtain ⟨ce698, hce698, hMe698, hcc698⟩ := Kd.S_get HO_17.out [] x28_3 p698 (by first | exact q698 | exact of_decide_eq_true (by first | (with_reducible assumption) | assumption) | (have e_ := (Kd.S_reads' HO_17.out).1; omega))
         obtain ⟨ve698_0, rfl, ge698_0⟩ := hMe698
         have hv698_0 := hcc698 0 _ rfl
         rw [Nat.add_zero, show ((Kd.slice 2 (Kd.int .i64))).sz = 1 from rfl, Nat.mul_one] at hv698_0
         replace hv698_0 := Option.some.inj (hv698_0.symm.trans hx698_0)
         rw [hv698_0] at ge698_0
         have HL698_0 := Aside0.mk (show Kd.R (Kd.int .i64) 2 _ _ _ _ (rd_L5 t674 x28_3) from ge698_0)
         clear hv698_0 ge698_0
         clear hcc698 hce698
         have HR698_0 := Aside0.mk hi698_0
         have HC698_0 := Aside0.mk hl698_0
         clear hi698_0 hl698_0
         replace p698 := eq_true p698
         replace q698 := eq_true q698
         have ea_ := Option.some.inj (hx697_0.symm.trans hx698_0)
         injection ea_ with ea_ en_ ec_
         subst ea_
         subst ec_
         clear en_
         have p699 : 0 ≤ (0 : Int) := (by omega)
         have q699 : 0 < ((rd_L5 t674 x28_3).length : Int) := of_decide_eq_true (by first | (with_reducible assumption) | assumption)
         obtain ⟨ad699, e699, hx699_0⟩ := Kd.at_int (by repeat (first | (with_reducible exact HR698_0.out) | (with_reducible refine Kd.C_alloc ?_ _) | (with_reducible refine Kd.C_drewN ?_ _) | (with_reducible refine Kd.C_drew ?_) | exact HR698_0.out)) 0 p699 q699
         cases e699
         have qi699 : (0 < (rd_L5 t674 x28_3).length) = True := eq_true (by omega)
         (try rw [show ((0 : Int)).toNat = 0 from rfl] at hx699_0)
         (try rw [Addr.add_zero'] at hx699_0)
         replace p699 := eq_true p699
         replace q699 := eq_true q699
         have p700 : 0 ≤ (x28_3 : Int) := of_decide_eq_true (by first | (with_reducible assumption) | assumption)
         have q700 : x28_3 < (t674.length : Int) := of_decide_eq_true (by first | (with_reducible assumption) | assumption)
         obtain ⟨ad700, A700_0, c700_0, e700, hx700_0, hl700_0, hi700_0⟩ := at_L5 (Kd.S_reads' HO_17.out).2.2 x28_3 p700 q700
         obtain rfl : ad697 = ad700 := (by injection e700)
         obtain ⟨ce700, hce700, hMe700, hcc700⟩ := Kd.S_get HO_17.out [] x28_3 p700 (by first | exact q700 | exact of_decide_eq_true (by first | (with_reducible assumption) | assumption) | (have e_ := (Kd.S_reads' HO_17.out).1; omega))
         obtain ⟨ve700_0, rfl, ge700_0⟩ := hMe700
         have hv700_0 := hcc700 0 _ rfl
         rw [Nat.add_zero, show ((Kd.slice 2 (Kd.int .i64))).sz = 1 from rfl, Nat.mul_one] at hv700_0
         replace hv700_0 := Option.some.inj (hv700_0.symm.trans hx700_0)
         rw [hv700_0] at ge700_0
         have HL700_0 := Aside0.mk (show Kd.R (Kd.int .i64) 2 _ _ _ _ (rd_L5 t674 x28_3) from ge700_0)
         clear hv700_0 ge700_0
         clear hcc700 hce700
         have HR700_0 := Aside0.mk hi700_0
         have HC700_0 := Aside0.mk hl700_0
         clear hi700_0 hl700_0
         replace p700 := eq_true p700
         replace q700 := eq_true q700
         have ea_ := Option.some.inj (hx697_0.symm.trans hx700_0)
         injection ea_ with ea_ en_ ec_
         subst ea_
         subst ec_
         clear en_
         have p701 : 0 ≤ (0 : Int) := (by omega)
         have q701 : 0 < ((rd_L5 t674 x28_3).length : Int) := of_decide_eq_true (by first | (with_reducible assumption) | assumption)
         obtain ⟨ad701, e701, hx701_0⟩ := Kd.at_int (by repeat (first | (with_reducible exact HR700_0.out) | (with_reducible refine Kd.C_alloc ?_ _) | (with_reducible refine Kd.C_drewN ?_ _) | (with_reducible refine Kd.C_drew ?_) | exact HR700_0.out)) 0 p701 q701
         cases e701
         have qi701 : (0 < (rd_L5 t674 x28_3).length) = True := eq_true (by omega)
         (try rw [show ((0 : Int)).toNat = 0 from rfl] at hx701_0)
         (try rw [Addr.add_zero'] at hx701_0)
         replace p701 := eq_true p701
         replace q701 := eq_true q701
         as_aux_lemma =>
          go_wp2
          go_ret
          exact ⟨qE, qB HB.out⟩
        rw [if_neg c129] at H
        have c129b0 : decide ((t690.length : Int) ≤ (rd (rd_L5 t674 x28_3) 0)) = false := decide_eq_false c129
        clear c129
        by_cases c131 : 1 < ((rd_L5 t674 x28_3).length : Int)
        rotate_left
        ·
         rw [if_neg c131] at H
         exact absurd H (by simp)
        rw [if_pos c131] at H
        have c131b0 : decide (1 < ((rd_L5 t674 x28_3).length : Int)) = true := decide_eq_true c131
        have c131b1 : decide (1 < (rd_L5 t674 x28_3).length) = true := decide_eq_true (by omega)
        clear c131
        by_cases c132 : (rd (rd_L5 t674 x28_3) 1) < 0
        ·
         rw [if_pos c132] at H
         have c132b0 : decide ((rd (rd_L5 t674 x28_3) 1) < 0) = true := decide_eq_true c132
         clear c132
         obtain rfl := Option.some.inj H
         obtain ⟨Ao133, co133, eo133⟩ := Kd.S_slice HO_17.out
         subst eo133
         have p697 : 0 ≤ (x28_3 : Int) := of_decide_eq_true (by first | (with_reducible assumption) | assumption)
         have q697 : x28_3 < (t674.length : Int) := of_decide_eq_true (by first | (with_reducible assumption) | assumption)
         obtain ⟨ad697, A697_0, c697_0, e697, hx697_0, hl697_0, hi697_0⟩ := at_L5 (Kd.S_reads' HO_17.out).2.2 x28_3 p697 q697
         cases e697
         obtain ⟨ce697, hce697, hMe697, hcc697⟩ := Kd.S_get HO_17.out [] x28_3 p697 (by first | exact q697 | exact of_decide_eq_true (by first | (with_reducible assumption) | assumption) | (have e_ := (Kd.S_reads' HO_17.out).1; omega))
         obtain ⟨ve697_0, rfl, ge697_0⟩ := hMe697
         have hv697_0 := hcc697 0 _ rfl
         rw [Nat.add_zero, show ((Kd.slice 2 (Kd.int .i64))).sz = 1 from rfl, Nat.mul_one] at hv697_0
         replace hv697_0 := Option.some.inj (hv697_0.symm.trans hx697_0)
         rw [hv697_0] at ge697_0
         have HL697_0 := Aside0.mk (show Kd.R (Kd.int .i64) 2 _ _ _ _ (rd_L5 t674 x28_3) from ge697_0)
         clear hv697_0 ge697_0
         clear hcc697 hce697
         have HR697_0 := Aside0.mk hi697_0
         have HC697_0 := Aside0.mk hl697_0
         clear hi697_0 hl697_0
         replace p697 := eq_true p697
         replace q697 := eq_true q697
         have p698 : 0 ≤ (x28_3 : Int) := of_decide_eq_true (by first | (with_reducible assumption) | assumption)
         have q698 : x28_3 < (t674.length : Int) := of_decide_eq_true (by first | (with_reducible assumption) | assumption)
         obtain ⟨ad698, A698_0, c698_0, e698, hx698_0, hl698_0, hi698_0⟩ := at_L5 (Kd.S_reads' HO_17.out).2.2 x28_3 p698 q698
         obtain rfl : ad697 = ad698 := (by injection e698)
         obtain ⟨ce698, hce698, hMe698, hcc698⟩ := Kd.S_get HO_17.out [] x28_3 p698 (by first | exact q698 | exact of_decide_eq_true (by first | (with_reducible assumption) | assumption) | (have e_ := (Kd.S_reads' HO_17.out).1; omega))
         obtain ⟨ve698_0, rfl, ge698_0⟩ := hMe698
         have hv698_0 := hcc698 0 _ rfl
         rw [Nat.add_zero, show ((Kd.slice 2 (Kd.int .i64))).sz = 1 from rfl, Nat.mul_one] at hv698_0
         replace hv698_0 := Option.some.inj (hv698_0.symm.trans hx698_0)
         rw [hv698_0] at ge698_0
         have HL698_0 := Aside0.mk (show Kd.R (Kd.int .i64) 2 _ _ _ _ (rd_L5 t674 x28_3) from ge698_0)
         clear hv698_0 ge698_0
         clear hcc698 hce698
         have HR698_0 := Aside0.mk hi698_0
         have HC698_0 := Aside0.mk hl698_0
         clear hi698_0 hl698_0
         replace p698 := eq_true p698
         replace q698 := eq_true q698
         have ea_ := Option.some.inj (hx697_0.symm.trans hx698_0)
         injection ea_ with ea_ en_ ec_
         subst ea_
         subst ec_
         clear en_
         have p699 : 0 ≤ (0 : Int) := (by omega)
         have q699 : 0 < ((rd_L5 t674 x28_3).length : Int) := of_decide_eq_true (by first | (with_reducible assumption) | assumption)
         obtain ⟨ad699, e699, hx699_0⟩ := Kd.at_int (by repeat (first | (with_reducible exact HR698_0.out) | (with_reducible refine Kd.C_alloc ?_ _) | (with_reducible refine Kd.C_drewN ?_ _) | (with_reducible refine Kd.C_drew ?_) | exact HR698_0.out)) 0 p699 q699
         cases e699
         have qi699 : (0 < (rd_L5 t674 x28_3).length) = True := eq_true (by omega)
         (try rw [show ((0 : Int)).toNat = 0 from rfl] at hx699_0)
         (try rw [Addr.add_zero'] at hx699_0)
         replace p699 := eq_true p699
         replace q699 := eq_true q699
         have p700 : 0 ≤ (x28_3 : Int) := of_decide_eq_true (by first | (with_reducible assumption) | assumption)
         have q700 : x28_3 < (t674.length : Int) := of_decide_eq_true (by first | (with_reducible assumption) | assumption)
         obtain ⟨ad700, A700_0, c700_0, e700, hx700_0, hl700_0, hi700_0⟩ := at_L5 (Kd.S_reads' HO_17.out).2.2 x28_3 p700 q700
         obtain rfl : ad697 = ad700 := (by injection e700)
         obtain ⟨ce700, hce700, hMe700, hcc700⟩ := Kd.S_get HO_17.out [] x28_3 p700 (by first | exact q700 | exact of_decide_eq_true (by first | (with_reducible assumption) | assumption) | (have e_ := (Kd.S_reads' HO_17.out).1; omega))
         obtain ⟨ve700_0, rfl, ge700_0⟩ := hMe700
         have hv700_0 := hcc700 0 _ rfl
         rw [Nat.add_zero, show ((Kd.slice 2 (Kd.int .i64))).sz = 1 from rfl, Nat.mul_one] at hv700_0
         replace hv700_0 := Option.some.inj (hv700_0.symm.trans hx700_0)
         rw [hv700_0] at ge700_0
         have HL700_0 := Aside0.mk (show Kd.R (Kd.int .i64) 2 _ _ _ _ (rd_L5 t674 x28_3) from ge700_0)
         clear hv700_0 ge700_0
         clear hcc700 hce700
         have HR700_0 := Aside0.mk hi700_0
         have HC700_0 := Aside0.mk hl700_0
         clear hi700_0 hl700_0
         replace p700 := eq_true p700
         replace q700 := eq_true q700
         have ea_ := Option.some.inj (hx697_0.symm.trans hx700_0)
         injection ea_ with ea_ en_ ec_
         subst ea_
         subst ec_
         clear en_
         have p701 : 0 ≤ (0 : Int) := (by omega)
         have q701 : 0 < ((rd_L5 t674 x28_3).length : Int) := of_decide_eq_true (by first | (with_reducible assumption) | assumption)
         obtain ⟨ad701, e701, hx701_0⟩ := Kd.at_int (by repeat (first | (with_reducible exact HR700_0.out) | (with_reducible refine Kd.C_alloc ?_ _) | (with_reducible refine Kd.C_drewN ?_ _) | (with_reducible refine Kd.C_drew ?_) | exact HR700_0.out)) 0 p701 q701
         cases e701
         have qi701 : (0 < (rd_L5 t674 x28_3).length) = True := eq_true (by omega)
         (try rw [show ((0 : Int)).toNat = 0 from rfl] at hx701_0)
         (try rw [Addr.add_zero'] at hx701_0)
         replace p701 := eq_true p701
         replace q701 := eq_true q701
         have p702 : 0 ≤ (x28_3 : Int) := of_decide_eq_true (by first | (with_reducible assumption) | assumption)
         have q702 : x28_3 < (t674.length : Int) := of_decide_eq_true (by first | (with_reducible assumption) | assumption)
         obtain ⟨ad702, A702_0, c702_0, e702, hx702_0, hl702_0, hi702_0⟩ := at_L5 (Kd.S_reads' HO_17.out).2.2 x28_3 p702 q702
         obtain rfl : ad697 = ad702 := (by injection e702)
         obtain ⟨ce702, hce702, hMe702, hcc702⟩ := Kd.S_get HO_17.out [] x28_3 p702 (by first | exact q702 | exact of_decide_eq_true (by first | (with_reducible assumption) | assumption) | (have e_ := (Kd.S_reads' HO_17.out).1; omega))
         obtain ⟨ve702_0, rfl, ge702_0⟩ := hMe702
         have hv702_0 := hcc702 0 _ rfl
         rw [Nat.add_zero, show ((Kd.slice 2 (Kd.int .i64))).sz = 1 from rfl, Nat.mul_one] at hv702_0
         replace hv702_0 := Option.some.inj (hv702_0.symm.trans hx702_0)
         rw [hv702_0] at ge702_0
         have HL702_0 := Aside0.mk (show Kd.R (Kd.int .i64) 2 _ _ _ _ (rd_L5 t674 x28_3) from ge702_0)
         clear hv702_0 ge702_0
         clear hcc702 hce702
         have HR702_0 := Aside0.mk hi702_0
         have HC702_0 := Aside0.mk hl702_0
         clear hi702_0 hl702_0
         replace p702 := eq_true p702
         replace q702 := eq_true q702
         have ea_ := Option.some.inj (hx697_0.symm.trans hx702_0)
         injection ea_ with ea_ en_ ec_
         subst ea_
         subst ec_
         clear en_
         have p703 : 0 ≤ (1 : Int) := (by omega)
         have q703 : 1 < ((rd_L5 t674 x28_3).length : Int) := of_decide_eq_true (by first | (with_reducible assumption) | assumption)
         obtain ⟨ad703, e703, hx703_0⟩ := Kd.at_int (by repeat (first | (with_reducible exact HR702_0.out) | (with_reducible refine Kd.C_alloc ?_ _) | (with_reducible refine Kd.C_drewN ?_ _) | (with_reducible refine Kd.C_drew ?_) | exact HR702_0.out)) 1 p703 q703
         cases e703
         (try simp only [show (1 : Int).toNat = 1 from rfl, Nat.reduceMul, Nat.reduceEqDiff, Go.Addr.add, ↓reduceIte] at hx703_0)
         have qi703 : (1 < (rd_L5 t674 x28_3).length) = True := eq_true (by omega)
         (try rw [show ((1 : Int)).toNat = 1 from rfl] at hx703_0)
         replace p703 := eq_true p703
         replace q703 := eq_true q703
         as_aux_lemma =>
          go_wp2
          go_ret
          exact ⟨qE, qB HB.out⟩
        rw [if_neg c132] at H
        have c132b0 : decide ((rd (rd_L5 t674 x28_3) 1) < 0) = false := decide_eq_false c132
        clear c132
        by_cases c134 : (rd (rd_L5 t674 x28_3) 1) ≥ (t690.length : Int)
        ·
         rw [if_pos c134] at H
         have c134b0 : decide ((t690.length : Int) ≤ (rd (rd_L5 t674 x28_3) 1)) = true := decide_eq_true c134
         clear c134
         obtain rfl := Option.some.inj H
         obtain ⟨Ao135, co135, eo135⟩ := Kd.S_slice HO_17.out
         subst eo135
         have p697 : 0 ≤ (x28_3 : Int) := of_decide_eq_true (by first | (with_reducible assumption) | assumption)
         have q697 : x28_3 < (t674.length : Int) := of_decide_eq_true (by first | (with_reducible assumption) | assumption)
         obtain ⟨ad697, A697_0, c697_0, e697, hx697_0, hl697_0, hi697_0⟩ := at_L5 (Kd.S_reads' HO_17.out).2.2 x28_3 p697 q697
         cases e697
         obtain ⟨ce697, hce697, hMe697, hcc697⟩ := Kd.S_get HO_17.out [] x28_3 p697 (by first | exact q697 | exact of_decide_eq_true (by first | (with_reducible assumption) | assumption) | (have e_ := (Kd.S_reads' HO_17.out).1; omega))
         obtain ⟨ve697_0, rfl, ge697_0⟩ := hMe697
         have hv697_0 := hcc697 0 _ rfl
         rw [Nat.add_zero, show ((Kd.slice 2 (Kd.int .i64))).sz = 1 from rfl, Nat.mul_one] at hv697_0
         replace hv697_0 := Option.some.inj (hv697_0.symm.trans hx697_0)
         rw [hv697_0] at ge697_0
         have HL697_0 := Aside0.mk (show Kd.R (Kd.int .i64) 2 _ _ _ _ (rd_L5 t674 x28_3) from ge697_0)
         clear hv697_0 ge697_0
         clear hcc697 hce697
         have HR697_0 := Aside0.mk hi697_0
         have HC697_0 := Aside0.mk hl697_0
         clear hi697_0 hl697_0
         replace p697 := eq_true p697
         replace q697 := eq_true q697
         have p698 : 0 ≤ (x28_3 : Int) := of_decide_eq_true (by first | (with_reducible assumption) | assumption)
         have q698 : x28_3 < (t674.length : Int) := of_decide_eq_true (by first | (with_reducible assumption) | assumption)
         obtain ⟨ad698, A698_0, c698_0, e698, hx698_0, hl698_0, hi698_0⟩ := at_L5 (Kd.S_reads' HO_17.out).2.2 x28_3 p698 q698
         obtain rfl : ad697 = ad698 := (by injection e698)
         obtain ⟨ce698, hce698, hMe698, hcc698⟩ := Kd.S_get HO_17.out [] x28_3 p698 (by first | exact q698 | exact of_decide_eq_true (by first | (with_reducible assumption) | assumption) | (have e_ := (Kd.S_reads' HO_17.out).1; omega))
         obtain ⟨ve698_0, rfl, ge698_0⟩ := hMe698
         have hv698_0 := hcc698 0 _ rfl
         rw [Nat.add_zero, show ((Kd.slice 2 (Kd.int .i64))).sz = 1 from rfl, Nat.mul_one] at hv698_0
         replace hv698_0 := Option.some.inj (hv698_0.symm.trans hx698_0)
         rw [hv698_0] at ge698_0
         have HL698_0 := Aside0.mk (show Kd.R (Kd.int .i64) 2 _ _ _ _ (rd_L5 t674 x28_3) from ge698_0)
         clear hv698_0 ge698_0
         clear hcc698 hce698
         have HR698_0 := Aside0.mk hi698_0
         have HC698_0 := Aside0.mk hl698_0
         clear hi698_0 hl698_0
         replace p698 := eq_true p698
         replace q698 := eq_true q698
         have ea_ := Option.some.inj (hx697_0.symm.trans hx698_0)
         injection ea_ with ea_ en_ ec_
         subst ea_
         subst ec_
         clear en_
         have p699 : 0 ≤ (0 : Int) := (by omega)
         have q699 : 0 < ((rd_L5 t674 x28_3).length : Int) := of_decide_eq_true (by first | (with_reducible assumption) | assumption)
         obtain ⟨ad699, e699, hx699_0⟩ := Kd.at_int (by repeat (first | (with_reducible exact HR698_0.out) | (with_reducible refine Kd.C_alloc ?_ _) | (with_reducible refine Kd.C_drewN ?_ _) | (with_reducible refine Kd.C_drew ?_) | exact HR698_0.out)) 0 p699 q699
         cases e699
         have qi699 : (0 < (rd_L5 t674 x28_3).length) = True := eq_true (by omega)
         (try rw [show ((0 : Int)).toNat = 0 from rfl] at hx699_0)
         (try rw [Addr.add_zero'] at hx699_0)
         replace p699 := eq_true p699
         replace q699 := eq_true q699
         have p700 : 0 ≤ (x28_3 : Int) := of_decide_eq_true (by first | (with_reducible assumption) | assumption)
         have q700 : x28_3 < (t674.length : Int) := of_decide_eq_true (by first | (with_reducible assumption) | assumption)
         obtain ⟨ad700, A700_0, c700_0, e700, hx700_0, hl700_0, hi700_0⟩ := at_L5 (Kd.S_reads' HO_17.out).2.2 x28_3 p700 q700
         obtain rfl : ad697 = ad700 := (by injection e700)
         obtain ⟨ce700, hce700, hMe700, hcc700⟩ := Kd.S_get HO_17.out [] x28_3 p700 (by first | exact q700 | exact of_decide_eq_true (by first | (with_reducible assumption) | assumption) | (have e_ := (Kd.S_reads' HO_17.out).1; omega))
         obtain ⟨ve700_0, rfl, ge700_0⟩ := hMe700
         have hv700_0 := hcc700 0 _ rfl
         rw [Nat.add_zero, show ((Kd.slice 2 (Kd.int .i64))).sz = 1 from rfl, Nat.mul_one] at hv700_0
         replace hv700_0 := Option.some.inj (hv700_0.symm.trans hx700_0)
         rw [hv700_0] at ge700_0
         have HL700_0 := Aside0.mk (show Kd.R (Kd.int .i64) 2 _ _ _ _ (rd_L5 t674 x28_3) from ge700_0)
         clear hv700_0 ge700_0
         clear hcc700 hce700
         have HR700_0 := Aside0.mk hi700_0
         have HC700_0 := Aside0.mk hl700_0
         clear hi700_0 hl700_0
         replace p700 := eq_true p700
         replace q700 := eq_true q700
         have ea_ := Option.some.inj (hx697_0.symm.trans hx700_0)
         injection ea_ with ea_ en_ ec_
         subst ea_
         subst ec_
         clear en_
         have p701 : 0 ≤ (0 : Int) := (by omega)
         have q701 : 0 < ((rd_L5 t674 x28_3).length : Int) := of_decide_eq_true (by first | (with_reducible assumption) | assumption)
         obtain ⟨ad701, e701, hx701_0⟩ := Kd.at_int (by repeat (first | (with_reducible exact HR700_0.out) | (with_reducible refine Kd.C_alloc ?_ _) | (with_reducible refine Kd.C_drewN ?_ _) | (with_reducible refine Kd.C_drew ?_) | exact HR700_0.out)) 0 p701 q701
         cases e701
         have qi701 : (0 < (rd_L5 t674 x28_3).length) = True := eq_true (by omega)
         (try rw [show ((0 : Int)).toNat = 0 from rfl] at hx701_0)
         (try rw [Addr.add_zero'] at hx701_0)
         replace p701 := eq_true p701
         replace q701 := eq_true q701
         have p702 : 0 ≤ (x28_3 : Int) := of_decide_eq_true (by first | (with_reducible assumption) | assumption)
         have q702 : x28_3 < (t674.length : Int) := of_decide_eq_true (by first | (with_reducible assumption) | assumption)
         obtain ⟨ad702, A702_0, c702_0, e702, hx702_0, hl702_0, hi702_0⟩ := at_L5 (Kd.S_reads' HO_17.out).2.2 x28_3 p702 q702
         obtain rfl : ad697 = ad702 := (by injection e702)
         obtain ⟨ce702, hce702, hMe702, hcc702⟩ := Kd.S_get HO_17.out [] x28_3 p702 (by first | exact q702 | exact of_decide_eq_true (by first | (with_reducible assumption) | assumption) | (have e_ := (Kd.S_reads' HO_17.out).1; omega))
         obtain ⟨ve702_0, rfl, ge702_0⟩ := hMe702
         have hv702_0 := hcc702 0 _ rfl
         rw [Nat.add_zero, show ((Kd.slice 2 (Kd.int .i64))).sz = 1 from rfl, Nat.mul_one] at hv702_0
         replace hv702_0 := Option.some.inj (hv702_0.symm.trans hx702_0)
         rw [hv702_0] at ge702_0
         have HL702_0 := Aside0.mk (show Kd.R (Kd.int .i64) 2 _ _ _ _ (rd_L5 t674 x28_3) from ge702_0)
         clear hv702_0 ge702_0
         clear hcc702 hce702
         have HR702_0 := Aside0.mk hi702_0
         have HC702_0 := Aside0.mk hl702_0
         clear hi702_0 hl702_0
         replace p702 := eq_true p702
         replace q702 := eq_true q702
         have ea_ := Option.some.inj (hx697_0.symm.trans hx702_0)
         injection ea_ with ea_ en_ ec_
         subst ea_
         subst ec_
         clear en_
         have p703 : 0 ≤ (1 : Int) := (by omega)
         have q703 : 1 < ((rd_L5 t674 x28_3).length : Int) := of_decide_eq_true (by first | (with_reducible assumption) | assumption)
         obtain ⟨ad703, e703, hx703_0⟩ := Kd.at_int (by repeat (first | (with_reducible exact HR702_0.out) | (with_reducible refine Kd.C_alloc ?_ _) | (with_reducible refine Kd.C_drewN ?_ _) | (with_reducible refine Kd.C_drew ?_) | exact HR702_0.out)) 1 p703 q703
         cases e703
         (try simp only [show (1 : Int).toNat = 1 from rfl, Nat.reduceMul, Nat.reduceEqDiff, Go.Addr.add, ↓reduceIte] at hx703_0)
         have qi703 : (1 < (rd_L5 t674 x28_3).length) = True := eq_true (by omega)
         (try rw [show ((1 : Int)).toNat = 1 from rfl] at hx703_0)
         replace p703 := eq_true p703
         replace q703 := eq_true q703
         have p704 : 0 ≤ (x28_3 : Int) := of_decide_eq_true (by first | (with_reducible assumption) | assumption)
         have q704 : x28_3 < (t674.length : Int) := of_decide_eq_true (by first | (with_reducible assumption) | assumption)
         obtain ⟨ad704, A704_0, c704_0, e704, hx704_0, hl704_0, hi704_0⟩ := at_L5 (Kd.S_reads' HO_17.out).2.2 x28_3 p704 q704
         obtain rfl : ad697 = ad704 := (by injection e704)
         obtain ⟨ce704, hce704, hMe704, hcc704⟩ := Kd.S_get HO_17.out [] x28_3 p704 (by first | exact q704 | exact of_decide_eq_true (by first | (with_reducible assumption) | assumption) | (have e_ := (Kd.S_reads' HO_17.out).1; omega))
         obtain ⟨ve704_0, rfl, ge704_0⟩ := hMe704
         have hv704_0 := hcc704 0 _ rfl
         rw [Nat.add_zero, show ((Kd.slice 2 (Kd.int .i64))).sz = 1 from rfl, Nat.mul_one] at hv704_0
         replace hv704_0 := Option.some.inj (hv704_0.symm.trans hx704_0)
         rw [hv704_0] at ge704_0
         have HL704_0 := Aside0.mk (show Kd.R (Kd.int .i64) 2 _ _ _ _ (rd_L5 t674 x28_3) from ge704_0)
         clear hv704_0 ge704_0
         clear hcc704 hce704
         have HR704_0 := Aside0.mk hi704_0
         have HC704_0 := Aside0.mk hl704_0
         clear hi704_0 hl704_0
         replace p704 := eq_true p704
         replace q704 := eq_true q704
         have ea_ := Option.some.inj (hx697_0.symm.trans hx704_0)
         injection ea_ with ea_ en_ ec_
         subst ea_
         subst ec_
         clear en_
         have p705 : 0 ≤ (1 : Int) := (by omega)
         have q705 : 1 < ((rd_L5 t674 x28_3).length : Int) := of_decide_eq_true (by first | (with_reducible assumption) | assumption)
         obtain ⟨ad705, e705, hx705_0⟩ := Kd.at_int (by repeat (first | (with_reducible exact HR704_0.out) | (with_reducible refine Kd.C_alloc ?_ _) | (with_reducible refine Kd.C_drewN ?_ _) | (with_reducible refine Kd.C_drew ?_) | exact HR704_0.out)) 1 p705 q705
         cases e705
         (try simp only [show (1 : Int).toNat = 1 from rfl, Nat.reduceMul, Nat.reduceEqDiff, Go.Addr.add, ↓reduceIte] at hx705_0)
         have qi705 : (1 < (rd_L5 t674 x28_3).length) = True := eq_true (by omega)
         (try rw [show ((1 : Int)).toNat = 1 from rfl] at hx705_0)
         replace p705 := eq_true p705
         replace q705 := eq_true q705
         as_aux_lemma =>
          go_wp2
          go_ret
          exact ⟨qE, qB HB.out⟩
        rw [if_neg c134] at H
        have c134b0 : decide ((t690.length : Int) ≤ (rd (rd_L5 t674 x28_3) 1)) = false := decide_eq_false c134
        clear c134
        by_cases c136 : 0 ≤ (rd (rd_L5 t674 x28_3) 0)
        rotate_left
        ·
         rw [if_neg c136] at H
         exact absurd H (by simp)
        rw [if_pos c136] at H
        have c136b0 : decide (0 ≤ (rd (rd_L5 t674 x28_3) 0)) = true := decide_eq_true c136
        clear c136
        by_cases c137 : (rd (rd_L5 t674 x28_3) 0) < (x27_3.length : Int)
        rotate_left
        ·
         rw [if_neg c137] at H
         exact absurd H (by simp)
        rw [if_pos c137] at H
        have c137b0 : decide ((rd (rd_L5 t674 x28_3) 0) < (x27_3.length : Int)) = true := decide_eq_true c137
        clear c137
        obtain ⟨y709, hy709⟩ : ∃ y_ : List Int, y_ = (x27_3.set ((rd (rd_L5 t674 x28_3) 0) : Int).toNat (wrap64 ((rd x27_3 (rd (rd_L5 t674 x28_3) 0)) + 1))) := ⟨_, rfl⟩
        replace H : (laws_FnFactorNumbers.l0 k3 l0 t658 t674 t690 y709 (wrap64 (x28_3 + 1))) = some r := by first | (rw [hy709]; with_reducible exact H) | (have H2_ := (Option.bind_some _ _).symm.trans H; rw [hy709]; with_reducible exact H2_) | (have H2_ := (Option.bind_some _ _).symm.trans H; with_reducible exact H2_) | with_reducible exact H | (rw [hy709]; exact H) | exact H
        have Ny709 := Aside0.mk hy709
        clear hy709
        have H' := Aside0.mk H
        clear H
        obtain ⟨Ao139, co139, eo139⟩ := Kd.S_slice HO_17.out
        subst eo139
        have p697 : 0 ≤ (x28_3 : Int) := of_decide_eq_true (by first | (with_reducible assumption) | assumption)
        have q697 : x28_3 < (t674.length : Int) := of_decide_eq_true (by first | (with_reducible assumption) | assumption)
        obtain ⟨ad697, A697_0, c697_0, e697, hx697_0, hl697_0, hi697_0⟩ := at_L5 (Kd.S_reads' HO_17.out).2.2 x28_3 p697 q697
        cases e697
        obtain ⟨ce697, hce697, hMe697, hcc697⟩ := Kd.S_get HO_17.out [] x28_3 p697 (by first | exact q697 | exact of_decide_eq_true (by first | (with_reducible assumption) | assumption) | (have e_ := (Kd.S_reads' HO_17.out).1; omega))
        obtain ⟨ve697_0, rfl, ge697_0⟩ := hMe697
        have hv697_0 := hcc697 0 _ rfl
        rw [Nat.add_zero, show ((Kd.slice 2 (Kd.int .i64))).sz = 1 from rfl, Nat.mul_one] at hv697_0
        replace hv697_0 := Option.some.inj (hv697_0.symm.trans hx697_0)
        rw [hv697_0] at ge697_0
        have HL697_0 := Aside0.mk (show Kd.R (Kd.int .i64) 2 _ _ _ _ (rd_L5 t674 x28_3) from ge697_0)
        clear hv697_0 ge697_0
        clear hcc697 hce697
        have HR697_0 := Aside0.mk hi697_0
        have HC697_0 := Aside0.mk hl697_0
        clear hi697_0 hl697_0
        replace p697 := eq_true p697
        replace q697 := eq_true q697
        have p698 : 0 ≤ (x28_3 : Int) := of_decide_eq_true (by first | (with_reducible assumption) | assumption)
        have q698 : x28_3 < (t674.length : Int) := of_decide_eq_true (by first | (with_reducible assumption) | assumption)
        obtain ⟨ad698, A698_0, c698_0, e698, hx698_0, hl698_0, hi698_0⟩ := at_L5 (Kd.S_reads' HO_17.out).2.2 x28_3 p698 q698
        obtain rfl : ad697 = ad698 := (by injection e698)
        obtain ⟨ce698, hce698, hMe698, hcc698⟩ := Kd.S_get HO_17.out [] x28_3 p698 (by first | exact q698 | exact of_decide_eq_true (by first | (with_reducible assumption) | assumption) | (have e_ := (Kd.S_reads' HO_17.out).1; omega))
        obtain ⟨ve698_0, rfl, ge698_0⟩ := hMe698
        have hv698_0 := hcc698 0 _ rfl
        rw [Nat.add_zero, show ((Kd.slice 2 (Kd.int .i64))).sz = 1 from rfl, Nat.mul_one] at hv698_0
        replace hv698_0 := Option.some.inj (hv698_0.symm.trans hx698_0)
        rw [hv698_0] at ge698_0
        have HL698_0 := Aside0.mk (show Kd.R (Kd.int .i64) 2 _ _ _ _ (rd_L5 t674 x28_3) from ge698_0)
        clear hv698_0 ge698_0
        clear hcc698 hce698
        have HR698_0 := Aside0.mk hi698_0
        have HC698_0 := Aside0.mk hl698_0
        clear hi698_0 hl698_0
        replace p698 := eq_true p698
        replace q698 := eq_true q698
        have ea_ := Option.some.inj (hx697_0.symm.trans hx698_0)
        injection ea_ with ea_ en_ ec_
        subst ea_
        subst ec_
        clear en_
        have p699 : 0 ≤ (0 : Int) := (by omega)
        have q699 : 0 < ((rd_L5 t674 x28_3).length : Int) := of_decide_eq_true (by first | (with_reducible assumption) | assumption)
        obtain ⟨ad699, e699, hx699_0⟩ := Kd.at_int (by repeat (first | (with_reducible exact HR698_0.out) | (with_reducible refine Kd.C_alloc ?_ _) | (with_reducible refine Kd.C_drewN ?_ _) | (with_reducible refine Kd.C_drew ?_) | exact HR698_0.out)) 0 p699 q699
        cases e699
        have qi699 : (0 < (rd_L5 t674 x28_3).length) = True := eq_true (by omega)
        (try rw [show ((0 : Int)).toNat = 0 from rfl] at hx699_0)
        (try rw [Addr.add_zero'] at hx699_0)
        replace p699 := eq_true p699
        replace q699 := eq_true q699
        have p700 : 0 ≤ (x28_3 : Int) := of_decide_eq_true (by first | (with_reducible assumption) | assumption)
        have q700 : x28_3 < (t674.length : Int) := of_decide_eq_true (by first | (with_reducible assumption) | assumption)
        obtain ⟨ad700, A700_0, c700_0, e700, hx700_0, hl700_0, hi700_0⟩ := at_L5 (Kd.S_reads' HO_17.out).2.2 x28_3 p700 q700
        obtain rfl : ad697 = ad700 := (by injection e700)
        obtain ⟨ce700, hce700, hMe700, hcc700⟩ := Kd.S_get HO_17.out [] x28_3 p700 (by first | exact q700 | exact of_decide_eq_true (by first | (with_reducible assumption) | assumption) | (have e_ := (Kd.S_reads' HO_17.out).1; omega))
        obtain ⟨ve700_0, rfl, ge700_0⟩ := hMe700
        have hv700_0 := hcc700 0 _ rfl
        rw [Nat.add_zero, show ((Kd.slice 2 (Kd.int .i64))).sz = 1 from rfl, Nat.mul_one] at hv700_0
        replace hv700_0 := Option.some.inj (hv700_0.symm.trans hx700_0)
        rw [hv700_0] at ge700_0
        have HL700_0 := Aside0.mk (show Kd.R (Kd.int .i64) 2 _ _ _ _ (rd_L5 t674 x28_3) from ge700_0)
        clear hv700_0 ge700_0
        clear hcc700 hce700
        have HR700_0 := Aside0.mk hi700_0
        have HC700_0 := Aside0.mk hl700_0
        clear hi700_0 hl700_0
        replace p700 := eq_true p700
        replace q700 := eq_true q700
        have ea_ := Option.some.inj (hx697_0.symm.trans hx700_0)
        injection ea_ with ea_ en_ ec_
        subst ea_
        subst ec_
        clear en_
        have p701 : 0 ≤ (0 : Int) := (by omega)
        have q701 : 0 < ((rd_L5 t674 x28_3).length : Int) := of_decide_eq_true (by first | (with_reducible assumption) | assumption)
        obtain ⟨ad701, e701, hx701_0⟩ := Kd.at_int (by repeat (first | (with_reducible exact HR700_0.out) | (with_reducible refine Kd.C_alloc ?_ _) | (with_reducible refine Kd.C_drewN ?_ _) | (with_reducible refine Kd.C_drew ?_) | exact HR700_0.out)) 0 p701 q701
        cases e701
        have qi701 : (0 < (rd_L5 t674 x28_3).length) = True := eq_true (by omega)
        (try rw [show ((0 : Int)).toNat = 0 from rfl] at hx701_0)
        (try rw [Addr.add_zero'] at hx701_0)
        replace p701 := eq_true p701
        replace q701 := eq_true q701
        have p702 : 0 ≤ (x28_3 : Int) := of_decide_eq_true (by first | (with_reducible assumption) | assumption)
        have q702 : x28_3 < (t674.length : Int) := of_decide_eq_true (by first | (with_reducible assumption) | assumption)
        obtain ⟨ad702, A702_0, c702_0, e702, hx702_0, hl702_0, hi702_0⟩ := at_L5 (Kd.S_reads' HO_17.out).2.2 x28_3 p702 q702
        obtain rfl : ad697 = ad702 := (by injection e702)
        obtain ⟨ce702, hce702, hMe702, hcc702⟩ := Kd.S_get HO_17.out [] x28_3 p702 (by first | exact q702 | exact of_decide_eq_true (by first | (with_reducible assumption) | assumption) | (have e_ := (Kd.S_reads' HO_17.out).1; omega))
        obtain ⟨ve702_0, rfl, ge702_0⟩ := hMe702
        have hv702_0 := hcc702 0 _ rfl
        rw [Nat.add_zero, show ((Kd.slice 2 (Kd.int .i64))).sz = 1 from rfl, Nat.mul_one] at hv702_0
        replace hv702_0 := Option.some.inj (hv702_0.symm.trans hx702_0)
        rw [hv702_0] at ge702_0
        have HL702_0 := Aside0.mk (show Kd.R (Kd.int .i64) 2 _ _ _ _ (rd_L5 t674 x28_3) from ge702_0)
        clear hv702_0 ge702_0
        clear hcc702 hce702
        have HR702_0 := Aside0.mk hi702_0
        have HC702_0 := Aside0.mk hl702_0
        clear hi702_0 hl702_0
        replace p702 := eq_true p702
        replace q702 := eq_true q702
        have ea_ := Option.some.inj (hx697_0.symm.trans hx702_0)
        injection ea_ with ea_ en_ ec_
        subst ea_
        subst ec_
        clear en_
        have p703 : 0 ≤ (1 : Int) := (by omega)
        have q703 : 1 < ((rd_L5 t674 x28_3).length : Int) := of_decide_eq_true (by first | (with_reducible assumption) | assumption)
        obtain ⟨ad703, e703, hx703_0⟩ := Kd.at_int (by repeat (first | (with_reducible exact HR702_0.out) | (with_reducible refine Kd.C_alloc ?_ _) | (with_reducible refine Kd.C_drewN ?_ _) | (with_reducible refine Kd.C_drew ?_) | exact HR702_0.out)) 1 p703 q703
        cases e703
        (try simp only [show (1 : Int).toNat = 1 from rfl, Nat.reduceMul, Nat.reduceEqDiff, Go.Addr.add, ↓reduceIte] at hx703_0)
        have qi703 : (1 < (rd_L5 t674 x28_3).length) = True := eq_true (by omega)
        (try rw [show ((1 : Int)).toNat = 1 from rfl] at hx703_0)
        replace p703 := eq_true p703
        replace q703 := eq_true q703
        have p704 : 0 ≤ (x28_3 : Int) := of_decide_eq_true (by first | (with_reducible assumption) | assumption)
        have q704 : x28_3 < (t674.length : Int) := of_decide_eq_true (by first | (with_reducible assumption) | assumption)
        obtain ⟨ad704, A704_0, c704_0, e704, hx704_0, hl704_0, hi704_0⟩ := at_L5 (Kd.S_reads' HO_17.out).2.2 x28_3 p704 q704
        obtain rfl : ad697 = ad704 := (by injection e704)
        obtain ⟨ce704, hce704, hMe704, hcc704⟩ := Kd.S_get HO_17.out [] x28_3 p704 (by first | exact q704 | exact of_decide_eq_true (by first | (with_reducible assumption) | assumption) | (have e_ := (Kd.S_reads' HO_17.out).1; omega))
        obtain ⟨ve704_0, rfl, ge704_0⟩ := hMe704
        have hv704_0 := hcc704 0 _ rfl
        rw [Nat.add_zero, show ((Kd.slice 2 (Kd.int .i64))).sz = 1 from rfl, Nat.mul_one] at hv704_0
        replace hv704_0 := Option.some.inj (hv704_0.symm.trans hx704_0)
        rw [hv704_0] at ge704_0
        have HL704_0 := Aside0.mk (show Kd.R (Kd.int .i64) 2 _ _ _ _ (rd_L5 t674 x28_3) from ge704_0)
        clear hv704_0 ge704_0
        clear hcc704 hce704
        have HR704_0 := Aside0.mk hi704_0
        have HC704_0 := Aside0.mk hl704_0
        clear hi704_0 hl704_0
        replace p704 := eq_true p704
        replace q704 := eq_true q704
        have ea_ := Option.some.inj (hx697_0.symm.trans hx704_0)
        injection ea_ with ea_ en_ ec_
        subst ea_
        subst ec_
        clear en_
        have p705 : 0 ≤ (1 : Int) := (by omega)
        have q705 : 1 < ((rd_L5 t674 x28_3).length : Int) := of_decide_eq_true (by first | (with_reducible assumption) | assumption)
        obtain ⟨ad705, e705, hx705_0⟩ := Kd.at_int (by repeat (first | (with_reducible exact HR704_0.out) | (with_reducible refine Kd.C_alloc ?_ _) | (with_reducible refine Kd.C_drewN ?_ _) | (with_reducible refine Kd.C_drew ?_) | exact HR704_0.out)) 1 p705 q705
        cases e705
        (try simp only [show (1 : Int).toNat = 1 from rfl, Nat.reduceMul, Nat.reduceEqDiff, Go.Addr.add, ↓reduceIte] at hx705_0)
        have qi705 : (1 < (rd_L5 t674 x28_3).length) = True := eq_true (by omega)
        (try rw [show ((1 : Int)).toNat = 1 from rfl] at hx705_0)
        replace p705 := eq_true p705
        replace q705 := eq_true q705
        have p706 : 0 ≤ (x28_3 : Int) := of_decide_eq_true (by first | (with_reducible assumption) | assumption)
        have q706 : x28_3 < (t674.length : Int) := of_decide_eq_true (by first | (with_reducible assumption) | assumption)
        obtain ⟨ad706, A706_0, c706_0, e706, hx706_0, hl706_0, hi706_0⟩ := at_L5 (Kd.S_reads' HO_17.out).2.2 x28_3 p706 q706
        obtain rfl : ad697 = ad706 := (by injection e706)
        obtain ⟨ce706, hce706, hMe706, hcc706⟩ := Kd.S_get HO_17.out [] x28_3 p706 (by first | exact q706 | exact of_decide_eq_true (by first | (with_reducible assumption) | assumption) | (have e_ := (Kd.S_reads' HO_17.out).1; omega))
        obtain ⟨ve706_0, rfl, ge706_0⟩ := hMe706
        have hv706_0 := hcc706 0 _ rfl
        rw [Nat.add_zero, show ((Kd.slice 2 (Kd.int .i64))).sz = 1 from rfl, Nat.mul_one] at hv706_0
        replace hv706_0 := Option.some.inj (hv706_0.symm.trans hx706_0)
        rw [hv706_0] at ge706_0
        have HL706_0 := Aside0.mk (show Kd.R (Kd.int .i64) 2 _ _ _ _ (rd_L5 t674 x28_3) from ge706_0)
        clear hv706_0 ge706_0
        clear hcc706 hce706
        have HR706_0 := Aside0.mk hi706_0
        have HC706_0 := Aside0.mk hl706_0
        clear hi706_0 hl706_0
        replace p706 := eq_true p706
        replace q706 := eq_true q706
        have ea_ := Option.some.inj (hx697_0.symm.trans hx706_0)
        injection ea_ with ea_ en_ ec_
        subst ea_
        subst ec_
        clear en_
        have p707 : 0 ≤ (0 : Int) := (by omega)
        have q707 : 0 < ((rd_L5 t674 x28_3).length : Int) := of_decide_eq_true (by first | (with_reducible assumption) | assumption)
        obtain ⟨ad707, e707, hx707_0⟩ := Kd.at_int (by repeat (first | (with_reducible exact HR706_0.out) | (with_reducible refine Kd.C_alloc ?_ _) | (with_reducible refine Kd.C_drewN ?_ _) | (with_reducible refine Kd.C_drew ?_) | exact HR706_0.out)) 0 p707 q707
        cases e707
        have qi707 : (0 < (rd_L5 t674 x28_3).length) = True := eq_true (by omega)
        (try rw [show ((0 : Int)).toNat = 0 from rfl] at hx707_0)
        (try rw [Addr.add_zero'] at hx707_0)
        replace p707 := eq_true p707
        replace q707 := eq_true q707
        obtain ⟨Ao140, co140, eo140⟩ := Kd.R_slice HO_27.out
        subst eo140
        have p708 : 0 ≤ ((rd (rd_L5 t674 x28_3) 0) : Int) := of_decide_eq_true (by first | (with_reducible assumption) | assumption)
        have q708 : (rd (rd_L5 t674 x28_3) 0) < (x27_3.length : Int) := of_decide_eq_true (by first | (with_reducible assumption) | assumption)
        obtain ⟨ad708, e708, hx708_0⟩ := Kd.at_int (Kd.R_reads' HO_27.out).2.2 (rd (rd_L5 t674 x28_3) 0) p708 q708
        cases e708
        replace p708 := eq_true p708
        replace q708 := eq_true q708
        have p138 : 0 ≤ ((rd (rd_L5 t674 x28_3) 0) : Int) := of_decide_eq_true (by first | (with_reducible assumption) | assumption)
        have q138 : ((rd (rd_L5 t674 x28_3) 0) : Int) < ((x27_3.length : Int) : Int) := of_decide_eq_true (by first | (with_reducible assumption) | assumption)
        obtain ⟨go138, co138, eo138, gb138, gl138, cl138, HG138⟩ := Kd.R_form HO_27.out (by omega)
        (first | cases eo138 | (injection eo138 with ea_ en_ ec_; (first | subst ea_ | (injection ea_ with ea_; subst ea_)); subst ec_; clear en_))
        have GB138 := Aside0.mk gb138
        have GG138 := Aside0.mk HG138
        clear gb138 gl138 HG138
        (first | simp only [add_plain] at hx708_0 | skip)
        obtain ⟨hx138_0, hf138_0⟩ := Kd.R_celln 0 HO_27.out ((rd (rd_L5 t674 x28_3) 0) : Int) p138 q138
        replace p138 := eq_true p138
        replace q138 := eq_true q138
        have HP141 := Kd.R_putg HO_27.out ((rd (rd_L5 t674 x28_3) 0) : Int) (wrap64 ((rd x27_3 (rd (rd_L5 t674 x28_3) 0)) + 1))
        as_aux_lemma =>
         go_wp2_with (first | ((with_reducible refine gate_store (t := 2) (p := 272) rfl ?_); refine store_event (t := 2) (p := 272) (v := ?vo_w142) (w1 := (wr.setCell ⟨go138, ((rd (rd_L5 t674 x28_3) 0) : Int).toNat, none⟩ (.int .i64 (wrap64 ((rd x27_3 (rd (rd_L5 t674 x28_3) 0)) + 1))))) ?hg ?ho ?hn ?hr ?_; (case ho => rfl); (case hg => rfl); (case hn => rfl); (case hr => first | (go_simp; done) | (go_simp; rfl)); intro w142 hw; have hg : wr.grownBy w142 (some go138) := (by rw [hw]; exact HP141.2); have hp_ : Kd.R (Kd.int .i64) 2 w142 w.heap.size (fun _ => True) (.slice (some ⟨go138, 0, none⟩) x27_3.length co140) y709 := (by rw [hw, Ny709.out]; exact HP141.1); clear HP141; replace HO_9 := Aside0.mk (Kd.R_over' (v := (.slice (some ⟨go138, 0, none⟩) x27_3.length co140)) (qR HO_9.out) (Kd.R_typed HO_27.out) (by decide) hg); replace HO_17 := Aside0.mk (Kd.S_after (v := (.slice (some ⟨go138, 0, none⟩) x27_3.length co140)) (v1 := (.slice (some ⟨go138, 0, none⟩) x27_3.length co140)) (ok := (fun _ => True)) (by (with_reducible repeat (first | apply Kd.S_alloc | apply Kd.S_drewN | apply Kd.S_drew)); exact Kd.S_mono HO_17.out (fun _ hk => ⟨trivial, hk⟩)) hg (.inl rfl)); replace HO_25 := Aside0.mk (Kd.R_over' (v := (.slice (some ⟨go138, 0, none⟩) x27_3.length co140)) (qR HO_25.out) (Kd.R_typed HO_27.out) (by decide) hg); replace HO_27 := Aside0.mk (hp_); replace HL697_0 := Aside0.mk (Kd.R_after (v := (.slice (some ⟨go138, 0, none⟩) x27_3.length co140)) (v1 := (.slice (some ⟨go138, 0, none⟩) x27_3.length co140)) (ok := (fun k_ => some k_ ≠ (.slice (some ad697) t674.length co139 : Value).ownBlock)) (by (with_reducible repeat (first | apply Kd.R_alloc | apply Kd.R_drewN | apply Kd.R_drew)); exact Kd.R_mono HL697_0.out (fun _ hk => ⟨hk.2, hk.1⟩)) hg (.inl rfl)); replace HL698_0 := Aside0.mk (Kd.R_after (v := (.slice (some ⟨go138, 0, none⟩) x27_3.length co140)) (v1 := (.slice (some ⟨go138, 0, none⟩) x27_3.length co140)) (ok := (fun k_ => some k_ ≠ (.slice (some ad697) t674.length co139 : Value).ownBlock)) (by (with_reducible repeat (first | apply Kd.R_alloc | apply Kd.R_drewN | apply Kd.R_drew)); exact Kd.R_mono HL698_0.out (fun _ hk => ⟨hk.2, hk.1⟩)) hg (.inl rfl)); replace HL700_0 := Aside0.mk (Kd.R_after (v := (.slice (some ⟨go138, 0, none⟩) x27_3.length co140)) (v1 := (.slice (some ⟨go138, 0, none⟩) x27_3.length co140)) (ok := (fun k_ => some k_ ≠ (.slice (some ad697) t674.length co139 : Value).ownBlock)) (by (with_reducible repeat (first | apply Kd.R_alloc | apply Kd.R_drewN | apply Kd.R_drew)); exact Kd.R_mono HL700_0.out (fun _ hk => ⟨hk.2, hk.1⟩)) hg (.inl rfl)); replace HL702_0 := Aside0.mk (Kd.R_after (v := (.slice (some ⟨go138, 0, none⟩) x27_3.length co140)) (v1 := (.slice (some ⟨go138, 0, none⟩) x27_3.length co140)) (ok := (fun k_ => some k_ ≠ (.slice (some ad697) t674.length co139 : Value).ownBlock)) (by (with_reducible repeat (first | apply Kd.R_alloc | apply Kd.R_drewN | apply Kd.R_drew)); exact Kd.R_mono HL702_0.out (fun _ hk => ⟨hk.2, hk.1⟩)) hg (.inl rfl)); replace HL704_0 := Aside0.mk (Kd.R_after (v := (.slice (some ⟨go138, 0, none⟩) x27_3.length co140)) (v1 := (.slice (some ⟨go138, 0, none⟩) x27_3.length co140)) (ok := (fun k_ => some k_ ≠ (.slice (some ad697) t674.length co139 : Value).ownBlock)) (by (with_reducible repeat (first | apply Kd.R_alloc | apply Kd.R_drewN | apply Kd.R_drew)); exact Kd.R_mono HL704_0.out (fun _ hk => ⟨hk.2, hk.1⟩)) hg (.inl rfl)); replace HL706_0 := Aside0.mk (Kd.R_after (v := (.slice (some ⟨go138, 0, none⟩) x27_3.length co140)) (v1 := (.slice (some ⟨go138, 0, none⟩) x27_3.length co140)) (ok := (fun k_ => some k_ ≠ (.slice (some ad697) t674.length co139 : Value).ownBlock)) (by (with_reducible repeat (first | apply Kd.R_alloc | apply Kd.R_drewN | apply Kd.R_drew)); exact Kd.R_mono HL706_0.out (fun _ hk => ⟨hk.2, hk.1⟩)) hg (.inl rfl)); replace HB := Aside0.mk ((by rw [hw]; exact below_set (HB.out) GB138.out : Below w.heap.size w w142)); clear hg hw hp_))
         go_roundg k3
         case measure => have := HJ14.out; have := HJ91.out; have := HK3.out; omega
         case rel => exact ⟨(y709), (wrap64 (x28_3 + 1)), qF, H', ⟨by have := HJ14.out; have := HJ91.out; have := HK3.out; omega⟩, ⟨qR HO_9.out⟩, ⟨by (with_reducible repeat (first | apply Kd.S_alloc | apply Kd.S_drewN | apply Kd.S_drew)); exact Kd.S_mono HO_17.out (fun _ hk => hk.2)⟩, ⟨qR HO_25.out⟩, ⟨qR HO_27.out⟩, ⟨qB HB.out⟩⟩
   case rest => as_aux_lemma =>
    clear HC89
    obtain ⟨kq, HA, HJ88, HB⟩ := hcut
    cases kq with
    | zero => exact absurd HA.out (by simp [laws_FnFactorNumbers.j4])
    | succ kj88 =>
     have H := HA.out
     clear HA
     simp only [laws_FnFactorNumbers.j4] at H
     replace H := qN H
     obtain ⟨t711, A154, H⟩ := H
     try dsimp only at H
     replace H := qN H
     obtain ⟨⟨t712, t713⟩, A155, H⟩ := H
     try dsimp only at H
     replace H := qN H
     obtain ⟨⟨t716, t717⟩, A156, H⟩ := H
     try dsimp only at H
     replace H := qN H
     obtain ⟨⟨t720, t721⟩, A157, H⟩ := H
     try dsimp only at H
     replace H := qN H
     obtain ⟨⟨t722, t723⟩, A158, H⟩ := H
     try dsimp only at H
     have HC159 := Aside0.mk H
     clear H
     go_upto_region 40 with (first | ((with_reducible refine gate_callee (f := 19) rfl ?_); refine goesL_ (some 291) rfl rfl Tryz.func19 (by kernel_rfl) rfl #[.slice A0 l0.length c0] rfl qV ?_; (with_reducible refine (spec_DrawComplexityOf.calls kj88 _ _ l0 t711 _ ?side1 ?side2 A154.out).mono ?_); (case side1 => exact qC (Kd.C_below HR0.out HB.out)); (case side2 => exact HC0.out); rintro e w160 ⟨rfl, hb⟩; refine ⟨_, rfl, ?_⟩; replace HB := Aside0.mk (below_step (qB HB.out) hb)) | ((with_reducible refine gate_callee (f := 20) rfl ?_); refine goesL_ (some 294) rfl rfl Tryz.func20 (by kernel_rfl) rfl #[.string t711] rfl qV ?_; (with_reducible refine (impl_ComplexityOf.calls kj88 t711 t712 t713 _ A155.out).mono ?_); rintro e w161 ⟨v714, rfl, ho0, hb⟩; refine ⟨_, rfl, ?_⟩; have HO715 := Aside0.mk (Kd.R_lower ho0 (below_size (qB HB.out))); replace HB := Aside0.mk (below_step (qB HB.out) hb)) | ((with_reducible refine gate_callee (f := 21) rfl ?_); refine goesL_ (some 299) rfl rfl Tryz.func21 (by kernel_rfl) rfl #[.string t711] rfl qV ?_; (with_reducible refine (spec_ComplexityOf.calls kj88 t711 t716 t717 _ A156.out).mono ?_); rintro e w162 ⟨v718, rfl, ho0, hb⟩; refine ⟨_, rfl, ?_⟩; have HO719 := Aside0.mk (Kd.R_lower (Kd.R_new' ho0 (Kd.R_lt (qR HO715.out))) (below_size (qB HB.out))); replace HO715 := Aside0.mk (Kd.R_elder' (qR HO715.out) (Kd.R_base ho0) hb); replace HB := Aside0.mk (below_step (qB HB.out) hb)) | ((with_reducible refine gate_callee (f := 22) rfl ?_); refine goesL_ (some 304) rfl rfl Tryz.func22 (by kernel_rfl) rfl #[.string t711] rfl qV ?_; (with_reducible refine (impl_CountFactors.calls kj88 t711 t720 t721 _ A157.out).mono ?_); rintro e w163 ⟨rfl, hb⟩; refine ⟨_, rfl, ?_⟩; replace HO715 := Aside0.mk (Kd.R_below (qR HO715.out) hb); replace HO719 := Aside0.mk (Kd.R_below (qR HO719.out) hb); replace HB := Aside0.mk (below_step (qB HB.out) hb)) | ((with_reducible refine gate_callee (f := 23) rfl ?_); refine goesL_ (some 309) rfl rfl Tryz.func23 (by kernel_rfl) rfl #[.string t711] rfl qV ?_; (with_reducible refine (spec_CountFactors.calls kj88 t711 t722 t723 _ A158.out).mono ?_); rintro e w164 ⟨rfl, hb⟩; refine ⟨_, rfl, ?_⟩; replace HO715 := Aside0.mk (Kd.R_below (qR HO715.out) hb); replace HO719 := Aside0.mk (Kd.R_below (qR HO719.out) hb); replace HB := Aside0.mk (below_step (qB HB.out) hb)))
     (try simp only [Act.put, List.setIfInBounds_toArray, List.set_cons_zero, List.set_cons_succ])
     go_cut [330] (fun v330 wc => ∃ (kq : Nat) (x330_158 : Bool), v330 = .bool x330_158 ∧ Aside0 (laws_FnFactorNumbers.j5 kq l0 t711 t712 t713 t720 x330_158 = some r) ∧ Aside0 (kq ≤ kj88) ∧ Aside0 (Kd.R (Kd.int .i64) 2 wc w.heap.size (fun _ => True) v714 t712) ∧ Aside0 (Below w.heap.size w wc))
     case first => as_aux_lemma =>
      have H := HC159.out
      clear HC159
      by_cases c165 : t713 = t717
      rotate_left
      ·
       rw [if_neg c165] at H
       obtain ⟨c165b0, c165b1⟩ := zF c165
       (first | rw [c165b0] | (simp only [i64_w, i32_w]; rw [c165b0]) | skip)
       have H' := Aside0.mk H
       clear H
       as_aux_lemma =>
        go_wp2
        go_meet
        case rel => exact ⟨_, (true), qF, H', ⟨by have := HJ14.out; have := HJ88.out; first | omega | exact Nat.le_refl _⟩, ⟨by (with_reducible repeat (first | apply Kd.R_alloc | apply Kd.R_drewN | apply Kd.R_drew)); exact Kd.R_mono HO715.out (fun _ hk => trivial)⟩, ⟨qB HB.out⟩⟩
      rw [if_pos c165] at H
      obtain ⟨c165b0, c165b1⟩ := zT c165
      clear c165
      (first | rw [c165b0] | (simp only [i64_w, i32_w]; rw [c165b0]) | skip)
      replace H := qN H
      obtain ⟨t724, A166, H⟩ := H
      try dsimp only at H
      by_cases c167 : t724 = true
      rotate_left
      ·
       replace c167 := Bool.eq_false_iff.mpr c167
       subst c167
       rw [if_neg (show ¬ (false = true) by decide)] at H
       have H' := Aside0.mk H
       clear H
       obtain ⟨Ao173, co173, eo173⟩ := Kd.R_slice HO715.out
       subst eo173
       obtain ⟨Ao174, co174, eo174⟩ := Kd.R_slice HO719.out
       subst eo174
       as_aux_lemma =>
        go_wp2_with (first | (go_at_call 24; (with_reducible refine (laws_likeInts.calls kj88 _ _ t712 _ _ t716 false _ ?side1 ?side2 ?side3 ?side4 A166.out).mono ?_); (case side1 => exact qC (Kd.R_reads' HO715.out).2.2); (case side2 => exact (Kd.R_reads' HO715.out).2.1); (case side3 => exact qC (Kd.R_reads' HO719.out).2.2); (case side4 => exact (Kd.R_reads' HO719.out).2.1); rintro e w' ⟨rfl, ⟨nd, rfl⟩⟩))
        go_meet
        case rel => exact ⟨_, (true), qF, H', ⟨by have := HJ14.out; have := HJ88.out; first | omega | exact Nat.le_refl _⟩, ⟨by (with_reducible repeat (first | apply Kd.R_alloc | apply Kd.R_drewN | apply Kd.R_drew)); exact Kd.R_mono HO715.out (fun _ hk => trivial)⟩, ⟨qB HB.out⟩⟩
      subst c167
      rw [if_pos rfl] at H
      by_cases c168 : t721 = t723
      ·
       rw [if_pos c168] at H
       obtain ⟨c168b0, c168b1⟩ := zT c168
       clear c168
       have H' := Aside0.mk H
       clear H
       obtain ⟨Ao169, co169, eo169⟩ := Kd.R_slice HO715.out
       subst eo169
       obtain ⟨Ao170, co170, eo170⟩ := Kd.R_slice HO719.out
       subst eo170
       as_aux_lemma =>
        go_wp2_with (first | (go_at_call 24; (with_reducible refine (laws_likeInts.calls kj88 _ _ t712 _ _ t716 true _ ?side1 ?side2 ?side3 ?side4 A166.out).mono ?_); (case side1 => exact qC (Kd.R_reads' HO715.out).2.2); (case side2 => exact (Kd.R_reads' HO715.out).2.1); (case side3 => exact qC (Kd.R_reads' HO719.out).2.2); (case side4 => exact (Kd.R_reads' HO719.out).2.1); rintro e w' ⟨rfl, ⟨nd, rfl⟩⟩))
        go_meet
        case rel => exact ⟨_, ((t720 != t722)), qF, H', ⟨by have := HJ14.out; have := HJ88.out; first | omega | exact Nat.le_refl _⟩, ⟨by (with_reducible repeat (first | apply Kd.R_alloc | apply Kd.R_drewN | apply Kd.R_drew)); exact Kd.R_mono HO715.out (fun _ hk => trivial)⟩, ⟨qB HB.out⟩⟩
      rw [if_neg c168] at H
      obtain ⟨c168b0, c168b1⟩ := zF c168
      have H' := Aside0.mk H
      clear H
      obtain ⟨Ao171, co171, eo171⟩ := Kd.R_slice HO715.out
      subst eo171
      obtain ⟨Ao172, co172, eo172⟩ := Kd.R_slice HO719.out
      subst eo172
      as_aux_lemma =>
       go_wp2_with (first | (go_at_call 24; (with_reducible refine (laws_likeInts.calls kj88 _ _ t712 _ _ t716 true _ ?side1 ?side2 ?side3 ?side4 A166.out).mono ?_); (case side1 => exact qC (Kd.R_reads' HO715.out).2.2); (case side2 => exact (Kd.R_reads' HO715.out).2.1); (case side3 => exact qC (Kd.R_reads' HO719.out).2.2); (case side4 => exact (Kd.R_reads' HO719.out).2.1); rintro e w' ⟨rfl, ⟨nd, rfl⟩⟩))
       go_meet
       case rel => exact ⟨_, (true), qF, H', ⟨by have := HJ14.out; have := HJ88.out; first | omega | exact Nat.le_refl _⟩, ⟨by (with_reducible repeat (first | apply Kd.R_alloc | apply Kd.R_drewN | apply Kd.R_drew)); exact Kd.R_mono HO715.out (fun _ hk => trivial)⟩, ⟨qB HB.out⟩⟩
     case rest => as_aux_lemma =>
      clear HC159
      obtain ⟨kq, x330_158, rfl, HA, HJ158, HO_32, HB⟩ := hcut
      cases kq with
      | zero => exact absurd HA.out (by simp [laws_FnFactorNumbers.j5])
      | succ kj158 =>
       have H := HA.out
       clear HA
       simp only [laws_FnFactorNumbers.j5] at H
       by_cases c175 : x330_158 = true
       ·
        subst c175
        rw [if_pos rfl] at H
        obtain rfl := Option.some.inj H
        as_aux_lemma =>
         go_wp2
         go_ret
         exact ⟨qE, qB HB.out⟩
       replace c175 := Bool.eq_false_iff.mpr c175
       subst c175
       rw [if_neg (show ¬ (false = true) by decide)] at H
       by_cases c176 : t713 = 0
       rotate_left
       ·
        rw [if_neg c176] at H
        obtain ⟨c176b0, c176b1⟩ := zF c176
        replace H := qN H
        obtain ⟨⟨t735, t736, t737⟩, A201, H⟩ := H
        try dsimp only at H
        replace H := qN H
        obtain ⟨⟨t738, t739⟩, A202, H⟩ := H
        try dsimp only at H
        replace H := qN H
        obtain ⟨⟨t740, t741⟩, A203, H⟩ := H
        try dsimp only at H
        by_cases c204 : t739 = t741
        ·
         rw [if_pos c204] at H
         obtain ⟨c204b0, c204b1⟩ := zT c204
         clear c204
         obtain rfl := Option.some.inj H
         as_aux_lemma =>
          go_wp2_with (first | ((with_reducible refine gate_callee (f := 26) rfl ?_); refine goesL_ (some 369) rfl rfl Tryz.func26 (by kernel_rfl) rfl #[.slice A0 l0.length c0] rfl qV ?_; (with_reducible refine (spec_DrawHaveEqualFactors.calls kj158 _ _ l0 t735 t736 t737 _ ?side1 ?side2 A201.out).mono ?_); (case side1 => exact qC (Kd.C_below HR0.out HB.out)); (case side2 => exact HC0.out); rintro e w205 ⟨rfl, hb⟩; refine ⟨_, rfl, ?_⟩; replace HO_32 := Aside0.mk (Kd.R_below (qR HO_32.out) hb); replace HB := Aside0.mk (below_step (qB HB.out) hb)) | ((with_reducible refine gate_callee (f := 27) rfl ?_); refine goesL_ (some 377) rfl rfl Tryz.func27 (by kernel_rfl) rfl #[.string t735, .string t736, .int .i64 t737] rfl qV ?_; (with_reducible refine (impl_HaveEqualFactors.calls kj158 t735 t736 t737 t738 t739 _ A202.out).mono ?_); rintro e w206 ⟨rfl, hb⟩; refine ⟨_, rfl, ?_⟩; replace HO_32 := Aside0.mk (Kd.R_below (qR HO_32.out) hb); replace HB := Aside0.mk (below_step (qB HB.out) hb)) | ((with_reducible refine gate_callee (f := 28) rfl ?_); refine goesL_ (some 384) rfl rfl Tryz.func28 (by kernel_rfl) rfl #[.string t735, .string t736, .int .i64 t737] rfl qV ?_; (with_reducible refine (spec_HaveEqualFactors.calls kj158 t735 t736 t737 t740 t741 _ A203.out).mono ?_); rintro e w207 ⟨rfl, hb⟩; refine ⟨_, rfl, ?_⟩; replace HO_32 := Aside0.mk (Kd.R_below (qR HO_32.out) hb); replace HB := Aside0.mk (below_step (qB HB.out) hb)))
          go_ret
          exact ⟨qE, qB HB.out⟩
        rw [if_neg c204] at H
        obtain ⟨c204b0, c204b1⟩ := zF c204
        obtain rfl := Option.some.inj H
        as_aux_lemma =>
         go_wp2_with (first | ((with_reducible refine gate_callee (f := 26) rfl ?_); refine goesL_ (some 369) rfl rfl Tryz.func26 (by kernel_rfl) rfl #[.slice A0 l0.length c0] rfl qV ?_; (with_reducible refine (spec_DrawHaveEqualFactors.calls kj158 _ _ l0 t735 t736 t737 _ ?side1 ?side2 A201.out).mono ?_); (case side1 => exact qC (Kd.C_below HR0.out HB.out)); (case side2 => exact HC0.out); rintro e w208 ⟨rfl, hb⟩; refine ⟨_, rfl, ?_⟩; replace HO_32 := Aside0.mk (Kd.R_below (qR HO_32.out) hb); replace HB := Aside0.mk (below_step (qB HB.out) hb)) | ((with_reducible refine gate_callee (f := 27) rfl ?_); refine goesL_ (some 377) rfl rfl Tryz.func27 (by kernel_rfl) rfl #[.string t735, .string t736, .int .i64 t737] rfl qV ?_; (with_reducible refine (impl_HaveEqualFactors.calls kj158 t735 t736 t737 t738 t739 _ A202.out).mono ?_); rintro e w209 ⟨rfl, hb⟩; refine ⟨_, rfl, ?_⟩; replace HO_32 := Aside0.mk (Kd.R_below (qR HO_32.out) hb); replace HB := Aside0.mk (below_step (qB HB.out) hb)) | ((with_reducible refine gate_callee (f := 28) rfl ?_); refine goesL_ (some 384) rfl rfl Tryz.func28 (by kernel_rfl) rfl #[.string t735, .string t736, .int .i64 t737] rfl qV ?_; (with_reducible refine (spec_HaveEqualFactors.calls kj158 t735 t736 t737 t740 t741 _ A203.out).mono ?_); rintro e w210 ⟨rfl, hb⟩; refine ⟨_, rfl, ?_⟩; replace HO_32 := Aside0.mk (Kd.R_below (qR HO_32.out) hb); replace HB := Aside0.mk (below_step (qB HB.out) hb)))
         go_ret
         exact ⟨qE, qB HB.out⟩

       rw [if_pos c176] at H
       obtain ⟨c176b0, c176b1⟩ := zT c176
       clear c176
       have HC177 := Aside0.mk H
       clear H
       go_upto_region 44 with (fail)
       go_cut [345] (fun v345 wc => ∃ (kq : Nat) (x345_176 : Bool), v345 = .bool x345_176 ∧ Aside0 (laws_FnFactorNumbers.j6 kq l0 t712 (t711.size : Int) x345_176 = some r) ∧ Aside0 (kq ≤ kj158) ∧ Aside0 (Kd.R (Kd.int .i64) 2 wc w.heap.size (fun _ => True) v714 t712) ∧ Aside0 (Below w.heap.size w wc))
       case first => as_aux_lemma =>
        have H := HC177.out
        clear HC177
        replace H := qN H
        obtain ⟨t725, A178, H⟩ := H
        try dsimp only at H
        by_cases c179 : t725 = t720
        ·
         rw [if_pos c179] at H
         obtain ⟨c179b0, c179b1⟩ := zT c179
         clear c179
         (first | rw [c179b0] | (simp only [i64_w, i32_w]; rw [c179b0]) | skip)
         have H' := Aside0.mk H
         clear H
         obtain ⟨Ao180, co180, eo180⟩ := Kd.R_slice HO_32.out
         subst eo180
         as_aux_lemma =>
          go_wp2_with (first | ((with_reducible refine gate_callee (f := 25) rfl ?_); refine goesL_ (some 336) rfl rfl Tryz.func25 (by kernel_rfl) rfl #[.slice Ao180 t712.length co180] rfl qV ?_; (with_reducible refine (laws_sum.calls kj158 _ _ t712 t725 _ ?side1 ?side2 A178.out).mono ?_); (case side1 => exact qC (Kd.R_reads' HO_32.out).2.2); (case side2 => exact (Kd.R_reads' HO_32.out).2.1); rintro e w' ⟨rfl, ⟨nd, rfl⟩⟩; refine ⟨_, rfl, ?_⟩))
          go_meet
          case rel => exact ⟨_, (((t712.length : Int) != (wrap64 ((t711.size : Int) + 1)))), qF, H', ⟨by have := HJ14.out; have := HJ88.out; have := HJ158.out; first | omega | exact Nat.le_refl _⟩, ⟨qR HO_32.out⟩, ⟨qB HB.out⟩⟩
        rw [if_neg c179] at H
        obtain ⟨c179b0, c179b1⟩ := zF c179
        (first | rw [c179b0] | (simp only [i64_w, i32_w]; rw [c179b0]) | skip)
        have H' := Aside0.mk H
        clear H
        obtain ⟨Ao181, co181, eo181⟩ := Kd.R_slice HO_32.out
        subst eo181
        as_aux_lemma =>
         go_wp2_with (first | ((with_reducible refine gate_callee (f := 25) rfl ?_); refine goesL_ (some 336) rfl rfl Tryz.func25 (by kernel_rfl) rfl #[.slice Ao181 t712.length co181] rfl qV ?_; (with_reducible refine (laws_sum.calls kj158 _ _ t712 t725 _ ?side1 ?side2 A178.out).mono ?_); (case side1 => exact qC (Kd.R_reads' HO_32.out).2.2); (case side2 => exact (Kd.R_reads' HO_32.out).2.1); rintro e w' ⟨rfl, ⟨nd, rfl⟩⟩; refine ⟨_, rfl, ?_⟩))
         go_meet
         case rel => exact ⟨_, (true), qF, H', ⟨by have := HJ14.out; have := HJ88.out; have := HJ158.out; first | omega | exact Nat.le_refl _⟩, ⟨qR HO_32.out⟩, ⟨qB HB.out⟩⟩
       case rest => as_aux_lemma =>
        clear HC177
        obtain ⟨kq, x345_176, rfl, HA, HJ176, HO_32, HB⟩ := hcut
        cases kq with
        | zero => exact absurd HA.out (by simp [laws_FnFactorNumbers.j6])
        | succ kj176 =>
         have H := HA.out
         clear HA
         simp only [laws_FnFactorNumbers.j6] at H
         by_cases c182 : x345_176 = true
         ·
          subst c182
          rw [if_pos rfl] at H
          obtain rfl := Option.some.inj H
          as_aux_lemma =>
           go_wp2
           go_ret
           exact ⟨qE, qB HB.out⟩
         replace c182 := Bool.eq_false_iff.mpr c182
         subst c182
         rw [if_neg (show ¬ (false = true) by decide)] at H
         have H' := Aside0.mk H
         clear H
         go_wp2
         go_loopg [41] kj176 (fun kq v41 w' => ∃ (x41_5 : Int), v41 = .int .i64 x41_5 ∧ Aside0 (laws_FnFactorNumbers.l2 kq l0 t712 (t711.size : Int) x41_5 = some r) ∧ Aside0 (kq ≤ kj176) ∧ Aside0 (Kd.R (Kd.int .i64) 2 w' w.heap.size (fun _ => True) v714 t712) ∧ Aside0 (Below w.heap.size w w'))
         case atStart => exact ⟨(0), qF, H', ⟨Nat.le_refl _⟩, ⟨qR HO_32.out⟩, ⟨qB HB.out⟩⟩
         case round =>
          clear H'
          obtain ⟨x41_5, rfl, HA, HK5, HO_32, HB⟩ := hrel
          cases gk with
          | zero => exact absurd HA.out (by simp [laws_FnFactorNumbers.l2])
          | succ k5 =>
           have H := HA.out
           clear HA
           simp only [laws_FnFactorNumbers.l2] at H
           by_cases c183 : x41_5 ≤ (t711.size : Int)
           rotate_left
           ·
            rw [if_neg c183] at H
            have c183b0 : decide (x41_5 ≤ (t711.size : Int)) = false := decide_eq_false c183
            clear c183
            replace H := qN H
            obtain ⟨⟨t728, t729, t730⟩, A191, H⟩ := H
            try dsimp only at H
            replace H := qN H
            obtain ⟨⟨t731, t732⟩, A192, H⟩ := H
            try dsimp only at H
            replace H := qN H
            obtain ⟨⟨t733, t734⟩, A193, H⟩ := H
            try dsimp only at H
            by_cases c194 : t732 = t734
            ·
             rw [if_pos c194] at H
             obtain ⟨c194b0, c194b1⟩ := zT c194
             clear c194
             obtain rfl := Option.some.inj H
             as_aux_lemma =>
              go_wp2_with (first | ((with_reducible refine gate_callee (f := 26) rfl ?_); refine goesL_ (some 369) rfl rfl Tryz.func26 (by kernel_rfl) rfl #[.slice A0 l0.length c0] rfl qV ?_; (with_reducible refine (spec_DrawHaveEqualFactors.calls k5 _ _ l0 t728 t729 t730 _ ?side1 ?side2 A191.out).mono ?_); (case side1 => exact qC (Kd.C_below HR0.out HB.out)); (case side2 => exact HC0.out); rintro e w195 ⟨rfl, hb⟩; refine ⟨_, rfl, ?_⟩; replace HO_32 := Aside0.mk (Kd.R_below (qR HO_32.out) hb); replace HB := Aside0.mk (below_step (qB HB.out) hb)) | ((with_reducible refine gate_callee (f := 27) rfl ?_); refine goesL_ (some 377) rfl rfl Tryz.func27 (by kernel_rfl) rfl #[.string t728, .string t729, .int .i64 t730] rfl qV ?_; (with_reducible refine (impl_HaveEqualFactors.calls k5 t728 t729 t730 t731 t732 _ A192.out).mono ?_); rintro e w196 ⟨rfl, hb⟩; refine ⟨_, rfl, ?_⟩; replace HO_32 := Aside0.mk (Kd.R_below (qR HO_32.out) hb); replace HB := Aside0.mk (below_step (qB HB.out) hb)) | ((with_reducible refine gate_callee (f := 28) rfl ?_); refine goesL_ (some 384) rfl rfl Tryz.func28 (by kernel_rfl) rfl #[.string t728, .string t729, .int .i64 t730] rfl qV ?_; (with_reducible refine (spec_HaveEqualFactors.calls k5 t728 t729 t730 t733 t734 _ A193.out).mono ?_); rintro e w197 ⟨rfl, hb⟩; refine ⟨_, rfl, ?_⟩; replace HO_32 := Aside0.mk (Kd.R_below (qR HO_32.out) hb); replace HB := Aside0.mk (below_step (qB HB.out) hb)))
              go_ret
              exact ⟨qE, qB HB.out⟩
            rw [if_neg c194] at H
            obtain ⟨c194b0, c194b1⟩ := zF c194
            obtain rfl := Option.some.inj H
            as_aux_lemma =>
             go_wp2_with (first | ((with_reducible refine gate_callee (f := 26) rfl ?_); refine goesL_ (some 369) rfl rfl Tryz.func26 (by kernel_rfl) rfl #[.slice A0 l0.length c0] rfl qV ?_; (with_reducible refine (spec_DrawHaveEqualFactors.calls k5 _ _ l0 t728 t729 t730 _ ?side1 ?side2 A191.out).mono ?_); (case side1 => exact qC (Kd.C_below HR0.out HB.out)); (case side2 => exact HC0.out); rintro e w198 ⟨rfl, hb⟩; refine ⟨_, rfl, ?_⟩; replace HO_32 := Aside0.mk (Kd.R_below (qR HO_32.out) hb); replace HB := Aside0.mk (below_step (qB HB.out) hb)) | ((with_reducible refine gate_callee (f := 27) rfl ?_); refine goesL_ (some 377) rfl rfl Tryz.func27 (by kernel_rfl) rfl #[.string t728, .string t729, .int .i64 t730] rfl qV ?_; (with_reducible refine (impl_HaveEqualFactors.calls k5 t728 t729 t730 t731 t732 _ A192.out).mono ?_); rintro e w199 ⟨rfl, hb⟩; refine ⟨_, rfl, ?_⟩; replace HO_32 := Aside0.mk (Kd.R_below (qR HO_32.out) hb); replace HB := Aside0.mk (below_step (qB HB.out) hb)) | ((with_reducible refine gate_callee (f := 28) rfl ?_); refine goesL_ (some 384) rfl rfl Tryz.func28 (by kernel_rfl) rfl #[.string t728, .string t729, .int .i64 t730] rfl qV ?_; (with_reducible refine (spec_HaveEqualFactors.calls k5 t728 t729 t730 t733 t734 _ A193.out).mono ?_); rintro e w200 ⟨rfl, hb⟩; refine ⟨_, rfl, ?_⟩; replace HO_32 := Aside0.mk (Kd.R_below (qR HO_32.out) hb); replace HB := Aside0.mk (below_step (qB HB.out) hb)))
             go_ret
             exact ⟨qE, qB HB.out⟩
           rw [if_pos c183] at H
           have c183b0 : decide (x41_5 ≤ (t711.size : Int)) = true := decide_eq_true c183
           clear c183
           by_cases c184 : 0 ≤ x41_5
           rotate_left
           ·
            rw [if_neg c184] at H
            exact absurd H (by simp)
           rw [if_pos c184] at H
           have c184b0 : decide (0 ≤ x41_5) = true := decide_eq_true c184
           clear c184
           by_cases c185 : x41_5 < (t712.length : Int)
           rotate_left
           ·
            rw [if_neg c185] at H
            exact absurd H (by simp)
           rw [if_pos c185] at H
           have c185b0 : decide (x41_5 < (t712.length : Int)) = true := decide_eq_true c185
           clear c185
           by_cases c186 : (rd t712 x41_5) < 1
           ·
            rw [if_pos c186] at H
            have c186b0 : decide ((rd t712 x41_5) < 1) = true := decide_eq_true c186
            clear c186
            obtain rfl := Option.some.inj H
            obtain ⟨Ao187, co187, eo187⟩ := Kd.R_slice HO_32.out
            subst eo187
            have p726 : 0 ≤ (x41_5 : Int) := of_decide_eq_true (by first | (with_reducible assumption) | assumption)
            have q726 : x41_5 < (t712.length : Int) := of_decide_eq_true (by first | (with_reducible assumption) | assumption)
            obtain ⟨ad726, e726, hx726_0⟩ := Kd.at_int (Kd.R_reads' HO_32.out).2.2 x41_5 p726 q726
            cases e726
            replace p726 := eq_true p726
            replace q726 := eq_true q726
            as_aux_lemma =>
             go_wp2
             go_ret
             exact ⟨qE, qB HB.out⟩
           rw [if_neg c186] at H
           have c186b0 : decide ((rd t712 x41_5) < 1) = false := decide_eq_false c186
           clear c186
           by_cases c188 : (rd t712 x41_5) > (wrap64 ((wrap64 ((t711.size : Int) - x41_5)) + 1))
           ·
            rw [if_pos c188] at H
            have c188b0 : decide ((wrap64 ((wrap64 ((t711.size : Int) - x41_5)) + 1)) < (rd t712 x41_5)) = true := decide_eq_true c188
            clear c188
            obtain rfl := Option.some.inj H
            obtain ⟨Ao189, co189, eo189⟩ := Kd.R_slice HO_32.out
            subst eo189
            have p726 : 0 ≤ (x41_5 : Int) := of_decide_eq_true (by first | (with_reducible assumption) | assumption)
            have q726 : x41_5 < (t712.length : Int) := of_decide_eq_true (by first | (with_reducible assumption) | assumption)
            obtain ⟨ad726, e726, hx726_0⟩ := Kd.at_int (Kd.R_reads' HO_32.out).2.2 x41_5 p726 q726
            cases e726
            replace p726 := eq_true p726
            replace q726 := eq_true q726
            have p727 : 0 ≤ (x41_5 : Int) := of_decide_eq_true (by first | (with_reducible assumption) | assumption)
            have q727 : x41_5 < (t712.length : Int) := of_decide_eq_true (by first | (with_reducible assumption) | assumption)
            obtain ⟨ad727, e727, hx727_0⟩ := Kd.at_int (Kd.R_reads' HO_32.out).2.2 x41_5 p727 q727
            obtain rfl : ad726 = ad727 := (by injection e727)
            replace p727 := eq_true p727
            replace q727 := eq_true q727
            as_aux_lemma =>
             go_wp2
             go_ret
             exact ⟨qE, qB HB.out⟩
           rw [if_neg c188] at H
           have c188b0 : decide ((wrap64 ((wrap64 ((t711.size : Int) - x41_5)) + 1)) < (rd t712 x41_5)) = false := decide_eq_false c188
           clear c188
           have H' := Aside0.mk H
           clear H
           obtain ⟨Ao190, co190, eo190⟩ := Kd.R_slice HO_32.out
           subst eo190
           have p726 : 0 ≤ (x41_5 : Int) := of_decide_eq_true (by first | (with_reducible assumption) | assumption)
           have q726 : x41_5 < (t712.length : Int) := of_decide_eq_true (by first | (with_reducible assumption) | assumption)
           obtain ⟨ad726, e726, hx726_0⟩ := Kd.at_int (Kd.R_reads' HO_32.out).2.2 x41_5 p726 q726
           cases e726
           replace p726 := eq_true p726
           replace q726 := eq_true q726
           have p727 : 0 ≤ (x41_5 : Int) := of_decide_eq_true (by first | (with_reducible assumption) | assumption)
           have q727 : x41_5 < (t712.length : Int) := of_decide_eq_true (by first | (with_reducible assumption) | assumption)
           obtain ⟨ad727, e727, hx727_0⟩ := Kd.at_int (Kd.R_reads' HO_32.out).2.2 x41_5 p727 q727
           obtain rfl : ad726 = ad727 := (by injection e727)
           replace p727 := eq_true p727
           replace q727 := eq_true q727
           as_aux_lemma =>
            go_wp2
            go_roundg k5
            case measure => have := HJ14.out; have := HJ88.out; have := HJ158.out; have := HJ176.out; have := HK5.out; omega
            case rel => exact ⟨(wrap64 (x41_5 + 1)), qF, H', ⟨by have := HJ14.out; have := HJ88.out; have := HJ158.out; have := HJ176.out; have := HK5.out; omega⟩, ⟨qR HO_32.out⟩, ⟨qB HB.out⟩⟩
/-- THE ONE PURE STATEMENT of laws_FnFactorNumbers: yours. -/
def laws_FnFactorNumbers.Pure : Prop := ∀ (l0 : List Int), l0.length ≤ maxLen → l0.length * 1 ≤ 140737488351232 → (∀ x ∈ l0, (Lit.int .u8 x).wf = true) → ∃ k, laws_FnFactorNumbers.f k l0 = some true
theorem laws_FnFactorNumbers.walk (P : laws_FnFactorNumbers.Pure) (a0 : Option Addr) (len0 cap0 : Nat) (z0 : List Int) (w : World) (w0 : (a0 = none ∧ len0 = 0 ∧ cap0 = 0 ∧ z0 = []) ∨ ∃ x, a0 = some x ∧ len0 ≤ cap0 ∧ cap0 ≤ maxLen ∧ z0.length = cap0 ∧ (∀ i, i < z0.length → w.cell? (x.add i) = some (.int .u8 (z0.getD i 0))) ∧ ∀ n ∈ z0, (Lit.int .u8 n).wf = true) (y0 : len0 * 1 ≤ 140737488351232) :
  Calls Tryz.prog 3 #[.slice a0 len0 cap0] w fun e w' => e = .returned (.bool true) ∧ Below w.heap.size w w' := by
 obtain ⟨l0, rfl, hr0, hm0, hw0, hc0⟩ := ReadsInt.ofRowC w0
 obtain ⟨k, h⟩ := P l0 hm0 y0 hw0
 refine (laws_FnFactorNumbers.calls k _ _ l0 true w (Kd.C_of_reads (d := (0 : Int)) (h1 := fun _ => rfl) hr0) hc0 h).mono ?_
 rintro e w' ⟨rfl, hd⟩
 exact ⟨rfl, hd⟩

end Go.Proofs.YtgfnkdoennbipaaGreat.PF
