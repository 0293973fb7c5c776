-- an own text, written by a program of this place (wip/tools)
import Derived.Test.YtoadancbpgignaaPFx0
import Derived.Test.YtoadancbpgignaaPFx3
import Derived.Test.YtoadancbpgignaaPFGivN
import Derived.Test.YtoadancbpgignaaPFx1
import Derived.Test.YtoadancbpgignaaPFx2
import Derived.Test.YtoadancbpgignaaPFGivA
namespace Go.Proofs.Ytoadancbpgignaa.PF
open Go.RowKit Go.Proofs.YtoadancbpgignaaW.PrintWords Go.Proofs.YtoadancbpgignaaW.PrintLast Go.Proofs.YtoadancbpgignaaW.PrintMore
attribute [local go_sem] max2_int min2_int max_two min_two max_three min_three max_four min_four   -- for this text's walks alone
set_option linter.unusedVariables false
set_option linter.unusedSimpArgs false

/-! ### impl_GrowByCover_1: function 46 -/
def impl_GrowByCover_1.f (k : Nat) (a0 : ByteArray) (l1 : List Int) : Option (Bool) := if a0.toList = ([] : List UInt8) then (some false) else ((impl_areAll_int64.f k l1 (fun z0_ => impl_GrowByCover_1_1.f z0_ a0)).bind fun t558 => (some t558))
theorem impl_GrowByCover_1.mono : ∀ a0 a1 k, LeO (impl_GrowByCover_1.f k a0 a1) (impl_GrowByCover_1.f (k + 1) a0 a1) := by
 intro a0 a1 k
 unfold impl_GrowByCover_1.f
 repeat' first
   | (with_reducible exact LeO.refl _)
   | (with_reducible exact LeO.none _)
   | (with_reducible refine LeO.ite ?_ ?_)
   | (with_reducible refine LeO.bind ?_ (fun _ => ?_))
   | refine impl_areAll_int64.monoP (fun _ => ?_)
set_option maxHeartbeats 8000000 in
set_option maxRecDepth 100000 in
theorem impl_GrowByCover_1.calls (k : Nat) (g0 : Nat) (a0 : ByteArray) (g1 : Nat) (A1 : Option Addr) (c1 : Nat) (l1 : List Int) (r : Bool) (w : World) (hb0 : w.heap[g0]? = some (.cells #[.string a0] 9 (0, 0))) (hb1 : w.heap[g1]? = some (.cells #[.slice A1 l1.length c1] 30 (0, 0))) (hr1 : Kd.C (Kd.int .i64) w A1 l1.length l1) (hc1 : l1.length ≤ c1) (h : impl_GrowByCover_1.f k a0 l1 = some r) :
  Calls Try.prog 46 #[.pointer (some ⟨g0, 0, none⟩), .pointer (some ⟨g1, 0, none⟩)] w fun e w' => e = .returned (.bool r) ∧ Below w.heap.size w w' := by
 have BK556 := Aside0.mk hb0
 clear hb0
 have BK557 := Aside0.mk hb1
 clear hb1
 have HR1 := Aside0.mk hr1
 have HC1 := Aside0.mk hc1
 clear hr1 hc1
 have HB := Aside0.mk (Below.refl w.heap.size w)
 have H : (if a0.toList = ([] : List UInt8) then (some false) else ((impl_areAll_int64.f k l1 (fun z0_ => impl_GrowByCover_1_1.f z0_ a0)).bind fun t558 => (some t558))) = some r := h
 clear h
 by_cases c3 : a0.toList = ([] : List UInt8)
 ·
  rw [if_pos c3] at H
  have c3b0 : (a0.toList == ([] : List UInt8)) = true := beq_iff_eq.mpr c3
  have c3b1 : (a0.toList != ([] : List UInt8)) = false := bne_eq_false_iff_eq.mpr c3
  clear c3
  obtain rfl := Option.some.inj H
  have hcz4_0 : w.cell? ⟨g0, 0, none⟩ = some (.string a0) := (blk_cell BK556.out 0).trans rfl
  have hfz4_0 := blk_frozen BK556.out 0
  go_enter Try.func46, Try.ntmps46
  go_wp2
  go_ret
  exact ⟨qE, qG HB.out⟩
 ·
  rw [if_neg c3] at H
  have c3b0 : (a0.toList == ([] : List UInt8)) = false := beq_eq_false_iff_ne.mpr c3
  have c3b1 : (a0.toList != ([] : List UInt8)) = true := bne_iff_ne.mpr c3
  replace H := Option.bind_eq_some_iff.mp H
  obtain ⟨t558, A50, H⟩ := H
  replace H : (some t558) = some r := H
  have A5 := Aside0.mk A50
  clear A50
  obtain rfl := Option.some.inj H
  have hcz6_0 : w.cell? ⟨g0, 0, none⟩ = some (.string a0) := (blk_cell BK556.out 0).trans rfl
  have hfz6_0 := blk_frozen BK556.out 0
  have hcz7_0 : w.cell? ⟨g1, 0, none⟩ = some (.slice A1 l1.length c1) := (blk_cell BK557.out 0).trans rfl
  have hfz7_0 := blk_frozen BK557.out 0
  go_enter Try.func46, Try.ntmps46
  go_wp2_with (first | (go_at_call 47; (with_reducible refine (impl_areAll_int64.calls k _ _ l1 (fun z0_ => impl_GrowByCover_1_1.f z0_ a0) 48 #[.pointer (some ⟨g0, 0, none⟩)] t558 _ ?side1 ?side2 ?side3 A5.out).mono ?_); (case side1 => exact qC HR1.out); (case side2 => exact HC1.out); (case side3 => exact ⟨Go.Proofs.enters_of Try.func48 (by kernel_rfl) rfl, fun z0_ W_ hW_ r_ h_ => (impl_GrowByCover_1_1.calls z0_ g0 a0 r_ W_ (blk_below (g := g0) (o := .cells #[.string a0] 9 (0, 0)) (qA BK556.out) hW_) h_).mono (fun e_ W2_ h2_ => ⟨h2_.1, by first | exact h2_.2 | exact h2_.2.below⟩)⟩); rintro e w8 ⟨rfl, hb⟩; have n0_ := Aside0.mk (blk_below (g := g0) (o := .cells #[.string a0] 9 (0, 0)) (qA BK556.out) hb); have n1_ := Aside0.mk (blk_below (g := g1) (o := .cells #[.slice A1 l1.length c1] 30 (0, 0)) (qA BK557.out) hb); have n2_ := Aside0.mk (below_step (qG HB.out) hb); clear BK556; clear BK557; clear HB; have BK556 := n0_; have BK557 := n1_; have HB := n2_; clear n0_ n1_ n2_))
  go_ret
  exact ⟨qE, qG HB.out⟩

end Go.Proofs.Ytoadancbpgignaa.PF

namespace Go.Proofs.Ytoadancbpgignaa.PF
open Go.RowKit Go.Proofs.YtoadancbpgignaaW.PrintWords Go.Proofs.YtoadancbpgignaaW.PrintLast Go.Proofs.YtoadancbpgignaaW.PrintMore
attribute [local go_sem] max2_int min2_int max_two min_two max_three min_three max_four min_four   -- for this text's walks alone
set_option linter.unusedVariables false
set_option linter.unusedSimpArgs false

/-! ### impl_GrowByCover: function 22 -/
mutual
def impl_GrowByCover.l0 : Nat → Int → List Int → Int → Int → ByteArray → List Int → Option (ByteArray × Int)
 | 0, _, _, _, _, _, _ => none
 | k + 1, x7, x22, x23, x24, x560000, x561000 => if x24 < x23 then (if 0 ≤ x24 then (if x24 < (x22.length : Int) then ((impl_size.f x560000).bind fun t567 => (if 0 ≤ (wrap64 (t567 - (rd x22 x24))) then (if (wrap64 (t567 - (rd x22 x24))) ≤ (x560000.size : Int) then ((strings_HasPrefix.f x560000 (x560000.extract ((wrap64 (t567 - (rd x22 x24))) : Int).toNat x560000.size)).bind fun t568 => (if t568 = true then ((impl_size.f x560000).bind fun t569 => (impl_GrowByCover.l0 k (wrap64 (x7 + (wrap64 (t569 - (rd x22 x24))))) x22 x23 (wrap64 (x24 + 1)) x560000 x561000)) else (some ((⟨#[]⟩ : ByteArray), 4)))) else (none)) else (none))) else (none)) else (none)) else (if x7 > 60 then (some ((⟨#[]⟩ : ByteArray), 3)) else (impl_GrowByCover.l1 k x560000 x561000 (x561000.length : Int) 0 x560000))
def impl_GrowByCover.l1 : Nat → ByteArray → List Int → Int → Int → ByteArray → Option (ByteArray × Int)
 | 0, _, _, _, _, _ => none
 | k + 1, x10, x47, x48, x49, x560000 => if x49 < x48 then (if 0 ≤ x49 then (if x49 < (x47.length : Int) then (if 0 ≤ (rd x47 x49) then (if (rd x47 x49) ≤ (x560000.size : Int) then (if x10.size + (x560000.extract ((rd x47 x49) : Int).toNat x560000.size).size ≤ 9223372036854775807 then (impl_GrowByCover.l1 k (x10 ++ (x560000.extract ((rd x47 x49) : Int).toNat x560000.size)) x47 x48 (wrap64 (x49 + 1)) x560000) else (none)) else (none)) else (none)) else (none)) else (none)) else (some (x10, 0))
end
def impl_GrowByCover.f (k : Nat) (a0 : ByteArray) (l1 : List Int) : Option (ByteArray × Int) := (impl_wordCode.f k (impl_GrowByCover_1.f k a0 l1) (([a0] : List ByteArray))).bind fun t564 => (if t564 = 0 then ((impl_size.f a0).bind fun t565 => (impl_GrowByCover.l0 k t565 l1 (l1.length : Int) 0 a0 l1)) else (some ((⟨#[]⟩ : ByteArray), t564)))
theorem impl_GrowByCover.mono_l : ∀ k, (∀ y0 y1 y2 y3 y4 y5, LeO (impl_GrowByCover.l0 k y0 y1 y2 y3 y4 y5) (impl_GrowByCover.l0 (k + 1) y0 y1 y2 y3 y4 y5)) ∧ (∀ y0 y1 y2 y3 y4, LeO (impl_GrowByCover.l1 k y0 y1 y2 y3 y4) (impl_GrowByCover.l1 (k + 1) y0 y1 y2 y3 y4))
 | 0 => ⟨fun _ _ _ _ _ _ r h => by simp [impl_GrowByCover.l0] at h, fun _ _ _ _ _ r h => by simp [impl_GrowByCover.l1] at h⟩
 | k + 1 => by
  obtain ⟨ih0, ih1⟩ := impl_GrowByCover.mono_l k
  refine ⟨?_, ?_⟩
  ·
   intro y0 y1 y2 y3 y4 y5
   unfold impl_GrowByCover.l0
   repeat' first
   | (with_reducible exact ih0 _ _ _ _ _ _)
   | (with_reducible exact ih1 _ _ _ _ _)
   | (with_reducible exact impl_GrowByCover_1.mono _ _ _)
   | (with_reducible exact LeO.refl _)
   | (with_reducible exact LeO.none _)
   | (with_reducible refine LeO.ite ?_ ?_)
   | (with_reducible refine LeO.bind ?_ (fun _ => ?_))
   | refine impl_wordCode.monoP ?_
  ·
   intro y0 y1 y2 y3 y4
   unfold impl_GrowByCover.l1
   repeat' first
   | (with_reducible exact ih0 _ _ _ _ _ _)
   | (with_reducible exact ih1 _ _ _ _ _)
   | (with_reducible exact impl_GrowByCover_1.mono _ _ _)
   | (with_reducible exact LeO.refl _)
   | (with_reducible exact LeO.none _)
   | (with_reducible refine LeO.ite ?_ ?_)
   | (with_reducible refine LeO.bind ?_ (fun _ => ?_))
   | refine impl_wordCode.monoP ?_
theorem impl_GrowByCover.mono : ∀ a0 a1 k, LeO (impl_GrowByCover.f k a0 a1) (impl_GrowByCover.f (k + 1) a0 a1) := by
 intro a0 a1 k
 obtain ⟨ih0, ih1⟩ := impl_GrowByCover.mono_l k
 unfold impl_GrowByCover.f
 repeat' first
   | (with_reducible exact ih0 _ _ _ _ _ _)
   | (with_reducible exact ih1 _ _ _ _ _)
   | (with_reducible exact impl_GrowByCover_1.mono _ _ _)
   | (with_reducible exact LeO.refl _)
   | (with_reducible exact LeO.none _)
   | (with_reducible refine LeO.ite ?_ ?_)
   | (with_reducible refine LeO.bind ?_ (fun _ => ?_))
   | refine impl_wordCode.monoP ?_
set_option maxHeartbeats 8000000 in
set_option maxRecDepth 100000 in
theorem impl_GrowByCover.calls (k : Nat) (a0 : ByteArray) (A1 : Option Addr) (c1 : Nat) (l1 : List Int) (r1 : ByteArray) (r2 : Int) (w : World) (hr1 : Kd.C (Kd.int .i64) w A1 l1.length l1) (hc1 : l1.length ≤ c1) (h : impl_GrowByCover.f k a0 l1 = some (r1, r2)) :
  Calls Try.prog 22 #[.string a0, .slice A1 l1.length c1] w fun e w' => e = .returned (.tuple #[.string r1, .int .i64 r2]) ∧ Below w.heap.size w w' := by
 have HR1 := Aside0.mk hr1
 have HC1 := Aside0.mk hc1
 clear hr1 hc1
 have HB := Aside0.mk (Below.refl w.heap.size w)
 have H : ((impl_wordCode.f k (impl_GrowByCover_1.f k a0 l1) (([a0] : List ByteArray))).bind fun t564 => (if t564 = 0 then ((impl_size.f a0).bind fun t565 => (impl_GrowByCover.l0 k t565 l1 (l1.length : Int) 0 a0 l1)) else (some ((⟨#[]⟩ : ByteArray), t564)))) = some (r1, r2) := h
 clear h
 obtain ⟨y561, hy561⟩ : ∃ y_ : List ByteArray, y_ = (([a0] : List ByteArray)) := ⟨_, rfl⟩
 replace H : ((impl_wordCode.f k (impl_GrowByCover_1.f k a0 l1) y561).bind fun t564 => (if t564 = 0 then ((impl_size.f a0).bind fun t565 => (impl_GrowByCover.l0 k t565 l1 (l1.length : Int) 0 a0 l1)) else (some ((⟨#[]⟩ : ByteArray), t564)))) = some (r1, r2) := by first | (rw [hy561]; with_reducible exact H) | (have H2_ := (Option.bind_some _ _).symm.trans H; rw [hy561]; with_reducible exact H2_) | (have H2_ := (Option.bind_some _ _).symm.trans H; with_reducible exact H2_) | with_reducible exact H | (rw [hy561]; exact H) | exact H
 have Ny561 := Aside0.mk hy561
 clear hy561
 replace H := Option.bind_eq_some_iff.mp H
 obtain ⟨t564, A30, H⟩ := H
 replace H : (if t564 = 0 then ((impl_size.f a0).bind fun t565 => (impl_GrowByCover.l0 k t565 l1 (l1.length : Int) 0 a0 l1)) else (some ((⟨#[]⟩ : ByteArray), t564))) = some (r1, r2) := H
 have A3 := Aside0.mk A30
 clear A30
 by_cases c4 : t564 = 0
 ·
  rw [if_pos c4] at H
  have c4b0 : (t564 == 0) = true := beq_iff_eq.mpr c4
  have c4b1 : (t564 != 0) = false := bne_eq_false_iff_eq.mpr c4
  clear c4
  replace H := Option.bind_eq_some_iff.mp H
  obtain ⟨t565, A50, H⟩ := H
  replace H : (impl_GrowByCover.l0 k t565 l1 (l1.length : Int) 0 a0 l1) = some (r1, r2) := H
  have A5 := Aside0.mk A50
  clear A50
  have H' := Aside0.mk H
  clear H
  go_enter Try.func22, Try.ntmps22
  go_wp2_with (first | ((with_reducible refine gate_dst (N := 2) rfl ?_); refine box_event ?hg (N := 2) ?hd (cs := #[.string a0]) (t := 9) ?hr ?_; (case hd => rfl); (case hg => rfl); (case hr => first | (go_simp; done) | (go_simp; rfl)); intro gb559 hg w6 hbox hb; have n0_ := Aside0.mk (below_step (qB HB.out) hb); have n1_ := Aside0.mk (hbox); have n2_ := Aside0.mk ((by rw [hg]; exact (below_size (qB HB.out)) : w.heap.size ≤ gb559)); have n3_ := Aside0.mk ((by rw [hg]; exact (below_size (qB HB.out)) : w.heap.size ≤ gb559)); clear HB; have HB := n0_; have BK559 := n1_; have GW559 := n2_; have GE559 := n3_; clear n0_ n1_ n2_ n3_; clear hb hbox hg) | ((with_reducible refine gate_dst (N := 3) rfl ?_); refine box_event ?hg (N := 3) ?hd (cs := #[.slice A1 l1.length c1]) (t := 30) ?hr ?_; (case hd => rfl); (case hg => rfl); (case hr => first | (go_simp; done) | (go_simp; rfl)); intro gb560 hg w7 hbox hb; have n0_ := Aside0.mk (blk_below (g := gb559) (o := .cells #[.string a0] 9 (0, 0)) (qA BK559.out) hb); have n1_ := Aside0.mk (below_step (qG HB.out) hb); have n2_ := Aside0.mk (hbox); have n3_ := Aside0.mk ((by rw [hg]; exact (below_size (qG HB.out)) : w.heap.size ≤ gb560)); have n4_ := Aside0.mk ((by rw [hg]; exact (below_size (qG HB.out)) : w.heap.size ≤ gb560)); have n5_ := Aside0.mk ((by rw [hg]; exact Nat.ne_of_lt (blk_lt (g := gb559) (o := .cells #[.string a0] 9 (0, 0)) (qA BK559.out)) : gb559 ≠ gb560)); have n6_ := Aside0.mk ((by rw [hg]; exact Nat.ne_of_gt (blk_lt (g := gb559) (o := .cells #[.string a0] 9 (0, 0)) (qA BK559.out)) : gb560 ≠ gb559)); clear BK559; clear HB; have BK559 := n0_; have HB := n1_; have BK560 := n2_; have GW560 := n3_; have GE560 := n4_; have NB559_560 := n5_; have NB560_559 := n6_; clear n0_ n1_ n2_ n3_ n4_ n5_ n6_; clear hb hbox hg; have hnb8 := NB559_560.out; have hnc8 := NB560_559.out; have hcz9_0 : w7.cell? ⟨gb559, 0, none⟩ = some (.string a0) := (blk_cell BK559.out 0).trans rfl; have hfz9_0 := blk_frozen BK559.out 0) | ((with_reducible refine gate_dst (N := 15) rfl ?_); refine Kd.R_lit Kd.string _ 9 ?hg (N := 15) ?hd (xs := ([a0] : List ByteArray)) (inner := [.string a0]) (ok := fun _ => True) (okp := fun _ => True) ?hr ?hp (fun _ hk => hk) trivial (Below.refl _ _) (Nat.le_refl _) (by simp) ?_; (case hd => rfl); (case hg => rfl); (case hr => first | (go_simp; done) | (go_simp; rfl)); (case hp => exact (Reps.one (show Kd.M Kd.string _ _ _ a0 [.string a0] from rfl) (Reps.none _ _))); intro v562 w10 ho11 hb hg_ hnew_; clear hg_ hnew_; (first | rw [← Ny561.out] at ho11 | (simp only [Int.reduceToNat] at ho11; rw [← Ny561.out] at ho11)); have n0_ := Aside0.mk (Kd.R_lower (Kd.R_newB ho11 (g := gb559) (o := .cells #[.string a0] 9 (0, 0)) (qA BK559.out)) (below_size (qG HB.out))); have n1_ := Aside0.mk (blk_below (g := gb559) (o := .cells #[.string a0] 9 (0, 0)) (qA BK559.out) hb); have n2_ := Aside0.mk (blk_below (g := gb560) (o := .cells #[.slice A1 l1.length c1] 30 (0, 0)) (qA BK560.out) hb); have n3_ := Aside0.mk (below_step (qG HB.out) hb); clear BK559; clear BK560; clear HB; have HO563 := n0_; have BK559 := n1_; have BK560 := n2_; have HB := n3_; clear n0_ n1_ n2_ n3_; clear hb ho11; obtain ⟨Ao12, co12, eo12⟩ := Kd.R_slice HO563.out; subst eo12) | (go_at_call 28; (with_reducible refine (impl_wordCode.calls k (impl_GrowByCover_1.f k a0 l1) 46 #[.pointer (some ⟨gb559, 0, none⟩), .pointer (some ⟨gb560, 0, none⟩)] _ _ y561 t564 _ ?side1 ?side2 ?side3 A3.out).mono ?_); (case side1 => exact qC (Kd.R_reads' HO563.out).2.2); (case side2 => exact (Kd.R_reads' HO563.out).2.1); (case side3 => exact ⟨Go.Proofs.enters_of Try.func46 (by kernel_rfl) rfl, fun W_ hW_ r_ h_ => (impl_GrowByCover_1.calls k gb559 a0 gb560 _ _ l1 r_ W_ (blk_below (g := gb559) (o := .cells #[.string a0] 9 (0, 0)) (qA BK559.out) hW_) (blk_below (g := gb560) (o := .cells #[.slice A1 l1.length c1] 30 (0, 0)) (qA BK560.out) hW_) (Kd.C_below (by exact qC (Kd.C_below HR1.out HB.out)) hW_) (by exact HC1.out) h_).mono (fun e_ W2_ h2_ => ⟨h2_.1, by first | exact h2_.2 | exact h2_.2.below⟩)⟩); rintro e w13 ⟨rfl, hb⟩; have n0_ := Aside0.mk (Kd.R_below (qR HO563.out) hb); have n1_ := Aside0.mk (blk_below (g := gb559) (o := .cells #[.string a0] 9 (0, 0)) (qA BK559.out) hb); have n2_ := Aside0.mk (blk_below (g := gb560) (o := .cells #[.slice A1 l1.length c1] 30 (0, 0)) (qA BK560.out) hb); have n3_ := Aside0.mk (below_step (qG HB.out) hb); clear HO563; clear BK559; clear BK560; clear HB; have HO563 := n0_; have BK559 := n1_; have BK560 := n2_; have HB := n3_; clear n0_ n1_ n2_ n3_; have hcz14_0 : w13.cell? ⟨gb559, 0, none⟩ = some (.string a0) := (blk_cell BK559.out 0).trans rfl; have hfz14_0 := blk_frozen BK559.out 0) | (go_at_call 33; (with_reducible refine (impl_size.calls a0 t565 _ A5.out).mono ?_); rintro e w' ⟨rfl, ⟨nd, rfl⟩⟩; (try first | exact ⟨rfl, _, World.drewN_drewN _ _ _⟩ | exact ⟨rfl, _, Eq.trans (World.drewN_drewN _ _ _) (congrArg (World.drewN _) (Nat.add_assoc _ _ _))⟩); have hcz15_0 : w13.cell? ⟨gb560, 0, none⟩ = some (.slice A1 l1.length c1) := (blk_cell BK560.out 0).trans rfl; have hfz15_0 := blk_frozen BK560.out 0))
  repeat (go_quiet (first | ((with_reducible refine gate_dst (N := 2) rfl ?_); refine box_event ?hg (N := 2) ?hd (cs := #[.string a0]) (t := 9) ?hr ?_; (case hd => rfl); (case hg => rfl); (case hr => first | (go_simp; done) | (go_simp; rfl)); intro gb559 hg w6 hbox hb; have n0_ := Aside0.mk (below_step (qB HB.out) hb); have n1_ := Aside0.mk (hbox); have n2_ := Aside0.mk ((by rw [hg]; exact (below_size (qB HB.out)) : w.heap.size ≤ gb559)); have n3_ := Aside0.mk ((by rw [hg]; exact (below_size (qB HB.out)) : w.heap.size ≤ gb559)); clear HB; have HB := n0_; have BK559 := n1_; have GW559 := n2_; have GE559 := n3_; clear n0_ n1_ n2_ n3_; clear hb hbox hg) | ((with_reducible refine gate_dst (N := 3) rfl ?_); refine box_event ?hg (N := 3) ?hd (cs := #[.slice A1 l1.length c1]) (t := 30) ?hr ?_; (case hd => rfl); (case hg => rfl); (case hr => first | (go_simp; done) | (go_simp; rfl)); intro gb560 hg w7 hbox hb; have n0_ := Aside0.mk (blk_below (g := gb559) (o := .cells #[.string a0] 9 (0, 0)) (qA BK559.out) hb); have n1_ := Aside0.mk (below_step (qG HB.out) hb); have n2_ := Aside0.mk (hbox); have n3_ := Aside0.mk ((by rw [hg]; exact (below_size (qG HB.out)) : w.heap.size ≤ gb560)); have n4_ := Aside0.mk ((by rw [hg]; exact (below_size (qG HB.out)) : w.heap.size ≤ gb560)); have n5_ := Aside0.mk ((by rw [hg]; exact Nat.ne_of_lt (blk_lt (g := gb559) (o := .cells #[.string a0] 9 (0, 0)) (qA BK559.out)) : gb559 ≠ gb560)); have n6_ := Aside0.mk ((by rw [hg]; exact Nat.ne_of_gt (blk_lt (g := gb559) (o := .cells #[.string a0] 9 (0, 0)) (qA BK559.out)) : gb560 ≠ gb559)); clear BK559; clear HB; have BK559 := n0_; have HB := n1_; have BK560 := n2_; have GW560 := n3_; have GE560 := n4_; have NB559_560 := n5_; have NB560_559 := n6_; clear n0_ n1_ n2_ n3_ n4_ n5_ n6_; clear hb hbox hg; have hnb8 := NB559_560.out; have hnc8 := NB560_559.out; have hcz9_0 : w7.cell? ⟨gb559, 0, none⟩ = some (.string a0) := (blk_cell BK559.out 0).trans rfl; have hfz9_0 := blk_frozen BK559.out 0) | ((with_reducible refine gate_dst (N := 15) rfl ?_); refine Kd.R_lit Kd.string _ 9 ?hg (N := 15) ?hd (xs := ([a0] : List ByteArray)) (inner := [.string a0]) (ok := fun _ => True) (okp := fun _ => True) ?hr ?hp (fun _ hk => hk) trivial (Below.refl _ _) (Nat.le_refl _) (by simp) ?_; (case hd => rfl); (case hg => rfl); (case hr => first | (go_simp; done) | (go_simp; rfl)); (case hp => exact (Reps.one (show Kd.M Kd.string _ _ _ a0 [.string a0] from rfl) (Reps.none _ _))); intro v562 w10 ho11 hb hg_ hnew_; clear hg_ hnew_; (first | rw [← Ny561.out] at ho11 | (simp only [Int.reduceToNat] at ho11; rw [← Ny561.out] at ho11)); have n0_ := Aside0.mk (Kd.R_lower (Kd.R_newB ho11 (g := gb559) (o := .cells #[.string a0] 9 (0, 0)) (qA BK559.out)) (below_size (qG HB.out))); have n1_ := Aside0.mk (blk_below (g := gb559) (o := .cells #[.string a0] 9 (0, 0)) (qA BK559.out) hb); have n2_ := Aside0.mk (blk_below (g := gb560) (o := .cells #[.slice A1 l1.length c1] 30 (0, 0)) (qA BK560.out) hb); have n3_ := Aside0.mk (below_step (qG HB.out) hb); clear BK559; clear BK560; clear HB; have HO563 := n0_; have BK559 := n1_; have BK560 := n2_; have HB := n3_; clear n0_ n1_ n2_ n3_; clear hb ho11; obtain ⟨Ao12, co12, eo12⟩ := Kd.R_slice HO563.out; subst eo12) | (go_at_call 28; (with_reducible refine (impl_wordCode.calls k (impl_GrowByCover_1.f k a0 l1) 46 #[.pointer (some ⟨gb559, 0, none⟩), .pointer (some ⟨gb560, 0, none⟩)] _ _ y561 t564 _ ?side1 ?side2 ?side3 A3.out).mono ?_); (case side1 => exact qC (Kd.R_reads' HO563.out).2.2); (case side2 => exact (Kd.R_reads' HO563.out).2.1); (case side3 => exact ⟨Go.Proofs.enters_of Try.func46 (by kernel_rfl) rfl, fun W_ hW_ r_ h_ => (impl_GrowByCover_1.calls k gb559 a0 gb560 _ _ l1 r_ W_ (blk_below (g := gb559) (o := .cells #[.string a0] 9 (0, 0)) (qA BK559.out) hW_) (blk_below (g := gb560) (o := .cells #[.slice A1 l1.length c1] 30 (0, 0)) (qA BK560.out) hW_) (Kd.C_below (by exact qC (Kd.C_below HR1.out HB.out)) hW_) (by exact HC1.out) h_).mono (fun e_ W2_ h2_ => ⟨h2_.1, by first | exact h2_.2 | exact h2_.2.below⟩)⟩); rintro e w13 ⟨rfl, hb⟩; have n0_ := Aside0.mk (Kd.R_below (qR HO563.out) hb); have n1_ := Aside0.mk (blk_below (g := gb559) (o := .cells #[.string a0] 9 (0, 0)) (qA BK559.out) hb); have n2_ := Aside0.mk (blk_below (g := gb560) (o := .cells #[.slice A1 l1.length c1] 30 (0, 0)) (qA BK560.out) hb); have n3_ := Aside0.mk (below_step (qG HB.out) hb); clear HO563; clear BK559; clear BK560; clear HB; have HO563 := n0_; have BK559 := n1_; have BK560 := n2_; have HB := n3_; clear n0_ n1_ n2_ n3_; have hcz14_0 : w13.cell? ⟨gb559, 0, none⟩ = some (.string a0) := (blk_cell BK559.out 0).trans rfl; have hfz14_0 := blk_frozen BK559.out 0) | (go_at_call 33; (with_reducible refine (impl_size.calls a0 t565 _ A5.out).mono ?_); rintro e w' ⟨rfl, ⟨nd, rfl⟩⟩; (try first | exact ⟨rfl, _, World.drewN_drewN _ _ _⟩ | exact ⟨rfl, _, Eq.trans (World.drewN_drewN _ _ _) (congrArg (World.drewN _) (Nat.add_assoc _ _ _))⟩); have hcz15_0 : w13.cell? ⟨gb560, 0, none⟩ = some (.slice A1 l1.length c1) := (blk_cell BK560.out 0).trans rfl; have hfz15_0 := blk_frozen BK560.out 0)); try go_wp2_with (first | ((with_reducible refine gate_dst (N := 2) rfl ?_); refine box_event ?hg (N := 2) ?hd (cs := #[.string a0]) (t := 9) ?hr ?_; (case hd => rfl); (case hg => rfl); (case hr => first | (go_simp; done) | (go_simp; rfl)); intro gb559 hg w6 hbox hb; have n0_ := Aside0.mk (below_step (qB HB.out) hb); have n1_ := Aside0.mk (hbox); have n2_ := Aside0.mk ((by rw [hg]; exact (below_size (qB HB.out)) : w.heap.size ≤ gb559)); have n3_ := Aside0.mk ((by rw [hg]; exact (below_size (qB HB.out)) : w.heap.size ≤ gb559)); clear HB; have HB := n0_; have BK559 := n1_; have GW559 := n2_; have GE559 := n3_; clear n0_ n1_ n2_ n3_; clear hb hbox hg) | ((with_reducible refine gate_dst (N := 3) rfl ?_); refine box_event ?hg (N := 3) ?hd (cs := #[.slice A1 l1.length c1]) (t := 30) ?hr ?_; (case hd => rfl); (case hg => rfl); (case hr => first | (go_simp; done) | (go_simp; rfl)); intro gb560 hg w7 hbox hb; have n0_ := Aside0.mk (blk_below (g := gb559) (o := .cells #[.string a0] 9 (0, 0)) (qA BK559.out) hb); have n1_ := Aside0.mk (below_step (qG HB.out) hb); have n2_ := Aside0.mk (hbox); have n3_ := Aside0.mk ((by rw [hg]; exact (below_size (qG HB.out)) : w.heap.size ≤ gb560)); have n4_ := Aside0.mk ((by rw [hg]; exact (below_size (qG HB.out)) : w.heap.size ≤ gb560)); have n5_ := Aside0.mk ((by rw [hg]; exact Nat.ne_of_lt (blk_lt (g := gb559) (o := .cells #[.string a0] 9 (0, 0)) (qA BK559.out)) : gb559 ≠ gb560)); have n6_ := Aside0.mk ((by rw [hg]; exact Nat.ne_of_gt (blk_lt (g := gb559) (o := .cells #[.string a0] 9 (0, 0)) (qA BK559.out)) : gb560 ≠ gb559)); clear BK559; clear HB; have BK559 := n0_; have HB := n1_; have BK560 := n2_; have GW560 := n3_; have GE560 := n4_; have NB559_560 := n5_; have NB560_559 := n6_; clear n0_ n1_ n2_ n3_ n4_ n5_ n6_; clear hb hbox hg; have hnb8 := NB559_560.out; have hnc8 := NB560_559.out; have hcz9_0 : w7.cell? ⟨gb559, 0, none⟩ = some (.string a0) := (blk_cell BK559.out 0).trans rfl; have hfz9_0 := blk_frozen BK559.out 0) | ((with_reducible refine gate_dst (N := 15) rfl ?_); refine Kd.R_lit Kd.string _ 9 ?hg (N := 15) ?hd (xs := ([a0] : List ByteArray)) (inner := [.string a0]) (ok := fun _ => True) (okp := fun _ => True) ?hr ?hp (fun _ hk => hk) trivial (Below.refl _ _) (Nat.le_refl _) (by simp) ?_; (case hd => rfl); (case hg => rfl); (case hr => first | (go_simp; done) | (go_simp; rfl)); (case hp => exact (Reps.one (show Kd.M Kd.string _ _ _ a0 [.string a0] from rfl) (Reps.none _ _))); intro v562 w10 ho11 hb hg_ hnew_; clear hg_ hnew_; (first | rw [← Ny561.out] at ho11 | (simp only [Int.reduceToNat] at ho11; rw [← Ny561.out] at ho11)); have n0_ := Aside0.mk (Kd.R_lower (Kd.R_newB ho11 (g := gb559) (o := .cells #[.string a0] 9 (0, 0)) (qA BK559.out)) (below_size (qG HB.out))); have n1_ := Aside0.mk (blk_below (g := gb559) (o := .cells #[.string a0] 9 (0, 0)) (qA BK559.out) hb); have n2_ := Aside0.mk (blk_below (g := gb560) (o := .cells #[.slice A1 l1.length c1] 30 (0, 0)) (qA BK560.out) hb); have n3_ := Aside0.mk (below_step (qG HB.out) hb); clear BK559; clear BK560; clear HB; have HO563 := n0_; have BK559 := n1_; have BK560 := n2_; have HB := n3_; clear n0_ n1_ n2_ n3_; clear hb ho11; obtain ⟨Ao12, co12, eo12⟩ := Kd.R_slice HO563.out; subst eo12) | (go_at_call 28; (with_reducible refine (impl_wordCode.calls k (impl_GrowByCover_1.f k a0 l1) 46 #[.pointer (some ⟨gb559, 0, none⟩), .pointer (some ⟨gb560, 0, none⟩)] _ _ y561 t564 _ ?side1 ?side2 ?side3 A3.out).mono ?_); (case side1 => exact qC (Kd.R_reads' HO563.out).2.2); (case side2 => exact (Kd.R_reads' HO563.out).2.1); (case side3 => exact ⟨Go.Proofs.enters_of Try.func46 (by kernel_rfl) rfl, fun W_ hW_ r_ h_ => (impl_GrowByCover_1.calls k gb559 a0 gb560 _ _ l1 r_ W_ (blk_below (g := gb559) (o := .cells #[.string a0] 9 (0, 0)) (qA BK559.out) hW_) (blk_below (g := gb560) (o := .cells #[.slice A1 l1.length c1] 30 (0, 0)) (qA BK560.out) hW_) (Kd.C_below (by exact qC (Kd.C_below HR1.out HB.out)) hW_) (by exact HC1.out) h_).mono (fun e_ W2_ h2_ => ⟨h2_.1, by first | exact h2_.2 | exact h2_.2.below⟩)⟩); rintro e w13 ⟨rfl, hb⟩; have n0_ := Aside0.mk (Kd.R_below (qR HO563.out) hb); have n1_ := Aside0.mk (blk_below (g := gb559) (o := .cells #[.string a0] 9 (0, 0)) (qA BK559.out) hb); have n2_ := Aside0.mk (blk_below (g := gb560) (o := .cells #[.slice A1 l1.length c1] 30 (0, 0)) (qA BK560.out) hb); have n3_ := Aside0.mk (below_step (qG HB.out) hb); clear HO563; clear BK559; clear BK560; clear HB; have HO563 := n0_; have BK559 := n1_; have BK560 := n2_; have HB := n3_; clear n0_ n1_ n2_ n3_; have hcz14_0 : w13.cell? ⟨gb559, 0, none⟩ = some (.string a0) := (blk_cell BK559.out 0).trans rfl; have hfz14_0 := blk_frozen BK559.out 0) | (go_at_call 33; (with_reducible refine (impl_size.calls a0 t565 _ A5.out).mono ?_); rintro e w' ⟨rfl, ⟨nd, rfl⟩⟩; (try first | exact ⟨rfl, _, World.drewN_drewN _ _ _⟩ | exact ⟨rfl, _, Eq.trans (World.drewN_drewN _ _ _) (congrArg (World.drewN _) (Nat.add_assoc _ _ _))⟩); have hcz15_0 : w13.cell? ⟨gb560, 0, none⟩ = some (.slice A1 l1.length c1) := (blk_cell BK560.out 0).trans rfl; have hfz15_0 := blk_frozen BK560.out 0)))
  go_loopg [7, 24] k (fun kq v7 v24 w' => ∃ (x7_1 : Int) (x24_1 : Int), v7 = .int .i64 x7_1 ∧ v24 = .int .i64 x24_1 ∧ Aside0 (impl_GrowByCover.l0 kq x7_1 l1 (l1.length : Int) x24_1 a0 l1 = some (r1, r2)) ∧ Aside0 (kq ≤ k) ∧ Aside0 (w'.heap[gb559]? = some (.cells #[.string a0] 9 (0, 0))) ∧ Aside0 (w'.heap[gb560]? = some (.cells #[(.slice A1 l1.length c1)] 30 (0, 0))) ∧ Aside0 (Below w.heap.size w w'))
  case atStart => exact ⟨(t565), (0), qF, qF, H', ⟨Nat.le_refl _⟩, ⟨qA BK559.out⟩, ⟨qA BK560.out⟩, ⟨qG HB.out⟩⟩
  case round =>
   clear H'
   obtain ⟨x7_1, x24_1, rfl, rfl, HA, HK1, BK559, BK560, HB⟩ := hrel
   cases gk with
   | zero => exact absurd HA.out (by simp [impl_GrowByCover.l0])
   | succ k1 =>
    have H := HA.out
    clear HA
    simp only [impl_GrowByCover.l0] at H
    by_cases c16 : x24_1 < (l1.length : Int)
    ·
     rw [if_pos c16] at H
     have c16b0 : decide (x24_1 < (l1.length : Int)) = true := decide_eq_true c16
     clear c16
     by_cases c17 : 0 ≤ x24_1
     ·
      rw [if_pos c17] at H
      have c17b0 : decide (0 ≤ x24_1) = true := decide_eq_true c17
      clear c17
      by_cases c18 : x24_1 < (l1.length : Int)
      ·
       rw [if_pos c18] at H
       have c18b0 : decide (x24_1 < (l1.length : Int)) = true := decide_eq_true c18
       clear c18
       replace H := Option.bind_eq_some_iff.mp H
       obtain ⟨t567, A190, H⟩ := H
       replace H : (if 0 ≤ (wrap64 (t567 - (rd l1 x24_1))) then (if (wrap64 (t567 - (rd l1 x24_1))) ≤ (a0.size : Int) then ((strings_HasPrefix.f a0 (a0.extract ((wrap64 (t567 - (rd l1 x24_1))) : Int).toNat a0.size)).bind fun t568 => (if t568 = true then ((impl_size.f a0).bind fun t569 => (impl_GrowByCover.l0 k1 (wrap64 (x7_1 + (wrap64 (t569 - (rd l1 x24_1))))) l1 (l1.length : Int) (wrap64 (x24_1 + 1)) a0 l1)) else (some ((⟨#[]⟩ : ByteArray), 4)))) else (none)) else (none)) = some (r1, r2) := H
       have A19 := Aside0.mk A190
       clear A190
       obtain ⟨ji20, hji20⟩ : ∃ j_ : Int, (wrap64 (t567 - (rd l1 x24_1))) = j_ := ⟨_, rfl⟩
       replace H : (if 0 ≤ (ji20) then (if (ji20) ≤ (a0.size : Int) then ((strings_HasPrefix.f a0 (a0.extract ((ji20) : Int).toNat a0.size)).bind fun t568 => (if t568 = true then ((impl_size.f a0).bind fun t569 => (impl_GrowByCover.l0 k1 (wrap64 (x7_1 + (wrap64 (t569 - (rd l1 x24_1))))) l1 (l1.length : Int) (wrap64 (x24_1 + 1)) a0 l1)) else (some ((⟨#[]⟩ : ByteArray), 4)))) else (none)) else (none)) = some (r1, r2) := by first | (rw [hji20] at H; exact H) | (simp only [hji20] at H ⊢; exact H)
       (try rw [hji20] at A19)
       have hji20w : (IntKind.i64.wrap (t567 - (rd l1 x24_1))) = ji20 := (i64_w _).trans hji20
       by_cases c21 : 0 ≤ (ji20)
       ·
        rw [if_pos c21] at H
        have c21b0 := eq_true c21
        have c21b1 : decide (0 ≤ (ji20)) = true := decide_eq_true c21
        clear c21
        by_cases c22 : (ji20) ≤ (a0.size : Int)
        ·
         rw [if_pos c22] at H
         have c22b0 := eq_true c22
         have c22b1 : decide ((ji20) ≤ (a0.size : Int)) = true := decide_eq_true c22
         clear c22
         replace H := Option.bind_eq_some_iff.mp H
         obtain ⟨t568, A230, H⟩ := H
         replace H : (if t568 = true then ((impl_size.f a0).bind fun t569 => (impl_GrowByCover.l0 k1 (wrap64 (x7_1 + (wrap64 (t569 - (rd l1 x24_1))))) l1 (l1.length : Int) (wrap64 (x24_1 + 1)) a0 l1)) else (some ((⟨#[]⟩ : ByteArray), 4))) = some (r1, r2) := H
         have A23 := Aside0.mk A230
         clear A230
         by_cases c24 : t568 = true
         ·
          subst c24
          have H1 : ((impl_size.f a0).bind fun t569 => (impl_GrowByCover.l0 k1 (wrap64 (x7_1 + (wrap64 (t569 - (rd l1 x24_1))))) l1 (l1.length : Int) (wrap64 (x24_1 + 1)) a0 l1)) = some (r1, r2) := by rw [if_pos rfl] at H; exact H
          clear H
          have H := H1
          clear H1
          replace H := Option.bind_eq_some_iff.mp H
          obtain ⟨t569, A250, H⟩ := H
          replace H : (impl_GrowByCover.l0 k1 (wrap64 (x7_1 + (wrap64 (t569 - (rd l1 x24_1))))) l1 (l1.length : Int) (wrap64 (x24_1 + 1)) a0 l1) = some (r1, r2) := H
          have A25 := Aside0.mk A250
          have e_sz : t569 = t567 := Option.some.inj (A25.out.symm.trans A19.out)
          subst e_sz
          clear A250
          have H' := Aside0.mk H
          clear H
          have p566 : 0 ≤ (x24_1 : Int) := of_decide_eq_true (by first | (with_reducible assumption) | assumption)
          have q566 : x24_1 < (l1.length : Int) := of_decide_eq_true (by first | (with_reducible assumption) | assumption)
          obtain ⟨ad566, e566, hx566_0⟩ := Kd.at_int HR1.out x24_1 p566 q566
          cases e566
          replace hx566_0 := (HB.out.cell (World.block_lt_of_cell? w _ hx566_0)).trans hx566_0
          replace p566 := eq_true p566
          replace q566 := eq_true q566
          have hnb26 := NB559_560.out
          have hnc26 := NB560_559.out
          have hcz27_0 : wr.cell? ⟨gb559, 0, none⟩ = some (.string a0) := (blk_cell BK559.out 0).trans rfl
          have hfz27_0 := blk_frozen BK559.out 0
          go_wp2_with (first | (go_at_call 33; (with_reducible refine (impl_size.calls a0 t567 _ A19.out).mono ?_); rintro e w' ⟨rfl, ⟨nd, rfl⟩⟩; (try first | exact ⟨rfl, _, World.drewN_drewN _ _ _⟩ | exact ⟨rfl, _, Eq.trans (World.drewN_drewN _ _ _) (congrArg (World.drewN _) (Nat.add_assoc _ _ _))⟩)) | (go_at_call 50; (with_reducible refine (strings_HasPrefix.calls a0 (a0.extract ((ji20) : Int).toNat a0.size) true _ A23.out).mono ?_); rintro e w' ⟨rfl, ⟨nd, rfl⟩⟩; (try first | exact ⟨rfl, _, World.drewN_drewN _ _ _⟩ | exact ⟨rfl, _, Eq.trans (World.drewN_drewN _ _ _) (congrArg (World.drewN _) (Nat.add_assoc _ _ _))⟩)) | (go_at_call 33; (with_reducible refine (impl_size.calls a0 t569 _ A25.out).mono ?_); rintro e w' ⟨rfl, ⟨nd, rfl⟩⟩; (try first | exact ⟨rfl, _, World.drewN_drewN _ _ _⟩ | exact ⟨rfl, _, Eq.trans (World.drewN_drewN _ _ _) (congrArg (World.drewN _) (Nat.add_assoc _ _ _))⟩)))
          repeat (go_quiet (first | (go_at_call 33; (with_reducible refine (impl_size.calls a0 t567 _ A19.out).mono ?_); rintro e w' ⟨rfl, ⟨nd, rfl⟩⟩; (try first | exact ⟨rfl, _, World.drewN_drewN _ _ _⟩ | exact ⟨rfl, _, Eq.trans (World.drewN_drewN _ _ _) (congrArg (World.drewN _) (Nat.add_assoc _ _ _))⟩)) | (go_at_call 50; (with_reducible refine (strings_HasPrefix.calls a0 (a0.extract ((ji20) : Int).toNat a0.size) true _ A23.out).mono ?_); rintro e w' ⟨rfl, ⟨nd, rfl⟩⟩; (try first | exact ⟨rfl, _, World.drewN_drewN _ _ _⟩ | exact ⟨rfl, _, Eq.trans (World.drewN_drewN _ _ _) (congrArg (World.drewN _) (Nat.add_assoc _ _ _))⟩)) | (go_at_call 33; (with_reducible refine (impl_size.calls a0 t569 _ A25.out).mono ?_); rintro e w' ⟨rfl, ⟨nd, rfl⟩⟩; (try first | exact ⟨rfl, _, World.drewN_drewN _ _ _⟩ | exact ⟨rfl, _, Eq.trans (World.drewN_drewN _ _ _) (congrArg (World.drewN _) (Nat.add_assoc _ _ _))⟩))); try go_wp2_with (first | (go_at_call 33; (with_reducible refine (impl_size.calls a0 t567 _ A19.out).mono ?_); rintro e w' ⟨rfl, ⟨nd, rfl⟩⟩; (try first | exact ⟨rfl, _, World.drewN_drewN _ _ _⟩ | exact ⟨rfl, _, Eq.trans (World.drewN_drewN _ _ _) (congrArg (World.drewN _) (Nat.add_assoc _ _ _))⟩)) | (go_at_call 50; (with_reducible refine (strings_HasPrefix.calls a0 (a0.extract ((ji20) : Int).toNat a0.size) true _ A23.out).mono ?_); rintro e w' ⟨rfl, ⟨nd, rfl⟩⟩; (try first | exact ⟨rfl, _, World.drewN_drewN _ _ _⟩ | exact ⟨rfl, _, Eq.trans (World.drewN_drewN _ _ _) (congrArg (World.drewN _) (Nat.add_assoc _ _ _))⟩)) | (go_at_call 33; (with_reducible refine (impl_size.calls a0 t569 _ A25.out).mono ?_); rintro e w' ⟨rfl, ⟨nd, rfl⟩⟩; (try first | exact ⟨rfl, _, World.drewN_drewN _ _ _⟩ | exact ⟨rfl, _, Eq.trans (World.drewN_drewN _ _ _) (congrArg (World.drewN _) (Nat.add_assoc _ _ _))⟩))))
          go_roundg k1
          case measure => have := HK1.out; omega
          case rel => exact ⟨(wrap64 (x7_1 + (wrap64 (t569 - (rd l1 x24_1))))), (wrap64 (x24_1 + 1)), qF, qF, H', ⟨by have := HK1.out; omega⟩, ⟨qA BK559.out⟩, ⟨qA BK560.out⟩, ⟨qG HB.out⟩⟩
         ·
          replace c24 := Bool.eq_false_iff.mpr c24
          subst c24
          have H1 : (some ((⟨#[]⟩ : ByteArray), 4)) = some (r1, r2) := by rw [if_neg (show ¬ (false = true) by decide)] at H; exact H
          clear H
          have H := H1
          clear H1
          simp only [Option.some.injEq, Prod.mk.injEq] at H
          obtain ⟨rfl, rfl⟩ := H
          have p566 : 0 ≤ (x24_1 : Int) := of_decide_eq_true (by first | (with_reducible assumption) | assumption)
          have q566 : x24_1 < (l1.length : Int) := of_decide_eq_true (by first | (with_reducible assumption) | assumption)
          obtain ⟨ad566, e566, hx566_0⟩ := Kd.at_int HR1.out x24_1 p566 q566
          cases e566
          replace hx566_0 := (HB.out.cell (World.block_lt_of_cell? w _ hx566_0)).trans hx566_0
          replace p566 := eq_true p566
          replace q566 := eq_true q566
          have hnb28 := NB559_560.out
          have hnc28 := NB560_559.out
          have hcz29_0 : wr.cell? ⟨gb559, 0, none⟩ = some (.string a0) := (blk_cell BK559.out 0).trans rfl
          have hfz29_0 := blk_frozen BK559.out 0
          go_wp2_with (first | (go_at_call 33; (with_reducible refine (impl_size.calls a0 t567 _ A19.out).mono ?_); rintro e w' ⟨rfl, ⟨nd, rfl⟩⟩; (try first | exact ⟨rfl, _, World.drewN_drewN _ _ _⟩ | exact ⟨rfl, _, Eq.trans (World.drewN_drewN _ _ _) (congrArg (World.drewN _) (Nat.add_assoc _ _ _))⟩)) | (go_at_call 50; (with_reducible refine (strings_HasPrefix.calls a0 (a0.extract ((ji20) : Int).toNat a0.size) false _ A23.out).mono ?_); rintro e w' ⟨rfl, ⟨nd, rfl⟩⟩; (try first | exact ⟨rfl, _, World.drewN_drewN _ _ _⟩ | exact ⟨rfl, _, Eq.trans (World.drewN_drewN _ _ _) (congrArg (World.drewN _) (Nat.add_assoc _ _ _))⟩)))
          repeat (go_quiet (first | (go_at_call 33; (with_reducible refine (impl_size.calls a0 t567 _ A19.out).mono ?_); rintro e w' ⟨rfl, ⟨nd, rfl⟩⟩; (try first | exact ⟨rfl, _, World.drewN_drewN _ _ _⟩ | exact ⟨rfl, _, Eq.trans (World.drewN_drewN _ _ _) (congrArg (World.drewN _) (Nat.add_assoc _ _ _))⟩)) | (go_at_call 50; (with_reducible refine (strings_HasPrefix.calls a0 (a0.extract ((ji20) : Int).toNat a0.size) false _ A23.out).mono ?_); rintro e w' ⟨rfl, ⟨nd, rfl⟩⟩; (try first | exact ⟨rfl, _, World.drewN_drewN _ _ _⟩ | exact ⟨rfl, _, Eq.trans (World.drewN_drewN _ _ _) (congrArg (World.drewN _) (Nat.add_assoc _ _ _))⟩))); try go_wp2_with (first | (go_at_call 33; (with_reducible refine (impl_size.calls a0 t567 _ A19.out).mono ?_); rintro e w' ⟨rfl, ⟨nd, rfl⟩⟩; (try first | exact ⟨rfl, _, World.drewN_drewN _ _ _⟩ | exact ⟨rfl, _, Eq.trans (World.drewN_drewN _ _ _) (congrArg (World.drewN _) (Nat.add_assoc _ _ _))⟩)) | (go_at_call 50; (with_reducible refine (strings_HasPrefix.calls a0 (a0.extract ((ji20) : Int).toNat a0.size) false _ A23.out).mono ?_); rintro e w' ⟨rfl, ⟨nd, rfl⟩⟩; (try first | exact ⟨rfl, _, World.drewN_drewN _ _ _⟩ | exact ⟨rfl, _, Eq.trans (World.drewN_drewN _ _ _) (congrArg (World.drewN _) (Nat.add_assoc _ _ _))⟩))))
          go_ret2
          exact ⟨by first | rfl | (simp [errW_none, errW_some] <;> rfl) | (simp only [← hji20]; first | rfl | (simp [errW_none, errW_some] <;> rfl)) | (simp [*, errW_none, errW_some] <;> rfl), qG HB.out⟩
        ·
         rw [if_neg c22] at H
         exact absurd H (by simp)
       ·
        rw [if_neg c21] at H
        exact absurd H (by simp)
      ·
       rw [if_neg c18] at H
       exact absurd H (by simp)
     ·
      rw [if_neg c17] at H
      exact absurd H (by simp)
    ·
     rw [if_neg c16] at H
     have c16b0 : decide (x24_1 < (l1.length : Int)) = false := decide_eq_false c16
     clear c16
     by_cases c30 : x7_1 > 60
     ·
      rw [if_pos c30] at H
      have c30b0 : decide (60 < x7_1) = true := decide_eq_true c30
      clear c30
      simp only [Option.some.injEq, Prod.mk.injEq] at H
      obtain ⟨rfl, rfl⟩ := H
      go_wp2
      repeat (go_quiet (fail); try go_wp2)
      go_ret2
      exact ⟨qE, qG HB.out⟩
     ·
      rw [if_neg c30] at H
      have c30b0 : decide (60 < x7_1) = false := decide_eq_false c30
      clear c30
      have H' := Aside0.mk H
      clear H
      have hnb31 := NB559_560.out
      have hnc31 := NB560_559.out
      have hcz32_0 : wr.cell? ⟨gb559, 0, none⟩ = some (.string a0) := (blk_cell BK559.out 0).trans rfl
      have hfz32_0 := blk_frozen BK559.out 0
      have hcz33_0 : wr.cell? ⟨gb560, 0, none⟩ = some (.slice A1 l1.length c1) := (blk_cell BK560.out 0).trans rfl
      have hfz33_0 := blk_frozen BK560.out 0
      go_wp2
      repeat (go_quiet (fail); try go_wp2)
      go_loopg [10, 49] k1 (fun kq v10 v49 w' => ∃ (x10_2 : ByteArray) (x49_2 : Int), v10 = .string x10_2 ∧ v49 = .int .i64 x49_2 ∧ Aside0 (impl_GrowByCover.l1 kq x10_2 l1 (l1.length : Int) x49_2 a0 = some (r1, r2)) ∧ Aside0 (kq ≤ k1) ∧ Aside0 (w'.heap[gb559]? = some (.cells #[.string a0] 9 (0, 0))) ∧ Aside0 (w'.heap[gb560]? = some (.cells #[(.slice A1 l1.length c1)] 30 (0, 0))) ∧ Aside0 (Below w.heap.size w w'))
      case atStart => exact ⟨(a0), (0), qF, qF, H', ⟨Nat.le_refl _⟩, ⟨qA BK559.out⟩, ⟨qA BK560.out⟩, ⟨qG HB.out⟩⟩
      case round =>
       clear H'
       obtain ⟨x10_2, x49_2, rfl, rfl, HA, HK2, BK559, BK560, HB⟩ := hrel
       cases gk with
       | zero => exact absurd HA.out (by simp [impl_GrowByCover.l1])
       | succ k2 =>
        have H := HA.out
        clear HA
        simp only [impl_GrowByCover.l1] at H
        by_cases c34 : x49_2 < (l1.length : Int)
        ·
         rw [if_pos c34] at H
         have c34b0 : decide (x49_2 < (l1.length : Int)) = true := decide_eq_true c34
         clear c34
         by_cases c35 : 0 ≤ x49_2
         ·
          rw [if_pos c35] at H
          have c35b0 : decide (0 ≤ x49_2) = true := decide_eq_true c35
          clear c35
          by_cases c36 : x49_2 < (l1.length : Int)
          ·
           rw [if_pos c36] at H
           have c36b0 : decide (x49_2 < (l1.length : Int)) = true := decide_eq_true c36
           clear c36
           by_cases c37 : 0 ≤ (rd l1 x49_2)
           ·
            rw [if_pos c37] at H
            have c37b0 := eq_true c37
            have c37b1 : decide (0 ≤ (rd l1 x49_2)) = true := decide_eq_true c37
            clear c37
            by_cases c38 : (rd l1 x49_2) ≤ (a0.size : Int)
            ·
             rw [if_pos c38] at H
             have c38b0 := eq_true c38
             have c38b1 : decide ((rd l1 x49_2) ≤ (a0.size : Int)) = true := decide_eq_true c38
             clear c38
             by_cases c39 : x10_2.size + (a0.extract ((rd l1 x49_2) : Int).toNat a0.size).size ≤ 9223372036854775807
             ·
              rw [if_pos c39] at H
              have c39b0 := eq_true c39
              have c39b1 : decide (x10_2.size + (a0.extract ((rd l1 x49_2) : Int).toNat a0.size).size ≤ 9223372036854775807) = true := decide_eq_true c39
              try have c39b2 : (9223372036854775807 < x10_2.size + (a0.extract ((rd l1 x49_2) : Int).toNat a0.size).size) = False := eq_false (Nat.not_lt.2 c39)
              have H' := Aside0.mk H
              clear H
              have p570 : 0 ≤ (x49_2 : Int) := of_decide_eq_true (by first | (with_reducible assumption) | assumption)
              have q570 : x49_2 < (l1.length : Int) := of_decide_eq_true (by first | (with_reducible assumption) | assumption)
              obtain ⟨ad570, e570, hx570_0⟩ := Kd.at_int HR1.out x49_2 p570 q570
              cases e570
              replace hx570_0 := (HB.out.cell (World.block_lt_of_cell? w _ hx570_0)).trans hx570_0
              replace p570 := eq_true p570
              replace q570 := eq_true q570
              have hnb40 := NB559_560.out
              have hnc40 := NB560_559.out
              have hcz41_0 : wr.cell? ⟨gb559, 0, none⟩ = some (.string a0) := (blk_cell BK559.out 0).trans rfl
              have hfz41_0 := blk_frozen BK559.out 0
              go_wp2
              repeat (go_quiet (fail); try go_wp2)
              go_roundg k2
              case measure => have := HK1.out; have := HK2.out; omega
              case rel => exact ⟨(x10_2 ++ (a0.extract ((rd l1 x49_2) : Int).toNat a0.size)), (wrap64 (x49_2 + 1)), qF, qF, H', ⟨by have := HK1.out; have := HK2.out; omega⟩, ⟨qA BK559.out⟩, ⟨qA BK560.out⟩, ⟨qG HB.out⟩⟩
             ·
              rw [if_neg c39] at H
              exact absurd H (by simp)
            ·
             rw [if_neg c38] at H
             exact absurd H (by simp)
           ·
            rw [if_neg c37] at H
            exact absurd H (by simp)
          ·
           rw [if_neg c36] at H
           exact absurd H (by simp)
         ·
          rw [if_neg c35] at H
          exact absurd H (by simp)
        ·
         rw [if_neg c34] at H
         have c34b0 : decide (x49_2 < (l1.length : Int)) = false := decide_eq_false c34
         clear c34
         simp only [Option.some.injEq, Prod.mk.injEq] at H
         obtain ⟨rfl, rfl⟩ := H
         go_wp2
         repeat (go_quiet (fail); try go_wp2)
         go_ret2
         exact ⟨qE, qG HB.out⟩
 ·
  rw [if_neg c4] at H
  have c4b0 : (t564 == 0) = false := beq_eq_false_iff_ne.mpr c4
  have c4b1 : (t564 != 0) = true := bne_iff_ne.mpr c4
  simp only [Option.some.injEq, Prod.mk.injEq] at H
  obtain ⟨rfl, rfl⟩ := H
  go_enter Try.func22, Try.ntmps22
  go_wp2_with (first | ((with_reducible refine gate_dst (N := 2) rfl ?_); refine box_event ?hg (N := 2) ?hd (cs := #[.string a0]) (t := 9) ?hr ?_; (case hd => rfl); (case hg => rfl); (case hr => first | (go_simp; done) | (go_simp; rfl)); intro gb559 hg w42 hbox hb; have n0_ := Aside0.mk (below_step (qB HB.out) hb); have n1_ := Aside0.mk (hbox); have n2_ := Aside0.mk ((by rw [hg]; exact (below_size (qB HB.out)) : w.heap.size ≤ gb559)); have n3_ := Aside0.mk ((by rw [hg]; exact (below_size (qB HB.out)) : w.heap.size ≤ gb559)); clear HB; have HB := n0_; have BK559 := n1_; have GW559 := n2_; have GE559 := n3_; clear n0_ n1_ n2_ n3_; clear hb hbox hg) | ((with_reducible refine gate_dst (N := 3) rfl ?_); refine box_event ?hg (N := 3) ?hd (cs := #[.slice A1 l1.length c1]) (t := 30) ?hr ?_; (case hd => rfl); (case hg => rfl); (case hr => first | (go_simp; done) | (go_simp; rfl)); intro gb560 hg w43 hbox hb; have n0_ := Aside0.mk (blk_below (g := gb559) (o := .cells #[.string a0] 9 (0, 0)) (qA BK559.out) hb); have n1_ := Aside0.mk (below_step (qG HB.out) hb); have n2_ := Aside0.mk (hbox); have n3_ := Aside0.mk ((by rw [hg]; exact (below_size (qG HB.out)) : w.heap.size ≤ gb560)); have n4_ := Aside0.mk ((by rw [hg]; exact (below_size (qG HB.out)) : w.heap.size ≤ gb560)); have n5_ := Aside0.mk ((by rw [hg]; exact Nat.ne_of_lt (blk_lt (g := gb559) (o := .cells #[.string a0] 9 (0, 0)) (qA BK559.out)) : gb559 ≠ gb560)); have n6_ := Aside0.mk ((by rw [hg]; exact Nat.ne_of_gt (blk_lt (g := gb559) (o := .cells #[.string a0] 9 (0, 0)) (qA BK559.out)) : gb560 ≠ gb559)); clear BK559; clear HB; have BK559 := n0_; have HB := n1_; have BK560 := n2_; have GW560 := n3_; have GE560 := n4_; have NB559_560 := n5_; have NB560_559 := n6_; clear n0_ n1_ n2_ n3_ n4_ n5_ n6_; clear hb hbox hg; have hnb44 := NB559_560.out; have hnc44 := NB560_559.out; have hcz45_0 : w43.cell? ⟨gb559, 0, none⟩ = some (.string a0) := (blk_cell BK559.out 0).trans rfl; have hfz45_0 := blk_frozen BK559.out 0) | ((with_reducible refine gate_dst (N := 15) rfl ?_); refine Kd.R_lit Kd.string _ 9 ?hg (N := 15) ?hd (xs := ([a0] : List ByteArray)) (inner := [.string a0]) (ok := fun _ => True) (okp := fun _ => True) ?hr ?hp (fun _ hk => hk) trivial (Below.refl _ _) (Nat.le_refl _) (by simp) ?_; (case hd => rfl); (case hg => rfl); (case hr => first | (go_simp; done) | (go_simp; rfl)); (case hp => exact (Reps.one (show Kd.M Kd.string _ _ _ a0 [.string a0] from rfl) (Reps.none _ _))); intro v562 w46 ho47 hb hg_ hnew_; clear hg_ hnew_; (first | rw [← Ny561.out] at ho47 | (simp only [Int.reduceToNat] at ho47; rw [← Ny561.out] at ho47)); have n0_ := Aside0.mk (Kd.R_lower (Kd.R_newB ho47 (g := gb559) (o := .cells #[.string a0] 9 (0, 0)) (qA BK559.out)) (below_size (qG HB.out))); have n1_ := Aside0.mk (blk_below (g := gb559) (o := .cells #[.string a0] 9 (0, 0)) (qA BK559.out) hb); have n2_ := Aside0.mk (blk_below (g := gb560) (o := .cells #[.slice A1 l1.length c1] 30 (0, 0)) (qA BK560.out) hb); have n3_ := Aside0.mk (below_step (qG HB.out) hb); clear BK559; clear BK560; clear HB; have HO563 := n0_; have BK559 := n1_; have BK560 := n2_; have HB := n3_; clear n0_ n1_ n2_ n3_; clear hb ho47; obtain ⟨Ao48, co48, eo48⟩ := Kd.R_slice HO563.out; subst eo48) | (go_at_call 28; (with_reducible refine (impl_wordCode.calls k (impl_GrowByCover_1.f k a0 l1) 46 #[.pointer (some ⟨gb559, 0, none⟩), .pointer (some ⟨gb560, 0, none⟩)] _ _ y561 t564 _ ?side1 ?side2 ?side3 A3.out).mono ?_); (case side1 => exact qC (Kd.R_reads' HO563.out).2.2); (case side2 => exact (Kd.R_reads' HO563.out).2.1); (case side3 => exact ⟨Go.Proofs.enters_of Try.func46 (by kernel_rfl) rfl, fun W_ hW_ r_ h_ => (impl_GrowByCover_1.calls k gb559 a0 gb560 _ _ l1 r_ W_ (blk_below (g := gb559) (o := .cells #[.string a0] 9 (0, 0)) (qA BK559.out) hW_) (blk_below (g := gb560) (o := .cells #[.slice A1 l1.length c1] 30 (0, 0)) (qA BK560.out) hW_) (Kd.C_below (by exact qC (Kd.C_below HR1.out HB.out)) hW_) (by exact HC1.out) h_).mono (fun e_ W2_ h2_ => ⟨h2_.1, by first | exact h2_.2 | exact h2_.2.below⟩)⟩); rintro e w49 ⟨rfl, hb⟩; have n0_ := Aside0.mk (Kd.R_below (qR HO563.out) hb); have n1_ := Aside0.mk (blk_below (g := gb559) (o := .cells #[.string a0] 9 (0, 0)) (qA BK559.out) hb); have n2_ := Aside0.mk (blk_below (g := gb560) (o := .cells #[.slice A1 l1.length c1] 30 (0, 0)) (qA BK560.out) hb); have n3_ := Aside0.mk (below_step (qG HB.out) hb); clear HO563; clear BK559; clear BK560; clear HB; have HO563 := n0_; have BK559 := n1_; have BK560 := n2_; have HB := n3_; clear n0_ n1_ n2_ n3_))
  repeat (go_quiet (first | ((with_reducible refine gate_dst (N := 2) rfl ?_); refine box_event ?hg (N := 2) ?hd (cs := #[.string a0]) (t := 9) ?hr ?_; (case hd => rfl); (case hg => rfl); (case hr => first | (go_simp; done) | (go_simp; rfl)); intro gb559 hg w42 hbox hb; have n0_ := Aside0.mk (below_step (qB HB.out) hb); have n1_ := Aside0.mk (hbox); have n2_ := Aside0.mk ((by rw [hg]; exact (below_size (qB HB.out)) : w.heap.size ≤ gb559)); have n3_ := Aside0.mk ((by rw [hg]; exact (below_size (qB HB.out)) : w.heap.size ≤ gb559)); clear HB; have HB := n0_; have BK559 := n1_; have GW559 := n2_; have GE559 := n3_; clear n0_ n1_ n2_ n3_; clear hb hbox hg) | ((with_reducible refine gate_dst (N := 3) rfl ?_); refine box_event ?hg (N := 3) ?hd (cs := #[.slice A1 l1.length c1]) (t := 30) ?hr ?_; (case hd => rfl); (case hg => rfl); (case hr => first | (go_simp; done) | (go_simp; rfl)); intro gb560 hg w43 hbox hb; have n0_ := Aside0.mk (blk_below (g := gb559) (o := .cells #[.string a0] 9 (0, 0)) (qA BK559.out) hb); have n1_ := Aside0.mk (below_step (qG HB.out) hb); have n2_ := Aside0.mk (hbox); have n3_ := Aside0.mk ((by rw [hg]; exact (below_size (qG HB.out)) : w.heap.size ≤ gb560)); have n4_ := Aside0.mk ((by rw [hg]; exact (below_size (qG HB.out)) : w.heap.size ≤ gb560)); have n5_ := Aside0.mk ((by rw [hg]; exact Nat.ne_of_lt (blk_lt (g := gb559) (o := .cells #[.string a0] 9 (0, 0)) (qA BK559.out)) : gb559 ≠ gb560)); have n6_ := Aside0.mk ((by rw [hg]; exact Nat.ne_of_gt (blk_lt (g := gb559) (o := .cells #[.string a0] 9 (0, 0)) (qA BK559.out)) : gb560 ≠ gb559)); clear BK559; clear HB; have BK559 := n0_; have HB := n1_; have BK560 := n2_; have GW560 := n3_; have GE560 := n4_; have NB559_560 := n5_; have NB560_559 := n6_; clear n0_ n1_ n2_ n3_ n4_ n5_ n6_; clear hb hbox hg; have hnb44 := NB559_560.out; have hnc44 := NB560_559.out; have hcz45_0 : w43.cell? ⟨gb559, 0, none⟩ = some (.string a0) := (blk_cell BK559.out 0).trans rfl; have hfz45_0 := blk_frozen BK559.out 0) | ((with_reducible refine gate_dst (N := 15) rfl ?_); refine Kd.R_lit Kd.string _ 9 ?hg (N := 15) ?hd (xs := ([a0] : List ByteArray)) (inner := [.string a0]) (ok := fun _ => True) (okp := fun _ => True) ?hr ?hp (fun _ hk => hk) trivial (Below.refl _ _) (Nat.le_refl _) (by simp) ?_; (case hd => rfl); (case hg => rfl); (case hr => first | (go_simp; done) | (go_simp; rfl)); (case hp => exact (Reps.one (show Kd.M Kd.string _ _ _ a0 [.string a0] from rfl) (Reps.none _ _))); intro v562 w46 ho47 hb hg_ hnew_; clear hg_ hnew_; (first | rw [← Ny561.out] at ho47 | (simp only [Int.reduceToNat] at ho47; rw [← Ny561.out] at ho47)); have n0_ := Aside0.mk (Kd.R_lower (Kd.R_newB ho47 (g := gb559) (o := .cells #[.string a0] 9 (0, 0)) (qA BK559.out)) (below_size (qG HB.out))); have n1_ := Aside0.mk (blk_below (g := gb559) (o := .cells #[.string a0] 9 (0, 0)) (qA BK559.out) hb); have n2_ := Aside0.mk (blk_below (g := gb560) (o := .cells #[.slice A1 l1.length c1] 30 (0, 0)) (qA BK560.out) hb); have n3_ := Aside0.mk (below_step (qG HB.out) hb); clear BK559; clear BK560; clear HB; have HO563 := n0_; have BK559 := n1_; have BK560 := n2_; have HB := n3_; clear n0_ n1_ n2_ n3_; clear hb ho47; obtain ⟨Ao48, co48, eo48⟩ := Kd.R_slice HO563.out; subst eo48) | (go_at_call 28; (with_reducible refine (impl_wordCode.calls k (impl_GrowByCover_1.f k a0 l1) 46 #[.pointer (some ⟨gb559, 0, none⟩), .pointer (some ⟨gb560, 0, none⟩)] _ _ y561 t564 _ ?side1 ?side2 ?side3 A3.out).mono ?_); (case side1 => exact qC (Kd.R_reads' HO563.out).2.2); (case side2 => exact (Kd.R_reads' HO563.out).2.1); (case side3 => exact ⟨Go.Proofs.enters_of Try.func46 (by kernel_rfl) rfl, fun W_ hW_ r_ h_ => (impl_GrowByCover_1.calls k gb559 a0 gb560 _ _ l1 r_ W_ (blk_below (g := gb559) (o := .cells #[.string a0] 9 (0, 0)) (qA BK559.out) hW_) (blk_below (g := gb560) (o := .cells #[.slice A1 l1.length c1] 30 (0, 0)) (qA BK560.out) hW_) (Kd.C_below (by exact qC (Kd.C_below HR1.out HB.out)) hW_) (by exact HC1.out) h_).mono (fun e_ W2_ h2_ => ⟨h2_.1, by first | exact h2_.2 | exact h2_.2.below⟩)⟩); rintro e w49 ⟨rfl, hb⟩; have n0_ := Aside0.mk (Kd.R_below (qR HO563.out) hb); have n1_ := Aside0.mk (blk_below (g := gb559) (o := .cells #[.string a0] 9 (0, 0)) (qA BK559.out) hb); have n2_ := Aside0.mk (blk_below (g := gb560) (o := .cells #[.slice A1 l1.length c1] 30 (0, 0)) (qA BK560.out) hb); have n3_ := Aside0.mk (below_step (qG HB.out) hb); clear HO563; clear BK559; clear BK560; clear HB; have HO563 := n0_; have BK559 := n1_; have BK560 := n2_; have HB := n3_; clear n0_ n1_ n2_ n3_)); try go_wp2_with (first | ((with_reducible refine gate_dst (N := 2) rfl ?_); refine box_event ?hg (N := 2) ?hd (cs := #[.string a0]) (t := 9) ?hr ?_; (case hd => rfl); (case hg => rfl); (case hr => first | (go_simp; done) | (go_simp; rfl)); intro gb559 hg w42 hbox hb; have n0_ := Aside0.mk (below_step (qB HB.out) hb); have n1_ := Aside0.mk (hbox); have n2_ := Aside0.mk ((by rw [hg]; exact (below_size (qB HB.out)) : w.heap.size ≤ gb559)); have n3_ := Aside0.mk ((by rw [hg]; exact (below_size (qB HB.out)) : w.heap.size ≤ gb559)); clear HB; have HB := n0_; have BK559 := n1_; have GW559 := n2_; have GE559 := n3_; clear n0_ n1_ n2_ n3_; clear hb hbox hg) | ((with_reducible refine gate_dst (N := 3) rfl ?_); refine box_event ?hg (N := 3) ?hd (cs := #[.slice A1 l1.length c1]) (t := 30) ?hr ?_; (case hd => rfl); (case hg => rfl); (case hr => first | (go_simp; done) | (go_simp; rfl)); intro gb560 hg w43 hbox hb; have n0_ := Aside0.mk (blk_below (g := gb559) (o := .cells #[.string a0] 9 (0, 0)) (qA BK559.out) hb); have n1_ := Aside0.mk (below_step (qG HB.out) hb); have n2_ := Aside0.mk (hbox); have n3_ := Aside0.mk ((by rw [hg]; exact (below_size (qG HB.out)) : w.heap.size ≤ gb560)); have n4_ := Aside0.mk ((by rw [hg]; exact (below_size (qG HB.out)) : w.heap.size ≤ gb560)); have n5_ := Aside0.mk ((by rw [hg]; exact Nat.ne_of_lt (blk_lt (g := gb559) (o := .cells #[.string a0] 9 (0, 0)) (qA BK559.out)) : gb559 ≠ gb560)); have n6_ := Aside0.mk ((by rw [hg]; exact Nat.ne_of_gt (blk_lt (g := gb559) (o := .cells #[.string a0] 9 (0, 0)) (qA BK559.out)) : gb560 ≠ gb559)); clear BK559; clear HB; have BK559 := n0_; have HB := n1_; have BK560 := n2_; have GW560 := n3_; have GE560 := n4_; have NB559_560 := n5_; have NB560_559 := n6_; clear n0_ n1_ n2_ n3_ n4_ n5_ n6_; clear hb hbox hg; have hnb44 := NB559_560.out; have hnc44 := NB560_559.out; have hcz45_0 : w43.cell? ⟨gb559, 0, none⟩ = some (.string a0) := (blk_cell BK559.out 0).trans rfl; have hfz45_0 := blk_frozen BK559.out 0) | ((with_reducible refine gate_dst (N := 15) rfl ?_); refine Kd.R_lit Kd.string _ 9 ?hg (N := 15) ?hd (xs := ([a0] : List ByteArray)) (inner := [.string a0]) (ok := fun _ => True) (okp := fun _ => True) ?hr ?hp (fun _ hk => hk) trivial (Below.refl _ _) (Nat.le_refl _) (by simp) ?_; (case hd => rfl); (case hg => rfl); (case hr => first | (go_simp; done) | (go_simp; rfl)); (case hp => exact (Reps.one (show Kd.M Kd.string _ _ _ a0 [.string a0] from rfl) (Reps.none _ _))); intro v562 w46 ho47 hb hg_ hnew_; clear hg_ hnew_; (first | rw [← Ny561.out] at ho47 | (simp only [Int.reduceToNat] at ho47; rw [← Ny561.out] at ho47)); have n0_ := Aside0.mk (Kd.R_lower (Kd.R_newB ho47 (g := gb559) (o := .cells #[.string a0] 9 (0, 0)) (qA BK559.out)) (below_size (qG HB.out))); have n1_ := Aside0.mk (blk_below (g := gb559) (o := .cells #[.string a0] 9 (0, 0)) (qA BK559.out) hb); have n2_ := Aside0.mk (blk_below (g := gb560) (o := .cells #[.slice A1 l1.length c1] 30 (0, 0)) (qA BK560.out) hb); have n3_ := Aside0.mk (below_step (qG HB.out) hb); clear BK559; clear BK560; clear HB; have HO563 := n0_; have BK559 := n1_; have BK560 := n2_; have HB := n3_; clear n0_ n1_ n2_ n3_; clear hb ho47; obtain ⟨Ao48, co48, eo48⟩ := Kd.R_slice HO563.out; subst eo48) | (go_at_call 28; (with_reducible refine (impl_wordCode.calls k (impl_GrowByCover_1.f k a0 l1) 46 #[.pointer (some ⟨gb559, 0, none⟩), .pointer (some ⟨gb560, 0, none⟩)] _ _ y561 t564 _ ?side1 ?side2 ?side3 A3.out).mono ?_); (case side1 => exact qC (Kd.R_reads' HO563.out).2.2); (case side2 => exact (Kd.R_reads' HO563.out).2.1); (case side3 => exact ⟨Go.Proofs.enters_of Try.func46 (by kernel_rfl) rfl, fun W_ hW_ r_ h_ => (impl_GrowByCover_1.calls k gb559 a0 gb560 _ _ l1 r_ W_ (blk_below (g := gb559) (o := .cells #[.string a0] 9 (0, 0)) (qA BK559.out) hW_) (blk_below (g := gb560) (o := .cells #[.slice A1 l1.length c1] 30 (0, 0)) (qA BK560.out) hW_) (Kd.C_below (by exact qC (Kd.C_below HR1.out HB.out)) hW_) (by exact HC1.out) h_).mono (fun e_ W2_ h2_ => ⟨h2_.1, by first | exact h2_.2 | exact h2_.2.below⟩)⟩); rintro e w49 ⟨rfl, hb⟩; have n0_ := Aside0.mk (Kd.R_below (qR HO563.out) hb); have n1_ := Aside0.mk (blk_below (g := gb559) (o := .cells #[.string a0] 9 (0, 0)) (qA BK559.out) hb); have n2_ := Aside0.mk (blk_below (g := gb560) (o := .cells #[.slice A1 l1.length c1] 30 (0, 0)) (qA BK560.out) hb); have n3_ := Aside0.mk (below_step (qG HB.out) hb); clear HO563; clear BK559; clear BK560; clear HB; have HO563 := n0_; have BK559 := n1_; have BK560 := n2_; have HB := n3_; clear n0_ n1_ n2_ n3_)))
  go_ret2
  exact ⟨qE, qG HB.out⟩

end Go.Proofs.Ytoadancbpgignaa.PF
