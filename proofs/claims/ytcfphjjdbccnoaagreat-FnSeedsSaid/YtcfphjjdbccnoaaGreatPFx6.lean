-- an own text, written by a program of this place (wip/tools)
import Derived.Test.YtcfphjjdbccnoaaGreatPFx0
import Derived.Test.YtcfphjjdbccnoaaGreatPFx4
import Derived.Test.YtcfphjjdbccnoaaGreatPFx5
import Derived.Test.YtcfphjjdbccnoaaGreatPFGivB
import Derived.Test.YtcfphjjdbccnoaaGreatPFx1
import Derived.Test.YtcfphjjdbccnoaaGreatPFGivA
import Derived.Test.YtcfphjjdbccnoaaGreatPFx2
import Derived.Test.YtcfphjjdbccnoaaGreatPFx3
namespace Go.Proofs.YtcfphjjdbccnoaaGreat.PF
open Go.RowKit Go.Proofs.YtcfphjjdbccnoaaGreatW.PrintWords Go.Proofs.YtcfphjjdbccnoaaGreatW.PrintLast Go.Proofs.YtcfphjjdbccnoaaGreatW.PrintMore
attribute [local go_sem] max2_int min2_int max_two min_two max_three min_three max_four min_four   -- for this text's walks alone
set_option linter.unusedVariables false
set_option linter.unusedSimpArgs false

/-! ### impl_seeds: function 32 -/
def impl_seeds.f (k : Nat) (a0 : ByteArray) (a1 : Int) : Option (List ByteArray) := (impl_factors.f k a0 a1).bind fun t359 => ((slices_DeleteFunc_string_string.f k t359 (fun z0_ => impl_seeds_1.f k z0_ a0)).bind fun t362 => (some t362))
theorem impl_seeds.mono : ∀ a0 a1 k, LeO (impl_seeds.f k a0 a1) (impl_seeds.f (k + 1) a0 a1) := by
 intro a0 a1 k
 unfold impl_seeds.f
 repeat' first
   | (with_reducible exact impl_factors.mono _ _ _)
   | (with_reducible exact impl_seeds_1.mono _ _ _)
   | (with_reducible exact LeO.refl _)
   | (with_reducible exact LeO.none _)
   | (with_reducible refine LeO.ite ?_ ?_)
   | (with_reducible refine LeO.bind ?_ (fun _ => ?_))
   | refine slices_DeleteFunc_string_string.monoP (fun _ => ?_)
set_option maxHeartbeats 8000000 in
set_option maxRecDepth 100000 in
theorem impl_seeds.calls (k : Nat) (a0 : ByteArray) (a1 : Int) (r : List ByteArray) (w : World) (h : impl_seeds.f k a0 a1 = some r) :
  Calls Tryz.prog 32 #[.string a0, .int .i64 a1] w fun e w' => ∃ v0_ : Value, e = .returned (v0_) ∧ Kd.R Kd.string 9 w' w.heap.size (fun _ => True) v0_ r ∧ Below w.heap.size w w' := by
 have HB := Aside0.mk (Below.refl w.heap.size w)
 have H : ((impl_factors.f k a0 a1).bind fun t359 => ((slices_DeleteFunc_string_string.f k t359 (fun z0_ => impl_seeds_1.f k z0_ a0)).bind fun t362 => (some t362))) = some r := h
 clear h
 obtain ⟨t359, A3, H⟩ := qN H
 try dsimp only at H
 obtain ⟨t362, A4, H⟩ := qN H
 try dsimp only at H
 obtain rfl := Option.some.inj H
 go_enter Tryz.func32, Tryz.ntmps32
 go_wp2_with (first | ((with_reducible refine gate_dst (N := 2) rfl ?_); refine box_event ?hg (N := 2) ?hd (cs := #[.string a0]) (t := 9) ?hr ?_; (case hd => rfl); (case hg => rfl); (case hr => first | (go_simp; done) | (go_simp; rfl)); intro gb358 hg w5 hbox hb; have BK358 := Aside0.mk (hbox); have GW358 := Aside0.mk ((by rw [hg]; exact (below_size (qB HB.out)) : w.heap.size ≤ gb358)); have GE358 := Aside0.mk ((by rw [hg]; exact (below_size (qB HB.out)) : w.heap.size ≤ gb358)); replace HB := Aside0.mk (below_step (qB HB.out) hb); clear hb hbox hg; have hcz6_0 : w5.cell? ⟨gb358, 0, none⟩ = some (.string a0) := (blk_cell BK358.out 0).trans rfl; have hfz6_0 := blk_frozen BK358.out 0) | ((with_reducible refine gate_callee (f := 50) rfl ?_); refine goesL_ (some 7) rfl rfl Tryz.func50 (by kernel_rfl) rfl #[.string a0, .int .i64 a1] rfl qV ?_; (with_reducible refine (impl_factors.calls k a0 a1 t359 _ A3.out).mono ?_); rintro e w7 ⟨v360, rfl, ho0, hb⟩; refine ⟨_, rfl, ?_⟩; have HO361 := Aside0.mk (Kd.R_lower (Kd.R_newB ho0 (g := gb358) (o := .cells #[.string a0] 9 (0, 0)) (qA BK358.out)) (below_size (qG HB.out))); replace BK358 := Aside0.mk (blk_below (g := gb358) (o := .cells #[.string a0] 9 (0, 0)) (qA BK358.out) hb); replace HB := Aside0.mk (below_step (qG HB.out) hb); obtain ⟨Ao8, co8, eo8⟩ := Kd.R_slice HO361.out; subst eo8) | ((with_reducible refine gate_callee (f := 64) rfl ?_); refine goesL_ (some 9) rfl rfl Tryz.func64 (by kernel_rfl) rfl #[.slice Ao8 t359.length co8, .func (.func 65) #[] #[.pointer (some ⟨gb358, 0, none⟩)]] rfl qV ?_; (with_reducible refine (slices_DeleteFunc_string_string.calls k (fun k_ => some k_ = (.slice Ao8 t359.length co8 : Value).ownBlock) (.slice Ao8 t359.length co8) t359 (fun z0_ => impl_seeds_1.f k z0_ a0) 65 #[.pointer (some ⟨gb358, 0, none⟩)] t362 w _ ?side1 ?side2 ?side3 A4.out).mono ?_); (case side1 => exact qG HB.out); (case side2 => exact Kd.R_tight rfl HO361.out); (case side3 => exact ⟨Go.Proofs.enters_of Tryz.func65 (by kernel_rfl) rfl, fun z0_ W_ hW_ r_ h_ => (impl_seeds_1.calls k z0_ gb358 a0 r_ W_ (blk_kept (qA BK358.out) hW_ (fun hs_ => (fun e_ => (Kd.R_away HO361.out (fun _ hk => hk.2)) e_) hs_)) h_).mono (fun e_ W2_ h2_ => ⟨h2_.1, by first | exact h2_.2 | exact h2_.2.below⟩)⟩); rintro e w9 ⟨v363, rfl, ho0, hb, hkp⟩; refine ⟨_, rfl, ?_⟩; have HO364 := Aside0.mk (Kd.R_mono (ok' := fun k_ => k_ ≠ gb358) ho0 (fun k_ hk_ => Or.elim hk_ (fun hs_ => fun e_ => (Kd.R_away HO361.out (fun _ hk => hk.2)) (by rw [← e_]; exact hs_)) (fun hn_ => (Kd.freshB (g := gb358) (o := .cells #[.string a0] 9 (0, 0)) (qA BK358.out) k_ hn_)))); replace BK358 := Aside0.mk (blk_kept (qA BK358.out) hkp (fun hs_ => (fun e_ => (Kd.R_away HO361.out (fun _ hk => hk.2)) e_) hs_)); replace HB := Aside0.mk (hb); clear HO361))
 go_ret
 exact ⟨_, qE, by (with_reducible repeat (first | apply Kd.R_alloc | apply Kd.R_drewN | apply Kd.R_drew)); exact Kd.R_mono HO364.out (fun _ hk => trivial), qG HB.out⟩

end Go.Proofs.YtcfphjjdbccnoaaGreat.PF

namespace Go.Proofs.YtcfphjjdbccnoaaGreat.PF
open Go.RowKit Go.Proofs.YtcfphjjdbccnoaaGreatW.PrintWords Go.Proofs.YtcfphjjdbccnoaaGreatW.PrintLast Go.Proofs.YtcfphjjdbccnoaaGreatW.PrintMore
attribute [local go_sem] max2_int min2_int max_two min_two max_three min_three max_four min_four   -- for this text's walks alone
set_option linter.unusedVariables false
set_option linter.unusedSimpArgs false

/-! ### impl_LeastSeed: function 6 -/
def impl_LeastSeed.l0 : Nat → ByteArray → Int → Option (ByteArray × Int)
 | 0, _, _ => none
 | k + 1, x0, x5 => if x5 ≤ (x0.size : Int) then ((impl_seeds.f k x0 x5).bind fun t369 => (if (t369.length : Int) > 0 then (if 0 < (t369.length : Int) then (some (rdOf ByteArray.empty t369 0, 0)) else (none)) else (impl_LeastSeed.l0 k x0 (wrap64 (x5 + 1))))) else (some ((⟨#[]⟩ : ByteArray), 4))
def impl_LeastSeed.f (k : Nat) (a0 : ByteArray) : Option (ByteArray × Int) := (impl_wordCode.f k (impl_always.f) (([a0] : List ByteArray))).bind fun t368 => (if t368 = 0 then (impl_LeastSeed.l0 k a0 1) else (some ((⟨#[]⟩ : ByteArray), t368)))
theorem impl_LeastSeed.mono_l : ∀ k, (∀ y0 y1, LeO (impl_LeastSeed.l0 k y0 y1) (impl_LeastSeed.l0 (k + 1) y0 y1))
 | 0 => fun _ _ r h => by simp [impl_LeastSeed.l0] at h
 | k + 1 => by
  have ih0 := impl_LeastSeed.mono_l k
  ·
   intro y0 y1
   unfold impl_LeastSeed.l0
   repeat' first
   | (with_reducible exact ih0 _ _)
   | (with_reducible exact impl_seeds.mono _ _ _)
   | (with_reducible exact LeO.refl _)
   | (with_reducible exact LeO.none _)
   | (with_reducible refine LeO.ite ?_ ?_)
   | (with_reducible refine LeO.bind ?_ (fun _ => ?_))
   | refine impl_wordCode.monoP ?_
theorem impl_LeastSeed.mono : ∀ a0 k, LeO (impl_LeastSeed.f k a0) (impl_LeastSeed.f (k + 1) a0) := by
 intro a0 k
 have ih0 := impl_LeastSeed.mono_l k
 unfold impl_LeastSeed.f
 repeat' first
   | (with_reducible exact ih0 _ _)
   | (with_reducible exact impl_seeds.mono _ _ _)
   | (with_reducible exact LeO.refl _)
   | (with_reducible exact LeO.none _)
   | (with_reducible refine LeO.ite ?_ ?_)
   | (with_reducible refine LeO.bind ?_ (fun _ => ?_))
   | refine impl_wordCode.monoP ?_
set_option maxHeartbeats 8000000 in
set_option maxRecDepth 100000 in
theorem impl_LeastSeed.calls (k : Nat) (a0 : ByteArray) (r1 : ByteArray) (r2 : Int) (w : World) (h : impl_LeastSeed.f k a0 = some (r1, r2)) :
  Calls Tryz.prog 6 #[.string a0] w fun e w' => e = .returned (.tuple #[.string r1, .int .i64 r2]) ∧ Below w.heap.size w w' := by
 have HB := Aside0.mk (Below.refl w.heap.size w)
 have H : ((impl_wordCode.f k (impl_always.f) (([a0] : List ByteArray))).bind fun t368 => (if t368 = 0 then (impl_LeastSeed.l0 k a0 1) else (some ((⟨#[]⟩ : ByteArray), t368)))) = some (r1, r2) := h
 clear h
 obtain ⟨y365, hy365⟩ : ∃ y_ : List ByteArray, y_ = (([a0] : List ByteArray)) := ⟨_, rfl⟩
 replace H : ((impl_wordCode.f k (impl_always.f) y365).bind fun t368 => (if t368 = 0 then (impl_LeastSeed.l0 k a0 1) else (some ((⟨#[]⟩ : ByteArray), t368)))) = some (r1, r2) := by first | (rw [hy365]; with_reducible exact H) | (have H2_ := (Option.bind_some _ _).symm.trans H; rw [hy365]; with_reducible exact H2_) | (have H2_ := (Option.bind_some _ _).symm.trans H; with_reducible exact H2_) | with_reducible exact H | (rw [hy365]; exact H) | exact H
 have Ny365 := Aside0.mk hy365
 clear hy365
 obtain ⟨t368, A2, H⟩ := qN H
 try dsimp only at H
 by_cases c3 : t368 = 0
 rotate_left
 ·
  rw [if_neg c3] at H
  obtain ⟨c3b0, c3b1⟩ := zF c3
  simp only [Option.some.injEq, Prod.mk.injEq] at H
  obtain ⟨rfl, rfl⟩ := H
  go_enter Tryz.func6, Tryz.ntmps6
  go_wp2_with (first | ((with_reducible refine gate_dst (N := 8) rfl ?_); refine Kd.R_lit Kd.string _ 9 ?hg (N := 8) ?hd (xs := ([a0] : List ByteArray)) (inner := [.string a0]) (ok := fun _ => True) (okp := fun _ => True) ?hr ?hp (fun _ hk => hk) trivial (Below.refl _ _) (Nat.le_refl _) (by simp) ?_; (case hd => rfl); (case hg => rfl); (case hr => first | (go_simp; done) | (go_simp; rfl)); (case hp => exact (Reps.one (show Kd.M Kd.string _ _ _ a0 [.string a0] from rfl) (Reps.none _ _))); intro v366 w16 ho17 hb hg_ hnew_; clear hg_ hnew_; (first | rw [← Ny365.out] at ho17 | (simp only [Int.reduceToNat] at ho17; rw [← Ny365.out] at ho17)); have HO367 := Aside0.mk (Kd.R_lower ho17 (below_size (qB HB.out))); replace HB := Aside0.mk (below_step (qB HB.out) hb); clear hb ho17; obtain ⟨Ao18, co18, eo18⟩ := Kd.R_slice HO367.out; subst eo18) | ((with_reducible refine gate_callee (f := 30) rfl ?_); refine goesL_ (some 9) rfl rfl Tryz.func30 (by kernel_rfl) rfl #[.func (.func 31) #[] #[], .slice Ao18 y365.length co18] rfl qV ?_; (with_reducible refine (impl_wordCode.calls k (impl_always.f) 31 #[] _ _ y365 t368 _ ?side1 ?side2 ?side3 A2.out).mono ?_); (case side1 => exact qC (Kd.R_reads' HO367.out).2.2); (case side2 => exact (Kd.R_reads' HO367.out).2.1); (case side3 => exact ⟨Go.Proofs.enters_of Tryz.func31 (by kernel_rfl) rfl, fun W_ hW_ r_ h_ => (impl_always.calls  r_ W_  h_).mono (fun e_ W2_ h2_ => ⟨h2_.1, by first | exact h2_.2 | exact h2_.2.below⟩)⟩); rintro e w19 ⟨rfl, hb⟩; refine ⟨_, rfl, ?_⟩; replace HO367 := Aside0.mk (Kd.R_below (qR HO367.out) hb); replace HB := Aside0.mk (below_step (qB HB.out) hb)))
  go_ret2
  exact ⟨qE, qB HB.out⟩

 rw [if_pos c3] at H
 obtain ⟨c3b0, c3b1⟩ := zT c3
 clear c3
 have H' := Aside0.mk H
 clear H
 go_enter Tryz.func6, Tryz.ntmps6
 go_wp2_with (first | ((with_reducible refine gate_dst (N := 8) rfl ?_); refine Kd.R_lit Kd.string _ 9 ?hg (N := 8) ?hd (xs := ([a0] : List ByteArray)) (inner := [.string a0]) (ok := fun _ => True) (okp := fun _ => True) ?hr ?hp (fun _ hk => hk) trivial (Below.refl _ _) (Nat.le_refl _) (by simp) ?_; (case hd => rfl); (case hg => rfl); (case hr => first | (go_simp; done) | (go_simp; rfl)); (case hp => exact (Reps.one (show Kd.M Kd.string _ _ _ a0 [.string a0] from rfl) (Reps.none _ _))); intro v366 w4 ho5 hb hg_ hnew_; clear hg_ hnew_; (first | rw [← Ny365.out] at ho5 | (simp only [Int.reduceToNat] at ho5; rw [← Ny365.out] at ho5)); have HO367 := Aside0.mk (Kd.R_lower ho5 (below_size (qB HB.out))); replace HB := Aside0.mk (below_step (qB HB.out) hb); clear hb ho5; obtain ⟨Ao6, co6, eo6⟩ := Kd.R_slice HO367.out; subst eo6) | ((with_reducible refine gate_callee (f := 30) rfl ?_); refine goesL_ (some 9) rfl rfl Tryz.func30 (by kernel_rfl) rfl #[.func (.func 31) #[] #[], .slice Ao6 y365.length co6] rfl qV ?_; (with_reducible refine (impl_wordCode.calls k (impl_always.f) 31 #[] _ _ y365 t368 _ ?side1 ?side2 ?side3 A2.out).mono ?_); (case side1 => exact qC (Kd.R_reads' HO367.out).2.2); (case side2 => exact (Kd.R_reads' HO367.out).2.1); (case side3 => exact ⟨Go.Proofs.enters_of Tryz.func31 (by kernel_rfl) rfl, fun W_ hW_ r_ h_ => (impl_always.calls  r_ W_  h_).mono (fun e_ W2_ h2_ => ⟨h2_.1, by first | exact h2_.2 | exact h2_.2.below⟩)⟩); rintro e w7 ⟨rfl, hb⟩; refine ⟨_, rfl, ?_⟩; replace HO367 := Aside0.mk (Kd.R_below (qR HO367.out) hb); replace HB := Aside0.mk (below_step (qB HB.out) hb)))
 go_loopg [5] k (fun kq v5 w' => ∃ (x5_1 : Int), v5 = .int .i64 x5_1 ∧ Aside0 (impl_LeastSeed.l0 kq a0 x5_1 = some (r1, r2)) ∧ Aside0 (kq ≤ k) ∧ Aside0 (Below w.heap.size w w'))
 case atStart => exact ⟨(1), qF, H', ⟨Nat.le_refl _⟩, ⟨qB HB.out⟩⟩
 case round =>
  clear H'
  obtain ⟨x5_1, rfl, HA, HK1, HB⟩ := hrel
  cases gk with
  | zero => exact absurd HA.out (by simp [impl_LeastSeed.l0])
  | succ k1 =>
   have H := HA.out
   clear HA
   simp only [impl_LeastSeed.l0] at H
   by_cases c8 : x5_1 ≤ (a0.size : Int)
   rotate_left
   ·
    rw [if_neg c8] at H
    have c8b0 : decide (x5_1 ≤ (a0.size : Int)) = false := decide_eq_false c8
    clear c8
    simp only [Option.some.injEq, Prod.mk.injEq] at H
    obtain ⟨rfl, rfl⟩ := H
    go_wp2
    go_ret2
    exact ⟨qE, qB HB.out⟩
   rw [if_pos c8] at H
   have c8b0 : decide (x5_1 ≤ (a0.size : Int)) = true := decide_eq_true c8
   clear c8
   obtain ⟨t369, A9, H⟩ := qN H
   try dsimp only at H
   by_cases c10 : (t369.length : Int) > 0
   rotate_left
   ·
    rw [if_neg c10] at H
    have c10b0 : decide (0 < (t369.length : Int)) = false := decide_eq_false c10
    have c10b1 : decide (0 < t369.length) = false := decide_eq_false (by omega)
    clear c10
    have H' := Aside0.mk H
    clear H
    go_wp2_with (first | ((with_reducible refine gate_callee (f := 32) rfl ?_); refine goesL_ (some 21) rfl rfl Tryz.func32 (by kernel_rfl) rfl #[.string a0, .int .i64 x5_1] rfl qV ?_; (with_reducible refine (impl_seeds.calls k1 a0 x5_1 t369 _ A9.out).mono ?_); rintro e w14 ⟨v370, rfl, ho0, hb⟩; refine ⟨_, rfl, ?_⟩; have HO371 := Aside0.mk (Kd.R_lower ho0 (below_size (qB HB.out))); replace HB := Aside0.mk (below_step (qB HB.out) hb); obtain ⟨Ao15, co15, eo15⟩ := Kd.R_slice HO371.out; subst eo15))
    go_roundg k1
    case measure => have := HK1.out; omega
    case rel => exact ⟨(wrap64 (x5_1 + 1)), qF, H', ⟨by have := HK1.out; omega⟩, ⟨qB HB.out⟩⟩
   rw [if_pos c10] at H
   have c10b0 : decide (0 < (t369.length : Int)) = true := decide_eq_true c10
   have c10b1 : decide (0 < t369.length) = true := decide_eq_true (by omega)
   clear c10
   by_cases c11 : 0 < (t369.length : Int)
   rotate_left
   ·
    rw [if_neg c11] at H
    exact absurd H (by simp)
   rw [if_pos c11] at H
   have c11b0 : decide (0 < (t369.length : Int)) = true := decide_eq_true c11
   have c11b1 : decide (0 < t369.length) = true := decide_eq_true (by omega)
   clear c11
   simp only [Option.some.injEq, Prod.mk.injEq] at H
   obtain ⟨rfl, rfl⟩ := H
   go_wp2_with (first | ((with_reducible refine gate_callee (f := 32) rfl ?_); refine goesL_ (some 21) rfl rfl Tryz.func32 (by kernel_rfl) rfl #[.string a0, .int .i64 x5_1] rfl qV ?_; (with_reducible refine (impl_seeds.calls k1 a0 x5_1 t369 _ A9.out).mono ?_); rintro e w12 ⟨v370, rfl, ho0, hb⟩; refine ⟨_, rfl, ?_⟩; have HO371 := Aside0.mk (Kd.R_lower ho0 (below_size (qB HB.out))); replace HB := Aside0.mk (below_step (qB HB.out) hb); obtain ⟨Ao13, co13, eo13⟩ := Kd.R_slice HO371.out; subst eo13; have p372 : 0 ≤ (0 : Int) := (by omega); have q372 : 0 < (t369.length : Int) := of_decide_eq_true (by first | (with_reducible assumption) | assumption); obtain ⟨ad372, e372, hx372_0⟩ := Kd.at_string (Kd.R_reads' HO371.out).2.2 0 p372 q372; cases e372; have qi372 : (0 < t369.length) = True := eq_true (by omega); (try rw [show ((0 : Int)).toNat = 0 from rfl] at hx372_0); (try rw [Addr.add_zero'] at hx372_0); replace p372 := eq_true p372; replace q372 := eq_true q372))
   go_ret2
   exact ⟨qE, qB HB.out⟩
end Go.Proofs.YtcfphjjdbccnoaaGreat.PF

namespace Go.Proofs.YtcfphjjdbccnoaaGreat.PF
open Go.RowKit Go.Proofs.YtcfphjjdbccnoaaGreatW.PrintWords Go.Proofs.YtcfphjjdbccnoaaGreatW.PrintLast Go.Proofs.YtcfphjjdbccnoaaGreatW.PrintMore
attribute [local go_sem] max2_int min2_int max_two min_two max_three min_three max_four min_four   -- for this text's walks alone
set_option linter.unusedVariables false
set_option linter.unusedSimpArgs false

/-! ### impl_SeedsOf: function 10 -/
def impl_SeedsOf.f (k : Nat) (a0 : ByteArray) (a1 : Int) : Option (List ByteArray × Int) := (impl_wordCode.f k (impl_SeedsOf_1.f a1) (([a0] : List ByteArray))).bind fun t491 => (if t491 = 0 then ((impl_seeds.f k a0 a1).bind fun t492 => (some (t492, 0))) else (some (([] : List ByteArray), t491)))
theorem impl_SeedsOf.mono : ∀ a0 a1 k, LeO (impl_SeedsOf.f k a0 a1) (impl_SeedsOf.f (k + 1) a0 a1) := by
 intro a0 a1 k
 unfold impl_SeedsOf.f
 repeat' first
   | (with_reducible exact impl_seeds.mono _ _ _)
   | (with_reducible exact LeO.refl _)
   | (with_reducible exact LeO.none _)
   | (with_reducible refine LeO.ite ?_ ?_)
   | (with_reducible refine LeO.bind ?_ (fun _ => ?_))
   | refine impl_wordCode.monoP ?_
set_option maxHeartbeats 8000000 in
set_option maxRecDepth 100000 in
theorem impl_SeedsOf.calls (k : Nat) (a0 : ByteArray) (a1 : Int) (r1 : List ByteArray) (r2 : Int) (w : World) (h : impl_SeedsOf.f k a0 a1 = some (r1, r2)) :
  Calls Tryz.prog 10 #[.string a0, .int .i64 a1] w fun e w' => ∃ v0_ : Value, e = .returned (.tuple #[v0_, .int .i64 r2]) ∧ Kd.R Kd.string 9 w' w.heap.size (fun _ => True) v0_ r1 ∧ Below w.heap.size w w' := by
 have HB := Aside0.mk (Below.refl w.heap.size w)
 have H : ((impl_wordCode.f k (impl_SeedsOf_1.f a1) (([a0] : List ByteArray))).bind fun t491 => (if t491 = 0 then ((impl_seeds.f k a0 a1).bind fun t492 => (some (t492, 0))) else (some (([] : List ByteArray), t491)))) = some (r1, r2) := h
 clear h
 obtain ⟨y488, hy488⟩ : ∃ y_ : List ByteArray, y_ = (([a0] : List ByteArray)) := ⟨_, rfl⟩
 replace H : ((impl_wordCode.f k (impl_SeedsOf_1.f a1) y488).bind fun t491 => (if t491 = 0 then ((impl_seeds.f k a0 a1).bind fun t492 => (some (t492, 0))) else (some (([] : List ByteArray), t491)))) = some (r1, r2) := by first | (rw [hy488]; with_reducible exact H) | (have H2_ := (Option.bind_some _ _).symm.trans H; rw [hy488]; with_reducible exact H2_) | (have H2_ := (Option.bind_some _ _).symm.trans H; with_reducible exact H2_) | with_reducible exact H | (rw [hy488]; exact H) | exact H
 have Ny488 := Aside0.mk hy488
 clear hy488
 obtain ⟨t491, A3, H⟩ := qN H
 try dsimp only at H
 by_cases c4 : t491 = 0
 rotate_left
 ·
  rw [if_neg c4] at H
  obtain ⟨c4b0, c4b1⟩ := zF c4
  simp only [Option.some.injEq, Prod.mk.injEq] at H
  obtain ⟨rfl, rfl⟩ := H
  go_enter Tryz.func10, Tryz.ntmps10
  go_wp2_with (first | ((with_reducible refine gate_dst (N := 3) rfl ?_); refine box_event ?hg (N := 3) ?hd (cs := #[.int .i64 a1]) (t := 2) ?hr ?_; (case hd => rfl); (case hg => rfl); (case hr => first | (go_simp; done) | (go_simp; rfl)); intro gb487 hg w13 hbox hb; have BK487 := Aside0.mk (hbox); have GW487 := Aside0.mk ((by rw [hg]; exact (below_size (qB HB.out)) : w.heap.size ≤ gb487)); have GE487 := Aside0.mk ((by rw [hg]; exact (below_size (qB HB.out)) : w.heap.size ≤ gb487)); replace HB := Aside0.mk (below_step (qB HB.out) hb); clear hb hbox hg) | ((with_reducible refine gate_dst (N := 9) rfl ?_); refine Kd.R_lit Kd.string _ 9 ?hg (N := 9) ?hd (xs := ([a0] : List ByteArray)) (inner := [.string a0]) (ok := fun _ => True) (okp := fun _ => True) ?hr ?hp (fun _ hk => hk) trivial (Below.refl _ _) (Nat.le_refl _) (by simp) ?_; (case hd => rfl); (case hg => rfl); (case hr => first | (go_simp; done) | (go_simp; rfl)); (case hp => exact (Reps.one (show Kd.M Kd.string _ _ _ a0 [.string a0] from rfl) (Reps.none _ _))); intro v489 w14 ho15 hb hg_ hnew_; clear hg_ hnew_; (first | rw [← Ny488.out] at ho15 | (simp only [Int.reduceToNat] at ho15; rw [← Ny488.out] at ho15)); have HO490 := Aside0.mk (Kd.R_lower ho15 (below_size (qG HB.out))); replace BK487 := Aside0.mk (blk_below (g := gb487) (o := .cells #[.int .i64 a1] 2 (0, 0)) (qA BK487.out) hb); replace HB := Aside0.mk (below_step (qG HB.out) hb); clear hb ho15; obtain ⟨Ao16, co16, eo16⟩ := Kd.R_slice HO490.out; subst eo16) | ((with_reducible refine gate_callee (f := 30) rfl ?_); refine goesL_ (some 10) rfl rfl Tryz.func30 (by kernel_rfl) rfl #[.func (.func 38) #[] #[.pointer (some ⟨gb487, 0, none⟩)], .slice Ao16 y488.length co16] rfl qV ?_; (with_reducible refine (impl_wordCode.calls k (impl_SeedsOf_1.f a1) 38 #[.pointer (some ⟨gb487, 0, none⟩)] _ _ y488 t491 _ ?side1 ?side2 ?side3 A3.out).mono ?_); (case side1 => exact qC (Kd.R_reads' HO490.out).2.2); (case side2 => exact (Kd.R_reads' HO490.out).2.1); (case side3 => exact ⟨Go.Proofs.enters_of Tryz.func38 (by kernel_rfl) rfl, fun W_ hW_ r_ h_ => (impl_SeedsOf_1.calls gb487 a1 r_ W_ (blk_below (g := gb487) (o := .cells #[.int .i64 a1] 2 (0, 0)) (qA BK487.out) hW_) h_).mono (fun e_ W2_ h2_ => ⟨h2_.1, by first | exact h2_.2 | exact h2_.2.below⟩)⟩); rintro e w17 ⟨rfl, hb⟩; refine ⟨_, rfl, ?_⟩; replace HO490 := Aside0.mk (Kd.R_below (qR HO490.out) hb); replace BK487 := Aside0.mk (blk_below (g := gb487) (o := .cells #[.int .i64 a1] 2 (0, 0)) (qA BK487.out) hb); replace HB := Aside0.mk (below_step (qG HB.out) hb)))
  go_ret2
  exact ⟨_, qE, by first | exact Kd.R_nil _ _ _ _ _ | exact Kd.N_nil _ _ _ _ _ | exact Kd.V_nil _ _ _ _ _ | exact Kd.Q_nil _ _ _ _ _ | exact Kd.S_nil _ _ _ _ _, qG HB.out⟩

 rw [if_pos c4] at H
 obtain ⟨c4b0, c4b1⟩ := zT c4
 clear c4
 obtain ⟨t492, A5, H⟩ := qN H
 try dsimp only at H
 simp only [Option.some.injEq, Prod.mk.injEq] at H
 obtain ⟨rfl, rfl⟩ := H
 go_enter Tryz.func10, Tryz.ntmps10
 go_wp2_with (first | ((with_reducible refine gate_dst (N := 3) rfl ?_); refine box_event ?hg (N := 3) ?hd (cs := #[.int .i64 a1]) (t := 2) ?hr ?_; (case hd => rfl); (case hg => rfl); (case hr => first | (go_simp; done) | (go_simp; rfl)); intro gb487 hg w6 hbox hb; have BK487 := Aside0.mk (hbox); have GW487 := Aside0.mk ((by rw [hg]; exact (below_size (qB HB.out)) : w.heap.size ≤ gb487)); have GE487 := Aside0.mk ((by rw [hg]; exact (below_size (qB HB.out)) : w.heap.size ≤ gb487)); replace HB := Aside0.mk (below_step (qB HB.out) hb); clear hb hbox hg) | ((with_reducible refine gate_dst (N := 9) rfl ?_); refine Kd.R_lit Kd.string _ 9 ?hg (N := 9) ?hd (xs := ([a0] : List ByteArray)) (inner := [.string a0]) (ok := fun _ => True) (okp := fun _ => True) ?hr ?hp (fun _ hk => hk) trivial (Below.refl _ _) (Nat.le_refl _) (by simp) ?_; (case hd => rfl); (case hg => rfl); (case hr => first | (go_simp; done) | (go_simp; rfl)); (case hp => exact (Reps.one (show Kd.M Kd.string _ _ _ a0 [.string a0] from rfl) (Reps.none _ _))); intro v489 w7 ho8 hb hg_ hnew_; clear hg_ hnew_; (first | rw [← Ny488.out] at ho8 | (simp only [Int.reduceToNat] at ho8; rw [← Ny488.out] at ho8)); have HO490 := Aside0.mk (Kd.R_lower ho8 (below_size (qG HB.out))); replace BK487 := Aside0.mk (blk_below (g := gb487) (o := .cells #[.int .i64 a1] 2 (0, 0)) (qA BK487.out) hb); replace HB := Aside0.mk (below_step (qG HB.out) hb); clear hb ho8; obtain ⟨Ao9, co9, eo9⟩ := Kd.R_slice HO490.out; subst eo9) | ((with_reducible refine gate_callee (f := 30) rfl ?_); refine goesL_ (some 10) rfl rfl Tryz.func30 (by kernel_rfl) rfl #[.func (.func 38) #[] #[.pointer (some ⟨gb487, 0, none⟩)], .slice Ao9 y488.length co9] rfl qV ?_; (with_reducible refine (impl_wordCode.calls k (impl_SeedsOf_1.f a1) 38 #[.pointer (some ⟨gb487, 0, none⟩)] _ _ y488 t491 _ ?side1 ?side2 ?side3 A3.out).mono ?_); (case side1 => exact qC (Kd.R_reads' HO490.out).2.2); (case side2 => exact (Kd.R_reads' HO490.out).2.1); (case side3 => exact ⟨Go.Proofs.enters_of Tryz.func38 (by kernel_rfl) rfl, fun W_ hW_ r_ h_ => (impl_SeedsOf_1.calls gb487 a1 r_ W_ (blk_below (g := gb487) (o := .cells #[.int .i64 a1] 2 (0, 0)) (qA BK487.out) hW_) h_).mono (fun e_ W2_ h2_ => ⟨h2_.1, by first | exact h2_.2 | exact h2_.2.below⟩)⟩); rintro e w10 ⟨rfl, hb⟩; refine ⟨_, rfl, ?_⟩; replace HO490 := Aside0.mk (Kd.R_below (qR HO490.out) hb); replace BK487 := Aside0.mk (blk_below (g := gb487) (o := .cells #[.int .i64 a1] 2 (0, 0)) (qA BK487.out) hb); replace HB := Aside0.mk (below_step (qG HB.out) hb); have hcz11_0 : w10.cell? ⟨gb487, 0, none⟩ = some (.int .i64 a1) := (blk_cell BK487.out 0).trans rfl; have hfz11_0 := blk_frozen BK487.out 0) | ((with_reducible refine gate_callee (f := 32) rfl ?_); refine goesL_ (some 16) rfl rfl Tryz.func32 (by kernel_rfl) rfl #[.string a0, .int .i64 a1] rfl qV ?_; (with_reducible refine (impl_seeds.calls k a0 a1 t492 _ A5.out).mono ?_); rintro e w12 ⟨v493, rfl, ho0, hb⟩; refine ⟨_, rfl, ?_⟩; have HO494 := Aside0.mk (Kd.R_lower (Kd.R_new' ho0 (Kd.R_lt (qR HO490.out))) (below_size (qG HB.out))); replace HO490 := Aside0.mk (Kd.R_elder' (qR HO490.out) (Kd.R_base ho0) hb); replace BK487 := Aside0.mk (blk_below (g := gb487) (o := .cells #[.int .i64 a1] 2 (0, 0)) (qA BK487.out) hb); replace HB := Aside0.mk (below_step (qG HB.out) hb)))
 go_ret2
 exact ⟨_, qE, by (with_reducible repeat (first | apply Kd.R_alloc | apply Kd.R_drewN | apply Kd.R_drew)); exact Kd.R_mono HO494.out (fun _ hk => trivial), qG HB.out⟩
end Go.Proofs.YtcfphjjdbccnoaaGreat.PF

namespace Go.Proofs.YtcfphjjdbccnoaaGreat.PF
open Go.RowKit Go.Proofs.YtcfphjjdbccnoaaGreatW.PrintWords Go.Proofs.YtcfphjjdbccnoaaGreatW.PrintLast Go.Proofs.YtcfphjjdbccnoaaGreatW.PrintMore
attribute [local go_sem] max2_int min2_int max_two min_two max_three min_three max_four min_four   -- for this text's walks alone
set_option linter.unusedVariables false
set_option linter.unusedSimpArgs false

/-! ### impl_FirstTwo: function 18 -/
mutual
def impl_FirstTwo.l0 : Nat → ByteArray → List ByteArray → List ByteArray → Int → Int → Option (List ByteArray × Int)
 | 0, _, _, _, _, _ => none
 | k + 1, x0, x7, x22, x23, x24 => if x24 < x23 then (if 0 ≤ x24 then (if x24 < (x22.length : Int) then (if 0 ≤ (wrap64 (x24 + 1)) then (if (wrap64 (x24 + 1)) ≤ (x7.length : Int) then ((some (x7.drop ((wrap64 (x24 + 1)) : Int).toNat : List ByteArray)).bind fun y565 => (impl_FirstTwo.l1 k x0 x7 (rdOf ByteArray.empty x22 x24) x22 x23 x24 y565 (y565.length : Int) 0)) else (none)) else (none)) else (none)) else (none)) else (some (([] : List ByteArray), 4))
def impl_FirstTwo.l1 : Nat → ByteArray → List ByteArray → ByteArray → List ByteArray → Int → Int → List ByteArray → Int → Int → Option (List ByteArray × Int)
 | 0, _, _, _, _, _, _, _, _, _ => none
 | k + 1, x0, x7, x9, x22, x23, x24, x32, x33, x34 => if x34 < x33 then (if 0 ≤ x34 then (if x34 < (x32.length : Int) then ((impl_isCovered.f k x0 (([x9, rdOf ByteArray.empty x32 x34] : List ByteArray))).bind fun t573 => (if t573 = true then (some ((([x9, rdOf ByteArray.empty x32 x34] : List ByteArray)), 0)) else (impl_FirstTwo.l1 k x0 x7 x9 x22 x23 x24 x32 x33 (wrap64 (x34 + 1))))) else (none)) else (none)) else (impl_FirstTwo.l0 k x0 x7 x22 x23 (wrap64 (x24 + 1)))
end
def impl_FirstTwo.f (k : Nat) (a0 : ByteArray) (a1 : Int) : Option (List ByteArray × Int) := (impl_wordCode.f k (impl_FirstTwo_1.f a1) (([a0] : List ByteArray))).bind fun t560 => (if t560 = 0 then ((impl_factors.f k a0 a1).bind fun t561 => (impl_FirstTwo.l0 k a0 t561 t561 (t561.length : Int) 0)) else (some (([] : List ByteArray), t560)))
theorem impl_FirstTwo.mono_l : ∀ k, (∀ y0 y1 y2 y3 y4, LeO (impl_FirstTwo.l0 k y0 y1 y2 y3 y4) (impl_FirstTwo.l0 (k + 1) y0 y1 y2 y3 y4)) ∧ (∀ y0 y1 y2 y3 y4 y5 y6 y7 y8, LeO (impl_FirstTwo.l1 k y0 y1 y2 y3 y4 y5 y6 y7 y8) (impl_FirstTwo.l1 (k + 1) y0 y1 y2 y3 y4 y5 y6 y7 y8))
 | 0 => ⟨fun _ _ _ _ _ r h => by simp [impl_FirstTwo.l0] at h, fun _ _ _ _ _ _ _ _ _ r h => by simp [impl_FirstTwo.l1] at h⟩
 | k + 1 => by
  obtain ⟨ih0, ih1⟩ := impl_FirstTwo.mono_l k
  refine ⟨?_, ?_⟩
  all_goals intros
  all_goals first | unfold impl_FirstTwo.l0 | unfold impl_FirstTwo.l1
  all_goals repeat' first
  | (with_reducible exact ih0 _ _ _ _ _)
  | (with_reducible exact ih1 _ _ _ _ _ _ _ _ _)
  | (with_reducible exact impl_factors.mono _ _ _)
  | (with_reducible exact impl_isCovered.mono _ _ _)
  | (with_reducible exact LeO.refl _)
  | (with_reducible exact LeO.none _)
  | (with_reducible refine LeO.ite ?_ ?_)
  | (with_reducible refine LeO.bind ?_ (fun _ => ?_))
  | refine impl_wordCode.monoP ?_
theorem impl_FirstTwo.mono : ∀ a0 a1 k, LeO (impl_FirstTwo.f k a0 a1) (impl_FirstTwo.f (k + 1) a0 a1) := by
 intro a0 a1 k
 obtain ⟨ih0, ih1⟩ := impl_FirstTwo.mono_l k
 unfold impl_FirstTwo.f
 repeat' first
   | (with_reducible exact ih0 _ _ _ _ _)
   | (with_reducible exact ih1 _ _ _ _ _ _ _ _ _)
   | (with_reducible exact impl_factors.mono _ _ _)
   | (with_reducible exact impl_isCovered.mono _ _ _)
   | (with_reducible exact LeO.refl _)
   | (with_reducible exact LeO.none _)
   | (with_reducible refine LeO.ite ?_ ?_)
   | (with_reducible refine LeO.bind ?_ (fun _ => ?_))
   | refine impl_wordCode.monoP ?_
set_option maxHeartbeats 8000000 in
set_option maxRecDepth 100000 in
theorem impl_FirstTwo.calls (k : Nat) (a0 : ByteArray) (a1 : Int) (r1 : List ByteArray) (r2 : Int) (w : World) (h : impl_FirstTwo.f k a0 a1 = some (r1, r2)) :
  Calls Tryz.prog 18 #[.string a0, .int .i64 a1] w fun e w' => ∃ v0_ : Value, e = .returned (.tuple #[v0_, .int .i64 r2]) ∧ Kd.R Kd.string 9 w' w.heap.size (fun _ => True) v0_ r1 ∧ Below w.heap.size w w' := by
 have HB := Aside0.mk (Below.refl w.heap.size w)
 have H : ((impl_wordCode.f k (impl_FirstTwo_1.f a1) (([a0] : List ByteArray))).bind fun t560 => (if t560 = 0 then ((impl_factors.f k a0 a1).bind fun t561 => (impl_FirstTwo.l0 k a0 t561 t561 (t561.length : Int) 0)) else (some (([] : List ByteArray), t560)))) = some (r1, r2) := h
 clear h
 obtain ⟨y557, hy557⟩ : ∃ y_ : List ByteArray, y_ = (([a0] : List ByteArray)) := ⟨_, rfl⟩
 replace H : ((impl_wordCode.f k (impl_FirstTwo_1.f a1) y557).bind fun t560 => (if t560 = 0 then ((impl_factors.f k a0 a1).bind fun t561 => (impl_FirstTwo.l0 k a0 t561 t561 (t561.length : Int) 0)) else (some (([] : List ByteArray), t560)))) = some (r1, r2) := by first | (rw [hy557]; with_reducible exact H) | (have H2_ := (Option.bind_some _ _).symm.trans H; rw [hy557]; with_reducible exact H2_) | (have H2_ := (Option.bind_some _ _).symm.trans H; with_reducible exact H2_) | with_reducible exact H | (rw [hy557]; exact H) | exact H
 have Ny557 := Aside0.mk hy557
 clear hy557
 obtain ⟨t560, A3, H⟩ := qN H
 try dsimp only at H
 by_cases c4 : t560 = 0
 rotate_left
 ·
  rw [if_neg c4] at H
  obtain ⟨c4b0, c4b1⟩ := zF c4
  simp only [Option.some.injEq, Prod.mk.injEq] at H
  obtain ⟨rfl, rfl⟩ := H
  go_enter Tryz.func18, Tryz.ntmps18
  go_wp2_with (first | ((with_reducible refine gate_dst (N := 3) rfl ?_); refine box_event ?hg (N := 3) ?hd (cs := #[.int .i64 a1]) (t := 2) ?hr ?_; (case hd => rfl); (case hg => rfl); (case hr => first | (go_simp; done) | (go_simp; rfl)); intro gb556 hg w36 hbox hb; have BK556 := Aside0.mk (hbox); have GW556 := Aside0.mk ((by rw [hg]; exact (below_size (qB HB.out)) : w.heap.size ≤ gb556)); have GE556 := Aside0.mk ((by rw [hg]; exact (below_size (qB HB.out)) : w.heap.size ≤ gb556)); replace HB := Aside0.mk (below_step (qB HB.out) hb); clear hb hbox hg) | ((with_reducible refine gate_dst (N := 14) rfl ?_); refine Kd.R_lit Kd.string _ 9 ?hg (N := 14) ?hd (xs := ([a0] : List ByteArray)) (inner := [.string a0]) (ok := fun _ => True) (okp := fun _ => True) ?hr ?hp (fun _ hk => hk) trivial (Below.refl _ _) (Nat.le_refl _) (by simp) ?_; (case hd => rfl); (case hg => rfl); (case hr => first | (go_simp; done) | (go_simp; rfl)); (case hp => exact (Reps.one (show Kd.M Kd.string _ _ _ a0 [.string a0] from rfl) (Reps.none _ _))); intro v558 w37 ho38 hb hg_ hnew_; clear hg_ hnew_; (first | rw [← Ny557.out] at ho38 | (simp only [Int.reduceToNat] at ho38; rw [← Ny557.out] at ho38)); have HO559 := Aside0.mk (Kd.R_lower ho38 (below_size (qG HB.out))); replace BK556 := Aside0.mk (blk_below (g := gb556) (o := .cells #[.int .i64 a1] 2 (0, 0)) (qA BK556.out) hb); replace HB := Aside0.mk (below_step (qG HB.out) hb); clear hb ho38; obtain ⟨Ao39, co39, eo39⟩ := Kd.R_slice HO559.out; subst eo39) | ((with_reducible refine gate_callee (f := 30) rfl ?_); refine goesL_ (some 15) rfl rfl Tryz.func30 (by kernel_rfl) rfl #[.func (.func 49) #[] #[.pointer (some ⟨gb556, 0, none⟩)], .slice Ao39 y557.length co39] rfl qV ?_; (with_reducible refine (impl_wordCode.calls k (impl_FirstTwo_1.f a1) 49 #[.pointer (some ⟨gb556, 0, none⟩)] _ _ y557 t560 _ ?side1 ?side2 ?side3 A3.out).mono ?_); (case side1 => exact qC (Kd.R_reads' HO559.out).2.2); (case side2 => exact (Kd.R_reads' HO559.out).2.1); (case side3 => exact ⟨Go.Proofs.enters_of Tryz.func49 (by kernel_rfl) rfl, fun W_ hW_ r_ h_ => (impl_FirstTwo_1.calls gb556 a1 r_ W_ (blk_below (g := gb556) (o := .cells #[.int .i64 a1] 2 (0, 0)) (qA BK556.out) hW_) h_).mono (fun e_ W2_ h2_ => ⟨h2_.1, by first | exact h2_.2 | exact h2_.2.below⟩)⟩); rintro e w40 ⟨rfl, hb⟩; refine ⟨_, rfl, ?_⟩; replace HO559 := Aside0.mk (Kd.R_below (qR HO559.out) hb); replace BK556 := Aside0.mk (blk_below (g := gb556) (o := .cells #[.int .i64 a1] 2 (0, 0)) (qA BK556.out) hb); replace HB := Aside0.mk (below_step (qG HB.out) hb)))
  go_ret2
  exact ⟨_, qE, by first | exact Kd.R_nil _ _ _ _ _ | exact Kd.N_nil _ _ _ _ _ | exact Kd.V_nil _ _ _ _ _ | exact Kd.Q_nil _ _ _ _ _ | exact Kd.S_nil _ _ _ _ _, qG HB.out⟩

 rw [if_pos c4] at H
 obtain ⟨c4b0, c4b1⟩ := zT c4
 clear c4
 obtain ⟨t561, A5, H⟩ := qN H
 try dsimp only at H
 have H' := Aside0.mk H
 clear H
 go_enter Tryz.func18, Tryz.ntmps18
 go_wp2_with (first | ((with_reducible refine gate_dst (N := 3) rfl ?_); refine box_event ?hg (N := 3) ?hd (cs := #[.int .i64 a1]) (t := 2) ?hr ?_; (case hd => rfl); (case hg => rfl); (case hr => first | (go_simp; done) | (go_simp; rfl)); intro gb556 hg w6 hbox hb; have BK556 := Aside0.mk (hbox); have GW556 := Aside0.mk ((by rw [hg]; exact (below_size (qB HB.out)) : w.heap.size ≤ gb556)); have GE556 := Aside0.mk ((by rw [hg]; exact (below_size (qB HB.out)) : w.heap.size ≤ gb556)); replace HB := Aside0.mk (below_step (qB HB.out) hb); clear hb hbox hg) | ((with_reducible refine gate_dst (N := 14) rfl ?_); refine Kd.R_lit Kd.string _ 9 ?hg (N := 14) ?hd (xs := ([a0] : List ByteArray)) (inner := [.string a0]) (ok := fun _ => True) (okp := fun _ => True) ?hr ?hp (fun _ hk => hk) trivial (Below.refl _ _) (Nat.le_refl _) (by simp) ?_; (case hd => rfl); (case hg => rfl); (case hr => first | (go_simp; done) | (go_simp; rfl)); (case hp => exact (Reps.one (show Kd.M Kd.string _ _ _ a0 [.string a0] from rfl) (Reps.none _ _))); intro v558 w7 ho8 hb hg_ hnew_; clear hg_ hnew_; (first | rw [← Ny557.out] at ho8 | (simp only [Int.reduceToNat] at ho8; rw [← Ny557.out] at ho8)); have HO559 := Aside0.mk (Kd.R_lower ho8 (below_size (qG HB.out))); replace BK556 := Aside0.mk (blk_below (g := gb556) (o := .cells #[.int .i64 a1] 2 (0, 0)) (qA BK556.out) hb); replace HB := Aside0.mk (below_step (qG HB.out) hb); clear hb ho8; obtain ⟨Ao9, co9, eo9⟩ := Kd.R_slice HO559.out; subst eo9) | ((with_reducible refine gate_callee (f := 30) rfl ?_); refine goesL_ (some 15) rfl rfl Tryz.func30 (by kernel_rfl) rfl #[.func (.func 49) #[] #[.pointer (some ⟨gb556, 0, none⟩)], .slice Ao9 y557.length co9] rfl qV ?_; (with_reducible refine (impl_wordCode.calls k (impl_FirstTwo_1.f a1) 49 #[.pointer (some ⟨gb556, 0, none⟩)] _ _ y557 t560 _ ?side1 ?side2 ?side3 A3.out).mono ?_); (case side1 => exact qC (Kd.R_reads' HO559.out).2.2); (case side2 => exact (Kd.R_reads' HO559.out).2.1); (case side3 => exact ⟨Go.Proofs.enters_of Tryz.func49 (by kernel_rfl) rfl, fun W_ hW_ r_ h_ => (impl_FirstTwo_1.calls gb556 a1 r_ W_ (blk_below (g := gb556) (o := .cells #[.int .i64 a1] 2 (0, 0)) (qA BK556.out) hW_) h_).mono (fun e_ W2_ h2_ => ⟨h2_.1, by first | exact h2_.2 | exact h2_.2.below⟩)⟩); rintro e w10 ⟨rfl, hb⟩; refine ⟨_, rfl, ?_⟩; replace HO559 := Aside0.mk (Kd.R_below (qR HO559.out) hb); replace BK556 := Aside0.mk (blk_below (g := gb556) (o := .cells #[.int .i64 a1] 2 (0, 0)) (qA BK556.out) hb); replace HB := Aside0.mk (below_step (qG HB.out) hb); have hcz11_0 : w10.cell? ⟨gb556, 0, none⟩ = some (.int .i64 a1) := (blk_cell BK556.out 0).trans rfl; have hfz11_0 := blk_frozen BK556.out 0) | ((with_reducible refine gate_callee (f := 50) rfl ?_); refine goesL_ (some 21) rfl rfl Tryz.func50 (by kernel_rfl) rfl #[.string a0, .int .i64 a1] rfl qV ?_; (with_reducible refine (impl_factors.calls k a0 a1 t561 _ A5.out).mono ?_); rintro e w12 ⟨v562, rfl, ho0, hb⟩; refine ⟨_, rfl, ?_⟩; have HO563 := Aside0.mk (Kd.R_lower (Kd.R_new' ho0 (Kd.R_lt (qR HO559.out))) (below_size (qG HB.out))); replace HO559 := Aside0.mk (Kd.R_elder' (qR HO559.out) (Kd.R_base ho0) hb); replace BK556 := Aside0.mk (blk_below (g := gb556) (o := .cells #[.int .i64 a1] 2 (0, 0)) (qA BK556.out) hb); replace HB := Aside0.mk (below_step (qG HB.out) hb); obtain ⟨Ao13, co13, eo13⟩ := Kd.R_slice HO563.out; subst eo13))
 go_loopg [24] k (fun kq v24 w' => ∃ (x24_1 : Int), v24 = .int .i64 x24_1 ∧ Aside0 (impl_FirstTwo.l0 kq a0 t561 t561 (t561.length : Int) x24_1 = some (r1, r2)) ∧ Aside0 (kq ≤ k) ∧ Aside0 (Kd.R Kd.string 9 w' w.heap.size (fun _ => True) (.slice Ao13 t561.length co13) t561) ∧ Aside0 (Kd.R Kd.string 9 w' w.heap.size (fun _ => True) (.slice Ao13 t561.length co13) t561) ∧ Aside0 (w'.heap[gb556]? = some (.cells #[.int .i64 a1] 2 (0, 0))) ∧ Aside0 (Below w.heap.size w w'))
 case atStart => exact ⟨(0), qF, H', ⟨Nat.le_refl _⟩, ⟨by (with_reducible repeat (first | apply Kd.R_alloc | apply Kd.R_drewN | apply Kd.R_drew)); exact Kd.R_mono HO563.out (fun _ hk => trivial)⟩, ⟨by (with_reducible repeat (first | apply Kd.R_alloc | apply Kd.R_drewN | apply Kd.R_drew)); exact Kd.R_mono HO563.out (fun _ hk => trivial)⟩, ⟨qA BK556.out⟩, ⟨qG HB.out⟩⟩
 case round =>
  clear H'
  obtain ⟨x24_1, rfl, HA, HK1, HO_7, HO_22, BK556, HB⟩ := hrel
  cases gk with
  | zero => exact absurd HA.out (by simp [impl_FirstTwo.l0])
  | succ k1 =>
   have H := HA.out
   clear HA
   simp only [impl_FirstTwo.l0] at H
   by_cases c14 : x24_1 < (t561.length : Int)
   rotate_left
   ·
    rw [if_neg c14] at H
    have c14b0 : decide (x24_1 < (t561.length : Int)) = false := decide_eq_false c14
    clear c14
    simp only [Option.some.injEq, Prod.mk.injEq] at H
    obtain ⟨rfl, rfl⟩ := H
    go_wp2
    go_ret2
    exact ⟨_, qE, by first | exact Kd.R_nil _ _ _ _ _ | exact Kd.N_nil _ _ _ _ _ | exact Kd.V_nil _ _ _ _ _ | exact Kd.Q_nil _ _ _ _ _ | exact Kd.S_nil _ _ _ _ _, qG HB.out⟩
   rw [if_pos c14] at H
   have c14b0 : decide (x24_1 < (t561.length : Int)) = true := decide_eq_true c14
   clear c14
   by_cases c15 : 0 ≤ x24_1
   rotate_left
   ·
    rw [if_neg c15] at H
    exact absurd H (by simp)
   rw [if_pos c15] at H
   have c15b0 : decide (0 ≤ x24_1) = true := decide_eq_true c15
   clear c15
   by_cases c16 : x24_1 < (t561.length : Int)
   rotate_left
   ·
    rw [if_neg c16] at H
    exact absurd H (by simp)
   rw [if_pos c16] at H
   have c16b0 : decide (x24_1 < (t561.length : Int)) = true := decide_eq_true c16
   clear c16
   obtain ⟨ji17, hji17⟩ : ∃ j_ : Int, (wrap64 (x24_1 + 1)) = j_ := ⟨_, rfl⟩
   replace H : (if 0 ≤ (ji17) then (if (ji17) ≤ (t561.length : Int) then ((some (t561.drop ((ji17) : Int).toNat : List ByteArray)).bind fun y565 => (impl_FirstTwo.l1 k1 a0 t561 (rdOf ByteArray.empty t561 x24_1) t561 (t561.length : Int) x24_1 y565 (y565.length : Int) 0)) else (none)) else (none)) = some (r1, r2) := by first | (rw [hji17] at H; exact H) | (simp only [hji17] at H ⊢; exact H)
   have hji17w : (IntKind.i64.wrap (x24_1 + 1)) = ji17 := (i64_w _).trans hji17
   by_cases c18 : 0 ≤ (ji17)
   rotate_left
   ·
    rw [if_neg c18] at H
    exact absurd H (by simp)
   rw [if_pos c18] at H
   have c18b0 := eq_true c18
   have c18b1 : decide (0 ≤ (ji17)) = true := decide_eq_true c18
   clear c18
   by_cases c19 : (ji17) ≤ (t561.length : Int)
   rotate_left
   ·
    rw [if_neg c19] at H
    exact absurd H (by simp)
   rw [if_pos c19] at H
   have c19b0 := eq_true c19
   have c19b1 : decide ((ji17) ≤ (t561.length : Int)) = true := decide_eq_true c19
   clear c19
   obtain ⟨y565, hy565⟩ : ∃ y_ : List ByteArray, y_ = (t561.drop ((ji17) : Int).toNat) := ⟨_, rfl⟩
   replace H : (impl_FirstTwo.l1 k1 a0 t561 (rdOf ByteArray.empty t561 x24_1) t561 (t561.length : Int) x24_1 y565 (y565.length : Int) 0) = some (r1, r2) := by first | (rw [hy565]; with_reducible exact H) | (have H2_ := (Option.bind_some _ _).symm.trans H; rw [hy565]; with_reducible exact H2_) | (have H2_ := (Option.bind_some _ _).symm.trans H; with_reducible exact H2_) | with_reducible exact H | (rw [hy565]; exact H) | exact H
   have Ny565 := Aside0.mk hy565
   clear hy565
   have H' := Aside0.mk H
   clear H
   have p564 : 0 ≤ (x24_1 : Int) := of_decide_eq_true (by first | (with_reducible assumption) | assumption)
   have q564 : x24_1 < (t561.length : Int) := of_decide_eq_true (by first | (with_reducible assumption) | assumption)
   obtain ⟨ad564, e564, hx564_0⟩ := Kd.at_string (Kd.R_reads' HO_22.out).2.2 x24_1 p564 q564
   cases e564
   replace p564 := eq_true p564
   replace q564 := eq_true q564
   have q20 : ((ji17) : Int) ≤ ((t561.length : Int) : Int) := of_decide_eq_true (by first | (with_reducible assumption) | assumption)
   obtain ⟨i020, hi020, _, hsz20, _⟩ := info_parts info9
   have hroom20 : t561.length ≤ co13 := (Kd.R_reads' HO_7.out).2.1
   have hC20 : Kd.C Kd.string _ (some ad564) t561.length t561 := (Kd.R_reads' HO_7.out).2.2
   have q020 : (0 : Int) ≤ ((ji17) : Int) := of_decide_eq_true (by first | (with_reducible assumption) | assumption)
   have hcut20 := cut_from (P := Tryz.prog) 29 9 .i64 Tryz.underlying29 hi020 1 hsz20 (some ad564) t561.length co13 (ji17) q020 q20
   have hr20 := Kd.C_drop (m := ((ji17) : Int).toNat) (c := co13) hC20 (by omega) hroom20
   obtain ⟨A20, hA20⟩ : ∃ A1, A1 = (if co13 = ((ji17) : Int).toNat then (some ad564) else ((some ad564) : Option Addr).map (·.add (((ji17) : Int).toNat * 1))) := ⟨_, rfl⟩
   obtain ⟨c20, hc20⟩ : ∃ c1, c1 = co13 - ((ji17) : Int).toNat := ⟨_, rfl⟩
   have hy20 : y565.length = t561.length - ((ji17) : Int).toNat := (by rw [Ny565.out, List.length_drop] <;> omega)
   rw [show (t561).drop ((ji17) : Int).toNat = y565 from Ny565.out.symm] at hr20
   replace hr20 : Kd.C Kd.string _ A20 y565.length y565 := (by rw [hA20]; exact hr20)
   rw [← hy20, ← hA20, ← hc20] at hcut20
   have HR568 := Aside0.mk hr20
   have HC568 := Aside0.mk (show y565.length ≤ c20 from by rw [hy20, hc20]; exact Nat.sub_le_sub_right hroom20 _)
   clear hr20 hC20 hroom20 hi020 hsz20 hc20
   have KY20 := Aside0.mk hy20
   have KA20 := Aside0.mk hA20
   clear hy20 hA20
   have KL20 := Aside0.mk (show ((ji17) : Int).toNat ≤ t561.length from by omega)
   replace q20 := eq_true q20
   go_wp2
   go_loopg [34] k1 (fun kq v34 w' => ∃ (x34_2 : Int), v34 = .int .i64 x34_2 ∧ Aside0 (impl_FirstTwo.l1 kq a0 t561 (rdOf ByteArray.empty t561 x24_1) t561 (t561.length : Int) x24_1 y565 (y565.length : Int) x34_2 = some (r1, r2)) ∧ Aside0 (kq ≤ k1) ∧ Aside0 (Kd.R Kd.string 9 w' w.heap.size (fun _ => True) (.slice (some ad564) t561.length co13) t561) ∧ Aside0 (Kd.R Kd.string 9 w' w.heap.size (fun _ => True) (.slice (some ad564) t561.length co13) t561) ∧ Aside0 (w'.heap[gb556]? = some (.cells #[.int .i64 a1] 2 (0, 0))) ∧ Aside0 (Kd.C Kd.string w' A20 y565.length y565) ∧ Aside0 (Below w.heap.size w w'))
   case atStart => exact ⟨(0), qF, H', ⟨Nat.le_refl _⟩, ⟨qR HO_7.out⟩, ⟨qR HO_22.out⟩, ⟨qA BK556.out⟩, ⟨by repeat (first | (with_reducible exact HR568.out) | (with_reducible refine Kd.C_alloc ?_ _) | (with_reducible refine Kd.C_drewN ?_ _) | (with_reducible refine Kd.C_drew ?_) | exact HR568.out)⟩, ⟨qG HB.out⟩⟩
   case round =>
    clear H'
    obtain ⟨x34_2, rfl, HA, HK2, HO_7, HO_22, BK556, HR568, HB⟩ := hrel
    cases gk with
    | zero => exact absurd HA.out (by simp [impl_FirstTwo.l1])
    | succ k2 =>
     have H := HA.out
     clear HA
     simp only [impl_FirstTwo.l1] at H
     by_cases c21 : x34_2 < (y565.length : Int)
     rotate_left
     ·
      rw [if_neg c21] at H
      have c21b0 : decide (x34_2 < (y565.length : Int)) = false := decide_eq_false c21
      clear c21
      have H' := Aside0.mk H
      clear H
      go_wp2
      go_roundg k2
      case measure => have := HK1.out; have := HK2.out; omega
      case rel => exact ⟨(wrap64 (x24_1 + 1)), qF, H', ⟨by have := HK1.out; have := HK2.out; omega⟩, ⟨qR HO_7.out⟩, ⟨qR HO_22.out⟩, ⟨qA BK556.out⟩, ⟨qG HB.out⟩⟩
     rw [if_pos c21] at H
     have c21b0 : decide (x34_2 < (y565.length : Int)) = true := decide_eq_true c21
     clear c21
     by_cases c22 : 0 ≤ x34_2
     rotate_left
     ·
      rw [if_neg c22] at H
      exact absurd H (by simp)
     rw [if_pos c22] at H
     have c22b0 : decide (0 ≤ x34_2) = true := decide_eq_true c22
     clear c22
     by_cases c23 : x34_2 < (y565.length : Int)
     rotate_left
     ·
      rw [if_neg c23] at H
      exact absurd H (by simp)
     rw [if_pos c23] at H
     have c23b0 : decide (x34_2 < (y565.length : Int)) = true := decide_eq_true c23
     clear c23
     obtain ⟨y570, hy570⟩ : ∃ y_ : List ByteArray, y_ = (([(rdOf ByteArray.empty t561 x24_1), rdOf ByteArray.empty y565 x34_2] : List ByteArray)) := ⟨_, rfl⟩
     replace H : ((impl_isCovered.f k2 a0 y570).bind fun t573 => (if t573 = true then (some ((([(rdOf ByteArray.empty t561 x24_1), rdOf ByteArray.empty y565 x34_2] : List ByteArray)), 0)) else (impl_FirstTwo.l1 k2 a0 t561 (rdOf ByteArray.empty t561 x24_1) t561 (t561.length : Int) x24_1 y565 (y565.length : Int) (wrap64 (x34_2 + 1))))) = some (r1, r2) := by first | (rw [hy570]; with_reducible exact H) | (have H2_ := (Option.bind_some _ _).symm.trans H; rw [hy570]; with_reducible exact H2_) | (have H2_ := (Option.bind_some _ _).symm.trans H; with_reducible exact H2_) | with_reducible exact H | (rw [hy570]; exact H) | exact H
     have Ny570 := Aside0.mk hy570
     clear hy570
     obtain ⟨t573, A24, H⟩ := qN H
     try dsimp only at H
     by_cases c25 : t573 = true
     rotate_left
     ·
      replace c25 := Bool.eq_false_iff.mpr c25
      subst c25
      rw [if_neg (show ¬ (false = true) by decide)] at H
      have H' := Aside0.mk H
      clear H
      have p569 : 0 ≤ (x34_2 : Int) := of_decide_eq_true (by first | (with_reducible assumption) | assumption)
      have q569 : x34_2 < (y565.length : Int) := of_decide_eq_true (by first | (with_reducible assumption) | assumption)
      obtain ⟨ad569, e569, hx569_0⟩ := Kd.at_string HR568.out x34_2 p569 q569
      cases e569
      replace p569 := eq_true p569
      replace q569 := eq_true q569
      go_wp2_with (first | ((with_reducible refine gate_dst (N := 41) rfl ?_); refine Kd.R_lit Kd.string _ 9 ?hg (N := 41) ?hd (xs := ([(rdOf ByteArray.empty t561 x24_1), rdOf ByteArray.empty y565 x34_2] : List ByteArray)) (inner := [.string (rdOf ByteArray.empty t561 x24_1), .string (rdOf ByteArray.empty y565 x34_2)]) (ok := fun _ => True) (okp := fun _ => True) ?hr ?hp (fun _ hk => hk) trivial (Below.refl _ _) (Nat.le_refl _) (by simp) ?_; (case hd => rfl); (case hg => rfl); (case hr => first | (go_simp; done) | (go_simp; rfl)); (case hp => exact (Reps.one (show Kd.M Kd.string _ _ _ (rdOf ByteArray.empty t561 x24_1) [.string (rdOf ByteArray.empty t561 x24_1)] from rfl) (Reps.one (show Kd.M Kd.string _ _ _ (rdOf ByteArray.empty y565 x34_2) [.string (rdOf ByteArray.empty y565 x34_2)] from rfl) (Reps.none _ _)))); intro v571 w32 ho33 hb hg_ hnew_; clear hg_ hnew_; (first | rw [← Ny570.out] at ho33 | (simp only [Int.reduceToNat] at ho33; rw [← Ny570.out] at ho33)); have HO572 := Aside0.mk (Kd.R_lower (Kd.R_new' (Kd.R_new' ho33 (Kd.R_lt (qR HO_7.out))) (Kd.R_lt (qR HO_22.out))) (below_size (qG HB.out))); replace HO_7 := Aside0.mk (Kd.R_elder' (qR HO_7.out) (Kd.R_base ho33) hb); replace HO_22 := Aside0.mk (Kd.R_elder' (qR HO_22.out) (Kd.R_base ho33) hb); replace BK556 := Aside0.mk (blk_below (g := gb556) (o := .cells #[.int .i64 a1] 2 (0, 0)) (qA BK556.out) hb); replace HR568 := Aside0.mk (Kd.C_below (by repeat (first | (with_reducible exact HR568.out) | (with_reducible refine Kd.C_alloc ?_ _) | (with_reducible refine Kd.C_drewN ?_ _) | (with_reducible refine Kd.C_drew ?_) | exact HR568.out)) hb); replace HB := Aside0.mk (below_step (qG HB.out) hb); clear hb ho33; obtain ⟨Ao34, co34, eo34⟩ := Kd.R_slice HO572.out; subst eo34) | ((with_reducible refine gate_callee (f := 51) rfl ?_); refine goesL_ (some 42) rfl rfl Tryz.func51 (by kernel_rfl) rfl #[.string a0, .slice Ao34 y570.length co34] rfl qV ?_; (with_reducible refine (impl_isCovered.calls k2 a0 _ _ y570 false _ ?side1 ?side2 A24.out).mono ?_); (case side1 => exact qC (Kd.R_reads' HO572.out).2.2); (case side2 => exact (Kd.R_reads' HO572.out).2.1); rintro e w35 ⟨rfl, hb⟩; refine ⟨_, rfl, ?_⟩; replace HO_7 := Aside0.mk (Kd.R_below (qR HO_7.out) hb); replace HO_22 := Aside0.mk (Kd.R_below (qR HO_22.out) hb); replace HO572 := Aside0.mk (Kd.R_below (qR HO572.out) hb); replace BK556 := Aside0.mk (blk_below (g := gb556) (o := .cells #[.int .i64 a1] 2 (0, 0)) (qA BK556.out) hb); replace HR568 := Aside0.mk (Kd.C_below (by repeat (first | (with_reducible exact HR568.out) | (with_reducible refine Kd.C_alloc ?_ _) | (with_reducible refine Kd.C_drewN ?_ _) | (with_reducible refine Kd.C_drew ?_) | exact HR568.out)) hb); replace HB := Aside0.mk (below_step (qG HB.out) hb)))
      go_roundg k2
      case measure => have := HK1.out; have := HK2.out; omega
      case rel => exact ⟨(wrap64 (x34_2 + 1)), qF, H', ⟨by have := HK1.out; have := HK2.out; omega⟩, ⟨by (with_reducible repeat (first | apply Kd.R_alloc | apply Kd.R_drewN | apply Kd.R_drew)); exact Kd.R_mono HO_7.out (fun _ hk => trivial)⟩, ⟨by (with_reducible repeat (first | apply Kd.R_alloc | apply Kd.R_drewN | apply Kd.R_drew)); exact Kd.R_mono HO_22.out (fun _ hk => trivial)⟩, ⟨qA BK556.out⟩, ⟨by repeat (first | (with_reducible exact HR568.out) | (with_reducible refine Kd.C_alloc ?_ _) | (with_reducible refine Kd.C_drewN ?_ _) | (with_reducible refine Kd.C_drew ?_) | exact HR568.out)⟩, ⟨qG HB.out⟩⟩
     subst c25
     rw [if_pos rfl] at H
     obtain ⟨y574, hy574⟩ : ∃ y_ : List ByteArray, y_ = (([(rdOf ByteArray.empty t561 x24_1), rdOf ByteArray.empty y565 x34_2] : List ByteArray)) := ⟨_, rfl⟩
     replace H : (some (y574, 0)) = some (r1, r2) := by first | (rw [hy574]; with_reducible exact H) | (have H2_ := (Option.bind_some _ _).symm.trans H; rw [hy574]; with_reducible exact H2_) | (have H2_ := (Option.bind_some _ _).symm.trans H; with_reducible exact H2_) | with_reducible exact H | (rw [hy574]; exact H) | exact H
     have Ny574 := Aside0.mk hy574
     clear hy574
     simp only [Option.some.injEq, Prod.mk.injEq] at H
     obtain ⟨rfl, rfl⟩ := H
     have p569 : 0 ≤ (x34_2 : Int) := of_decide_eq_true (by first | (with_reducible assumption) | assumption)
     have q569 : x34_2 < (y565.length : Int) := of_decide_eq_true (by first | (with_reducible assumption) | assumption)
     obtain ⟨ad569, e569, hx569_0⟩ := Kd.at_string HR568.out x34_2 p569 q569
     cases e569
     replace p569 := eq_true p569
     replace q569 := eq_true q569
     go_wp2_with (first | ((with_reducible refine gate_dst (N := 41) rfl ?_); refine Kd.R_lit Kd.string _ 9 ?hg (N := 41) ?hd (xs := ([(rdOf ByteArray.empty t561 x24_1), rdOf ByteArray.empty y565 x34_2] : List ByteArray)) (inner := [.string (rdOf ByteArray.empty t561 x24_1), .string (rdOf ByteArray.empty y565 x34_2)]) (ok := fun _ => True) (okp := fun _ => True) ?hr ?hp (fun _ hk => hk) trivial (Below.refl _ _) (Nat.le_refl _) (by simp) ?_; (case hd => rfl); (case hg => rfl); (case hr => first | (go_simp; done) | (go_simp; rfl)); (case hp => exact (Reps.one (show Kd.M Kd.string _ _ _ (rdOf ByteArray.empty t561 x24_1) [.string (rdOf ByteArray.empty t561 x24_1)] from rfl) (Reps.one (show Kd.M Kd.string _ _ _ (rdOf ByteArray.empty y565 x34_2) [.string (rdOf ByteArray.empty y565 x34_2)] from rfl) (Reps.none _ _)))); intro v571 w26 ho27 hb hg_ hnew_; clear hg_ hnew_; (first | rw [← Ny570.out] at ho27 | (simp only [Int.reduceToNat] at ho27; rw [← Ny570.out] at ho27)); have HO572 := Aside0.mk (Kd.R_lower (Kd.R_new' (Kd.R_new' ho27 (Kd.R_lt (qR HO_7.out))) (Kd.R_lt (qR HO_22.out))) (below_size (qG HB.out))); replace HO_7 := Aside0.mk (Kd.R_elder' (qR HO_7.out) (Kd.R_base ho27) hb); replace HO_22 := Aside0.mk (Kd.R_elder' (qR HO_22.out) (Kd.R_base ho27) hb); replace BK556 := Aside0.mk (blk_below (g := gb556) (o := .cells #[.int .i64 a1] 2 (0, 0)) (qA BK556.out) hb); replace HR568 := Aside0.mk (Kd.C_below (by repeat (first | (with_reducible exact HR568.out) | (with_reducible refine Kd.C_alloc ?_ _) | (with_reducible refine Kd.C_drewN ?_ _) | (with_reducible refine Kd.C_drew ?_) | exact HR568.out)) hb); replace HB := Aside0.mk (below_step (qG HB.out) hb); clear hb ho27; obtain ⟨Ao28, co28, eo28⟩ := Kd.R_slice HO572.out; subst eo28) | ((with_reducible refine gate_callee (f := 51) rfl ?_); refine goesL_ (some 42) rfl rfl Tryz.func51 (by kernel_rfl) rfl #[.string a0, .slice Ao28 y570.length co28] rfl qV ?_; (with_reducible refine (impl_isCovered.calls k2 a0 _ _ y570 true _ ?side1 ?side2 A24.out).mono ?_); (case side1 => exact qC (Kd.R_reads' HO572.out).2.2); (case side2 => exact (Kd.R_reads' HO572.out).2.1); rintro e w29 ⟨rfl, hb⟩; refine ⟨_, rfl, ?_⟩; replace HO_7 := Aside0.mk (Kd.R_below (qR HO_7.out) hb); replace HO_22 := Aside0.mk (Kd.R_below (qR HO_22.out) hb); replace HO572 := Aside0.mk (Kd.R_below (qR HO572.out) hb); replace BK556 := Aside0.mk (blk_below (g := gb556) (o := .cells #[.int .i64 a1] 2 (0, 0)) (qA BK556.out) hb); replace HR568 := Aside0.mk (Kd.C_below (by repeat (first | (with_reducible exact HR568.out) | (with_reducible refine Kd.C_alloc ?_ _) | (with_reducible refine Kd.C_drewN ?_ _) | (with_reducible refine Kd.C_drew ?_) | exact HR568.out)) hb); replace HB := Aside0.mk (below_step (qG HB.out) hb)) | ((with_reducible refine gate_dst (N := 45) rfl ?_); refine Kd.R_lit Kd.string _ 9 ?hg (N := 45) ?hd (xs := ([(rdOf ByteArray.empty t561 x24_1), rdOf ByteArray.empty y565 x34_2] : List ByteArray)) (inner := [.string (rdOf ByteArray.empty t561 x24_1), .string (rdOf ByteArray.empty y565 x34_2)]) (ok := fun _ => True) (okp := fun _ => True) ?hr ?hp (fun _ hk => hk) trivial (Below.refl _ _) (Nat.le_refl _) (by simp) ?_; (case hd => rfl); (case hg => rfl); (case hr => first | (go_simp; done) | (go_simp; rfl)); (case hp => exact (Reps.one (show Kd.M Kd.string _ _ _ (rdOf ByteArray.empty t561 x24_1) [.string (rdOf ByteArray.empty t561 x24_1)] from rfl) (Reps.one (show Kd.M Kd.string _ _ _ (rdOf ByteArray.empty y565 x34_2) [.string (rdOf ByteArray.empty y565 x34_2)] from rfl) (Reps.none _ _)))); intro v575 w30 ho31 hb hg_ hnew_; clear hg_ hnew_; (first | rw [← Ny574.out] at ho31 | (simp only [Int.reduceToNat] at ho31; rw [← Ny574.out] at ho31)); have HO576 := Aside0.mk (Kd.R_lower (Kd.R_new' (Kd.R_new' (Kd.R_new' ho31 (Kd.R_lt (qR HO_7.out))) (Kd.R_lt (qR HO_22.out))) (Kd.R_lt (qR HO572.out))) (below_size (qG HB.out))); replace HO_7 := Aside0.mk (Kd.R_elder' (qR HO_7.out) (Kd.R_base ho31) hb); replace HO_22 := Aside0.mk (Kd.R_elder' (qR HO_22.out) (Kd.R_base ho31) hb); replace HO572 := Aside0.mk (Kd.R_elder' (qR HO572.out) (Kd.R_base ho31) hb); replace BK556 := Aside0.mk (blk_below (g := gb556) (o := .cells #[.int .i64 a1] 2 (0, 0)) (qA BK556.out) hb); replace HR568 := Aside0.mk (Kd.C_below (by repeat (first | (with_reducible exact HR568.out) | (with_reducible refine Kd.C_alloc ?_ _) | (with_reducible refine Kd.C_drewN ?_ _) | (with_reducible refine Kd.C_drew ?_) | exact HR568.out)) hb); replace HB := Aside0.mk (below_step (qG HB.out) hb); clear hb ho31))
     go_ret2
     exact ⟨_, by first | rfl | (simp [errW_none, errW_some] <;> rfl) | (simp only [← hji17]; first | rfl | (simp [errW_none, errW_some] <;> rfl)) | (simp [*, errW_none, errW_some] <;> rfl), by (with_reducible repeat (first | apply Kd.R_alloc | apply Kd.R_drewN | apply Kd.R_drew)); exact Kd.R_mono HO576.out (fun _ hk => trivial), qG HB.out⟩
end Go.Proofs.YtcfphjjdbccnoaaGreat.PF
